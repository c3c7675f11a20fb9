/- Contracts of the functions that the law reaches, and the rules by which they are walked. They say what a call hands back for every input within the bounds that each names; no other condition. -/
import Derived.Test.YtkefeinbjbeidaaGreatDoorBg8
set_option linter.unusedSimpArgs false
set_option linter.unusedVariables false
set_option maxRecDepth 20000
set_option maxHeartbeats 16000000
namespace Go.Proofs.YtkefeinbjbeidaaGreatDoor
open Go Go.RowKit Go.Pg Go.Pol Go.Proofs.Tryz
attribute [-bool_to_prop] Bool.and_eq_decide Bool.or_eq_decide Bool.decide_beq_decide decide_eq_decide
attribute [local go_sem] Zas Zav Zau Zag Zar Zah Bool.and_self Zal Zbb Za8 Zov Zju Zok Zox Za7
def nsP (l:List Qt):List Qt:=l.map λq=>q.norm.1
abbrev accS (L:QTs):QTs:=L.foldl addC []
theorem sgP_ne {l:List Qt} (h:sgP l≠0):∀q∈l,q.norm.2≠0:=by
 have key:∀(l:List Qt) (s:Int),l.foldl (λs q=>s*q.norm.2) s≠0→s≠0∧∀q∈l,q.norm.2≠0:=by
  intro l
  induction l with
  | nil=>intro s h;exact⟨h,λq hq=>by cases hq⟩
  | cons a l ih =>
    intro s h;obtain⟨h1,h2⟩:=ih _ h;have ha:a.norm.2≠0:=λe=>h1 (by show s*a.norm.2=0;rw [e,Int.mul_zero]);have hs:s≠0:=λe=>h1 (by show s*a.norm.2=0;rw [e,Int.zero_mul]);exact⟨hs,λq hq=>by rcases List.mem_cons.1 hq with rfl | hq;exact ha;exact h2 q hq⟩
 exact(key l 1 h).2
theorem Zw4 {l:List Qt} (h:sgP l≠0):srtQ Qt.cmp (nsP l)=putP l:=by
 unfold putP;rw [Zp7 qtO];congr 1;unfold nzP nsP;rw [List.filter_eq_self.2 λq hq=>ZBw (sgP_ne h q hq)]
theorem norm_b8 {q:Qt} (h:q.ok=true):q.norm.1.b8:=by
 have hb:=ok_b8 h;unfold Qt.b8 at hb;unfold Qt.norm Zeg Zfl;rw [ZBo h]
 repeat' split
 all_goals (unfold Qt.b8;simp only;omega)
theorem Zx6 {l:List Qt} (h:l.all Qt.ok=true):∀q∈putP l,q.b8:=by
 intro q hq;unfold putP at hq;have:=(Zfm (cmp:=Qt.cmp) (nzP l) []).mem_iff.1 hq;rw [ZC4] at this;unfold nzP at this;obtain⟨x,hx,rfl⟩:=List.mem_map.1 this;exact norm_b8 (List.all_eq_true.1 h x (List.mem_filter.1 hx).1)
theorem Zlu (L:QTs) (t:Rat × List Qt):accS (L++[t])=addC (accS L) t:=by unfold accS;rw [ZFp];rfl
theorem Zuu (l:QTs) (t:Rat × List Qt):(addC l t).length≤l.length+1:=by
 induction l with
 | nil=>exact ZBp _
 | cons s l ih=>unfold addC;split<;>simp only [ZB2]<;>omega
theorem Zoh {l:QTs} {t u:Rat × List Qt} (h:u∈addC l t):u∈l∨u=t∨∃s∈l,u=(s.1+t.1,s.2):=by
 induction l with
 | nil=>exact .inr (.inl (List.mem_singleton.1 h))
 | cons s l ih =>
   unfold addC at h;split at h
   ·rcases List.mem_cons.1 h with rfl | h
    ·exact .inr (.inr ⟨s,.head _,rfl⟩)
    ·exact .inl (.tail _ h)
   ·rcases List.mem_cons.1 h with rfl | h
    ·exact .inl (.head _)
    ·rcases ih h with h | h | ⟨v,hv,e⟩
     ·exact .inl (.tail _ h)
     ·exact .inr (.inl h)
     ·exact .inr (.inr ⟨v,.tail _ hv,e⟩)
structure AccOk (S:QTs) (i j n:Nat):Prop where
 len:S.length≤i
 b8:B8 S
 qk:QK S (i*(j+2)) n
theorem AccOk.nil (j n:Nat):AccOk [] 0 j n:=⟨ZBp _,λt ht=>by(cases ht),λt ht=>by(cases ht)⟩
theorem AccOk.mono {S:QTs} {i k j n:Nat} (h:AccOk S i j n) (hk:i≤k):AccOk S k j n:=⟨ZBv h.len hk,h.b8,h.qk.mono (ZB7 _ hk) (ZBp _)⟩
theorem AccOk.add {S:QTs} {i j n:Nat} (h:AccOk S i j n) {t:Rat × List Qt} (h1:Sz t.1 j) (h2:t.2.length≤n) (h3:∀q∈t.2,q.b8):AccOk (addC S t) (i+1) j n:=by
 have e:(i+1)*(j+2)=i*(j+2)+(j+2):=ZDi _ _;refine⟨ZBv (Zuu S t) (by have:=h.len;omega),λu hu=>?_,λu hu=>?_⟩
 ·rcases Zoh hu with hu | rfl | ⟨s,hs,rfl⟩
  ·exact h.b8 u hu
  ·exact h3
  ·exact h.b8 s hs
 ·rcases Zoh hu with hu | rfl | ⟨s,hs,rfl⟩
  ·exact⟨(h.qk u hu).1.mono zo,(h.qk u hu).2⟩
  ·exact⟨h1.mono zo,h2⟩
  ·exact⟨((h.qk s hs).1.add h1).mono zo,(h.qk s hs).2⟩
theorem acc_fin (L:QTs):srtQ ordT (nzT (accS (nzT L)))=gatM L:=by
 have h1:srtQ ordT (nzT (accS (nzT L)))=Go.Pol.sumC ordQ (nzT L):=rfl;rw [h1,Zm5 Zbq];refine Zi8 Zbq.ko (Zm3 Zbq _) (Zm3 Zbq _) λx=>?_;rw [Zm4 Zbq,Zm4 Zbq];exact Zmt L x
theorem Zmd {z:Int} (h:z=-1∨z=0∨z=1):Pure prog 27 [iv z] (ratQ (z:Rat)):=by
 rcases h with rfl | rfl | rfl
 ·exact ratOfM
 ·exact Zo5 0 zo
 ·exact Zo5 1 zo
theorem Zud (l:List RE) {J JA nQ:Nat} (hl:l.length≤1000000) (hr:∀t∈l,t.r.lm J) (hq:∀t∈l,t.q.length≤nQ) (hnQ:nQ≤maxQ) (hJ:J≤900000) (hJA:JA≤1000000)
 (hA:∀i,i≤l.length→(l.take i).all RE.ok=true→QK (accS (nzT ((l.take i).map RE.t))) JA nQ∧B8 (accS (nzT ((l.take i).map RE.t)))∧(accS (nzT ((l.take i).map RE.t))).length≤maxT):Pure prog 100 [.sl 4 (l.map RE.av)] (nrmR l):=by
 have hMq0:=Zjc;have hMT:=Znu;have hlm:(l.map RE.av).length=l.length:=ZBr ..;have hg:∀i (h:i < l.length),(l.map RE.av).getD i .u=RE.av l[i]:=λi h=>Zao RE.av h;generalize l.map RE.av=A at *;refine pI func100 rfl ntmps100 results100 call100 ?_
 (refine wkad w_t w_t w_t (w_s ?_);intros)
 refine Zdp (exNew _ 200 201 zo) ?_
 rintro _ _ ⟨g,h,rfl,rfl⟩
 (refine wkad (w_1 hlm) w_t w_t (w_s ?_);intros)
 refine Zea (Frz.nilBox (k:=200) 1 202 4 78 (gC) rfl zo) ?_;refine Zad (ι:=Nat) (λi e m=>i≤l.length∧(l.take i).all RE.ok=true∧e 3=.pbox 200 g 0∧m 201=some (.map h (mpE (accS (nzT ((l.take i).map RE.t)))))∧(∃sv,m 200=some (.box g 227 [.mp 201 h,.own 202 sv] false)∧m 202=some (.row sv 78 4 ((accS (nzT ((l.take i).map RE.t))).map qtA) 0))∧e 13=.sl 4 A∧e 14=iv l.length∧e 15=iv i) (λi=>l.length - i) 0 zr ?_ ?_
 ·rintro i e m ⟨hi,ha,e3,m201,⟨sv,m200,m202⟩,e13,e14,e15⟩
  have hacc:=hA i hi ha;by_cases hlt:i < l.length
  ·have hgi:=hg i hlt;have hri:=hr _ (ZB0 hlt);have hqi:=hq _ (ZB0 hlt);have hta:(l.take (i+1)).map RE.t=(l.take i).map RE.t++[l[i].t]:=by rw [ZEq,ZBz hlt,ZCb];rfl
   have hok:=Zi4 (p:=RE.ok) hlt ha;have hbr:RE.ok l[i]=false→nrmR l=.v (.slice none 0 0):=λh=>by unfold nrmR;rw [Zkm (p:=RE.ok) hlt h];rfl
   have hny:(l[i].t).1≠0→accS (nzT ((l.take (i+1)).map RE.t))=addC (accS (nzT ((l.take i).map RE.t))) l[i].t:=λh=>by
    rw [hta];unfold nzT;rw [ZEh];rw [show List.filter (λt:Rat × List Qt=>decide (t.1≠0)) [l[i].t]=[l[i].t] from by rw [ZEv,ZBo (ZBw h)];rfl];exact Zlu _ _
   have hnn:(l[i].t).1=0→accS (nzT ((l.take (i+1)).map RE.t))=accS (nzT ((l.take i).map RE.t)):=λh=>by
    rw [hta];unfold nzT;rw [ZEh];rw [show List.filter (λt:Rat × List Qt=>decide (t.1≠0)) [l[i].t]=[] from by rw [ZEv,ZBn (by simp [h])];rfl,ZC4]
   clear hg hr hq ha hta;generalize l[i]=t at *;generalize hNR:nrmR l=NR at *;generalize accS (nzT ((l.take i).map RE.t))=S at *;obtain⟨r,q⟩:=t;simp only at hri hqi;have hgi:A.getD i .u=.agg [.v (.bool r.s),lim r.l,lim r.d,.sl 4 (q.map Qt.av)]:=hgi;have crq:=Zra r ⟨hri.1,hri.2.1,by have:=hri.2.2.1;omega,by have:=hri.2.2.2;omega⟩;have crq:Pure prog 62 [.agg [.v (.bool r.s),lim r.l,lim r.d]] (.v (.bool r.ok)):=crq
   cases hro:r.ok with
   | false =>
     rw [hro] at crq;rw [hbr (by unfold RE.ok;rw [hro];rfl)];clear hbr hok hny hnn hacc;obtain⟨s,x,d⟩:=r;simp only at *;generalize q.map Qt.av=Q at *
     (refine wkad (w_9 e3 m200 m201 m202 e13 e14 e15 hlm hgi) (w_1 crq) w_t (w_s ?_);intros)
     all_goals exact gL
   | true =>
     rw [hro] at crq;have hz:=(RQ.ok_av hri hro).2;have hre:=RQ.ok_eq hri hro;have hqm:(q.map Qt.av).length=q.length:=ZBr ..;have hgq:∀k (h:k < q.length),(q.map Qt.av).getD k .u=Qt.av q[k]:=λk h=>Zao Qt.av h;have hbq:∀k (h:k < q.length),Qt.ok q[k]=false→NR=.v (.slice none 0 0):=λk h h2=>hbr (by unfold RE.ok;rw [Zkm (p:=Qt.ok) h h2,ZGd]);have hqk:q.all Qt.ok=true→RE.ok ⟨r,q⟩=true:=λh=>by unfold RE.ok;rw [hro,h];rfl
     have het1:(RE.t ⟨r,q⟩).1=r.q*(sgP q:Rat):=rfl;have het:RE.t ⟨r,q⟩=(r.q*(sgP q:Rat),putP q):=rfl;rw [het] at hny;rw [het1] at hnn;clear het het1 hbr;generalize hx:r.q=x at *;subst hre;clear hro;simp only at *;generalize hQ:q.map Qt.av=Q at *
     (refine wkad (w_10 e3 m200 m201 m202 e13 e14 e15 hlm hgi hqm) (w_1 crq) w_t (w_s ?_);intros)
     rename_i g5 g6 s28;clear crq;have hw0:x*((sgP (q.take 0):Int):Rat)=x:=by show x*((1:Int):Rat)=x;exact ZF0 x
     refine Zad (ι:=Nat) (λk e m=>k≤q.length∧(q.take k).all Qt.ok=true∧(e 3=.pbox 200 g 0∧m 201=some (.map h (mpE S))∧m 200=some (.box g 227 [.mp 201 h,.own 202 sv] false)∧m 202=some (.row sv 78 4 (S.map qtA) 0))∧(e 13=.sl 4 A∧e 14=iv l.length∧e 15=iv i)∧(e 30=.sl 4 Q∧e 31=iv q.length∧e 32=iv k)∧(e 6=.pbox 6 g6 0∧m 6=some (.box g6 28 [.v (.bool (decide ((x*((sgP (q.take k):Int):Rat)).num < 0))),lim (toL (x*((sgP (q.take k):Int):Rat)).num.natAbs),lim (toL (x*((sgP (q.take k):Int):Rat)).den)] false))∧∃sv,e 7=.own 28 sv∧m 28=some (.row sv 91 4 ((nsP (q.take k)).map Qt.av) 0)) (λk=>q.length - k) 0 zr ?_ ?_
     ·rintro k e m ⟨hk,hak,⟨e3,m201,m200,m202⟩,⟨e13,e14,e15⟩,⟨e30,e31,e32⟩,⟨e6,m6⟩,s7,e7,m28⟩
      have hwz:Sz (x*((sgP (q.take k):Int):Rat)) (J+1):=hz.mul (Zm9 (Zl9 _));have hnl:((nsP (q.take k)).map Qt.av).length=k:=by unfold nsP;rw [ZBr,ZBr,ZB9];omega
      by_cases hkt:k < q.length
      ·have hgk:=hgq k hkt;have hok2:=Zi4 (p:=Qt.ok) hkt hak;have hbk:=hbq k hkt;have htk:q.take (k+1)=q.take k++[q[k]]:=by rw [ZEq,ZBz hkt];rfl
       have s1:x*((sgP (q.take (k+1)):Int):Rat)=x*((sgP (q.take k):Int):Rat)*(q[k].norm.2:Rat):=by rw [htk,Zs4,Rat.intCast_mul,Rat.mul_assoc]
       have s2:(nsP (q.take (k+1))).map Qt.av=(nsP (q.take k)).map Qt.av++[Qt.av q[k].norm.1]:=by rw [htk];unfold nsP;rw [ZCb,ZCb];rfl
       have hns:=Zgx q[k];have c1:=Zk7 q[k].k q[k].a q[k].b q[k].c;have c2:=Zx2 q[k].k q[k].a q[k].b q[k].c;have c3:=Zmd hns;have c4:=Zxv _ _ hwz (Zm9 hns) zo zo;have c4:Pure prog 51 [.agg [.v (.bool (decide ((x*((sgP (q.take k):Int):Rat)).num < 0))),lim (toL (x*((sgP (q.take k):Int):Rat)).num.natAbs),lim (toL (x*((sgP (q.take k):Int):Rat)).den)],ratQ (q[k].norm.2:Rat)] (ratQ (x*((sgP (q.take k):Int):Rat)*(q[k].norm.2:Rat))):=c4;rw [←s1] at c4;clear hgq hbq hqk hny hnn hok htk hak s1 hwz;generalize q[k]=y at *;generalize hW1:x*((sgP (q.take (k+1)):Int):Rat)=w1 at *;generalize x*((sgP (q.take k):Int):Rat)=w0 at *
       generalize (nsP (q.take k)).map Qt.av=PR at *;generalize toL w0.num.natAbs=wn at *;generalize toL w0.den=wd at *;generalize decide (w0.num < 0)=ws at *;generalize S.map qtA=SA at *;generalize mpE S=SM at *;generalize hn1:y.norm.1=nn at *;generalize hn2:y.norm.2=ns at *;obtain⟨y1,y2,y3,y4⟩:=y;simp only at *
       cases hyo:Qt.ok ⟨y1,y2,y3,y4⟩with
       | false =>
         rw [hyo] at c1;rw [hbk hyo];clear s2 c2 c3 c4 hok2 hbk
         (refine wkad (w_16 e3 m200 m201 m202 e13 e14 e15 e30 e31 e32 e6 m6 e7 m28 hqm hgk) (w_1 c1) w_t (w_s ?_);intros)
         all_goals exact gL
       | true =>
         rw [hyo] at c1;have hok3:=hok2 hyo;clear hbk hok2;obtain⟨n1,n2,n3,n4⟩:=nn
         (refine wkad (w_17 e3 m200 m201 m202 e13 e14 e15 e30 e31 e32 e6 m6 e7 m28 hqm hgk hnl) (w_4 c1 c2 c3 c4) (w_1 (w_d 15 [(2,ratQ (ns:Rat)),(3,ratQ w1)] [4] [])) (w_s ?_);intros)
         exact⟨k+1,⟨zo,hok3,⟨gW e3,gW m201,gW m200,gW m202⟩,⟨gW e13,gW e14,gW e15⟩,⟨gW e30,gW e31,gS⟩,⟨gW e6,by rw [hW1];exact gC⟩,_,gC,by rw [s2];exact gC⟩,zo⟩
      ·have hkl:k=q.length:=zo;subst hkl;rw [ZDc] at hak m6 m28 hwz;have hok3:=hok (hqk hak);clear hgq hbq hqk hok;have cz:=Zc8 _ hwz zo;generalize hW:x*((sgP q:Int):Rat)=w at *;have cz:Pure prog 18 [.agg [.v (.bool (decide (w.num < 0))),lim (toL w.num.natAbs),lim (toL w.den)]] (iv w.num.sign):=cz;by_cases hw:w=0
       ·have hnn:=hnn hw;have hz2:w.num.sign=0:=by rw [Zc4];exact hw
        rw [hz2] at cz;clear hny hz2;rw [←hnn] at m201 m202;generalize toL w.num.natAbs=wn at *;generalize toL w.den=wd at *;generalize decide (w.num < 0)=ws at *
        (refine wkad (w_15 e3 m200 m201 m202 e13 e14 e15 e30 e31 e32 e6 m6 e7 m28 hqm) (w_1 cz) w_t (w_s ?_);intros)
        exact⟨i+1,⟨zo,hok3,gW e3,gW m201,⟨sv,gW m200,gW m202⟩,gW e13,gW e14,gS⟩,zo⟩
       ·have hny:=hny hw;have hz2:¬w.num.sign=0:=by rw [Zc4];exact hw
        have hsg:sgP q≠0:=λe=>hw (by rw [←hW,e];exact ZF1 x);have hsr:=Zw4 hsg;have hpl:=Zke q;have hbb:=Zx6 hak;have hSl:=hacc.2.2;have hSq:=λt ht=>(hacc.1 t ht).1;have hSb:=hacc.2.1;have hMq:=Zjc;have ci:=fun(m:Mem) h=>qSort m 28 s7 (nsP q) h (by unfold nsP;rw [ZBr];exact(show q.length≤maxQ by omega));rw [hsr] at ci;clear hnn hsg hak hacc;have cad:=fun(m:Mem) a b c d=>exAddO m 200 201 202 28 g h sv s7 S w (putP q) a b c d zo zo zo zo zo zo zo zo hSb hbb hSq hwz zo zo;rw [←hny] at cad;have cad:∀(m:Mem),m 200=some (.box g 227 [.mp 201 h,.own 202 sv] false)→m 201=some (.map h (mpE S))→m 202=some (.row sv 78 4 (S.map qtA) 0)→m 28=some (.row s7 91 4 ((putP q).map Qt.av) 0)→ACall prog 118 [.pbox 200 g 0,.agg [.v (.bool (decide (w.num < 0))),lim (toL w.num.natAbs),lim (toL w.den)],.own 28 s7] m _:=cad
        generalize w.num.sign=z at *;generalize toL w.num.natAbs=wn at *;generalize toL w.den=wd at *;generalize decide (w.num < 0)=ws at *
        (refine wkad (w_16 e3 m200 m201 m202 e13 e14 e15 e30 e31 e32 e6 m6 e7 m28 hqm hz2) (w_1 cz) w_t (w_s ?_);intros)
        refine Zgv (ci _ (gW m28)) ?_
        (refine wkad (w_11 e3 m200 m201 m202 e13 e14 e15 e6 m6 e7 hqm) w_t w_t (w_s ?_);intros)
        refine Zdp (cad _ (gW m200) (gW m201) (gW m202) (gC)) ?_
        rintro _ _ ⟨sv2,eP,rfl,rfl⟩
        (refine wkad (w_4 e3 e13 e14 e15) w_t w_t (w_s ?_);intros)
        exact⟨i+1,⟨zo,hok3,gW e3,gC,⟨sv2,gC,gC⟩,gW e13,gW e14,gS⟩,zo⟩
     ·exact⟨ZBx _,rfl,⟨gW e3,gW m201,gW m200,gW m202⟩,⟨gW e13,gW e14,gW e15⟩,⟨gC,gW hqm,gC⟩,⟨gC,by rw [hw0];exact gC⟩,_,gC,gC⟩
  ·have hil:i=l.length:=zo;subst hil;have hacc:=hA l.length (ZBp _) ha;rw [ZDc] at ha hacc m201 m202;have hfin:nrmR l=.sl 4 ((srtQ ordT (nzT (accS (nzT (l.map RE.t))))).map qtA):=by unfold nrmR;rw [ZBo ha,acc_fin]
   have hlen:=hacc.2.2;have hMq:=Zjc;have ce:=fun(m:Mem) a b=>exExpr m 200 201 202 300 g h sv (accS (nzT (l.map RE.t))) a b zo (Zfn _ [] .nil) hacc.1 zo zo;rw [hfin];clear hg hr hq ha hacc hfin;generalize accS (nzT (l.map RE.t))=S at *;generalize (srtQ ordT (nzT S)).map qtA=R at *
   (refine wkad (w_8 e3 m200 m201 m202 e13 e14 e15 hlm) w_t w_t (w_s ?_);intros)
   refine Zgw (ce _ (gW m200) (gW m202)) ?_;intro sv3
   (refine wkad w_t w_t w_t (w_s ?_);intros)
   all_goals exact gL
 ·refine⟨ZBx _,rfl,gC,gC,⟨_,gC,gC⟩,gC,gW hlm,gC⟩
theorem ZBg (l:List RE) {J:Nat} (hr:∀t∈l,t.r.lm J) (hq:∀t∈l,t.q.length≤12):∀i,i≤l.length→(l.take i).all RE.ok=true→AccOk (accS (nzT ((l.take i).map RE.t))) i (J+1) 12
 | 0,_,_=>AccOk.nil _ _
 | i+1,hi,ha=>by
   have hlt:i < l.length:=hi;have hta:l.take (i+1)=l.take i++[l[i]]:=by rw [ZEd hlt]
   rw [hta,List.all_append,ZCj] at ha;have ih:=ZBg l hr hq i zo ha.1;have hok:RE.ok l[i]=true:=by have:=ha.2;simpa using this
   have hri:=hr _ (ZB0 hlt);have hqi:=hq _ (ZB0 hlt);rw [hta,ZCb];unfold nzT at *;rw [ZEh];unfold RE.ok at hok;rw [ZCj] at hok;by_cases h0:(RE.t l[i]).1=0
   ·rw [ZCs,ZDk,ZE6 (by simpa using h0),List.filter_nil,ZC4];exact ih.mono zo
   ·rw [ZCs,ZDk,ZE7 (by simpa using h0),List.filter_nil,Zlu];exact ih.add (((RQ.ok_av hri hok.1).2).mul (Zm9 (Zl9 _))) (ZBv (Zke _) hqi) (Zx6 hok.2)
theorem exNorm (l:List RE) {J:Nat} (hl:l.length≤12) (hr:∀t∈l,t.r.lm J) (hq:∀t∈l,t.q.length≤12) (hJ:J≤1000):Pure prog 100 [.sl 4 (l.map RE.av)] (nrmR l) :=
 Zud l (J:=J) (JA:=12*(J+1+2)) (nQ:=12) zo hr hq Zzf zo zo λi hi ha=>by
  have h:=ZBg l hr hq i hi ha;have h2:i*(J+1+2)≤12*(J+1+2):=ZB7 _ zo;exact⟨h.qk.mono h2 (ZBp _),h.b8,by have:=h.len;have:=Zze;omega⟩
theorem exNormG (l:List RE) {J JA nQ:Nat} (hl:l.length≤1000000) (hr:∀t∈l,t.r.lm J) (hq:∀t∈l,t.q.length≤nQ) (hnQ:nQ≤maxQ) (hJ:J≤900000) (hJA:JA≤1000000)
 (hA:∀i,i≤l.length→(l.take i).all RE.ok=true→QK (accS (nzT ((l.take i).map RE.t))) JA nQ∧B8 (accS (nzT ((l.take i).map RE.t)))∧(accS (nzT ((l.take i).map RE.t))).length≤100000000):Pure prog 100 [.sl 4 (l.map RE.av)] (nrmR l) :=
 Zud l hl hr hq hnQ hJ hJA λi hi ha=>by have h:=hA i hi ha;exact⟨h.1,h.2.1,by rw [Ztx];exact h.2.2⟩
attribute [local go_sem] List.append_eq
theorem ratNegN (a:Rat) {k:Nat} (h:Sz a k) (hk:k≤1000000) (h0:a.num < 0):Pure prog 109 [ratQ a] (.agg [.v (.bool false),lim (toL a.num.natAbs),lim (toL a.den)]):=by
 have cp:=Zf8 a h zo;have h1:=h.1;have h2:=h.2;have cr:=Zfr false a.num.natAbs a.den zo zo a.den_nz
 have e:mkRat (zI false a.num.natAbs) a.den=-a:=by
  rw [show zI false a.num.natAbs=-a.num from by simp only [zI];simp;omega,←Rat.neg_mkRat,ZFm]
 have e2:absR a=-a:=by unfold absR;rw [ZBo h0]
 rw [e,←e2,ZBi] at cr;have e3:ratQ a=.agg [.v (.bool true),lim (toL a.num.natAbs),lim (toL a.den)]:=by unfold ratQ;rw [ZBw h0]
 have e4:intZ a.num=.agg [.v (.bool true),lim (toL a.num.natAbs)]:=by unfold intZ intA;rw [ZBw h0]
 have e5:intA false a.num.natAbs=.agg [.v (.bool false),lim (toL a.num.natAbs)]:=rfl;rw [e3,e4] at cp;rw [e5] at cr;rw [e3];clear e e2 e3 e4 e5;refine pI func109 rfl ntmps109 results109 call109 ?_
 (refine wkvp w_t (w_2 cp cr) (w_s ?_);intros)
 simp (disch:=omega) only [go_sem]
theorem Zeh {α:Type} {l:List α} {i:Nat} {d:α} (h:i < l.length):l.getD i d=l[i]:=by
 rw [ZB8,ZBz h];rfl
theorem exTerm (a:Rat) (p:List Qt) (ss:List ByteArray) (hl:ss.length≤1000000000) (hs:∀s∈ss,s.size≤1000) (hp:p.length≤1000) {k:Nat} (ha:Sz a k) (hk:k≤1000000) :
 Pure prog 60 [qtA (a,p),.sl 1 (ss.map strA)] (if chkP ss.length p=0 then .tup [strA (tTxt ss (a,p)),iv 0] else .tup [strA ⟨#[]⟩,iv (chkP ss.length p)]):=by
 have cs:=Zc8 a ha zo;have cn:=ratNegN a ha hk;have cx:=ratText (absR a) (Zoi ha) hk;have c1:Pure prog 27 [iv 1] (ratQ 1):=Zo5 1 zo;have ce:=ratEqual (absR a) 1 (Zoi ha) (k:=1) ⟨by show(toL 1).length≤1;rw [Zdc];omega,by show(toL 1).length≤1;rw [Zdc];omega⟩ hk zo;have hz:=Zqf (Zoi ha);have hpl:(p.map Qt.av).length=p.length:=ZBr ..;have hq:∀i (h:i < p.length),(p.map Qt.av).getD i .u=Qt.av p[i]:=λi h=>Zao Qt.av h;have hx:tTxt ss (a,p)=tS ss p (if p.length≠0∧absR a=1 then ⟨#[]⟩ else decQ (absR a)) p.length:=rfl;have e0:decide (a.num.sign < 0)=decide (a.num < 0):=by rw [ZBq];exact Int.sign_neg_iff
 rw [ZBi] at cx ce;rw [hx,show qtA (a,p)=.agg [.v (.bool (decide (a.num < 0))),lim (toL a.num.natAbs),lim (toL a.den),.sl 4 (p.map Qt.av)] from rfl];have hne:(ratQ a)=.agg [.v (.bool (decide (a.num < 0))),lim (toL a.num.natAbs),lim (toL a.den)]:=rfl;rw [hne] at cs cn;have hng:decide (a.num < 0)=true→a.num < 0:=ZGz;have cn:=λh=>cn (hng h);generalize decide (a.num < 0)=sg at *;clear hng;generalize toL a.num.natAbs=An at *;generalize toL a.den=Ad at *;generalize hS:a.num.sign=sn at *;generalize decQ (absR a)=D at *;clear hS hx hne;have hemp:(⟨#[]⟩:ByteArray).size=0:=rfl;generalize hPA:p.map Qt.av=PA at *
 generalize hX:decide (absR a=1)=x at *;have hb:p.length=0→p=[]:=List.length_eq_zero_iff.1;have q1:∀c,chkP ss.length p=c→chkP ss.length p=c:=λ_ h=>h;have cq:∀i (h:i < p.length),Pure prog 112 [Qt.av p[i],.sl 1 (ss.map strA)] (if Qt.chk p[i] ss.length 64=0 then .tup [strA (p[i].txt ss),iv 0] else .tup [strA ⟨#[]⟩,iv (Qt.chk p[i] ss.length 64)]):=λi h=>quText p[i].k p[i].a p[i].b p[i].c ss hl hs;generalize ss.map strA=N at *;generalize hR:(if chkP ss.length p=0 then AV.tup [strA (tS ss p (if p.length≠0∧absR a=1 then ⟨#[]⟩ else D) p.length),iv 0] else .tup [strA ⟨#[]⟩,iv (chkP ss.length p)])=R at *
 refine pI func60 rfl ntmps60 results60 call60 ?_
 (refine wkvp w_t (w_1 cs) (w_s ?_);intros)
 refine r_cgX (λe m=>e 1=.sl 1 N∧(∃g2,e 2=.pbox 2 g2 0∧m 2=some (.box g2 78 [.v (.bool sg),lim An,lim Ad,.sl 4 PA] false))∧∃g6,e 6=.pbox 6 g6 0∧m 6=some (.box g6 28 [.v (.bool false),lim An,lim Ad] false)) ?_ ?_
 ·rw [e0]
  cases sg with
  | true =>
    have cn:=cn rfl;refine c_t ?_
    (refine wkad w_t (w_1 cn) w_t (w_s ?_);intros)
    exact⟨rfl,gC,⟨_,gC,gC⟩,_,gC,gC⟩
  | false =>
    refine c_f ?_
    (refine wkad w_t w_t w_t (w_s ?_);intros)
    exact⟨rfl,gC,⟨_,gC,gC⟩,_,gC,gC⟩
 ·rintro e m ⟨e1,⟨g2,e2,m2⟩,g6,e6,m6⟩
  by_cases hp0:p.length=0
  ·obtain rfl:=hb hp0;have hR:AV.tup [strA D,iv 0]=R:=hR;have hpl:PA.length=0:=hpl;rw [←hR]
   (refine wkax (w_7 e1 e2 m2 e6 m6 hpl @ZDq) (w_1 cx) (w_1 (w_d 5 [] [] [])) w_t w_t w_t w_y (w_r 1) (w_s ?_);intros)
   all_goals exact gL
  ·have hpp:0 < p.length:=ZDm hp0
   have hsx:(if p.length≠0∧absR a=1 then ⟨#[]⟩ else D:ByteArray)=if x=true then ⟨#[]⟩ else D:=by
    by_cases h1:absR a=1
    ·rw [ZBo ⟨hp0,h1⟩,ZBo (by rw [←hX];exact ZBw h1)]
    ·rw [ZBn (λh=>h1 h.2),ZBn (by rw [←hX,ZBy h1];decide)]
   rw [hsx] at hR;clear hsx;clear hX hb
   (repeat' (first|(with_reducible first|refine stp ?_|apply gx1|apply gx2|apply gx3|apply gx4|apply gx5|apply gx6|apply gx7|apply gy8|apply gz2|apply gz3|refine gw0 (cx) ?_ ?_|refine gw3 (cx) ?_ ?_ ?_|refine gw0 (c1) ?_ ?_|refine gw3 (c1) ?_ ?_ ?_|refine gw0 (ce) ?_ ?_|refine gw3 (ce) ?_ ?_ ?_)|(with_reducible refine Zcm ?_;intro _)|((with_reducible refine gE ?_);(try simp (disch:=omega) only [go_sem,e1,e2,m2,e6,m6,hpl])<;>first|rfl|omega)|with_reducible refine Zaj zd ?_|((with_reducible apply gy1);iterate 3 focus rfl)|((with_reducible apply gy2);iterate 3 focus rfl)|((with_reducible apply gy3);iterate 2 focus rfl)|((with_reducible apply gy4);iterate 1 focus rfl)|((with_reducible apply gy5);iterate 4 focus rfl)|((with_reducible apply gy5c);iterate 4 focus rfl)|((with_reducible apply gy6);iterate 4 focus rfl)|((with_reducible apply Zj8);iterate 3 focus rfl)|((with_reducible apply Zj7);iterate 1 focus rfl)|((with_reducible apply gy7);iterate 1 focus rfl)|((with_reducible apply gy9);(focus ((with_reducible refine gE ?_);(try simp (disch:=omega) only [go_sem,e1,e2,m2,e6,m6,hpl])<;>rfl)))|((with_reducible apply gz1);(focus first|rfl|(simp (disch:=omega) only [go_sem,e1,e2,m2,e6,m6,hpl];done)))|((with_reducible apply Zcl (id:=5) (Ze1 [(6,ratQ 1),(7,.v (.bool x))]) [] []);(focus kernel_rfl);(focus rfl);(focus kernel_rfl);(focus (simp only [ZB2,ZCe,Nat.reduceAdd];rfl)))))
   refine r_cgX (λe m=>e 1=.sl 1 N∧(e 2=.pbox 2 g2 0∧m 2=some (.box g2 78 [.v (.bool sg),lim An,lim Ad,.sl 4 PA] false))∧e 7=strA (if x=true then ⟨#[]⟩ else D)) ?_ ?_
   ·cases x with
    | true =>
      refine c_t ?_
      (refine wkad (w_3 e1 e2 m2) w_t w_t (w_s ?_);intros)
      exact⟨rfl,gW e1,⟨gW e2,gW m2⟩,gC⟩
    | false =>
      refine c_f ?_;exact⟨rfl,gW e1,⟨gW e2,gW m2⟩,gC⟩
   ·have hz2:(if x=true then ⟨#[]⟩ else D:ByteArray).size≤10*k+4:=by split;(rw [hemp];omega);exact hz
    clear hz cs cn c1 ce e0 cx;generalize (if x=true then ⟨#[]⟩ else D:ByteArray)=s0 at *;clear e1 e2 m2 e6 m6
    rintro e m ⟨e1,⟨e2,m2⟩,e7⟩
    (refine wkad (w_5 e1 e2 m2 e7 hpl) w_t w_t (w_s ?_);intros)
    refine Zad (ι:=Nat) (λi e m=>i≤p.length∧(e 1=.sl 1 N∧e 31=.sl 4 PA∧e 32=iv p.length∧e 33=iv i)∧e 7=strA (tS ss p s0 i)∧∀j (h:j < p.length),j < i→Qt.chk p[j] ss.length 64=0) (λi=>p.length - i) 0 zr ?_ ?_
    ·rintro i e m ⟨hi,⟨e1,e31,e32,e33⟩,e7,hc⟩
     by_cases hlt:i < p.length
     ·have cqi:=cq i hlt;have hqi:=hq i hlt;have hsz:=Zwu (s0:=s0) hs zo hc;by_cases hch:Qt.chk p[i] ss.length 64=0
      ·rw [ZBo hch] at cqi;have ht:=ZAq ss hs hch;have hnx:tS ss p s0 (i+1)=(if (tS ss p s0 i).size=0 then tS ss p s0 i else tS ss p s0 i++⟨#[42]⟩)++p[i].txt ss:=by rw [←Zeh (d:=Qt.zero) hlt];rfl
       have hpo:0 < i→0 < (tS ss p s0 i).size:=tS_pos ss p s0 i;have hc2:∀j (h:j < p.length),j < i+1→Qt.chk p[j] ss.length 64=0:=λj h hj=>by
        rcases ZCc j i with h1 | h1
        ·exact hc j h h1
        ·have:j=i:=zo;subst this;exact hch
       have h42:(⟨#[42]⟩:ByteArray).size=1:=rfl;have h43:=ZCp (a:=tS ss p s0 i) (b:=⟨#[42]⟩);have qe:Qt.av p[i]=.agg [iv p[i].k,iv p[i].a,iv p[i].b,iv p[i].c]:=rfl;rw [qe] at cqi hqi;clear hc hch;generalize p[i].txt ss=T at *;generalize tS ss p s0 i=S at *;generalize p[i].k=qk at *;generalize p[i].a=qa at *;generalize p[i].b=qb at *;generalize p[i].c=qc at *;by_cases hS:S.size=0
       ·have hi0:decide ((0:Int) < (i:Int))=false:=ZBy zo;have hSz:=ZBw hS;rw [ZBo hS] at hnx
        (refine wkad (w_10 e1 e31 e32 e33 e7 hpl hqi @Zi7 hi0 hSz) (w_1 cqi) w_t (w_s ?_);intros)
        exact⟨i+1,⟨zo,⟨gW e1,gW e31,gW e32,gS⟩,by rw [hnx];exact gC,hc2⟩,zo⟩
       ·have hSz:=ZBy hS;rw [ZBn hS] at hnx;by_cases hi0:i=0
        ·have hi0:decide ((0:Int) < (i:Int))=false:=ZBy zo
         (refine wkad (w_12 e1 e31 e32 e33 e7 hpl hqi @Zi7 hi0 hSz h42 h43) (w_1 cqi) w_t (w_s ?_);intros)
         exact⟨i+1,⟨zo,⟨gW e1,gW e31,gW e32,gS⟩,by rw [hnx];exact gC,hc2⟩,zo⟩
        ·have hi0:decide ((0:Int) < (i:Int))=true:=ZBw zo
         (refine wkad (w_11 e1 e31 e32 e33 e7 hpl hqi @Zi7 hi0 h42 h43) (w_1 cqi) w_t (w_s ?_);intros)
         exact⟨i+1,⟨zo,⟨gW e1,gW e31,gW e32,gS⟩,by rw [hnx];exact gC,hc2⟩,zo⟩
      ·rw [ZBn hch] at cqi;have hat:=ZAs hlt hc hch;rw [hat,ZBn hch] at hR;have qe:Qt.av p[i]=.agg [iv p[i].k,iv p[i].a,iv p[i].b,iv p[i].c]:=rfl;rw [qe] at cqi hqi;generalize Qt.chk p[i] ss.length 64=ch at *;generalize p[i].k=qk at *;generalize p[i].a=qa at *;generalize p[i].b=qb at *;generalize p[i].c=qc at *;rw [←hR]
       (refine wkad (w_7 e1 e31 e32 e33 e7 hpl hqi) (w_1 cqi) w_t (w_s ?_);intros)
       all_goals exact gL
     ·have:i=p.length:=zo;subst this;rw [ZBo (Zun λj h=>hc j h h)] at hR;rw [←hR]
      (refine wkad (w_6 e1 e31 e32 e33 e7 hpl) w_t w_t (w_s ?_);intros)
      all_goals exact gL
    ·exact⟨ZBx _,⟨gW e1,gC,gW hpl,gC⟩,gW e7,λj h hj=>zo⟩
section
attribute [local go_sem] underlying3 underlying4 underlying161 underlying24 underlying26 underlying28 underlying91 underlying76 underlying78 underlying33 underlying34 sz3 by3 z3 szB zB Zas zRat Zav zInt Zau zNat Zag Zar Zah Bool.and_self Zal Zbb zSlQ szQT byQT zQT Za8 zSlT szQP zQP underlying9 underlying227 underlying164 underlying225 Zov Zju Zok Zox Za7 zStr zSum zMap underlying35 underlying65 List.append_eq
end
theorem Zou {ss:List ByteArray} {t:Rat × List Qt} (hs:∀s∈ss,s.size≤1000) (hp:t.2.length≤1000) {k:Nat} (ha:Sz t.1 k) (hk:k≤1000000) (h:chkP ss.length t.2=0):(tTxt ss t).size≤15000000:=by
 have hz:=Zqf (Zoi ha)
 have hall:∀j (h:j < t.2.length),Qt.chk t.2[j] ss.length 64=0:=by
  generalize t.2=p at h;clear hp
  induction p with
  | nil=>intro j hj;simp at hj
  | cons q l ih =>
    unfold chkP at h;by_cases h0:Qt.chk q ss.length 64=0
    ·rw [ZBo h0] at h;intro j hj
     cases j with
     | zero=>exact h0
     | succ j=>exact ih h j (by simpa using hj)
    ·rw [ZBn h0] at h;exact absurd h h0
 have hemp:(⟨#[]⟩:ByteArray).size=0:=rfl;unfold tTxt;have h2:=Zwu (s0:=if t.2.length≠0∧absR t.1=1 then ⟨#[]⟩ else decQ (absR t.1)) hs (ZBp t.2.length) λj h _=>hall j h
 have h3:(if t.2.length≠0∧absR t.1=1 then ⟨#[]⟩ else decQ (absR t.1):ByteArray).size≤10*k+4:=by
  split
  ·rw [hemp];omega
  ·exact hz
 omega
theorem ZAg {ss:List ByteArray} {p:QTs} {i:Nat} (hi:i≤p.length) (h:∀j (h:j < p.length),j < i→(tTxt ss p[j]).size≤15000000):(eS ss p i).size≤i*15000003:=by
 induction i with
 | zero=>exact ZBx _
 | succ i ih =>
   have h1:=ih zo λj hj hji=>h j hj zo;have h2:=h i zo zo;have e:p.getD i (0,[])=p[i]:=Zeh zo;unfold eS;rw [ZCp,e];have s0:(⟨#[]⟩:ByteArray).size=0:=rfl;have s1:(⟨#[45]⟩:ByteArray).size=1:=rfl;have s2:(⟨#[32,45,32]⟩:ByteArray).size=3:=rfl;have s3:(⟨#[32,43,32]⟩:ByteArray).size=3:=rfl;split
   ·split<;>omega
   ·rw [ZCp];split<;>omega
def OkT (p:QTs) (k:Nat):Prop:=∀t∈p,t.2.length≤1000∧Sz t.1 k
theorem Zzy (p:QTs) (ss:List ByteArray) (hl:ss.length≤1000000000) (hs:∀s∈ss,s.size≤1000) (hp:p.length≤100000) {k:Nat} (hk:k≤1000000) (ho:OkT p k) :
 Pure prog 21 [.sl 4 (p.map qtA),.sl 1 (ss.map strA)] (if chkE ss.length p=0 then .tup [strA (eTxt ss p),iv 0] else .tup [strA ⟨#[]⟩,iv (chkE ss.length p)]):=by
 have hpl:(p.map qtA).length=p.length:=ZBr ..;have hq:∀i (h:i < p.length),(p.map qtA).getD i .u=.agg [.v (.bool (decide (p[i].1.num < 0))),lim (toL p[i].1.num.natAbs),lim (toL p[i].1.den),.sl 4 (p[i].2.map Qt.av)]:=λi h=>Zao qtA h;have ct:∀i (h:i < p.length),Pure prog 60 [.agg [.v (.bool (decide (p[i].1.num < 0))),lim (toL p[i].1.num.natAbs),lim (toL p[i].1.den),.sl 4 (p[i].2.map Qt.av)],.sl 1 (ss.map strA)] (if chkP ss.length p[i].2=0 then .tup [strA (tTxt ss p[i]),iv 0] else .tup [strA ⟨#[]⟩,iv (chkP ss.length p[i].2)]):=λi h=>exTerm p[i].1 p[i].2 ss hl hs (ho _ (ZB0 h)).1 (ho _ (ZB0 h)).2 hk
 have cs:∀i (h:i < p.length),Pure prog 18 [.agg [.v (.bool (decide (p[i].1.num < 0))),lim (toL p[i].1.num.natAbs),lim (toL p[i].1.den)]] (iv p[i].1.num.sign):=λi h=>Zc8 p[i].1 (ho _ (ZB0 h)).2 zo;have hsz:∀i (h:i < p.length),chkP ss.length p[i].2=0→(tTxt ss p[i]).size≤15000000:=λi h h2=>Zou hs (ho _ (ZB0 h)).1 (ho _ (ZB0 h)).2 hk h2;clear ho hk;generalize ss.map strA=N at *;generalize p.map qtA=P at *;generalize hR:(if chkE ss.length p=0 then AV.tup [strA (eTxt ss p),iv 0] else .tup [strA ⟨#[]⟩,iv (chkE ss.length p)])=R at *;have hemp:(⟨#[]⟩:ByteArray).size=0:=rfl
 refine pI func21 rfl ntmps21 results21 call21 ?_;by_cases hp0:p.length=0
 ·obtain rfl:=List.length_eq_zero_iff.1 hp0;have hR:AV.tup [strA ⟨#[48]⟩,iv 0]=R:=hR;have hpl:P.length=0:=hpl;rw [←hR]
  (refine wkap (w_2 hpl @ZDq) w_t (w_r 0) (w_s ?_);intros)
  all_goals exact gL
 ·have hpi:¬((p.length:Nat):Int)=0:=zo;have eTx:eTxt ss p=eS ss p p.length:=ZBn hp0;rw [eTx] at hR
  (refine wkap (w_2 hpl hpi) w_t (w_r 0) (w_s ?_);intros)
  refine Zad (ι:=Nat) (λi e m=>i≤p.length∧(e 1=.sl 1 N∧e 15=.sl 4 P∧e 16=iv p.length∧e 17=iv i)∧e 6=strA (eS ss p i)∧∀j (h:j < p.length),j < i→chkP ss.length p[j].2=0) (λi=>p.length - i) 0 zr ?_ ?_
  ·rintro i e m ⟨hi,⟨e1,e15,e16,e17⟩,e6,hc⟩
   by_cases hlt:i < p.length
   ·have cti:=ct i hlt;have csi:=cs i hlt;have hqi:=hq i hlt;have hes:=ZAg (ss:=ss) (p:=p) hi λj h hj=>hsz j h (hc j h hj);by_cases hch:chkP ss.length p[i].2=0
    ·rw [ZBo hch] at cti;have ht:=hsz i hlt hch;have hnx:eS ss p (i+1)=(if i=0 then (if p[i].1.num < 0 then ⟨#[45]⟩ else ⟨#[]⟩) else eS ss p i++(if p[i].1.num < 0 then ⟨#[32,45,32]⟩ else ⟨#[32,43,32]⟩))++tTxt ss p[i]:=by rw [←Zeh (d:=((0:Rat),([]:List Qt))) hlt];rfl
     have hc2:∀j (h:j < p.length),j < i+1→chkP ss.length p[j].2=0:=λj h hj=>by
      rcases ZCc j i with h1 | h1
      ·exact hc j h h1
      ·have:j=i:=zo;subst this;exact hch
     have e0s:eS ss p 0=⟨#[]⟩:=rfl;have hn0:decide (p[i].1.num.sign < 0)=decide (p[i].1.num < 0):=by rw [ZBq];exact Int.sign_neg_iff
     have s45:(⟨#[45]⟩:ByteArray).size=1:=rfl;have s3:(⟨#[32,45,32]⟩:ByteArray).size=3:=rfl;have s4:(⟨#[32,43,32]⟩:ByteArray).size=3:=rfl;have z3:=ZCp (a:=eS ss p i) (b:=⟨#[32,45,32]⟩);have z4:=ZCp (a:=eS ss p i) (b:=⟨#[32,43,32]⟩);clear hc hch ct cs hsz hq;generalize tTxt ss p[i]=T at *;generalize p[i].2.map Qt.av=qs at *;by_cases hng:p[i].1.num < 0
     ·rw [ZBo hng,ZBo hng] at hnx;rw [ZBw hng] at hn0 csi cti hqi;clear hng;generalize p[i].1.num.sign=sn at *;generalize toL p[i].1.num.natAbs=An at *;generalize toL p[i].1.den=Ad at *;by_cases hi0:i=0
      ·subst hi0;rw [ZBo rfl] at hnx;rw [e0s] at e6;have e45:(⟨#[]⟩++⟨#[45]⟩:ByteArray)=⟨#[45]⟩:=rfl
       (refine wkap (w_12 e1 e15 e16 e17 hpl e6 hqi hn0 e45 hemp s45 @ZDq) (w_2 cti csi) (w_r 0) (w_s ?_);intros)
       exact⟨0+1,⟨zo,⟨gW e1,gW e15,gW e16,gS⟩,by rw [hnx];exact gC,hc2⟩,zo⟩
      ·rw [ZBn hi0] at hnx;have hi1:decide ((0:Int) < (i:Int))=true:=ZBw zo;have hi2:¬(i:Int)=0:=zo
       (refine wkap (w_12 e1 e15 e16 e17 hpl e6 hqi hn0 hi1 hi2 z3 s3) (w_2 cti csi) (w_r 0) (w_s ?_);intros)
       exact⟨i+1,⟨zo,⟨gW e1,gW e15,gW e16,gS⟩,by rw [hnx];exact gC,hc2⟩,zo⟩
     ·rw [ZBn hng,ZBn hng] at hnx;rw [ZBy hng] at hn0 csi cti hqi;clear hng;generalize p[i].1.num.sign=sn at *;generalize toL p[i].1.num.natAbs=An at *;generalize toL p[i].1.den=Ad at *;by_cases hi0:i=0
      ·subst hi0;rw [ZBo rfl] at hnx;rw [e0s] at e6
       (refine wkap (w_10 e1 e15 e16 e17 hpl e6 hqi hn0 hemp @ZDq) (w_2 cti csi) (w_r 0) (w_s ?_);intros)
       exact⟨0+1,⟨zo,⟨gW e1,gW e15,gW e16,gS⟩,by rw [hnx];exact gC,hc2⟩,zo⟩
      ·rw [ZBn hi0] at hnx;have hi1:decide ((0:Int) < (i:Int))=true:=ZBw zo;have hi2:¬(i:Int)=0:=zo
       (refine wkap (w_12 e1 e15 e16 e17 hpl e6 hqi hn0 hi1 hi2 z4 s4) (w_2 cti csi) (w_r 0) (w_s ?_);intros)
       exact⟨i+1,⟨zo,⟨gW e1,gW e15,gW e16,gS⟩,by rw [hnx];exact gC,hc2⟩,zo⟩
    ·rw [ZBn hch] at cti;have hat:=ZAt hlt hc hch;rw [hat,ZBn hch] at hR;generalize chkP ss.length p[i].2=ch at *;generalize p[i].2.map Qt.av=qs at *;generalize decide (p[i].1.num < 0)=ng at *;generalize toL p[i].1.num.natAbs=An at *;generalize toL p[i].1.den=Ad at *;rw [←hR]
     (refine wkap (w_7 e1 e15 e16 e17 hpl e6 hqi) (w_1 cti) (w_r 0) (w_s ?_);intros)
     all_goals exact gL
   ·have:i=p.length:=zo;subst this;rw [ZBo (Zuo λj h=>hc j h h)] at hR;rw [←hR]
    (refine wkap (w_6 e1 e15 e16 e17 hpl e6) w_t (w_r 0) (w_s ?_);intros)
    all_goals exact gL
  ·exact⟨ZBx _,⟨gC,gC,gW hpl,gC⟩,gC,λj h hj=>zo⟩
attribute [go_sem] underlying275
theorem exGrow (σ:Mem) (KP n:Nat) (h0:0 < n) (hn:n≤2000000) :
 ACall prog 249 [.v (.slice none 0 0),iv n] σ λr σ'=>∃sv L,r=.view KP sv 4 0 0∧σ'=upd σ KP (some (.row sv 91 4 L 0)):=by
 refine Zg9 func249 rfl ntmps249 results249 call249 zr zs ?_;have h1:¬((n:Nat):Int) < 0:=zo;have h2:(0:Int) < ((n:Nat):Int):=zo;have hm:∀k,Zeb σ (k+1000)=(σ k).map Ent.sh:=λk=>by unfold Zeb;rw [ZBn zo];rfl
 generalize Zeb σ=m0 at *
 (refine wkap (w_2 h1 h2) w_t (w_r 0) (w_s ?_);intros)
 simp (disch:=omega) only [go_sem];rename_i sv;refine Zi2 (σ:=σ) (σ':=upd σ KP (some (.row sv 91 4 (List.replicate ((n:Int) - 0).toNat (.agg [iv 0,iv 0,iv 0,iv 0])) 0))) 22 KP zo (Sub.view _ _ _ _ _ _) ⟨_,_,rfl,rfl⟩ ?_ ?_
 ·simp only [Zam,ZBo]
 ·intro k hk _;rw [Zam,ZBn zo,hm k,Zam,ZBn hk]
theorem exGrow0:Pure prog 249 [.v (.slice none 0 0),iv 0] (.v (.slice none 0 0)):=by
 refine pI func249 rfl ntmps249 results249 call249 ?_
 (refine wkap w_t w_t (w_r 0) (w_s ?_);intros)
 all_goals exact gL
theorem exConcat (σ:Mem) (KC KP:Nat) (svc:Value) (A B:List AV) (hC:σ KC=some (.row svc 76 1 [.sl 4 A,.sl 4 B] 0)) (hk:KC≠KP) (ha:A.length≤1000000) (hb:B.length≤1000000) :
 ACall prog 196 [.own KC svc] σ λr σ'=>∃sv,r=.own KP sv∧σ'=upd σ KP (some (.row sv 91 4 (A++B) 0)):=by
 have mC:=Zaz hC;simp only [Ent.sh,AV.shL,AV.sh] at mC;have hm:∀k,Zeb σ (k+1000)=(σ k).map Ent.sh:=λk=>by unfold Zeb;rw [ZBn zo];rfl
 refine Zg9 func196 rfl ntmps196 results196 call196 zr zs ?_;generalize Zeb σ=m0 at *;have h1:¬((A.length:Nat):Int) < 0:=zo;have h2:¬((A.length:Nat):Int)+(B.length:Int) < 0:=zo;have e1:(0:Int)+((A.length:Nat):Int)=(A.length:Int):=zo;have e2:((A.length:Nat):Int)+(B.length:Int)=((A.length+B.length:Nat):Int):=zo;by_cases hn:0 < A.length+B.length
 ·have cg:=fun(m:Mem)=>exGrow m 40 (A.length+B.length) hn zo
  (refine wkap (w_5 mC h1 h2 e1 e2) w_t (w_r 3) (w_s ?_);intros)
  refine Zdp (cg _) ?_
  rintro _ _ ⟨sv,L,rfl,rfl⟩
  have hz:(L.take 0++A)=A:=rfl
  (refine wkap (w_2 mC hz) w_t (w_r 3) (w_s ?_);intros)
  simp (disch:=omega) only [go_sem];rename_i sv1 sv2;refine Zi2 (σ:=σ) (σ':=upd σ KP (some (.row sv2 91 4 (A++B) 0))) 40 KP zo (Sub.own _ _ _) ⟨_,rfl,rfl⟩ ?_ ?_
  ·simp (disch:=omega) only [go_sem,ZBo]
  ·intro k hk _;rw [show upd σ KP (some (.row sv2 91 4 (A++B) 0)) k=σ k from by rw [Zam,ZBn hk],←hm k];simp (disch:=omega) only [go_sem]
 ·have hA:A=[]:=List.length_eq_zero_iff.1 zo;have hB:B=[]:=List.length_eq_zero_iff.1 zo;subst hA hB;have cg:=exGrow0;have e4:((0:Nat):Int)+((0:Nat):Int)=0:=rfl;have e5:(0:Int)+((0:Nat):Int)=((0:Nat):Int):=rfl
  (refine wkap (w_3 mC e4 e5) w_t (w_r 3) (w_s ?_);intros)
  refine o_c cg rfl ?_
  (refine wkap (w_1 mC) w_t (w_r 0) (w_s ?_);intros)
  refine Zea (Frz.nilOwn (d:=6) 40 4 91 (gC)) ?_
  (refine wkap (w_1 mC) w_t (w_r 3) (w_s ?_);intros)
  simp (disch:=omega) only [go_sem];rename_i sv1 sv2;refine Zi2 (σ:=σ) (σ':=upd σ KP (some (.row sv2 91 4 [] 0))) 40 KP zo (Sub.own _ _ _) ⟨_,rfl,rfl⟩ ?_ ?_
  ·simp (disch:=omega) only [go_sem,ZBo]
  ·intro k hk _;rw [show upd σ KP (some (.row sv2 91 4 [] 0)) k=σ k from by rw [Zam,ZBn hk],←hm k];simp (disch:=omega) only [go_sem]
abbrev muQ (a b:List Qt):List Qt:=srtQ Qt.cmp (a++b)
theorem exTimes (a b:List Qt) (hm:a.length+b.length≤maxQ):Pure prog 119 [qsA a,qsA b] (qsA (muQ a b)):=by
 have hM:=Zjc;have cs:=fun(m:Mem) (sv:Value) h=>qSort m 300 sv (a++b) h (by rw [ZCh];exact hm);have cc:=fun(m:Mem) (svc:Value) h=>exConcat m 8 300 svc (a.map Qt.av) (b.map Qt.av) h zo (by rw [ZBr];omega) (by rw [ZBr];omega);rw [←ZCb] at cc;show Pure _ _ [.sl 4 (a.map Qt.av),.sl 4 (b.map Qt.av)] (.sl 4 ((muQ a b).map Qt.av));generalize (muQ a b).map Qt.av=R at *;generalize (a++b).map Qt.av=AB at *;generalize a.map Qt.av=A at *;generalize b.map Qt.av=B at *;refine pI func119 rfl ntmps119 results119 call119 ?_
 (refine wkap w_t w_t (w_r 0) (w_s ?_);intros)
 refine Zdp (cc _ _ (gC)) ?_
 rintro _ _ ⟨sv,rfl,rfl⟩
 (refine wkap w_t w_t (w_r 0) (w_s ?_);intros)
 refine Zgv (cs _ _ (gC)) ?_
 (refine wkap w_t w_t (w_r 0) (w_s ?_);intros)
 all_goals exact gL
def okQ (l:List Qt):Prop:=Asc Qt.cmp l∧∀q∈l,q.norm=(q,1)
theorem Zrr {q:Qt} (h:q.norm=(q,1)):q.ok=true:=by
 cases e:q.ok with
 | true=>rfl
 | false =>
   unfold Qt.norm at h;rw [e,ZBn zs] at h;have:=ZDt Prod.snd h;simp at this
theorem okQ.b8 {l:List Qt} (h:okQ l):∀q∈l,q.b8:=λq hq=>ok_b8 (Zrr (h.2 q hq))
theorem rgQ:Go.Pol.RG okQ ordQ muQ [] where
 o:=Zbq
 comm a b:=Ze6 qtO (Zb5 qtO.cp _) (Zb5 qtO.cp _) ((Za3 _).trans (List.perm_append_comm.trans (Za3 _).symm))
 assoc a b c:=Ze6 qtO (Zb5 qtO.cp _) (Zb5 qtO.cp _) ((Za3 _).trans ((((Za3 _).append_right c).trans (by rw [ZCz])).trans (((Za3 (b++c)).symm.append_left a).trans (Za3 _).symm)))
 one a ha:=Ze6 qtO (Zb5 qtO.cp _) ha.1 (by show(srtQ Qt.cmp (a++[])).Perm a;rw [ZC4];exact Za3 _)
 cl a b ha hb:=⟨Zb5 qtO.cp _,λq hq=>by
  rcases List.mem_append.1 ((Za3 _).mem_iff.1 hq) with h | h
  ·exact ha.2 q h
  ·exact hb.2 q h⟩
 de:=⟨.nil,λq hq=>by cases hq⟩
abbrev EX (p:QTs):Prop:=SQ okQ ordQ p
abbrev mulX (p q:QTs):QTs:=mlG ordQ muQ p q
def XB (p:QTs) (k n:Nat):Prop:=EX p∧(∀t∈p,t.2.length≤n)∧∃D B,D≠0∧D < 65536 ^ k∧B < 65536 ^ k∧NB D B p
theorem XB.mono {p:QTs} {k n j m:Nat} (h:XB p k n) (hk:k≤j) (hn:n≤m):XB p j m:=by
 obtain⟨a,b,D,B,c,d,e,f⟩:=h;have hp:65536 ^ k≤65536 ^ j:=ZDh zo hk;exact⟨a,λt ht=>ZBv (b t ht) hn,D,B,c,zo,zo,f⟩
theorem XB.qk {p:QTs} {k n:Nat} (h:XB p k n):QK p (k+k) n:=by
 obtain⟨a,b,D,B,c,d,e,f⟩:=h;exact Zvq f c d e b
theorem XB.nz {p:QTs} {k n:Nat} (h:XB p k n):∀t∈p,t.1≠0:=λt ht=>(h.1.1 t ht).1
theorem mu_len (a b:List Qt):(muQ a b).length=a.length+b.length:=by rw [srtQ_len,ZCh]
theorem Zil {p q:QTs} {m n:Nat} (hp:∀t∈p,t.2.length≤m) (hq:∀t∈q,t.2.length≤n):∀t∈prodL muQ p q,t.2.length≤m+n:=λu hu=>by
 obtain⟨s,hs,t,ht,rfl⟩:=Zft hu;show(muQ s.2 t.2).length≤_;rw [mu_len];have:=hp s hs;have:=hq t ht;omega
theorem XB.mul {p q:QTs} {j k m n:Nat} (hp:XB p j m) (hq:XB q k n):XB (mulX p q) (j+k) (m+n):=by
 obtain⟨a,b,D,B,c,d,e,f⟩:=hp;obtain⟨a',b',D',B',c',d',e',f'⟩:=hq;refine⟨Zbg rgQ a a',Zix (Zil b b'),D*D',B*B',ZEf c c',?_,?_,(f.prodL f').sumG⟩
 ·rw [ZCx];exact ZE5 d d'
 ·rw [ZCx];exact ZE5 e e'
theorem XB.add {p q:QTs} {j k m n:Nat} (hp:XB p j m) (hq:XB q k n):XB (Za1 p q) (j+k+1) (max m n):=by
 obtain⟨a,b,D,B,c,d,e,f⟩:=hp;obtain⟨a',b',D',B',c',d',e',f'⟩:=hq;have h1:65536 ^ j≤65536 ^ (j+k):=ZDh zo zo;have h2:65536 ^ k≤65536 ^ (j+k):=ZDh zo zo;have h3:65536 ^ (j+k+1)=65536 ^ (j+k)*65536:=ZC0 ..;have h4:D*D' < 65536 ^ (j+k):=by rw [ZCx];exact ZE5 d d'
 refine⟨Zgg Zbq a a',λt ht=>?_,D*D',B+B',ZEf c c',zo,zo,(f.mono (ZFn ..) (ZBp _)).addP (f'.mono (ZHa ..) (ZBp _))⟩;rcases Zgy ht with h | h | ⟨s,hs,u,hu,rfl⟩
 ·exact ZBv (b t h) (Nat.le_max_left ..)
 ·exact ZBv (b' t h) (Nat.le_max_right ..)
 ·exact ZBv (b s hs) (Nat.le_max_left ..)
theorem Zd1 (p q:QTs):(mulX p q).length≤p.length*q.length:=by
 have:∀l:QTs,(gatM l).length≤l.length:=λl=>by
  obtain⟨j,hj⟩:∃j,QK l j ((l.map λt=>t.2.length).sum):=by
   induction l with
   | nil=>exact⟨0,λt ht=>by cases ht⟩
   | cons a l ih =>
     obtain⟨j,hj⟩:=ih;refine⟨max j (max (toL a.1.num.natAbs).length (toL a.1.den).length),λt ht=>?_⟩;rw [ZCs,List.sum_cons];rcases List.mem_cons.1 ht with rfl | ht
     ·exact⟨⟨zo,zo⟩,zo⟩
     ·exact⟨(hj t ht).1.mono zo,by have:=(hj t ht).2;omega⟩
  exact(Zmm _ l rfl hj).2
 have h:=this (prodL muQ p q)
 rwa [Zim] at h
theorem Znk {mu:List Qt→List Qt→List Qt} {q:QTs}:∀{p:QTs} {i j:Nat} (hi:i < p.length) (hj:j < q.length),(prodL mu p q)[i*q.length+j]?=some (p[i].1*q[j].1,mu p[i].2 q[j].2)
 | a :: p,0,j,_,hj=>by
   rw [Zfu,ZDd (by rw [ZBr];omega),ZEa,ZCg,ZCw,ZBz hj];rfl
 | a :: p,i+1,j,hi,hj=>by
   rw [Zfu,ZDe (by rw [ZBr,ZDi];omega),ZBr,show(i+1)*q.length+j - q.length=i*q.length+j by rw [ZDi];omega];exact Znk (by simpa using hi) hj
theorem Zkr {α:Type} {l:List α} {c:Nat} {x:α} (h:l[c]?=some x):l.take (c+1)=l.take c++[x]:=by
 rw [ZEq,h];rfl
theorem acc_nb {D:Nat} (L:QTs):∀{B C:Nat} (acc:QTs),NB D B acc→NB D C L→NB D (B+C) (L.foldl addC acc):=by
 induction L with
 | nil=>intro B C acc h _;exact h.mono (ZDy _) (ZGp _ _)
 | cons t L ih =>
   intro B C acc h k;have h1:=h.addC (C:=cl t.1) (k.1 t (.head _)) (ZBp _);have h2:NB D (C - cl t.1) L:=⟨λu hu=>k.1 u (.tail _ hu),by have:=k.2;rw [Zbf] at this;omega⟩;have h3:cl t.1≤C:=by have:=k.2;rw [Zbf] at this;omega
   exact(ih _ h1 h2).mono (ZDy _) zo
theorem Zjl {P:List Qt→Prop} (L:QTs):∀(acc:QTs),(∀t∈acc,P t.2)→(∀t∈L,P t.2)→∀t∈L.foldl addC acc,P t.2:=by
 induction L with
 | nil=>intro acc h _;exact h
 | cons s L ih =>
   intro acc h k;refine ih _ (λt ht=>?_) λt ht=>k t (.tail _ ht);rcases Zoh ht with h1 | rfl | ⟨v,hv,rfl⟩
   ·exact h t h1
   ·exact k _ (.head _)
   ·exact h v hv
theorem ZBh (L:QTs):∀(acc:QTs),(L.foldl addC acc).length≤acc.length+L.length:=by
 induction L with
 | nil=>intro acc;exact ZBp _
 | cons s L ih =>
   intro acc;refine ZBv (ih _) ?_;have:=Zuu acc s;rw [ZB2];omega
theorem Zrv (L:QTs):srtQ ordT (nzT (accS L))=gatM L:=Zm5 Zbq L
theorem exMulT (p q:QTs) {j k m n:Nat} (hp:XB p j m) (hq:XB q k n) (hmn:m+n≤maxQ) (hl:p.length*q.length≤maxT) (hpl:p.length≤100000000) (hql:q.length≤100000000) (hj:j≤100000) (hk:k≤100000):Pure prog 66 [qpA p,qpA q] (qpA (mulX p q)):=by
 have hMT:=Znu;have hM:=Zjc;have hpm:(p.map qtA).length=p.length:=ZBr ..;have hqm:(q.map qtA).length=q.length:=ZBr ..;have gp:∀i (h:i < p.length),(p.map qtA).getD i .u=qtA p[i]:=λi h=>Zao qtA h;have gq:∀i (h:i < q.length),(q.map qtA).getD i .u=qtA q[i]:=λi h=>Zao qtA h;have kp:=hp.qk;have kq:=hq.qk;have hop:∀t∈p,okQ t.2:=hp.1.dom;have hoq:∀t∈q,okQ t.2:=hq.1.dom
 have hacc:∀c,c≤p.length*q.length→QK (accS ((prodL muQ p q).take c)) (j+k+(j+k)) (m+n)∧B8 (accS ((prodL muQ p q).take c))∧(accS ((prodL muQ p q).take c)).length≤maxT:=by
  intro c hc;obtain⟨a,b,D,B,c1,d,e,f⟩:=hp;obtain⟨a',b',D',B',c',d',e',f'⟩:=hq;have hn:=acc_nb ((prodL muQ p q).take c) [] (NB.nil _ 0) ((f.prodL f').take c);rw [ZCg] at hn;have hmem:∀t∈(prodL muQ p q).take c,t.2.length≤m+n∧okQ t.2:=λt ht=>by
   have ht:=ZC6 ht;refine⟨Zil b b' t ht,?_⟩;obtain⟨s,hs,u,hu,rfl⟩:=Zft ht;exact rgQ.cl _ _ (hop s hs) (hoq u hu)
  refine⟨Zvq hn (ZEf c1 c') (by rw [ZCx];exact ZE5 d d') (by rw [ZCx];exact ZE5 e e') ?_,?_,?_⟩
  ·exact Zjl (P:=λx=>x.length≤m+n) _ [] (λt ht=>by cases ht) λt ht=>(hmem t ht).1
  ·exact Zjl (P:=λx=>∀q∈x,q.b8) _ [] (λt ht=>by cases ht) λt ht=>(hmem t ht).2.b8
  ·refine ZBv (ZBh _ _) ?_;rw [ZCe,ZB9,Zim];omega
 have hstep:∀i l (h1:i < p.length) (h2:l < q.length),accS ((prodL muQ p q).take (i*q.length+l+1))=addC (accS ((prodL muQ p q).take (i*q.length+l))) (p[i].1*q[l].1,muQ p[i].2 q[l].2):=λi l h1 h2=>by
  rw [Zkr (Znk h1 h2)];exact Zlu _ _
 have hfin:mulX p q=srtQ ordT (nzT (accS ((prodL muQ p q).take (p.length*q.length)))):=by
  rw [Zrv,ZDf (by rw [Zim];exact ZBp _)];rfl
 have hdst:Dst (accS ((prodL muQ p q).take (p.length*q.length))):=Zfn _ [] .nil;have hac0:accS ((prodL muQ p q).take 0)=[]:=by rw [ZEs];rfl
 have hq0:∀t∈q,t.2.length≤n:=λt ht=>(kq t ht).2;rw [hfin];clear hfin hp hq;generalize hPR:(λc=>accS ((prodL muQ p q).take c))=PR at *;have hPR:∀c,accS ((prodL muQ p q).take c)=PR c:=λc=>by rw [←hPR]
 simp only [hPR] at hacc hstep hdst hac0 ⊢;clear hPR;show Pure _ _ [.sl 4 (p.map qtA),.sl 4 (q.map qtA)] (.sl 4 ((srtQ ordT (nzT (PR (p.length*q.length)))).map qtA));generalize p.map qtA=A at *;generalize q.map qtA=B at *;refine pI func66 rfl ntmps66 results66 call66 ?_
 (refine wkad w_t w_t w_t (w_s ?_);intros)
 refine Zdp (exNew _ 200 201 zo) ?_
 rintro _ _ ⟨g,h,rfl,rfl⟩
 (refine wkad (w_1 hpm) w_t w_t (w_s ?_);intros)
 refine Zea (Frz.nilBox (k:=200) 1 202 4 78 (gC) rfl zo) ?_;refine Zad (ι:=Nat) (λi e M=>i≤p.length∧e 1=.sl 4 B∧e 5=.pbox 200 g 0∧M 201=some (.map h (mpE (PR (i*q.length))))∧(∃sv,M 200=some (.box g 227 [.mp 201 h,.own 202 sv] false)∧M 202=some (.row sv 78 4 ((PR (i*q.length)).map qtA) 0))∧e 11=.sl 4 A∧e 12=iv p.length∧e 13=iv i) (λi=>p.length - i) 0 zr ?_ ?_
 ·rintro i e M ⟨hi,e1,e5,m201,⟨sv,m200,m202⟩,e11,e12,e13⟩
  by_cases hlt:i < p.length
  ·have gpi:=gp i hlt;have kpi:=kp _ (ZB0 hlt);have hsti:=λl h2=>hstep i l hlt h2;have hopi:=hop _ (ZB0 hlt);have hci:∀l,l≤q.length→i*q.length+l≤p.length*q.length:=λl h=>by
    have:=ZB7 q.length (show i+1≤p.length from hlt);rw [ZDi] at this;omega
   have hsucc:(i+1)*q.length=i*q.length+q.length:=ZDi ..;clear gp kp hstep hop;generalize p[i]=u at *;generalize i*q.length=ci at *;obtain⟨u1,u2⟩:=u;simp only at kpi hsti hopi;have gpi:A.getD i .u=.agg [.v (.bool (decide (u1.num < 0))),lim (toL u1.num.natAbs),lim (toL u1.den),.sl 4 (u2.map Qt.av)]:=gpi;have cm0:=fun(v:Rat) (hv:Sz v (k+k))=>Zxv u1 v kpi.1 hv zo zo;have cm0:∀v:Rat,Sz v (k+k)→Pure prog 51 [.agg [.v (.bool (decide (u1.num < 0))),lim (toL u1.num.natAbs),lim (toL u1.den)],ratQ v] (ratQ (u1*v)):=cm0;have ct0:=fun(v:List Qt) (hv:v.length≤n)=>exTimes u2 v (by have:=kpi.2;omega)
   have ct0:∀v:List Qt,v.length≤n→Pure prog 119 [.sl 4 (u2.map Qt.av),qsA v] (qsA (muQ u2 v)):=ct0;have hmq:∀v:List Qt,v.length≤n→(muQ u2 v).length≤1000:=λv hv=>by rw [mu_len];have:=kpi.2;omega
   have hmo:∀v:List Qt,okQ v→∀q∈muQ u2 v,q.b8:=λv hv=>(rgQ.cl _ _ hopi hv).b8;have hsu:∀v:Rat,Sz v (k+k)→Sz (u1*v) (j+j+(k+k)):=λv hv=>kpi.1.mul hv;clear kpi hopi;generalize toL u1.num.natAbs=un at *;generalize toL u1.den=ud at *;generalize decide (u1.num < 0)=us at *;generalize u2.map Qt.av=UQ at *
   (refine wkad (w_11 e1 e5 m200 m201 m202 e11 e12 e13 hpm hqm gpi) w_t w_t (w_s ?_);intros)
   rename_i g7;refine Zad (ι:=Nat) (λl e M=>l≤q.length∧(e 1=.sl 4 B∧e 5=.pbox 200 g 0∧e 11=.sl 4 A∧e 12=iv p.length∧e 13=iv i)∧(M 201=some (.map h (mpE (PR (ci+l))))∧∃sv,M 200=some (.box g 227 [.mp 201 h,.own 202 sv] false)∧M 202=some (.row sv 78 4 ((PR (ci+l)).map qtA) 0))∧(e 7=.pbox 7 g7 0∧M 7=some (.box g7 78 [.v (.bool us),lim un,lim ud,.sl 4 UQ] false))∧e 17=.sl 4 B∧e 18=iv q.length∧e 19=iv l) (λl=>q.length - l) 0 zr ?_ ?_
   ·rintro l e M ⟨hl2,⟨e1,e5,e11,e12,e13⟩,⟨m201,sv,m200,m202⟩,⟨e7,m7⟩,e17,e18,e19⟩
    by_cases hlq:l < q.length
    ·have gql:=gq l hlq;have kql:=kq _ (ZB0 hlq);have hst:=hsti l hlq;have hoql:=hoq _ (ZB0 hlq);obtain⟨a1,a2,a3⟩:=hacc (ci+l) (by have:=hci (l+1) zo;omega);clear gq kq hsti hoq hacc hac0 hdst;generalize q[l]=v at *;obtain⟨v1,v2⟩:=v;simp only at kql hst hoql;have gql:B.getD l .u=.agg [.v (.bool (decide (v1.num < 0))),lim (toL v1.num.natAbs),lim (toL v1.den),.sl 4 (v2.map Qt.av)]:=gql;have cm:=cm0 v1 kql.1;have ct:=ct0 v2 kql.2;have hb:=hmo v2 hoql;have hsz:=hsu v1 kql.1;have hml:=hmq v2 kql.2;have cad:=fun(m:Mem) a b c=>exAdd m 200 201 202 g h sv (PR (ci+l)) (u1*v1) (muQ u2 v2) a b c zo zo zo (ZBv a3 Znu) hml a2 hb (λt ht=>(a1 t ht).1) hsz zo zo
     rw [←hst] at cad;have cm:Pure prog 51 [.agg [.v (.bool us),lim un,lim ud],.agg [.v (.bool (decide (v1.num < 0))),lim (toL v1.num.natAbs),lim (toL v1.den)]] (ratQ (u1*v1)):=cm;have ct:Pure prog 119 [.sl 4 UQ,.sl 4 (v2.map Qt.av)] (.sl 4 ((muQ u2 v2).map Qt.av)):=ct;have cad:∀m:Mem,m 200=some (.box g 227 [.mp 201 h,.own 202 sv] false)→m 201=some (.map h (mpE (PR (ci+l))))→m 202=some (.row sv 78 4 ((PR (ci+l)).map qtA) 0)→ACall prog 118 [.pbox 200 g 0,ratQ (u1*v1),.sl 4 ((muQ u2 v2).map Qt.av)] m _:=cad;clear cm0 ct0 hmo hmq hsu a1 a2 a3 hst hb hml hsz kql;generalize u1*v1=w at *
     generalize (muQ u2 v2).map Qt.av=MQ at *;generalize toL v1.num.natAbs=vn at *;generalize toL v1.den=vd at *;generalize decide (v1.num < 0)=vs at *;generalize v2.map Qt.av=VQ at *
     (refine wkad (w_15 e1 e5 m200 m201 m202 e11 e12 e13 e7 m7 e17 e18 e19 hqm gql) (w_2 cm ct) (w_1 (w_d 8 [(5,ratQ w),(10,.sl 4 MQ)] [11] [])) (w_s ?_);intros)
     refine Zdp (cad _ (gW m200) (gW m201) (gW m202)) ?_
     rintro _ _ ⟨sv2,rfl,rfl⟩
     (refine wkad (w_9 e1 e5 e11 e12 e13 e7 e17 e18 e19) w_t w_t (w_s ?_);intros)
     exact⟨l+1,⟨zo,⟨gW e1,gW e5,gW e11,gW e12,gW e13⟩,⟨gC,sv2,gC,gC⟩,⟨gW e7,gW m7⟩,gW e17,gW e18,gS⟩,zo⟩
    ·have hle:l=q.length:=zo;subst hle;rw [←hsucc] at m201 m202
     (refine wkad (w_14 e1 e5 m200 m201 m202 e11 e12 e13 e7 m7 e17 e18 e19 hqm) w_t w_t (w_s ?_);intros)
     exact⟨i+1,⟨zo,gW e1,gW e5,gW m201,⟨sv,gW m200,gW m202⟩,gW e11,gW e12,gS⟩,zo⟩
   ·exact⟨ZBx _,⟨gW e1,gW e5,gW e11,gW e12,gW e13⟩,⟨gW m201,sv,gW m200,gW m202⟩,⟨gC,gC⟩,gC,gW hqm,gC⟩
  ·have hil:i=p.length:=zo;subst hil;obtain⟨a1,a2,a3⟩:=hacc (p.length*q.length) (ZBp _);have ce:=fun(m:Mem) a b=>exExpr m 200 201 202 300 g h sv (PR (p.length*q.length)) a b a3 hdst a1 zo zo;clear hacc hstep gp gq kp kq hop hoq;generalize PR (p.length*q.length)=S at *;generalize (srtQ ordT (nzT S)).map qtA=R at *
   (refine wkad (w_9 e1 e5 m200 m201 m202 e11 e12 e13 hpm) w_t w_t (w_s ?_);intros)
   refine Zgw (ce _ (gW m200) (gW m202)) ?_;intro sv3
   (refine wkad w_t w_t w_t (w_s ?_);intros)
   all_goals exact gL
 ·exact⟨ZBx _,gC,gC,by rw [ZEa,hac0];exact gC,⟨_,gC,by rw [ZEa,hac0];exact gC⟩,gC,gW hpm,gC⟩
theorem Zz1 (p q:QTs) {j k m n:Nat} (hp:XB p j m) (hq:XB q k n) (hmn:m+n≤maxQ) (hl:p.length*q.length≤100000000) (hpl:p.length≤100000000) (hql:q.length≤100000000) (hj:j≤100000) (hk:k≤100000):Pure prog 66 [qpA p,qpA q] (qpA (mulX p q)) :=
 exMulT p q hp hq hmn (by rw [Ztx];exact hl) hpl hql hj hk
section
attribute [local go_sem] underlying3 underlying4 underlying161 underlying24 underlying26 underlying28 underlying91 underlying76 underlying78 underlying33 underlying34 sz3 by3 z3 szB zB Zas zRat Zav zInt Zau zNat Zag Zar Zah Bool.and_self Zal Zbb zSlQ szQT byQT zQT Za8 zSlT szQP zQP underlying346 underlying47 szFr byFr zFr Zch Zck zSQP
end
attribute [local go_sem] undFnR
def rawQ (a:Rat):RQ:=⟨decide (a.num < 0),toL a.num.natAbs,toL a.den⟩
theorem Zng {a:Rat} {k:Nat} (h:Sz a k):(rawQ a).lm k:=⟨Zaq _,Zaq _,h.1,h.2⟩
theorem Zrd (a:Rat):(rawQ a).ok=true:=by
 unfold rawQ RQ.ok RQ.zok;simp only [ZCj,ZCr,ZD6,ZDv,Zap];refine⟨⟨⟨⟨(Zig (Zaq _)).2 (by rw [Zap]),?_⟩,(Zig (Zaq _)).2 (by rw [Zap])⟩,a.reduced⟩,Zbc.2 (ZDm a.den_nz)⟩;by_cases h:a.num < 0
 ·have:(toL a.num.natAbs).length≠0:=by have:=Zbc.2 (show 0 < a.num.natAbs by omega);omega
  simp [h,this]
 ·simp [h]
theorem Zxt (a:Rat):(rawQ a).q=a:=by
 unfold rawQ RQ.q;simp only [Zap];rw [show zI (decide (a.num < 0)) a.num.natAbs=a.num from by unfold zI;by_cases h:a.num < 0<;>simp [h]<;>omega];exact ZFm a
def cstE (a:Rat):List RE:=[⟨rawQ a,[]⟩]
def ofE (q:Qt):List RE:=[⟨rawQ 1,[q]⟩]
theorem Zys (l:List RE):(∃G,nrmR l=.sl 4 G)∨nrmR l=.v (.slice none 0 0):=by
 unfold nrmR;split
 ·exact .inl ⟨_,rfl⟩
 ·exact .inr rfl
theorem norm_nil {f:Nat} {s:Bool} {x d:List Nat} {NR:AV} (c:Pure prog f [.sl 4 [RE.av ⟨⟨s,x,d⟩,[]⟩]] NR):Pure prog f [.sl 4 [.agg [.v (.bool s),lim x,lim d,.v (.slice none 0 0)]]] NR:=by
 refine Zhh c (.cons (Vk.slL rfl (λe he=>by rw [List.mem_singleton.1 he];rfl) (λe he=>by rw [List.mem_singleton.1 he];rfl) ?_) .nil);exact .cons (.refl _) (.cons (.refl _) (.cons (.refl _) (.cons (.nil 4) .nil)))
theorem Zsg (a:Rat) {J:Nat} (ha:Sz a J) (hJ:J≤1000):Pure prog 55 [ratQ a] (nrmR (cstE a)):=by
 have c:=norm_nil (exNorm (cstE a) (J:=J) (by simp [cstE]) (λt ht=>by rw [List.mem_singleton.1 ht];exact Zng ha) (λt ht=>by rw [List.mem_singleton.1 ht];simp) hJ);show Pure _ _ [.agg [.v (.bool (decide (a.num < 0))),lim (toL a.num.natAbs),lim (toL a.den)]] _;rcases Zys (cstE a) with⟨G,h⟩ | h
 all_goals
  rw [h] at c ⊢;clear h ha;generalize toL a.num.natAbs=x at *;generalize toL a.den=d at *;refine pI func55 rfl ntmps55 results55 call55 ?_
  (refine wkax w_t w_t w_t (w_1 c) w_t w_t w_y (w_r 0) (w_s ?_);intros)
  all_goals exact gL
theorem exOf (q:Qt):Pure prog 64 [q.av] (nrmR (ofE q)):=by
 have c:Pure prog 100 [.sl 4 [.agg [.v (.bool (decide ((1:Rat).num < 0))),lim (toL (1:Rat).num.natAbs),lim (toL (1:Rat).den),.sl 4 [.agg [iv q.k,iv q.a,iv q.b,iv q.c]]]]] (nrmR (ofE q)):=exNorm (ofE q) (J:=1) (by simp [ofE]) (λt ht=>by rw [List.mem_singleton.1 ht];exact Zng (Zm9 (.inr (.inr rfl)))) (λt ht=>by rw [List.mem_singleton.1 ht];simp) zo;have c1:Pure prog 27 [iv 1] (.agg [.v (.bool (decide ((1:Rat).num < 0))),lim (toL (1:Rat).num.natAbs),lim (toL (1:Rat).den)]):=Zo5 1 zo;generalize decide ((1:Rat).num < 0)=s1 at *;generalize toL (1:Rat).num.natAbs=x1 at *;generalize toL (1:Rat).den=d1 at *
 obtain⟨k,a,b,cc⟩:=q;simp only at *;rcases Zys (ofE ⟨k,a,b,cc⟩) with⟨G,h⟩ | h
 ·rw [h] at c ⊢;clear h;refine pI func64 rfl ntmps64 results64 call64 ?_
  (refine wkad w_t (w_2 c1 c) (w_1 (w_d 1 [(0,.agg [.v (.bool s1),lim x1,lim d1]),(2,.sl 4 [.agg [iv k,iv a,iv b,iv cc]]),(4,.sl 4 [.agg [.v (.bool s1),lim x1,lim d1,.sl 4 [.agg [iv k,iv a,iv b,iv cc]]]]),(5,.sl 4 G)] [] [])) (w_s ?_);intros)
  all_goals exact gL
 ·rw [h] at c ⊢;clear h;refine pI func64 rfl ntmps64 results64 call64 ?_
  (refine wkad w_t (w_2 c1 c) (w_1 (w_d 1 [(0,.agg [.v (.bool s1),lim x1,lim d1]),(2,.sl 4 [.agg [iv k,iv a,iv b,iv cc]]),(4,.sl 4 [.agg [.v (.bool s1),lim x1,lim d1,.sl 4 [.agg [iv k,iv a,iv b,iv cc]]]]),(5,.v (.slice none 0 0))] [] [])) (w_s ?_);intros)
  all_goals exact gL
theorem rxOf (q:Qt):Pure prog 73 [q.av] (nrmR (ofE q)):=by
 have c:Pure prog 127 [.sl 4 [.agg [.v (.bool (decide ((1:Rat).num < 0))),lim (toL (1:Rat).num.natAbs),lim (toL (1:Rat).den),.sl 4 [.agg [iv q.k,iv q.a,iv q.b,iv q.c]]]]] (nrmR (ofE q)):=rxNorm (ofE q) (J:=1) (by simp [ofE]) (λt ht=>by rw [List.mem_singleton.1 ht];exact Zng (Zm9 (.inr (.inr rfl)))) (λt ht=>by rw [List.mem_singleton.1 ht];simp) zo;have c1:Pure prog 39 [iv 1] (.agg [.v (.bool (decide ((1:Rat).num < 0))),lim (toL (1:Rat).num.natAbs),lim (toL (1:Rat).den)]):=qOf 1 zo;generalize decide ((1:Rat).num < 0)=s1 at *;generalize toL (1:Rat).num.natAbs=x1 at *;generalize toL (1:Rat).den=d1 at *
 obtain⟨k,a,b,cc⟩:=q;simp only at *;rcases Zys (ofE ⟨k,a,b,cc⟩) with⟨G,h⟩ | h
 ·rw [h] at c ⊢;clear h;refine pI func73 rfl ntmps73 results73 call73 ?_
  (refine wkad w_t (w_2 c1 c) (w_1 (w_d 1 [(0,.agg [.v (.bool s1),lim x1,lim d1]),(2,.sl 4 [.agg [iv k,iv a,iv b,iv cc]]),(4,.sl 4 [.agg [.v (.bool s1),lim x1,lim d1,.sl 4 [.agg [iv k,iv a,iv b,iv cc]]]]),(5,.sl 4 G)] [] [])) (w_s ?_);intros)
  all_goals exact gL
 ·rw [h] at c ⊢;clear h;refine pI func73 rfl ntmps73 results73 call73 ?_
  (refine wkad w_t (w_2 c1 c) (w_1 (w_d 1 [(0,.agg [.v (.bool s1),lim x1,lim d1]),(2,.sl 4 [.agg [iv k,iv a,iv b,iv cc]]),(4,.sl 4 [.agg [.v (.bool s1),lim x1,lim d1,.sl 4 [.agg [iv k,iv a,iv b,iv cc]]]]),(5,.v (.slice none 0 0))] [] [])) (w_s ?_);intros)
  all_goals exact gL
theorem Zs5 (q:QTs):sclT 1 q=q:=by
 unfold sclT;have:(λt:Rat × List Qt=>((1*t.1,t.2):Rat × List Qt))=id:=by funext t;show(1*t.1,t.2)=t;rw [ZFo]
 rw [this,List.map_id]
theorem exPlus (p q:QTs) {j k n:Nat} (hp:QK p j n) (hq:QK q k n) (np:∀t∈p,t.1≠0) (nq:∀t∈q,t.1≠0) (lp:p.length≤100000000) (lq:q.length≤100000000) (hj:j≤900000) (hk:k≤900000) (hn:n≤1000000):Pure prog 69 [qpA p,qpA q] (qpA (Za1 p q)):=by
 have c:=Zz2 _ _ opAdd p q hp hq np nq lp lq hj hk hn;rw [Zs5] at c;have c:Pure prog 116 [.agg [.fn 52 []],.sl 4 (p.map qtA),.sl 4 (q.map qtA)] (.sl 4 ((Za1 p q).map qtA)):=c;show Pure _ _ [.sl 4 (p.map qtA),.sl 4 (q.map qtA)] (.sl 4 ((Za1 p q).map qtA));generalize (Za1 p q).map qtA=R at *;generalize p.map qtA=A at *;generalize q.map qtA=B at *;refine pI func69 rfl ntmps69 results69 call69 ?_
 (refine wkap w_t (w_1 c) (w_r 0) (w_s ?_);intros)
 all_goals exact gL
theorem exMinus (p q:QTs) {j k n:Nat} (hp:QK p j n) (hq:QK q k n) (np:∀t∈p,t.1≠0) (nq:∀t∈q,t.1≠0) (lp:p.length≤100000000) (lq:q.length≤100000000) (hj:j≤900000) (hk:k≤900000) (hn:n≤1000000):Pure prog 65 [qpA p,qpA q] (qpA (Za1 p (sclT (-1) q))):=by
 have c:=Zz2 _ _ opSub p q hp hq np nq lp lq hj hk hn;have c:Pure prog 116 [.agg [.fn 115 []],.sl 4 (p.map qtA),.sl 4 (q.map qtA)] (.sl 4 ((Za1 p (sclT (-1) q)).map qtA)):=c;show Pure _ _ [.sl 4 (p.map qtA),.sl 4 (q.map qtA)] (.sl 4 ((Za1 p (sclT (-1) q)).map qtA));generalize (Za1 p (sclT (-1) q)).map qtA=R at *;generalize p.map qtA=A at *;generalize q.map qtA=B at *;refine pI func65 rfl ntmps65 results65 call65 ?_
 (refine wkap w_t (w_1 c) (w_r 0) (w_s ?_);intros)
 all_goals exact gL
attribute [go_sem] underlying346 underlying47 szFr byFr zFr zSQP
attribute [local go_sem] Zch Zck
theorem xbC (p:QTs) (n:Nat) (h:(∀t∈p,t.1≠0∧(t.2.Pairwise λa b=>Qt.cmp a b≤0)∧(∀q∈t.2,q.norm=(q,1))∧t.2.length≤n∧t.1.den ∣ 1)∧(p.Pairwise λs t=>ordQ s.2 t.2 < 0)∧n1 p≤65535):XB p 1 n :=
 ⟨⟨λt ht=>⟨(h.1 t ht).1,(h.1 t ht).2.1,(h.1 t ht).2.2.1⟩,h.2.1⟩,λt ht=>(h.1 t ht).2.2.2.1,1,65535,by decide,by decide,by decide,⟨λt ht=>(h.1 t ht).2.2.2.2,h.2.2⟩⟩
theorem Zyt {l:List RE} (h:l.all RE.ok=true):nrmR l=qpA (gatM (l.map RE.t)):=by unfold nrmR;rw [ZBo h]
theorem add_C {p q r:QTs} (hp:EX p) (hq:EX q) (h:Go.Pol.sumC ordQ (p++q)=r):Za1 p q=r:=by
 rw [←h,Zm5 Zbq];exact Zia (D:=okQ) Zbq (Zgg Zbq hp hq) (Zgp Zbq λt ht=>(List.mem_append.1 ht).elim (hp.dom t) (hq.dom t)) λφ=>by rw [Zsj Zbq,Zuf Zbq,Zz7]
theorem Zk8 (l:List Qt):qtA ((1:Rat),l)=.agg [.v (.bool false),lim [1],lim [1],qsA l]:=by
 show AV.agg [.v (.bool (decide ((1:Rat).num < 0))),lim (toL (1:Rat).num.natAbs),lim (toL (1:Rat).den),qsA l]=_;rw [show(1:Rat).num=1 from rfl,show(1:Rat).den=1 from rfl,show(1:Int).natAbs=1 from rfl,Zqs];rfl
theorem Zii:Sz (1:Rat) 1:=Zm9 (.inr (.inr rfl))
theorem Znh:ratQ (1:Rat)=.agg [.v (.bool false),lim [1],lim [1]]:=by
 show AV.agg [.v (.bool (decide ((1:Rat).num < 0))),lim (toL (1:Rat).num.natAbs),lim (toL (1:Rat).den)]=_;rw [show(1:Rat).num=1 from rfl,show(1:Rat).den=1 from rfl,show(1:Int).natAbs=1 from rfl,Zqs];rfl
abbrev oneE (q:List Qt):RE:=⟨rawQ 1,q⟩
theorem oneE_t {q:List Qt} (h1:sgP q=1) (h2:putP q=q):RE.t (oneE q)=(1,q):=by
 show((rawQ 1).q*(sgP q:Rat),putP q)=_;rw [Zxt,h1,h2,show((1:Int):Rat)=1 from rfl,ZF0]
theorem awConst1:Pure prog 55 [.agg [.v (.bool false),lim [1],lim [1]]] (.sl 4 [.agg [.v (.bool false),lim [1],lim [1],.sl 4 []]]):=by
 have c:=Zsg 1 Zii zo;rw [Zyt (by show(RE.ok (oneE []) && true)=true;rw [ZF5];show((rawQ 1).ok && true)=true;rw [Zrd];rfl)] at c
 have e:gatM ((cstE 1).map RE.t)=[((1:Rat),[])]:=by
  show gatM [RE.t (oneE [])]=_;rw [oneE_t rfl rfl,Zli,ZBn zd]
 rw [e,Znh] at c;simp only [qpA,ZCs,ZDk,Zk8] at c;exact c
theorem toL_two:toL 2=[2]:=by rw [Zex zo,show 2/65536=0 from rfl,Zay]
theorem Zjt:Sz (2:Rat) 1:=⟨by show(toL 2).length≤1;rw [toL_two];decide,by show(toL 1).length≤1;rw [Zdc];omega⟩
theorem sz_m1:Sz (-1:Rat) 1:=⟨by show(toL 1).length≤1;rw [Zdc];omega,by show(toL 1).length≤1;rw [Zdc];omega⟩
def qOkAt (q:List Qt) (i:Nat):Bool:=decide ((q.getD i Qt.zero).norm=(q.getD i Qt.zero,1)) && (decide (i=0) || decide (Qt.cmp (q.getD (i - 1) Qt.zero) (q.getD i Qt.zero)≤0))
def prodB (q:List Qt):Bool:=(List.range q.length).all (qOkAt q)
def RE.zero:RE:=⟨⟨false,[],[]⟩,[]⟩
def tOkAt (l:List RE) (i:Nat):Bool:=(l.getD i RE.zero).r.ok && (!decide ((l.getD i RE.zero).r.q=0) && (prodB (l.getD i RE.zero).q && (decide (i=0) || decide (ordQ (l.getD (i - 1) RE.zero).q (l.getD i RE.zero).q < 0))))
def rgtB (l:List RE):Bool:=(List.range l.length).all (tOkAt l)
section
attribute [local go_sem] underlying3 underlying4 underlying161 underlying24 underlying26 underlying28 underlying91 underlying76 underlying78 underlying33 underlying34 sz3 by3 z3 szB zB Zas zRat Zav zInt Zau zNat Zag Zar Zah Bool.and_self Zal Zbb zSlQ szQT byQT zQT Za8 zSlT szQP zQP
end
section
attribute [local go_sem] underlying3 underlying4 underlying161 underlying24 underlying26 underlying28 underlying91 underlying76 underlying78 underlying33 underlying34 sz3 by3 z3 szB zB Zas zRat Zav zInt Zau zNat Zag Zar Zah Bool.and_self Zal Zbb zSlQ szQT byQT zQT Za8 zSlT szQP zQP
end
def nrmT (l:List RE):QTs:=if l.all RE.ok=true then gatM (l.map RE.t) else []
section
attribute [local go_sem] underlying3 underlying4 underlying161 underlying24 underlying26 underlying28 underlying91 underlying76 underlying78 underlying33 underlying34 sz3 by3 z3 szB zB Zas zRat Zav zInt Zau zNat Zag Zar Zah Bool.and_self Zal Zbb zSlQ szQT byQT zQT Za8 zSlT szQP zQP underlying346 underlying47 szFr byFr zFr Zch Zck zSQP underlying35 underlying65 underlying9 Za7 zStr
end
section
variable {N n:Nat} {cs:List AV}
end
def smTerm (Q:Nat) (t:RE):Bool:=decide (t.q.length≤Q) && t.r.tiny
def smallB (T Q:Nat) (l:List RE):Bool:=decide (l.length≤T) && (l.all (smTerm Q) && rgtB l)
def RE.rt (t:RE):Rat × List Qt:=(t.r.q,t.q)
def mrgQ:List Qt→List Qt→List Qt
 | a,[]=>a
 | [],y :: b=>y :: b
 | x :: a,y :: b=>if Qt.cmp x y≤0 then x :: mrgQ a (y :: b) else y :: mrgQ (x :: a) b
termination_by a b=>a.length+b.length
theorem Zns (a b:List Qt):(mrgQ a b).Perm (a++b):=by
 fun_induction mrgQ a b with
 | case1 a=>rw [ZC4]
 | case2 y b=>exact .refl _
 | case3 x a y b h ih=>exact ih.cons x
 | case4 x a y b h ih=>exact(ih.cons y).trans List.perm_middle.symm
theorem mrg_asc {a b:List Qt} (ha:Asc Qt.cmp a) (hb:Asc Qt.cmp b):Asc Qt.cmp (mrgQ a b):=by
 fun_induction mrgQ a b with
 | case1 a=>exact ha
 | case2 y b=>exact hb
 | case3 x a y b h ih =>
   have ha':=List.pairwise_cons.1 ha;refine List.pairwise_cons.2 ⟨λz hz=>?_,ih ha'.2 hb⟩;rcases List.mem_append.1 ((Zns _ _).mem_iff.1 hz) with h1 | h1
   ·exact ha'.1 z h1
   ·rcases List.mem_cons.1 h1 with rfl | h1
    ·exact h
    ·exact qtO.le_tr h ((List.pairwise_cons.1 hb).1 z h1)
 | case4 x a y b h ih =>
   have hb':=List.pairwise_cons.1 hb;have hyx:=qtO.le_total x y zo;refine List.pairwise_cons.2 ⟨λz hz=>?_,ih ha hb'.2⟩;rcases List.mem_append.1 ((Zns _ _).mem_iff.1 hz) with h1 | h1
   ·rcases List.mem_cons.1 h1 with rfl | h1
    ·exact hyx
    ·exact qtO.le_tr hyx ((List.pairwise_cons.1 ha).1 z h1)
   ·exact hb'.1 z h1
theorem mrg_eq {a b:List Qt} (ha:Asc Qt.cmp a) (hb:Asc Qt.cmp b):mrgQ a b=muQ a b :=
 Ze6 qtO (mrg_asc ha hb) (Zb5 qtO.cp _) ((Zns a b).trans (Za3 _).symm)
theorem mrg_l {a b:List Qt} {i k:Nat} (hi:i < a.length) (hk:k < b.length) (h:Qt.cmp a[i] b[k]≤0):mrgQ (a.drop i) (b.drop k)=a[i] :: mrgQ (a.drop (i+1)) (b.drop k):=by
 rw [ZDl hi,ZDl hk,mrgQ,ZBo h]
theorem mrg_r {a b:List Qt} {i k:Nat} (hk:k < b.length) (h:∀hi:i < a.length,¬Qt.cmp a[i] b[k]≤0):mrgQ (a.drop i) (b.drop k)=b[k] :: mrgQ (a.drop i) (b.drop (k+1)):=by
 rw [ZDl hk];by_cases hi:i < a.length
 ·rw [ZDl hi,mrgQ,ZBn (h hi)]
 ·rw [ZC9 zo,mrgQ];cases b.drop (k+1)<;>simp [mrgQ]
theorem rxBoth (a b:List Qt) (ha:Asc Qt.cmp a) (hb:Asc Qt.cmp b) (la:a.length≤1000000) (lb:b.length≤1000000):Pure prog 80 [qsA a,qsA b] (qsA (muQ a b)):=by
 have ham:(a.map Qt.av).length=a.length:=ZBr ..;have hbm:(b.map Qt.av).length=b.length:=ZBr ..;have ga:∀i (h:i < a.length),(a.map Qt.av).getD i .u=Qt.av a[i]:=λi h=>Zao Qt.av h;have gb:∀i (h:i < b.length),(b.map Qt.av).getD i .u=Qt.av b[i]:=λi h=>Zao Qt.av h;have hda:∀i,(a.map Qt.av).drop i=(a.drop i).map Qt.av:=λi=>List.map_drop.symm;rw [←mrg_eq ha hb];clear ha hb;show Pure _ _ [.sl 4 (a.map Qt.av),.sl 4 (b.map Qt.av)] (.sl 4 ((mrgQ a b).map Qt.av));generalize a.map Qt.av=A at *;generalize b.map Qt.av=B at *;refine pI func80 rfl ntmps80 results80 call80 ?_
 (refine wkad (w_2 ham hbm) w_t w_t (w_s ?_);intros)
 refine Zad (ι:=Nat × Nat) (λx e m=>(x.1≤b.length∧x.2≤a.length)∧(e 0=.sl 4 A∧e 1=.sl 4 B)∧e 7=iv x.1∧e 6=iv x.2∧∃sv out,e 5=.own 13 sv∧m 13=some (.row sv 91 4 (out.map Qt.av) 0)∧out.length≤x.1+x.2∧mrgQ a b=out++mrgQ (a.drop x.2) (b.drop x.1)) (λx=>b.length - x.1) (0,0) zr ?_ ?_
 ·rintro ⟨k,i0⟩ e m ⟨⟨hk,hi0⟩,⟨e0,e1⟩,e7,e6,sv,out,e5,m13,ho,hs⟩
  simp only at hk hi0 e7 e6 ho hs;by_cases hkl:k < b.length
  ·have gbk:=gb k hkl
   (refine wkad (w_4 e0 e1 e7 hbm) w_t w_t (w_s ?_);intros)
   refine r_loopX (λe m=>(e 0=.sl 4 A∧e 1=.sl 4 B)∧e 7=iv k∧∃i sv out,i≤a.length∧e 6=iv i∧e 5=.own 13 sv∧m 13=some (.row sv 91 4 (out.map Qt.av) 0)∧out.length≤k+i∧mrgQ a b=out++b[k] :: mrgQ (a.drop i) (b.drop (k+1))) 2 ?_ ?_
   ·refine Zad (ι:=Nat) (λi e m=>i≤a.length∧(e 0=.sl 4 A∧e 1=.sl 4 B)∧e 7=iv k∧e 6=iv i∧∃sv out,e 5=.own 13 sv∧m 13=some (.row sv 91 4 (out.map Qt.av) 0)∧out.length≤k+i∧mrgQ a b=out++mrgQ (a.drop i) (b.drop k)) (λi=>a.length - i) i0 zr ?_ ?_
    ·rintro i e m ⟨hi,⟨e0,e1⟩,e7,e6,sv,out,e5,m13,ho,hs⟩
     have hol:(out.map Qt.av).length=out.length:=ZBr ..;by_cases hil:i < a.length
     ·have gai:=ga i hil;have cc:=rqCmp a[i].k a[i].a a[i].b a[i].c b[k].k b[k].a b[k].b b[k].c;by_cases hz:Qt.cmp a[i] b[k]≤0
      ·rw [mrg_l hil hkl hz] at hs;have hmp:(out++[a[i]]).map Qt.av=out.map Qt.av++[Qt.av a[i]]:=by rw [ZCb];rfl
       have hs2:mrgQ a b=(out++[a[i]])++mrgQ (a.drop (i+1)) (b.drop k):=by rw [hs,ZCz];rfl
       clear hs;have hlo:(out++[a[i]]).length≤k+(i+1):=by rw [ZCh,ZB2,ZCe];omega
       generalize out++[a[i]]=out' at *;clear ga gb hda;generalize a[i]=x at *;generalize b[k]=y at *;generalize hz1:Qt.cmp x y=z at *;clear hz1;generalize out.map Qt.av=O at *;obtain⟨x1,x2,x3,x4⟩:=x;obtain⟨y1,y2,y3,y4⟩:=y;simp only at *
       (refine wkad (w_12 e0 e1 e7 e6 e5 m13 ham hbm gai gbk hz hol) (w_1 cc) (w_1 (w_d 6 [(13,iv z)] [] [])) (w_s ?_);intros)
       exact⟨i+1,⟨zo,⟨gW e0,gW e1⟩,gW e7,gS,_,out',gC,by rw [hmp];exact gC,hlo,hs2⟩,zo⟩
      ·rw [mrg_r hkl (λ_=>hz)] at hs;clear ga gb hda;generalize a[i]=x at *;generalize b[k]=y at *;generalize hz1:Qt.cmp x y=z at *;clear hz1;generalize hO:out.map Qt.av=O at *;obtain⟨x1,x2,x3,x4⟩:=x;obtain⟨y1,y2,y3,y4⟩:=y;simp only at *
       (refine wkad (w_12 e0 e1 e7 e6 e5 m13 ham hbm gai gbk hz hol) (w_1 cc) (w_1 (w_d 6 [(13,iv z)] [] [])) (w_s ?_);intros)
       exact⟨rfl,⟨gW e0,gW e1⟩,gW e7,i,sv,out,hi,gW e6,gW e5,by rw [hO];exact gW m13,ho,hs⟩
     ·rw [mrg_r hkl (λh=>absurd h hil)] at hs;have hil':¬(i:Int) < (a.length:Int):=zo
      (refine wkad (w_8 e0 e1 e7 e6 e5 m13 ham hil') w_t (w_1 (w_d 6 [] [] [])) (w_s ?_);intros)
      exact⟨rfl,⟨gW e0,gW e1⟩,gW e7,i,sv,out,hi,gW e6,gW e5,gW m13,ho,hs⟩
    ·exact⟨hi0,⟨gW e0,gW e1⟩,gW e7,gW e6,sv,out,gW e5,gW m13,ho,hs⟩
   ·clear e5 m13 hs ho e0 e1 e7 e6
    rintro e m ⟨⟨e0,e1⟩,e7,i,sv,out,hi,e6,e5,m13,ho,hs⟩
    have hol:(out.map Qt.av).length=out.length:=ZBr ..;have hmp:(out++[b[k]]).map Qt.av=out.map Qt.av++[Qt.av b[k]]:=by rw [ZCb];rfl
    have hs2:mrgQ a b=(out++[b[k]])++mrgQ (a.drop i) (b.drop (k+1)):=by rw [hs,ZCz];rfl
    clear hs;have hlo:(out++[b[k]]).length≤k+1+i:=by rw [ZCh,ZB2,ZCe];omega
    generalize out++[b[k]]=out' at *;clear ga gb hda;generalize b[k]=y at *;generalize out.map Qt.av=O at *;obtain⟨y1,y2,y3,y4⟩:=y
    (refine wkad (w_9 e0 e1 e7 e6 e5 m13 hbm gbk hol) w_t w_t (w_s ?_);intros)
    exact⟨(k+1,i),⟨⟨by show k+1≤b.length;omega,hi⟩,⟨gW e0,gW e1⟩,gS,gW e6,_,out',gC,by rw [hmp];exact gC,hlo,hs2⟩,by show b.length - (k+1) < b.length - k;omega⟩
  ·have hkb:k=b.length:=zo;subst hkb;have hol:(out.map Qt.av).length=out.length:=ZBr ..;rw [ZC9 (ZBp b.length),mrgQ] at hs;have hmp:(mrgQ a b).map Qt.av=out.map Qt.av++A.drop i0:=by rw [hs,ZCb,hda]
   rw [hmp];have hdl:(A.drop i0).length=a.length - i0:=by rw [ZDo,ham]
   have htk:A.take a.length=A:=ZDf zo;generalize out.map Qt.av=O at *
   (refine wkad (w_11 e0 e1 e7 e6 e5 m13 ham hbm hol hdl htk) w_t w_t (w_s ?_);intros)
   all_goals exact gL
 ·exact⟨⟨ZBx _,ZBx _⟩,⟨gC,gC⟩,gC,gC,_,[],gC,gC,ZBx _,rfl⟩
theorem XB.gh {p q:QTs} {j k m n:Nat} (hp:XB p j m) (hq:XB q k n):GH (prodL muQ p q) (j+k+(j+k)) (m+n):=by
 obtain⟨a,b,D,B,c,d,e,f⟩:=hp;obtain⟨a',b',D',B',c',d',e',f'⟩:=hq;exact GH.of_nb (f.prodL f') (ZEf c c') (by rw [ZCx];exact ZE5 d d') (by rw [ZCx];exact ZE5 e e') (Zil b b')
theorem rxMul (p q:QTs) {j k m n:Nat} (hp:XB p j m) (hq:XB q k n) (hm:m≤100000) (hn:n≤100000) (hl:p.length*q.length≤100000000) (hpl:p.length≤100000000) (hql:q.length≤100000000) (hj:j≤100000) (hk:k≤100000):Pure prog 40 [qpA p,qpA q] (qpA (mulX p q)):=by
 have hpm:(p.map qtA).length=p.length:=ZBr ..;have hqm:(q.map qtA).length=q.length:=ZBr ..;have gp:∀i (h:i < p.length),(p.map qtA).getD i .u=qtA p[i]:=λi h=>Zao qtA h;have gq:∀i (h:i < q.length),(q.map qtA).getD i .u=qtA q[i]:=λi h=>Zao qtA h;have kp:=hp.qk;have kq:=hq.qk;have hop:∀t∈p,okQ t.2:=hp.1.dom;have hoq:∀t∈q,okQ t.2:=hq.1.dom;have hPl:(prodL muQ p q).length=p.length*q.length:=Zim ..;have hstep:∀i l (h1:i < p.length) (h2:l < q.length),(prodL muQ p q).take (i*q.length+l+1)=(prodL muQ p q).take (i*q.length+l)++[(p[i].1*q[l].1,muQ p[i].2 q[l].2)]:=λi l h1 h2=>Zkr (Znk h1 h2)
 have cg:=Zs7 _ _ hPl (hp.gh hq) hl zo zo;have hfull:(prodL muQ p q).take (p.length*q.length)=prodL muQ p q:=ZDf zo;have htl:∀c,((prodL muQ p q).take c).length≤100000000:=λc=>by rw [ZB9];omega
 have ht0:(prodL muQ p q).take 0=[]:=ZEs;have cg:Pure prog 81 [.sl 4 (((prodL muQ p q).take (p.length*q.length)).map qtA)] (.sl 4 ((mulX p q).map qtA)):=by rw [hfull];exact cg
 clear hfull hPl hp hq;generalize mulX p q=RR at *;generalize hPR:(λc=>(prodL muQ p q).take c)=PR at *;have hPR:∀c,(prodL muQ p q).take c=PR c:=λc=>by rw [←hPR]
 simp only [hPR] at hstep cg htl ht0;clear hPR;show Pure _ _ [.sl 4 (p.map qtA),.sl 4 (q.map qtA)] (.sl 4 (RR.map qtA));generalize RR.map qtA=R at *;generalize p.map qtA=A at *;generalize q.map qtA=B at *;refine pI func40 rfl ntmps40 results40 call40 ?_
 (refine wkad w_t w_t w_t (w_s ?_);intros)
 refine Zea (Frz.nilOwn (d:=5) 45 4 78 (gC)) ?_;refine Zad (ι:=Nat) (λi e M=>i≤p.length∧(e 0=.sl 4 A∧e 1=.sl 4 B)∧e 6=iv i∧∃sv,e 5=.own 45 sv∧M 45=some (.row sv 78 4 ((PR (i*q.length)).map qtA) 0)) (λi=>p.length - i) 0 zr ?_ ?_
 ·rintro i e M ⟨hi,⟨e0,e1⟩,e6,sv,e5,m45⟩
  by_cases hlt:i < p.length
  ·have gpi:=gp i hlt;have kpi:=kp _ (ZB0 hlt);have hsti:=λl h2=>hstep i l hlt h2;have hopi:=hop _ (ZB0 hlt);have hsucc:(i+1)*q.length=i*q.length+q.length:=ZDi ..;clear gp kp hstep hop cg ht0;generalize p[i]=u at *;generalize i*q.length=ci at *;obtain⟨u1,u2⟩:=u;simp only at kpi hsti hopi;have gpi:A.getD i .u=.agg [.v (.bool (decide (u1.num < 0))),lim (toL u1.num.natAbs),lim (toL u1.den),.sl 4 (u2.map Qt.av)]:=gpi;have cm0:=fun(v:Rat) (hv:Sz v (k+k))=>qMul u1 v kpi.1 hv zo zo;have cm0:∀v:Rat,Sz v (k+k)→Pure prog 76 [.agg [.v (.bool (decide (u1.num < 0))),lim (toL u1.num.natAbs),lim (toL u1.den)],ratQ v] (ratQ (u1*v)):=cm0
   have ct0:=fun(v:List Qt) (ho:okQ v) (hv:v.length≤n)=>rxBoth u2 v hopi.1 ho.1 (by have:=kpi.2;omega) zo;have ct0:∀v:List Qt,okQ v→v.length≤n→Pure prog 80 [.sl 4 (u2.map Qt.av),qsA v] (qsA (muQ u2 v)):=ct0;clear kpi hopi;generalize toL u1.num.natAbs=un at *;generalize toL u1.den=ud at *;generalize decide (u1.num < 0)=us at *;generalize u2.map Qt.av=UQ at *
   (refine wkad (w_6 e0 e1 e5 m45 e6 hpm) w_t w_t (w_s ?_);intros)
   refine Zad (ι:=Nat) (λl e M=>l≤q.length∧(e 0=.sl 4 A∧e 1=.sl 4 B)∧e 6=iv i∧e 7=iv l∧∃sv,e 5=.own 45 sv∧M 45=some (.row sv 78 4 ((PR (ci+l)).map qtA) 0)) (λl=>q.length - l) 0 zr ?_ ?_
   ·clear e5 m45 e0 e1 e6
    rintro l e M ⟨hl2,⟨e0,e1⟩,e6,e7,sv,e5,m45⟩
    have hol:((PR (ci+l)).map qtA).length≤100000000:=by rw [ZBr];exact htl _
    by_cases hlq:l < q.length
    ·have gql:=gq l hlq;have kql:=kq _ (ZB0 hlq);have hst:=hsti l hlq;have hoql:=hoq _ (ZB0 hlq);clear gq kq hsti hoq htl;generalize q[l]=v at *;obtain⟨v1,v2⟩:=v;simp only at kql hst hoql;have gql:B.getD l .u=.agg [.v (.bool (decide (v1.num < 0))),lim (toL v1.num.natAbs),lim (toL v1.den),.sl 4 (v2.map Qt.av)]:=gql;have cm:=cm0 v1 kql.1;have ct:=ct0 v2 hoql kql.2;have cm:Pure prog 76 [.agg [.v (.bool us),lim un,lim ud],.agg [.v (.bool (decide (v1.num < 0))),lim (toL v1.num.natAbs),lim (toL v1.den)]] (.agg [.v (.bool (decide ((u1*v1).num < 0))),lim (toL (u1*v1).num.natAbs),lim (toL (u1*v1).den)]):=cm
     have ct:Pure prog 80 [.sl 4 UQ,.sl 4 (v2.map Qt.av)] (.sl 4 ((muQ u2 v2).map Qt.av)):=ct;have hmp:(PR (ci+(l+1))).map qtA=(PR (ci+l)).map qtA++[.agg [.v (.bool (decide ((u1*v1).num < 0))),lim (toL (u1*v1).num.natAbs),lim (toL (u1*v1).den),.sl 4 ((muQ u2 v2).map Qt.av)]]:=by rw [show ci+(l+1)=ci+l+1 from rfl,hst,ZCb];rfl
     clear cm0 ct0 hst kql;generalize (PR (ci+l)).map qtA=O at *;generalize toL (u1*v1).num.natAbs=wn at *;generalize toL (u1*v1).den=wd at *;generalize decide ((u1*v1).num < 0)=ws at *;generalize (muQ u2 v2).map Qt.av=MQ at *;generalize toL v1.num.natAbs=vn at *;generalize toL v1.den=vd at *;generalize decide (v1.num < 0)=vs at *;generalize v2.map Qt.av=VQ at *
     (refine wkad (w_10 e0 e1 e6 e7 e5 m45 hpm hqm gpi gql) (w_2 cm ct) (w_1 (w_d 8 [(11,.agg [.v (.bool ws),lim wn,lim wd]),(22,.sl 4 MQ)] [25,1025] [44,45])) (w_s ?_);intros)
     exact⟨l+1,⟨zo,⟨gW e0,gW e1⟩,gW e6,gS,_,gC,by rw [hmp];exact gC⟩,zo⟩
    ·have hle:l=q.length:=zo;subst hle;rw [←hsucc] at m45
     (refine wkad (w_7 e0 e1 e6 e7 e5 m45 hqm) w_t w_t (w_s ?_);intros)
     exact⟨i+1,⟨zo,⟨gW e0,gW e1⟩,gS,sv,gW e5,gW m45⟩,zo⟩
   ·exact⟨ZBx _,⟨gW e0,gW e1⟩,gW e6,gC,sv,gW e5,gW m45⟩
  ·have hil:i=p.length:=zo;subst hil;have hol:=htl (p.length*q.length);clear hstep gp gq kp kq hop hoq htl ht0;generalize PR (p.length*q.length)=S at *;have hll:(S.map qtA).length≤100000000:=by rw [ZBr];exact hol
   generalize S.map qtA=O at *
   (refine wkax (w_6 e0 e1 e6 e5 m45 hpm) w_t w_t (w_1 cg) w_t w_t w_y (w_r 0) (w_s ?_);intros)
   all_goals exact gL
 ·exact⟨ZBx _,⟨gC,gC⟩,gC,_,gC,by rw [ZEa,ht0];exact gC⟩
theorem Zxg (p:QTs) (c:Rat) {j k n:Nat} (hp:QK p j n) (hc:Sz c k) (h0:c≠0) (hl:p.length≤100000000) (hj:j≤400000) (hk:k≤400000):Pure prog 38 [qpA p,ratQ c] (qpA (Zbh c p)):=by
 have hpm:(p.map qtA).length=p.length:=ZBr ..;have gp:∀i (h:i < p.length),(p.map qtA).getD i .u=qtA p[i]:=λi h=>Zao qtA h;have cz:=qSign c hc zo;have hz:¬c.num.sign=0:=by rw [Zc4];exact h0
 have hstep:∀i (h:i < p.length),(Zbh c p).take (i+1)=(Zbh c p).take i++[(p[i].1*c,p[i].2)]:=λi h=>Zkr (by unfold Zbh;rw [ZCw,ZBz h];rfl);have hfull:Zbh c p=(Zbh c p).take p.length:=(ZDf (by unfold Zbh;rw [ZBr];exact ZBp _)).symm;have ht0:(Zbh c p).take 0=[]:=ZEs;have htl:∀i,((Zbh c p).take i).length≤100000000:=λi=>by rw [ZB9];unfold Zbh;rw [ZBr];omega
 rw [hfull];clear hfull;generalize hPR:(λc'=>(Zbh c p).take c')=PR at *;have hPR:∀i,(Zbh c p).take i=PR i:=λi=>by rw [←hPR]
 simp only [hPR] at hstep htl ht0 ⊢;clear hPR;have cm0:=fun(u:Rat) (hu:Sz u j)=>qMul u c hu hc zo zo;show Pure _ _ [.sl 4 (p.map qtA),.agg [.v (.bool (decide (c.num < 0))),lim (toL c.num.natAbs),lim (toL c.den)]] (.sl 4 ((PR p.length).map qtA));have cm0:∀u:Rat,Sz u j→Pure prog 76 [ratQ u,.agg [.v (.bool (decide (c.num < 0))),lim (toL c.num.natAbs),lim (toL c.den)]] (ratQ (u*c)):=cm0;have cz:Pure prog 75 [.agg [.v (.bool (decide (c.num < 0))),lim (toL c.num.natAbs),lim (toL c.den)]] (iv c.num.sign):=cz;clear hc h0;generalize c.num.sign=z at *;generalize toL c.num.natAbs=cn at *;generalize toL c.den=cd at *
 generalize decide (c.num < 0)=cs at *;generalize p.map qtA=A at *;refine pI func38 rfl ntmps38 results38 call38 ?_
 (refine wkad w_t w_t w_t (w_s ?_);intros)
 rename_i g3;refine Zea (Frz.nilOwn (d:=5) 33 4 78 (gC)) ?_;refine Zad (ι:=Nat) (λi e M=>i≤p.length∧e 0=.sl 4 A∧e 3=.pbox 3 g3 0∧M 3=some (.box g3 28 [.v (.bool cs),lim cn,lim cd] false)∧e 6=iv i∧∃sv,e 5=.own 33 sv∧M 33=some (.row sv 78 4 ((PR i).map qtA) 0)) (λi=>p.length - i) 0 zr ?_ ?_
 ·rintro i e M ⟨hi,e0,e3,m3,e6,sv,e5,m33⟩
  have hol:((PR i).map qtA).length≤100000000:=by rw [ZBr];exact htl _
  by_cases hlt:i < p.length
  ·have gpi:=gp i hlt;have kpi:=hp _ (ZB0 hlt);have hst:=hstep i hlt;clear gp hp hstep htl ht0;generalize p[i]=u at *;obtain⟨u1,u2⟩:=u;simp only at kpi hst;have gpi:A.getD i .u=.agg [.v (.bool (decide (u1.num < 0))),lim (toL u1.num.natAbs),lim (toL u1.den),.sl 4 (u2.map Qt.av)]:=gpi;have cm:=cm0 u1 kpi.1;have cm:Pure prog 76 [.agg [.v (.bool (decide (u1.num < 0))),lim (toL u1.num.natAbs),lim (toL u1.den)],.agg [.v (.bool cs),lim cn,lim cd]] (.agg [.v (.bool (decide ((u1*c).num < 0))),lim (toL (u1*c).num.natAbs),lim (toL (u1*c).den)]):=cm;have hmp:(PR (i+1)).map qtA=(PR i).map qtA++[.agg [.v (.bool (decide ((u1*c).num < 0))),lim (toL (u1*c).num.natAbs),lim (toL (u1*c).den),.sl 4 (u2.map Qt.av)]]:=by rw [hst,ZCb];rfl
   clear cm0 hst kpi;generalize (PR i).map qtA=O at *;generalize toL (u1*c).num.natAbs=wn at *;generalize toL (u1*c).den=wd at *;generalize decide ((u1*c).num < 0)=ws at *;generalize toL u1.num.natAbs=un at *;generalize toL u1.den=ud at *;generalize decide (u1.num < 0)=us at *;generalize u2.map Qt.av=UQ at *
   (refine wkad (w_9 e0 e3 m3 e6 e5 m33 hpm gpi hz) (w_2 cz cm) (w_1 (w_d 5 [(7,.agg [.v (.bool ws),lim wn,lim wd])] [15,1015] [32,33])) (w_s ?_);intros)
   exact⟨i+1,⟨zo,gW e0,gW e3,gW m3,gS,_,gC,by rw [hmp];exact gC⟩,zo⟩
  ·have hil:i=p.length:=zo;subst hil;clear hstep gp hp htl ht0 cm0;have hlt':¬(p.length:Int) < (p.length:Int):=zo;generalize (PR p.length).map qtA=O at *
   (refine wkad (w_8 e0 e3 m3 e6 e5 m33 hpm hlt') w_t w_t (w_s ?_);intros)
   all_goals (all_goals (try simp (disch:=omega) only [go_sem,m33,hol,ZBw,ZBy,ZBo,ZBn,Int.reduceAdd,Int.reduceSub,Int.reduceToNat,ZB3]));(all_goals first|done|rfl|(congr 2;first|done|omega|(rw [ZCf];simp only [bool_to_prop,ZB1,ZCl,ZCm,ZCn,ZCo];omega))|skip)
   all_goals exact⟨⟨rfl,rfl⟩,rfl⟩
 ·exact⟨ZBx _,gC,gC,gC,gC,_,gC,by rw [ht0];exact gC⟩
theorem rxPlus (p q:QTs) {j k n:Nat} (hp:QK p j n) (hq:QK q k n) (lp:p.length≤100000000) (lq:q.length≤100000000) (hj:j≤900000) (hk:k≤900000) (hn:n≤1000000):Pure prog 37 [qpA p,qpA q] (qpA (Za1 p q)):=by
 have c:=rxJoin p q hp hq lp lq zo zo hn;show Pure _ _ [.sl 4 (p.map qtA),.sl 4 (q.map qtA)] (.sl 4 ((Za1 p q).map qtA));have c:Pure _ _ [.sl 4 (p.map qtA),.sl 4 (q.map qtA)] (.sl 4 ((Za1 p q).map qtA)):=c;generalize (Za1 p q).map qtA=R at *;generalize p.map qtA=A at *;generalize q.map qtA=B at *;refine pI func37 rfl ntmps37 results37 call37 ?_
 (refine wkap w_t (w_1 c) (w_r 0) (w_s ?_);intros)
 all_goals exact gL
theorem fst_of {α:Type} (F:α→Bool) (l:List α):∃n,n≤l.length∧(∀j (h:j < l.length),j < n→F l[j]=false)∧(∀h:n < l.length,F l[n]=true)∧l.any F=decide (n < l.length):=by
 induction l with
 | nil=>exact⟨0,by simp,by simp,by simp,by simp⟩
 | cons a l ih =>
   obtain⟨n,h1,h2,h3,h4⟩:=ih
   cases ha:F a with
   | true=>exact⟨0,by simp,λj h h'=>zo,λ_=>ha,by simp [ha]⟩
   | false =>
     refine⟨n+1,by simpa using h1,λj h h'=>?_,λh=>h3 (by simpa using h),by simp [ha,h4]⟩
     cases j with
     | zero=>exact ha
     | succ j=>exact h2 j (by simpa using h) zo
theorem Ztj (q:Qt):q.pts.length≤40:=by
 unfold Qt.pts;split
 ·rw [ZBr];exact ZBv (ZGa _ _) zs
 ·simp
theorem slIdxI (l:List Int) (x:Int) (hl:l.length≤1000000):∃z:Int,Pure prog 274 [ivs l,iv x] (iv z)∧decide (0≤z)=l.any λt=>decide (x=t):=by
 have hlm:(l.map iv).length=l.length:=ZBr ..;have hg:∀i (h:i < l.length),(l.map iv).getD i .u=iv l[i]:=λi h=>Zao iv h;obtain⟨n,h1,h2,h3,h4⟩:=fst_of (λt:Int=>decide (x=t)) l;refine⟨if n < l.length then (n:Int) else -1,?_,?_⟩
 ·show Pure _ _ [.sl 1 (l.map iv),iv x] _;generalize l.map iv=L at *;refine pI func274 rfl ntmps274 results274 call274 ?_
  (refine wkap (w_1 hlm) w_t (w_r 0) (w_s ?_);intros)
  refine Zad (ι:=Nat) (λk e m=>k≤n∧e 0=.sl 1 L∧e 1=iv x∧e 7=iv l.length∧e 8=iv k) (λk=>n - k) 0 zr ?_ ?_
  ·rintro k e m ⟨hk,e0,e1,e7,e8⟩
   by_cases hlt:k < l.length
   ·have hgk:=hg k hlt;by_cases hkn:k < n
    ·have hb:=of_decide_eq_false (h2 k hlt hkn);generalize l[k]=a at *
     (refine wkap (w_7 e0 e1 e7 e8 hgk hlm hb) w_t (w_r 0) (w_s ?_);intros)
     exact⟨k+1,⟨zo,gW e0,gW e1,gW e7,gS⟩,zo⟩
    ·have hkn:k=n:=zo;subst hkn;have hb:=ZGz (h3 hlt);rw [ZBo hlt];rw [←hb] at hgk;clear hb
     (refine wkap (w_6 e0 e1 e7 e8 hgk hlm) w_t (w_r 0) (w_s ?_);intros)
     all_goals exact gL
   ·rw [ZBn zo]
    (refine wkap (w_5 e0 e1 e7 e8 hlm) w_t (w_r 0) (w_s ?_);intros)
    all_goals exact gL
  ·exact⟨ZBx _,gC,gC,gW hlm,gC⟩
 ·rw [h4,ZCf,ZCr,ZCr];split<;>omega
theorem Zw7 (l:List Int) (x:Int) (hl:l.length≤1000000):Pure prog 230 [ivs l,iv x] (.v (.bool (l.any λt=>decide (x=t)))):=by
 obtain⟨z,c,hz⟩:=slIdxI l x hl;rw [←hz];show Pure _ _ [.sl 1 (l.map iv),iv x] _;have c:Pure _ _ [.sl 1 (l.map iv),iv x] _:=c;generalize l.map iv=L at *;refine pI func230 rfl ntmps230 results230 call230 ?_
 (refine wkap w_t (w_1 c) (w_r 0) (w_s ?_);intros)
 all_goals exact gL
def hasQ (x:Int) (q:Qt):Bool:=q.pts.any λt=>decide (x=t)
def hasP (x:Int) (p:List Qt):Bool:=p.any (hasQ x)
def hasT (x:Int) (p:QTs):Bool:=p.any λt=>hasP x t.2
theorem Zut {α:Type} {f:α→Bool} {l:List α} {i:Nat} (h:i < l.length) (h1:(l.take i).any f=false) (h2:f l[i]=false):(l.take (i+1)).any f=false:=by
 rw [ZEd h,List.any_append,h1];simp [h2]
theorem ZA9 {α:Type} {f:α→Bool} {l:List α} {i:Nat} (h:i < l.length) (h2:f l[i]=true):l.any f=true:=List.any_eq_true.2 ⟨_,ZB0 h,h2⟩
theorem exHas (p:QTs) (x:Int) (hl:p.length≤1000000) (hq:∀t∈p,t.2.length≤1000000):Pure prog 165 [.sl 4 (p.map qtA),iv x] (.v (.bool (hasT x p))):=by
 have hlm:(p.map qtA).length=p.length:=ZBr ..;have hg:∀i (h:i < p.length),(p.map qtA).getD i .u=.agg [.v (.bool (decide (p[i].1.num < 0))),lim (toL p[i].1.num.natAbs),lim (toL p[i].1.den),.sl 4 (p[i].2.map Qt.av)]:=λi h=>Zao qtA h;have hq2:∀i (h:i < p.length),p[i].2.length≤1000000:=λi h=>hq _ (ZB0 h);generalize p.map qtA=P at *;refine pI func165 rfl ntmps165 results165 call165 ?_
 (refine wkap (w_1 hlm) w_t (w_r 0) (w_s ?_);intros)
 refine Zad (ι:=Nat) (λi e m=>i≤p.length∧(e 1=iv x∧e 9=.sl 4 P∧e 10=iv p.length∧e 11=iv i)∧(p.take i).any (λt=>hasP x t.2)=false) (λi=>p.length - i) 0 zr ?_ ?_
 ·rintro i e m ⟨hi,⟨e1,e9,e10,e11⟩,hc⟩
  by_cases hlt:i < p.length
  ·have hgi:=hg i hlt;have hqi:=hq2 i hlt;have hqm:(p[i].2.map Qt.av).length=p[i].2.length:=ZBr ..;have hqe:∀b (h:b < p[i].2.length),(p[i].2.map Qt.av).getD b .u=.agg [iv p[i].2[b].k,iv p[i].2[b].a,iv p[i].2[b].b,iv p[i].2[b].c]:=λb h=>Zao Qt.av h;have hst:hasP x p[i].2=false→(p.take (i+1)).any (λt=>hasP x t.2)=false:=Zut hlt hc;have hht:hasP x p[i].2=true→hasT x p=true:=ZA9 (f:=λt:Rat × List Qt=>hasP x t.2) hlt;generalize p[i].2=w at *;generalize w.map Qt.av=qs at *
   (refine wkap (w_7 e1 e9 e10 e11 hlm hgi hqm) w_t (w_r 0) (w_s ?_);intros)
   refine Zad (ι:=Nat) (λb e m=>b≤w.length∧(e 1=iv x∧e 9=.sl 4 P∧e 10=iv p.length∧e 11=iv i∧e 16=.sl 4 qs∧e 17=iv w.length∧e 18=iv b)∧(w.take b).any (hasQ x)=false) (λb=>w.length - b) 0 zr ?_ ?_
   ·rintro b e m ⟨hb,⟨e1,e9,e10,e11,e16,e17,e18⟩,hcb⟩
    by_cases hbl:b < w.length
    ·have hqb:=hqe b hbl;have cp:Pure prog 231 [.agg [iv w[b].k,iv w[b].a,iv w[b].b,iv w[b].c]] (ivs w[b].pts):=Zkc w[b].k w[b].a w[b].b w[b].c;have cc:=Zw7 w[b].pts x (by have:=Ztj w[b];omega);have hs2:hasQ x w[b]=false→(w.take (b+1)).any (hasQ x)=false:=Zut hbl hcb;have hh2:hasQ x w[b]=true→hasP x w=true:=ZA9 (f:=hasQ x) hbl;have hqd:(w[b].pts.any λt=>decide (x=t))=hasQ x w[b]:=rfl;rw [hqd] at cc;generalize w[b].pts.map iv=pp at *
     cases hv:hasQ x w[b] with
     | true =>
       rw [hv] at cc;rw [hht (hh2 hv)];clear hs2 hh2 hst hht;generalize w[b]=y at *;obtain⟨y1,y2,y3,y4⟩:=y;simp only at *;generalize (Qt.pts ⟨y1,y2,y3,y4⟩)=pts at *
       (refine wkap (w_9 e1 e9 e10 e11 e16 e17 e18 hqm hqb) (w_2 cp cc) (w_r 0) (w_s ?_);intros)
       all_goals exact gL
     | false =>
       rw [hv] at cc;have hs3:=hs2 hv;clear hs2 hh2 hst hht;generalize w[b]=y at *;obtain⟨y1,y2,y3,y4⟩:=y;simp only at *;generalize (Qt.pts ⟨y1,y2,y3,y4⟩)=pts at *
       (refine wkap (w_9 e1 e9 e10 e11 e16 e17 e18 hqm hqb) (w_2 cp cc) (w_r 0) (w_s ?_);intros)
       exact⟨b+1,⟨zo,⟨gW e1,gW e9,gW e10,gW e11,gW e16,gW e17,gS⟩,hs3⟩,zo⟩
    ·have:b=w.length:=zo;subst this;rw [ZDc] at hcb;have hs3:=hst hcb
     (refine wkap (w_8 e1 e9 e10 e11 e16 e17 e18 hqm) w_t (w_r 0) (w_s ?_);intros)
     exact⟨i+1,⟨zo,⟨gW e1,gW e9,gW e10,gS⟩,hs3⟩,zo⟩
   ·exact⟨ZBx _,⟨gW e1,gW e9,gW e10,gW e11,gC,gW hqm,gC⟩,rfl⟩
  ·have:i=p.length:=zo;subst this;rw [ZDc] at hc;rw [show hasT x p=false from hc]
   (refine wkap (w_5 e1 e9 e10 e11 hlm) w_t (w_r 0) (w_s ?_);intros)
   all_goals exact gL
 ·exact⟨ZBx _,⟨gC,gC,gW hlm,gC⟩,rfl⟩
theorem rxMinus (p q:QTs) {j k n:Nat} (hp:QK p j n) (hq:QK q k n) (lp:p.length≤100000000) (lq:q.length≤100000000) (hj:j≤300000) (hk:k≤300000) (hn:n≤1000000):Pure prog 35 [qpA p,qpA q] (qpA (Za1 p (sclT (-1) q))):=by
 have hs:Sz (-1:Rat) 1:=⟨by show(toL 1).length≤1;rw [Zdc];omega,by show(toL 1).length≤1;rw [Zdc];omega⟩;have c1:=Zxg q (-1) hq hs zd lq zo zo;have hq2:QK (Zbh (-1) q) (k+1) n:=λt ht=>by
  obtain⟨u,hu,rfl⟩:=List.mem_map.1 ht;exact⟨(hq u hu).1.mul hs,(hq u hu).2⟩
 have c2:=rxPlus p (Zbh (-1) q) hp hq2 lp (by unfold Zbh;rw [ZBr];exact lq) zo zo hn;have he:Zbh (-1) q=sclT (-1) q:=ZEo λt _=>by rw [Rat.mul_comm]
 rw [he] at c1 c2;have c0:Pure prog 39 [iv (-1)] (.agg [.v (.bool (decide ((-1:Rat).num < 0))),lim (toL (-1:Rat).num.natAbs),lim (toL (-1:Rat).den)]):=qOfM;have c1:Pure prog 38 [.sl 4 (q.map qtA),.agg [.v (.bool (decide ((-1:Rat).num < 0))),lim (toL (-1:Rat).num.natAbs),lim (toL (-1:Rat).den)]] (.sl 4 ((sclT (-1) q).map qtA)):=c1;have c2:Pure prog 37 [.sl 4 (p.map qtA),.sl 4 ((sclT (-1) q).map qtA)] (.sl 4 ((Za1 p (sclT (-1) q)).map qtA)):=c2;show Pure _ _ [.sl 4 (p.map qtA),.sl 4 (q.map qtA)] (.sl 4 ((Za1 p (sclT (-1) q)).map qtA));generalize (Za1 p (sclT (-1) q)).map qtA=R at *
 generalize (sclT (-1) q).map qtA=C at *;generalize p.map qtA=A at *;generalize q.map qtA=B at *;generalize decide ((-1:Rat).num < 0)=b1 at *;generalize toL (-1:Rat).num.natAbs=x1 at *;generalize toL (-1:Rat).den=y1 at *;refine pI func35 rfl ntmps35 results35 call35 ?_
 (refine wkap w_t (w_3 c0 c1 c2) (w_r 0) (w_s ?_);intros)
 all_goals exact gL
section
attribute [local go_sem] underlying3 underlying4 underlying161 underlying24 underlying26 underlying28 underlying91 underlying76 underlying78 underlying33 underlying34 sz3 by3 z3 szB zB Zas zRat Zav zInt Zau zNat Zag Zar Zah Bool.and_self Zal Zbb zSlQ szQT byQT zQT Za8 zSlT szQP zQP underlying346 underlying47 szFr byFr zFr Zch Zck zSQP underlying35 underlying65 underlying9 Za7 zStr underlying22
end
abbrev cQ (a:Rat):List AV:=[.v (.bool (decide (a.num < 0))),lim (toL a.num.natAbs),lim (toL a.den)]
def pV (ps:List PQ) (rs:List Rat) (t:Rat × List Qt):Nat→Rat
 | 0=>t.1
 | i+1=>pV ps rs t i*Qt.val (t.2.getD i Qt.zero) ps rs
def eV (ps:List PQ) (rs:List Rat) (l:QTs):Nat→Rat
 | 0=>0
 | i+1=>eV ps rs l i+pV ps rs (l.getD i (0,[])) (l.getD i (0,[])).2.length
def chQ (n m:Int):List Qt→Int
 | []=>0
 | q :: l=>if Qt.chk q n m=0 then chQ n m l else Qt.chk q n m
def chE (n m:Int):QTs→Int
 | []=>0
 | t :: l=>if chQ n m t.2=0 then chE n m l else chQ n m t.2
abbrev cQ0:List AV:=[.v (.bool false),.v (.slice none 0 0),.v (.slice none 0 0)]
section
attribute [local go_sem] underlying3 underlying4 underlying161 underlying24 underlying26 underlying28 underlying91 underlying76 underlying78 underlying33 underlying34 sz3 by3 z3 szB zB Zas zRat Zav zInt Zau zNat Zag Zar Zah Bool.and_self Zal Zbb zSlQ szQT byQT zQT Za8 zSlT szQP zQP underlying346 underlying47 szFr byFr zFr Zch Zck zSQP underlying35 underlying65 underlying9 Za7 zStr underlying87 underlying53 underlying85
end
end Go.Proofs.YtkefeinbjbeidaaGreatDoor
namespace Go.Proofs.YtkefeinbjbeidaaGreatDoor
section
open Go Go.RowKit Go.Pg Go.Pol
end
end Go.Proofs.YtkefeinbjbeidaaGreatDoor
namespace Go.Proofs.YtkefeinbjbeidaaGreatDoor
open Go Go.RowKit Go.Pg Go.Pol Go.Proofs.Tryz
attribute [-bool_to_prop] Bool.and_eq_decide Bool.or_eq_decide Bool.decide_beq_decide decide_eq_decide
attribute [local go_sem] Zas Zav Zau Zag Zar Zah Bool.and_self Zal Zbb Za8 Zch Zck Za7
theorem XB.neg {q:QTs} {k n:Nat} (h:XB q k n):XB (sclT (-1) q) k n:=by
 obtain⟨a,b,D,B,c,d,e,f⟩:=h;refine⟨⟨λt ht=>?_,List.pairwise_map.2 a.2⟩,λt ht=>?_,D,B,c,d,e,λt ht=>?_,?_⟩
 ·obtain⟨u,hu,rfl⟩:=List.mem_map.1 ht;refine⟨λh=>(a.1 u hu).1 ?_,(a.1 u hu).2⟩;have h:(-1:Rat)*u.1=0:=h;rw [Rat.neg_mul,ZFo] at h;have:=ZDt (λz:Rat=>-z) h
  simpa using this
 ·obtain⟨u,hu,rfl⟩:=List.mem_map.1 ht;exact b u hu
 ·obtain⟨u,hu,rfl⟩:=List.mem_map.1 ht;have:=f.1 u hu;show((-1:Rat)*u.1).den ∣ D;have e1:((-1:Rat)*u.1)=-u.1:=by rw [Rat.neg_mul,ZFo]
  rw [e1];exact this
 ·refine ZBv (Nat.le_of_eq ?_) f.2;unfold n1 sclT;rw [List.map_map];congr 1;refine ZEo λu _=>?_;show cl ((-1:Rat)*u.1)=cl u.1;have e1:((-1:Rat)*u.1)=-u.1:=by rw [Rat.neg_mul,ZFo]
  rw [e1];unfold cl;rw [show(-u.1).num=-u.1.num from rfl,show(-u.1).den=u.1.den from rfl,ZGo]
def reP (p:QTs):List RE:=p.map λt=>⟨rawQ t.1,t.2⟩
theorem reP_av (p:QTs):(reP p).map RE.av=p.map qtA:=by unfold reP;rw [List.map_map];rfl
theorem sgP_ok {l:List Qt} (h:∀q∈l,q.norm=(q,1)):sgP l=1:=by
 have key:∀(l:List Qt) (s:Int),(∀q∈l,q.norm=(q,1))→l.foldl (λs q=>s*q.norm.2) s=s:=by
  intro l
  induction l with
  | nil=>intro s _;rfl
  | cons a l ih=>intro s h;rw [ZGh,h a (.head _),Int.mul_one];exact ih s λq hq=>h q (.tail _ hq)
 exact key l 1 h
theorem nsP_ok:∀{l:List Qt},(∀q∈l,q.norm=(q,1))→nsP l=l
 | [],_=>rfl
 | a :: l,h=>by
   show a.norm.1 :: nsP l=a :: l;rw [h a (.head _),nsP_ok λq hq=>h q (.tail _ hq)]
theorem putP_ok {l:List Qt} (h:okQ l):putP l=l:=by
 rw [←Zw4 (by rw [sgP_ok h.2];decide),nsP_ok h.2];exact Ze6 qtO (Zb5 qtO.cp _) h.1 (Za3 _)
theorem reP_ok {p:QTs} (h:∀t∈p,okQ t.2):(reP p).all RE.ok=true:=by
 rw [ZFt];intro t ht;obtain⟨u,hu,rfl⟩:=List.mem_map.1 ht;show((rawQ u.1).ok && u.2.all Qt.ok)=true;rw [Zrd,ZEu,ZFt];exact λq hq=>Zrr ((h u hu).2 q hq)
theorem reP_t:∀{p:QTs},(∀t∈p,okQ t.2)→(reP p).map RE.t=p
 | [],_=>rfl
 | u :: p,h=>by
   show RE.t ⟨rawQ u.1,u.2⟩ :: (reP p).map RE.t=u :: p;rw [reP_t λt ht=>h t (.tail _ ht)];show((rawQ u.1).q*(sgP u.2:Rat),putP u.2) :: p=u :: p;rw [Zxt,sgP_ok (h u (.head _)).2,putP_ok (h u (.head _)),show((1:Int):Rat)=1 from rfl,ZF0]
theorem nrm_re {p:QTs} (h:∀t∈p,okQ t.2):nrmR (reP p)=qpA (gatM p):=by rw [Zyt (reP_ok h),reP_t h]
theorem reP_lm {p:QTs} {j n:Nat} (h:QK p j n):(∀t∈reP p,t.r.lm j)∧∀t∈reP p,t.q.length≤n:=by
 refine⟨λt ht=>?_,λt ht=>?_⟩<;>obtain⟨u,hu,rfl⟩:=List.mem_map.1 ht
 ·exact Zng (h u hu).1
 ·exact(h u hu).2
theorem Zsi (φ:List Qt→Rat) (s:Rat):∀p:QTs,evl φ (sclT s p)=s*evl φ p
 | []=>by show(0:Rat)=s*0;rw [ZF1]
 | t :: p=>by
   show s*t.1*φ t.2+evl φ (sclT s p)=s*(t.1*φ t.2+evl φ p);rw [Zsi φ s p];grind
theorem EX.neg {p:QTs} (h:EX p):EX (sclT (-1) p):=by
 refine⟨λt ht=>?_,List.pairwise_map.2 h.2⟩;obtain⟨u,hu,rfl⟩:=List.mem_map.1 ht;refine⟨λh0=>(h.1 u hu).1 ?_,(h.1 u hu).2⟩;have h0:(-1:Rat)*u.1=0:=h0
 grind
theorem NB.nz {D B:Nat} {l:QTs} (h:NB D B l):NB D B (nzT l):=by
 refine⟨λt ht=>h.1 t (List.mem_filter.1 ht).1,ZBv ?_ h.2⟩;clear h;unfold nzT
 induction l with
 | nil=>exact ZBp _
 | cons t l ih =>
   rw [Zbf];by_cases h0:t.1=0
   ·rw [ZE6 (by simpa using h0)];omega
   ·rw [ZE7 (by simpa using h0),Zbf];omega
theorem exNrmG (p:QTs) {D C a b n:Nat} (hN:NB D C p) (h0:D≠0) (hd:D < 65536 ^ a) (hb:C < 65536 ^ b) (ho:∀t∈p,okQ t.2) (hl:p.length≤1000000) (hq:∀t∈p,t.2.length≤n) (hn:n≤maxQ) (hj:a+b≤900000):Pure prog 100 [qpA p] (qpA (gatM p)):=by
 have hqk:=Zvq hN h0 hd hb hq;have c:=exNormG (reP p) (J:=a+b) (JA:=a+b) (nQ:=n) (by show(List.map _ _).length≤_;rw [ZBr];exact hl) (reP_lm hqk).1 (reP_lm hqk).2 hn hj zo λi hi _=>by
  have e:((reP p).take i).map RE.t=p.take i:=by
   have e1:(reP p).take i=reP (p.take i):=by unfold reP;rw [List.map_take]
   rw [e1,reP_t λt ht=>ho t (ZC6 ht)]
  rw [e];have hmem:∀t∈nzT (p.take i),t∈p:=λt ht=>ZC6 (List.mem_filter.1 ht).1;have hnb:=acc_nb (nzT (p.take i)) [] (NB.nil D 0) (NB.nz (hN.take i));rw [ZCg] at hnb;refine⟨Zvq hnb h0 hd hb ?_,?_,?_⟩
  ·exact Zjl (P:=λx=>x.length≤n) _ [] (λt ht=>by cases ht) λt ht=>hq t (hmem t ht)
  ·exact Zjl (P:=λx=>∀q∈x,q.b8) _ [] (λt ht=>by cases ht) λt ht=>(ho t (hmem t ht)).b8
  ·have h1:=ZBh (nzT (p.take i)) [];have h2:=Zrp (p.take i);rw [ZB9] at h2;rw [ZCe] at h1;exact ZBv h1 zo
 rwa [reP_av,nrm_re ho] at c
end Go.Proofs.YtkefeinbjbeidaaGreatDoor
namespace Go.Proofs.YtkefeinbjbeidaaGreatDoor
open Go Go.RowKit Go.Pg Go.Pol Go.Proofs.Tryz
def tmQ (q:Qt) (l:List Qt):Nat:=(l.filter λx=>decide (x=q)).length
def woQ (q:Qt) (l:List Qt):List Qt:=l.filter λx=>decide (x≠q)
def woL (q:Qt) (a:QTs) (k:Nat):QTs:=(a.filter λt=>decide (tmQ q t.2=k)).map λt=>(t.1,woQ q t.2)
def moQ (q:Qt) (a:QTs):Nat:=a.foldl (λn t=>max n (tmQ q t.2)) 0
theorem Zwo (q:Qt):∀l:List Qt,tmQ q l+(woQ q l).length=l.length
 | []=>rfl
 | a :: l=>by
   have ih:=Zwo q l;unfold tmQ woQ at *;by_cases h:a=q
   ·rw [ZE7 (by simpa using h),ZE6 (by simpa using h),ZB2,ZB2];omega
   ·rw [ZE6 (by simpa using h),ZE7 (by simpa using h),ZB2,ZB2];omega
theorem tm_le (q:Qt) (l:List Qt):tmQ q l≤l.length:=by have:=Zwo q l;omega
theorem Zy2 (q:Qt) (a:QTs) (t:Rat × List Qt):moQ q (a++[t])=max (moQ q a) (tmQ q t.2):=by unfold moQ;rw [ZFp];rfl
theorem mo_le {q:Qt} {n:Nat} {a:QTs} (h:∀t∈a,t.2.length≤n):moQ q a≤n:=by
 have key:∀(a:QTs) (s:Nat),s≤n→(∀t∈a,t.2.length≤n)→a.foldl (λn t=>max n (tmQ q t.2)) s≤n:=by
  intro a
  induction a with
  | nil=>exact λs hs _=>hs
  | cons t a ih=>exact λs hs h=>ih _ (by show max s (tmQ q t.2)≤n;have:=tm_le q t.2;have:=h t (.head _);omega) λu hu=>h u (.tail _ hu)
 exact key a 0 (ZBx _) h
theorem wo_snoc (q:Qt) (a:QTs) (t:Rat × List Qt) (k:Nat):woL q (a++[t]) k=if tmQ q t.2=k then woL q a k++[(t.1,woQ q t.2)] else woL q a k:=by
 unfold woL;rw [ZEh,ZCb];split
 ·rename_i h;rw [ZE7 (by simpa using h)];rfl
 ·rename_i h;rw [ZE6 (by simpa using h)];simp
theorem wo_above {q:Qt}:∀{a:QTs} {k:Nat},moQ q a < k→woL q a k=[]:=by
 intro a k h
 have key:∀(a:QTs) (s:Nat),a.foldl (λn t=>max n (tmQ q t.2)) s < k→s < k∧a.filter (λt=>decide (tmQ q t.2=k))=[]:=by
  intro a
  induction a with
  | nil=>exact λs hs=>⟨hs,rfl⟩
  | cons t a ih =>
    intro s hs;obtain⟨h1,h2⟩:=ih _ hs;have h1:max s (tmQ q t.2) < k:=h1;refine⟨zo,?_⟩;rw [ZE6 (by simp;omega)];exact h2
 unfold woL;rw [(key a 0 h).2];rfl
theorem Zwf (q:Qt) (a:QTs) (k:Nat):(woL q a k).length≤a.length:=by unfold woL;rw [ZBr];exact ZGa _ _
theorem okQ.wo {l:List Qt} (h:okQ l) (q:Qt):okQ (woQ q l):=⟨h.1.filter _,λx hx=>h.2 x (List.mem_filter.1 hx).1⟩
theorem Zjx {q:Qt} {a:QTs} {k:Nat} {u:Rat × List Qt} (h:u∈woL q a k):∃t∈a,u=(t.1,woQ q t.2):=by
 obtain⟨t,ht,rfl⟩:=List.mem_map.1 h;exact⟨t,(List.mem_filter.1 ht).1,rfl⟩
theorem Zsq {a:QTs} (h:∀t∈a,okQ t.2) (q:Qt) (k:Nat):∀t∈woL q a k,okQ t.2:=λu hu=>by
 obtain⟨t,ht,rfl⟩:=Zjx hu;exact(h t ht).wo q
theorem Zqq {a:QTs} {n:Nat} (h:∀t∈a,t.2.length≤n) (q:Qt) (k:Nat):∀t∈woL q a k,t.2.length≤n:=λu hu=>by
 obtain⟨t,ht,rfl⟩:=Zjx hu;exact ZBv (by have:=Zwo q t.2;show(woQ q t.2).length≤_;omega) (h t ht)
theorem n1_wo (q:Qt) (k:Nat):∀a:QTs,n1 (woL q a k)≤n1 a
 | []=>ZBp _
 | t :: a=>by
   have ih:=n1_wo q k a;unfold woL at *;by_cases h:tmQ q t.2=k
   ·rw [ZE7 (by simpa using h),ZCs,Zbf,Zbf];exact Nat.add_le_add_left ih _
   ·rw [ZE6 (by simpa using h),Zbf];omega
abbrev paQ (q:Qt) (a:QTs) (k:Nat):QTs:=gatM (woL q a k)
theorem XB.part {a:QTs} {k n:Nat} (h:XB a k n) (q:Qt) (i:Nat):XB (paQ q a i) k n:=by
 obtain⟨a1,b,D,B,c,d,e,f⟩:=h;refine⟨Zgp Zbq (Zsq a1.dom q i),Zix (Zqq b q i),D,B,c,d,e,NB.sumG ⟨λt ht=>?_,ZBv (n1_wo q i a) f.2⟩⟩;obtain⟨u,hu,rfl⟩:=Zjx ht;exact f.1 u hu
theorem gat_len (l:QTs):(gatM l).length≤l.length:=by
 obtain⟨j,hj⟩:∃j,QK l j ((l.map λt=>t.2.length).sum):=by
  induction l with
  | nil=>exact⟨0,λt ht=>by cases ht⟩
  | cons a l ih =>
    obtain⟨j,hj⟩:=ih;refine⟨max j (max (toL a.1.num.natAbs).length (toL a.1.den).length),λt ht=>?_⟩;rw [ZCs,List.sum_cons];rcases List.mem_cons.1 ht with rfl | ht
    ·exact⟨⟨zo,zo⟩,zo⟩
    ·exact⟨(hj t ht).1.mono zo,by have:=(hj t ht).2;omega⟩
 exact(Zmm _ l rfl hj).2
theorem pa_len (q:Qt) (a:QTs) (k:Nat):(paQ q a k).length≤a.length:=ZBv (gat_len _) (Zwf q a k)
abbrev pwX (d:QTs) (i:Nat):QTs:=pwG ordQ muQ [] d i
abbrev hnX (P:Nat→QTs) (a d:QTs) (m i:Nat):QTs:=hnG ordQ muQ [] P a d m i
abbrev rfX (P:Nat→QTs) (a d:QTs) (m i:Nat):QTs:=rfG ordQ muQ [] P a d m i
theorem Zol:XB [((1:Rat),[])] 1 0:=xbC _ _ (by decide +kernel)
theorem Zom:XB [] 1 0:=xbC _ _ (by decide +kernel)
theorem XB.pw {d:QTs} {k n:Nat} (h:XB d k n):∀i,XB (pwX d i) (1+i*k) (i*n)
 | 0=>by rw [ZEa,ZEa];exact Zol
 | i+1=>(XB.mul (h.pw i) h).mono (by rw [ZDi];omega) (by rw [ZDi];omega)
theorem Zo6 {d:QTs} {L:Nat} (h:d.length≤L):∀i,(pwX d i).length≤L ^ i
 | 0=>ZBp _
 | i+1=>ZBv (Zd1 _ _) (by rw [ZC0];exact ZCy (Zo6 h i) h)
section
variable {P:Nat→QTs} {a d:QTs} {kp kb np nb LP L:Nat}
theorem XB.hn (hP:∀k,XB (P k) kp np) (ha:XB a kb nb) (hd:XB d kb nb) (m:Nat):∀i,XB (hnX P a d m i) (1+i*(kp+kb+2+i*kb)) (np+i*nb)
 | 0=>Zom.mono zo (ZBx _)
 | i+1=>by
   have h1:=((XB.hn hP ha hd m i).mul ha).add ((hP (m - i)).mul (hd.pw i));refine XB.mono h1 ?_ ?_
   ·have e:(i+1)*(kp+kb+2+(i+1)*kb)=i*(kp+kb+2+i*kb)+i*kb+(kp+kb+2+(i*kb+kb)):=by grind
    rw [e];omega
   ·rw [ZDi];exact Nat.max_le.2 ⟨zo,zo⟩
theorem hn_len (hP:∀k,(P k).length≤LP) (ha:a.length≤L) (hd:d.length≤L) (hL:1≤L) (m:Nat):∀i,(hnX P a d m i).length≤i*LP*L ^ i
 | 0=>ZBx _
 | i+1=>by
   refine ZBv (Zet _ _) ?_;have h1:=ZBv (Zd1 (hnX P a d m i) a) (ZCy (hn_len hP ha hd hL m i) ha);have h2:=ZBv (Zd1 (P (m - i)) (pwX d i)) (ZCy (hP _) (Zo6 hd i));have h3:LP*L ^ i≤LP*L ^ i*L:=ZE4 _ hL;refine ZBv (ZC2 h1 h2) ?_;have e:(i+1)*LP*L ^ (i+1)=i*LP*L ^ i*L+LP*L ^ i*L:=by rw [ZC0];grind
   rw [e];omega
theorem XB.rf (hP:∀k,XB (P k) kp np) (ha:XB a kb nb) (hd:XB d kb nb) (m:Nat):∀i,i≤m+1→XB (rfX P a d m i) (1+i*(kp+3+m*kb)) (np+m*nb)
 | 0,_=>Zom.mono zo (ZBx _)
 | i+1,hi=>by
   have h1:=(XB.rf hP ha hd m i zo).add (((hP i).mul (ha.pw i)).mul (hd.pw (m - i)));have e1:i*kb+(m - i)*kb=m*kb:=by rw [←ZCi];congr 1;omega
   have e2:i*nb+(m - i)*nb=m*nb:=by rw [←ZCi];congr 1;omega
   refine XB.mono h1 ?_ ?_
   ·rw [ZDi];omega
   ·exact Nat.max_le.2 ⟨zo,zo⟩
theorem rf_len (hP:∀k,(P k).length≤LP) (ha:a.length≤L) (hd:d.length≤L) (m:Nat):∀i,i≤m+1→(rfX P a d m i).length≤i*(LP*L ^ m)
 | 0,_=>ZBx _
 | i+1,hi=>by
   refine ZBv (Zet _ _) ?_;have h1:=rf_len hP ha hd m i zo;have h2:=ZBv (Zd1 (P i) (pwX a i)) (ZCy (hP _) (Zo6 ha i));have h3:=ZBv (Zd1 (mulX (P i) (pwX a i)) (pwX d (m - i))) (ZCy h2 (Zo6 hd (m - i)));have e:LP*L ^ i*L ^ (m - i)=LP*L ^ m:=by rw [ZC1,←ZCx];congr 2;omega
   rw [e] at h3;rw [ZDi];exact ZC2 h1 h3
end
abbrev rpN (q:Qt) (a num den:QTs):QTs:=rfX (paQ q a) num den (moQ q a) (moQ q a+1)
abbrev rpD (q:Qt) (a den:QTs):QTs:=pwX den (moQ q a)
theorem Zxl (q:Qt) {a num den:QTs} (ha:EX a) (hn:EX num) (hd:EX den):hnX (paQ q a) num den (moQ q a) (moQ q a+1)=rpN q a num den :=
 horner rgQ (λk=>Zgp Zbq (Zsq ha.dom q k)) hn hd _
theorem Zi9 (p:QTs):sclT 1 p=p:=Zs5 p
theorem mul_neg {p:QTs} (h:EX p):mulX [((-1:Rat),[])] p=sclT (-1) p :=
 Zia (D:=okQ) Zbq (Zbg rgQ ⟨λt ht=>by rw [List.mem_singleton.1 ht];exact⟨by decide +kernel,rgQ.de⟩,ZGb _ _⟩ h) h.neg λφ=>by
  rw [Zfo Zbq,Zsi];show(-1:Rat)*evl (λk=>φ (muQ [] k)) p+0=_;rw [ZDx];congr 1
  have key:∀p:QTs,(∀t∈p,okQ t.2)→evl (λk=>φ (muQ [] k)) p=evl φ p:=by
   intro p
   induction p with
   | nil=>intro _;rfl
   | cons t p ih =>
     intro h;show t.1*φ (muQ [] t.2)+_=t.1*φ t.2+_;rw [ih λu hu=>h u (.tail _ hu),rgQ.comm,rgQ.one _ (h t (.head _))]
  exact key p h.dom
structure XN (p:QTs) (D B n:Nat):Prop where
 ex:EX p
 q:∀t∈p,t.2.length≤n
 nb:NB D B p
theorem XN.mono {p:QTs} {D B n E C m:Nat} (h:XN p D B n) (hd:D ∣ E) (hb:B≤C) (hn:n≤m):XN p E C m:=⟨h.ex,λt ht=>ZBv (h.q t ht) hn,h.nb.mono hd hb⟩
theorem XN.mul {p q:QTs} {D B n E C m:Nat} (h:XN p D B n) (g:XN q E C m):XN (mulX p q) (D*E) (B*C) (n+m) :=
 ⟨Zbg rgQ h.ex g.ex,Zix (Zil h.q g.q),(h.nb.prodL g.nb).sumG⟩
theorem XN.add {p q:QTs} {D B n C m:Nat} (h:XN p D B n) (g:XN q D C m):XN (Za1 p q) D (B+C) (max n m):=by
 refine⟨Zgg Zbq h.ex g.ex,λt ht=>?_,h.nb.addP g.nb⟩;rcases Zgy ht with h1 | h1 | ⟨s,hs,u,hu,rfl⟩
 ·have:=h.q t h1;omega
 ·have:=g.q t h1;omega
 ·have:=h.q s hs;show s.2.length≤_;omega
theorem XN.xb {p:QTs} {D B n k:Nat} (h:XN p D B n) (h0:D≠0) (hd:D < 65536 ^ k) (hb:B < 65536 ^ k):XB p k n:=⟨h.ex,h.q,D,B,h0,hd,hb,h.nb⟩
theorem XN.nil (D:Nat):XN [] D 0 0:=⟨Zom.1,λt ht=>(by cases ht),NB.nil D 0⟩
theorem XN.one:XN [((1:Rat),[])] 1 1 0:=⟨Zol.1,λt ht=>by rw [List.mem_singleton.1 ht];exact ZBp _,λt ht=>by rw [List.mem_singleton.1 ht];decide +kernel,by decide +kernel⟩
theorem XN.pw {d:QTs} {E C n:Nat} (h:XN d E C n):∀i,XN (pwX d i) (E ^ i) (C ^ i) (i*n)
 | 0=>by rw [ZFj,ZFj,ZEa];exact XN.one
 | i+1=>by rw [ZC0,ZC0,ZDi];exact(h.pw i).mul h
theorem XN.part {a:QTs} {D B n:Nat} (h:XN a D B n) (q:Qt) (k:Nat):XN (paQ q a k) D B n :=
 ⟨Zgp Zbq (Zsq h.ex.dom q k),Zix (Zqq h.q q k),NB.sumG ⟨λt ht=>by obtain⟨u,hu,rfl⟩:=Zjx ht;exact h.nb.1 u hu,ZBv (n1_wo q k a) h.nb.2⟩⟩
section
variable {P:Nat→QTs} {a d:QTs} {D B E C np nb:Nat}
theorem XN.hn (hP:∀k,XN (P k) D B np) (ha:XN a E C nb) (hd:XN d E C nb) (hC:1≤C) (m:Nat):∀i,XN (hnX P a d m i) (D*E ^ i) (i*(B*C ^ i)) (np+i*nb)
 | 0=>by rw [ZEa,ZEa];exact(XN.nil _).mono (ZDy _) (ZBp _) (ZBx _)
 | i+1=>by
   have h1:=(XN.hn hP ha hd hC m i).mul ha;have h2:=(hP (m - i)).mul (hd.pw i);have e1:D*E ^ (i+1)=D*E ^ i*E:=by rw [ZC0,ZC1]
   have e2:(i+1)*(B*C ^ (i+1))=i*(B*C ^ i)*C+B*C ^ i*C:=by rw [ZC0];grind
   have h3:=XN.add h1 (h2.mono (E:=D*E ^ i*E) (ZFn _ _) (ZBp _) (ZBp _));rw [e1,e2];exact h3.mono (ZDy _) (Nat.add_le_add_left (ZE4 _ hC) _) (by rw [ZDi];exact Nat.max_le.2 ⟨zo,zo⟩)
theorem XN.rf (hP:∀k,XN (P k) D B np) (ha:XN a E C nb) (hd:XN d E C nb) (m:Nat):∀i,i≤m+1→XN (rfX P a d m i) (D*E ^ m) (i*(B*C ^ m)) (np+m*nb)
 | 0,_=>by rw [ZEa];exact(XN.nil _).mono (ZDy _) (ZBp _) (ZBx _)
 | i+1,hi=>by
   have h1:=XN.rf hP ha hd m i zo;have h2:=((hP i).mul (ha.pw i)).mul (hd.pw (m - i));have e1:D*E ^ i*E ^ (m - i)=D*E ^ m:=by rw [ZC1,←ZCx];congr 2;omega
   have e2:B*C ^ i*C ^ (m - i)=B*C ^ m:=by rw [ZC1,←ZCx];congr 2;omega
   have e3:np+i*nb+(m - i)*nb=np+m*nb:=by rw [ZGg,←ZCi];congr 2;omega
   rw [e1,e2,e3] at h2;have h3:=h1.add h2;rw [ZDi];exact h3.mono (ZDy _) (ZBp _) zo
end
theorem two_xn {a d:QTs} {k n:Nat} (ha:XB a k n) (hd:XB d k n):∃E C,E≠0∧1≤C∧E < 65536 ^ (2*k)∧C < 65536 ^ k∧XN a E C n∧XN d E C n:=by
 obtain⟨a1,b1,D1,B1,c1,d1,e1,f1⟩:=ha;obtain⟨a2,b2,D2,B2,c2,d2,e2,f2⟩:=hd;have hk:k≠0:=λh=>by rw [h,ZFj] at d1;omega
 have hp:65536≤65536 ^ k:=Nat.le_self_pow hk _;refine⟨D1*D2,max 1 (max B1 B2),ZEf c1 c2,zo,?_,zo,⟨a1,b1,f1.mono (ZFn ..) zo⟩,⟨a2,b2,f2.mono (ZHa ..) zo⟩⟩;rw [Nat.two_mul,ZCx];exact ZE5 d1 d2
theorem Zya {E k:Nat} (h:E < 65536 ^ k) (i:Nat):E ^ i≤65536 ^ (i*k):=by
 rw [ZCq,Nat.pow_mul];exact ZG9 (Nat.le_of_lt h) i
theorem Zy6 {B C k j i m:Nat} (hB:B < 65536 ^ k) (hC:C < 65536 ^ j) (hi:i≤65536):i*(B*C ^ m) < 65536 ^ (k+1+m*(2*j)):=by
 have h1:C ^ m≤65536 ^ (m*(2*j)):=ZBv (Zya hC m) (ZDh zd (ZDw _ zo));have h0:0 < 65536 ^ (m*(2*j)):=ZFv zd;have h2:B*C ^ m < 65536 ^ k*65536 ^ (m*(2*j)):=ZF9 (ZDw _ h1) (ZGn hB h0);have e:65536 ^ (k+1+m*(2*j))=65536*(65536 ^ k*65536 ^ (m*(2*j))):=by rw [ZCx,ZC0];grind
 rw [e];rcases ZCv i with rfl | h3
 ·rw [ZEa];exact Nat.mul_pos zd (Nat.mul_pos (ZFv zd) h0)
 ·exact ZD2 ((Nat.mul_lt_mul_left h3).2 h2) (ZB7 _ hi)
theorem Zy7 {D E k j m:Nat} (hD:D < 65536 ^ k) (hE:E < 65536 ^ (2*j)):D*E ^ m < 65536 ^ (k+1+m*(2*j)):=by
 have h1:E ^ m≤65536 ^ (m*(2*j)):=Zya hE m;have h0:0 < 65536 ^ (m*(2*j)):=ZFv zd;have h2:D*E ^ m < 65536 ^ k*65536 ^ (m*(2*j)):=ZF9 (ZDw _ h1) (ZGn hD h0);rw [←ZCx] at h2;exact ZD2 h2 (ZDh zd zo)
theorem hn_xb {a num den:QTs} {ka kb na nb:Nat} (ha:XB a ka na) (hu:XB num kb nb) (hd:XB den kb nb) (q:Qt) (m i:Nat) (hi:i≤65536):XB (hnX (paQ q a) num den m i) (ka+1+i*(2*kb)) (na+i*nb):=by
 obtain⟨E,C,e0,c0,e1,c1,g1,g2⟩:=two_xn hu hd;obtain⟨a1,b1,D,B,d0,d1,d2,d3⟩:=ha;have g:XN a D B na:=⟨a1,b1,d3⟩;exact(XN.hn (λk=>g.part q k) g1 g2 c0 m i).xb (ZEf d0 (Nat.ne_of_gt (ZFv (ZDm e0)))) (Zy7 d1 e1) (Zy6 d2 c1 hi)
theorem rf_xb {a num den:QTs} {ka kb na nb:Nat} (ha:XB a ka na) (hu:XB num kb nb) (hd:XB den kb nb) (q:Qt) (m i:Nat) (hm:m < 65536) (hi:i≤m+1):XB (rfX (paQ q a) num den m i) (ka+1+m*(2*kb)) (na+m*nb):=by
 obtain⟨E,C,e0,c0,e1,c1,g1,g2⟩:=two_xn hu hd;obtain⟨a1,b1,D,B,d0,d1,d2,d3⟩:=ha;have g:XN a D B na:=⟨a1,b1,d3⟩;exact(XN.rf (λk=>g.part q k) g1 g2 m i hi).xb (ZEf d0 (Nat.ne_of_gt (ZFv (ZDm e0)))) (Zy7 d1 e1) (Zy6 d2 c1 zo)
theorem hn_len2 {P:Nat→QTs} {a d:QTs} {LP L:Nat} (hP:∀k,(P k).length≤LP) (ha:a.length≤L) (hd:d.length≤L) (hL:1≤L) (m i M:Nat) (hi:i≤M):(hnX P a d m i).length≤M*LP*L ^ M :=
 ZBv (hn_len hP ha hd hL m i) (ZCy (ZB7 _ hi) (ZDh hL hi))
end Go.Proofs.YtkefeinbjbeidaaGreatDoor
namespace Go.Proofs.YtkefeinbjbeidaaGreatDoor
open Go Go.RowKit Go.Pg Go.Pol Go.Proofs.Tryz
attribute [-bool_to_prop] Bool.and_eq_decide Bool.or_eq_decide Bool.decide_beq_decide decide_eq_decide
attribute [local go_sem] Zas Zav Zau Zag Zar Zah Bool.and_self Zal Zbb Za8 Zch Zck
theorem Zwp (q:Qt) (l:List Qt) (x:Qt):tmQ q (l++[x])=if x=q then tmQ q l+1 else tmQ q l:=by
 unfold tmQ;rw [ZEh,ZCh];split
 ·rename_i h;rw [ZE7 (by simpa using h)];rfl
 ·rename_i h;rw [ZE6 (by simpa using h)];rfl
theorem woQ_y {q x:Qt} (l:List Qt) (h:x≠q):woQ q (l++[x])=woQ q l++[x]:=by unfold woQ;rw [ZEh,ZE7 (by simpa using h)];rfl
theorem woQ_n {q x:Qt} (l:List Qt) (h:x=q):woQ q (l++[x])=woQ q l:=by unfold woQ;rw [ZEh,ZE6 (by simpa using h)];simp
theorem cst_ok (a:Rat):nrmR (cstE a)=qpA (if a=0 then [] else [(a,[])]):=by
 have h:=nrm_re (p:=[(a,[])]) (λt ht=>by rw [List.mem_singleton.1 ht];exact rgQ.de)
 rwa [Zli] at h
theorem Zxx {α:Type} (f:Nat→α) {n k:Nat} (x:α) (h:k < n):((List.range n).map f).set k x=(List.range n).map λj=>if j=k then x else f j:=by
 refine List.ext_getElem? λj=>?_;by_cases hj:j < n
 ·by_cases hjk:j=k
  ·subst hjk;rw [ZHb (by simp;omega)];simp [ZCw,ZEg hj]
  ·rw [List.getElem?_set_ne (ZDn hjk)];simp [ZCw,ZEg hj,hjk]
 ·rw [ZDb (by simp;omega),ZDb (by simp;omega)]
theorem Zvd {α:Type} (f:Nat→α) (n:Nat):(List.range (n+1)).map f=(List.range n).map f++[f n]:=by rw [List.range_succ,ZCb];rfl
structure PtM (m:Mem) (sv:Value) (S:Nat→Value) (L:Nat→List AV) (len:Nat):Prop where
 top:m 12=some (.row sv 34 1 ((List.range len).map λj=>.own (2000+j) (S j)) 0)
 el:∀j,j < len→m (2000+j)=some (.row (S j) 78 4 (L j) 0)
theorem PtM.upd {m:Mem} {sv:Value} {S:Nat→Value} {L:Nat→List AV} {len k:Nat} {x:Option Ent} (h:PtM m sv S L len) (hk:k≠12) (hk2:k < 2000):PtM (upd m k x) sv S L len :=
 ⟨by rw [Zfq (ZDn hk)];exact h.top,λj hj=>by rw [Zfq zo];exact h.el j hj⟩
theorem Zzg {P:Program} {n:Nat} {K:St→Prop} {st:St} (h:K st):Zlw P n [] K st:=h
theorem exSplit (a:QTs) (q:Qt) {n:Nat} (hl:a.length≤100000) (hq:∀t∈a,t.2.length≤n) (hn:n≤100000):Pure prog 350 [qpA a,q.av] (.sl 1 ((List.range (moQ q a+1)).map λk=>qpA (woL q a k))):=by
 have hpm:(a.map qtA).length=a.length:=ZBr ..;have gp:∀i (h:i < a.length),(a.map qtA).getD i .u=qtA a[i]:=λi h=>Zao qtA h;have hmo:∀i,moQ q (a.take i)≤n:=λi=>mo_le λt ht=>hq t (ZC6 ht);have hwl:∀i k,((woL q (a.take i) k).map qtA).length≤100000:=λi k=>by
  rw [ZBr];have:=Zwf q (a.take i) k;rw [ZB9] at this;omega
 have hfull:a.take a.length=a:=ZDc;obtain⟨q1,q2,q3,q4⟩:=q;generalize hQ:(⟨q1,q2,q3,q4⟩:Qt)=q at *;show Pure _ _ [.sl 4 (a.map qtA),q.av] (.sl 1 ((List.range (moQ q a+1)).map λk=>.sl 4 ((woL q a k).map qtA)));generalize a.map qtA=A at *;have hqv:q.av=.agg [iv q1,iv q2,iv q3,iv q4]:=by rw [←hQ]
 rw [hqv];refine pI func350 rfl ntmps350 results350 call350 ?_
 (refine wkad w_t w_t w_t (w_s ?_);intros)
 rename_i g3 s12;refine Zea (Frz.elNil (K:=12) (j:=0) 2000 4 78 (gC) zo zr) ?_;refine r_loopZ ?_;refine Zad (ι:=Nat) (λi e m=>i≤a.length∧(e 3=.pbox 3 g3 0∧m 3=some (.box g3 91 [iv q1,iv q2,iv q3,iv q4] false))∧(e 13=.sl 4 A∧e 14=iv a.length∧e 15=iv i)∧∃sv S,e 5=.own 12 sv∧PtM m sv S (λk=>(woL q (a.take i) k).map qtA) (moQ q (a.take i)+1)) (λi=>a.length - i) 0 zr ?_ ?_
 ·rintro i e m ⟨hi,⟨e3,m3⟩,⟨e13,e14,e15⟩,sv,S,e5,hM⟩
  by_cases hlt:i < a.length
  ·have gpi:=gp i hlt;have hql:a[i].2.length≤n:=hq _ (ZB0 hlt);have hmi:=hmo i;have hsn:a.take (i+1)=a.take i++[a[i]]:=by rw [ZEd hlt]
   have hm2:moQ q (a.take (i+1))=max (moQ q (a.take i)) (tmQ q a[i].2):=by rw [hsn,Zy2]
   have hw2:∀k,woL q (a.take (i+1)) k=if tmQ q a[i].2=k then woL q (a.take i) k++[(a[i].1,woQ q a[i].2)] else woL q (a.take i) k:=λk=>by rw [hsn,wo_snoc]
   have habv:∀k,moQ q (a.take i) < k→woL q (a.take i) k=[]:=λk h=>wo_above h;have hwl:=hwl i;clear gp hq hmo hsn;generalize woL q (a.take i)=W at *;generalize moQ q (a.take i)=mo at *;generalize a[i]=u at *;obtain⟨u1,u2⟩:=u;simp only at hql hm2 hw2;have gpi:A.getD i .u=.agg [.v (.bool (decide (u1.num < 0))),lim (toL u1.num.natAbs),lim (toL u1.den),.sl 4 (u2.map Qt.av)]:=gpi;have hqt:[(u1,woQ q u2)].map qtA=[.agg [.v (.bool (decide (u1.num < 0))),lim (toL u1.num.natAbs),lim (toL u1.den),.sl 4 ((woQ q u2).map Qt.av)]]:=rfl;have hum:(u2.map Qt.av).length=u2.length:=ZBr ..;have gu:∀k (h:k < u2.length),(u2.map Qt.av).getD k .u=Qt.av u2[k]:=λk h=>Zao Qt.av h
   generalize toL u1.num.natAbs=un at *;generalize toL u1.den=ud at *;generalize decide (u1.num < 0)=us at *;generalize u2.map Qt.av=UQ at *
   (refine wkad (w_8 e3 m3 e13 e14 e15 e5 hpm gpi) w_t w_t (w_s ?_);intros)
   rename_i g7;refine Zea (Frz.nilOwn (d:=8) 500 4 91 (gC)) ?_;refine Zad (ι:=Nat) (λk e m=>k≤u2.length∧(e 3=.pbox 3 g3 0∧m 3=some (.box g3 91 [iv q1,iv q2,iv q3,iv q4] false))∧(e 13=.sl 4 A∧e 14=iv a.length∧e 15=iv i∧e 5=.own 12 sv)∧(e 7=.pbox 7 g7 0∧m 7=some (.box g7 78 [.v (.bool us),lim un,lim ud,.sl 4 UQ] false))∧(e 20=.sl 4 UQ∧e 21=iv u2.length∧e 22=iv k)∧(∃s8,e 8=.own 500 s8∧m 500=some (.row s8 91 4 ((woQ q (u2.take k)).map Qt.av) 0))∧PtM m sv S (λk=>(W k).map qtA) (mo+1)) (λk=>u2.length - k) 0 zr ?_ ?_
   ·clear e3 m3 e13 e14 e15 e5 hM
    rintro k e m ⟨hk,⟨e3,m3⟩,⟨e13,e14,e15,e5⟩,⟨e7,m7⟩,⟨e20,e21,e22⟩,⟨s8,e8,m8⟩,hM⟩
    by_cases hkl:k < u2.length
    ·have guk:=gu k hkl
     have hwk:(woQ q (u2.take k)).length≤100000:=by
      have:=Zwo q (u2.take k);rw [ZB9] at this;omega
     have hwm:((woQ q (u2.take k)).map Qt.av).length≤100000:=by rw [ZBr];exact hwk
     have hts:u2.take (k+1)=u2.take k++[u2[k]]:=by rw [ZEd hkl]
     by_cases hx:u2[k]=q
     ·have hnx:(woQ q (u2.take (k+1))).map Qt.av=(woQ q (u2.take k)).map Qt.av:=by rw [hts,woQ_n _ hx]
      rw [hx,hqv] at guk;clear gu hts;generalize (woQ q (u2.take k)).map Qt.av=R at *
      (refine wkad (w_15 e3 m3 e13 e14 e15 e5 e7 m7 e20 e21 e22 e8 m8 hum guk) w_t w_t (w_s ?_);intros)
      exact⟨k+1,⟨zo,⟨gW e3,gW m3⟩,⟨gW e13,gW e14,gW e15,gW e5⟩,⟨gW e7,gW m7⟩,⟨gW e20,gW e21,gS⟩,⟨s8,gW e8,by rw [hnx];exact gW m8⟩,by(repeat' first|exact hM|refine PtM.upd ?_ zd zd)⟩,zo⟩
     ·have hnx:woQ q (u2.take (k+1))=woQ q (u2.take k)++[u2[k]]:=by rw [hts,woQ_y _ hx]
      have hmp:(woQ q (u2.take (k+1))).map Qt.av=(woQ q (u2.take k)).map Qt.av++[Qt.av u2[k]]:=by rw [hnx,ZCb];rfl
      clear gu hts hnx;generalize (woQ q (u2.take k)).map Qt.av=R at *;generalize u2[k]=x at *;obtain⟨x1,x2,x3,x4⟩:=x;have hx:¬(x1=q1∧x2=q2∧x3=q3∧x4=q4):=λh=>hx (by rw [←hQ];obtain⟨rfl,rfl,rfl,rfl⟩:=h;rfl)
      (refine wkad (w_15 e3 m3 e13 e14 e15 e5 e7 m7 e20 e21 e22 e8 m8 hum guk) w_t w_t (w_s ?_);intros)
      all_goals exact⟨k+1,⟨zo,⟨gW e3,gW m3⟩,⟨gW e13,gW e14,gW e15,gW e5⟩,⟨gW e7,gW m7⟩,⟨gW e20,gW e21,gS⟩,⟨_,gC,by rw [hmp];exact gC⟩,by(repeat' first|exact hM|refine PtM.upd ?_ zd zd)⟩,zo⟩
    ·have hku:k=u2.length:=zo;subst hku;rw [ZDc] at m8;have htw:=Zwo q u2;have hRm:((woQ q u2).map Qt.av).length=(woQ q u2).length:=ZBr ..;have hn1:(u2.length:Int) - ((woQ q u2).length:Int)=(tmQ q u2:Int):=zo;have hn2:(tmQ q u2:Int)≤n:=zo;generalize (woQ q u2).map Qt.av=R at *;generalize (woQ q u2).length=rl at *;generalize tmQ q u2=tn at *
     (refine wkad (w_16 e3 m3 e13 e14 e15 e5 e7 m7 e20 e21 e22 e8 m8 hum hRm hn1) w_t w_t (w_s ?_);intros)
     refine Zx0 (ι:=Nat) (λj e m=>(mo+1≤j∧j≤max mo tn+1)∧(e 3=.pbox 3 g3 0∧m 3=some (.box g3 91 [iv q1,iv q2,iv q3,iv q4] false))∧(e 13=.sl 4 A∧e 14=iv a.length∧e 15=iv i)∧(e 7=.pbox 7 g7 0∧m 7=some (.box g7 78 [.v (.bool us),lim un,lim ud,.sl 4 UQ] false))∧(e 8=.own 500 s8∧m 500=some (.row s8 91 4 R 0))∧e 11=iv tn∧∃sv S,e 5=.own 12 sv∧PtM m sv S (λk=>(W k).map qtA) j) (λj=>max mo tn+1 - j) (mo+1) zr ?_ ?_
     ·clear e3 m3 e13 e14 e15 e5 hM e7 m7 e8 m8 e20 e21 e22
      rintro j e m ⟨⟨hj1,hj2⟩,⟨e3,m3⟩,⟨e13,e14,e15⟩,⟨e7,m7⟩,⟨e8,m8⟩,e11,sv,S,e5,hM⟩
      have hlE:((List.range j).map λk=>AV.own (2000+k) (S k)).length=j:=by rw [ZBr,List.length_range]
      by_cases hjt:j≤tn
      ·obtain⟨top,el⟩:=hM;have hjt':(j:Int)≤(tn:Int):=zo;have hW:=habv j zo;have n3:¬3=2000+j:=zo;have n7:¬7=2000+j:=zo;have n5:¬500=2000+j:=zo;have hset:∀x y:AV,(((List.range j).map λk=>AV.own (2000+k) (S k))++[x]).set j y=((List.range j).map λk=>AV.own (2000+k) (S k))++[y]:=λx y=>by
        rw [List.set_append_right _ _ zo,hlE,ZE0];rfl
       have hnw:(List.range (j+1)).map (λk=>AV.own (2000+k) (if k=j then .slice none 0 0 else S k))=((List.range j).map λk=>AV.own (2000+k) (S k))++[.own (2000+j) (.slice none 0 0)]:=by
        rw [Zvd,ZBo rfl];congr 1;exact ZEo λk hk=>by rw [ZBn (by have:=List.mem_range.1 hk;omega)]
       generalize (List.range j).map (λk=>AV.own (2000+k) (S k))=E at *
       (refine wkad (w_14 e3 m3 e13 e14 e15 e7 m7 e8 m8 e11 e5 top hlE hjt') w_t w_t (w_s ?_);intros)
       refine⟨j+1,_,Frz.elNil (K:=12) (j:=j) (2000+j) 4 78 (gC) zo (by rw [ZDe zo,hlE,ZE0];rfl),⟨⟨zo,zo⟩,⟨gW e3,gW (And.intro m3 n3)⟩,⟨gW e13,gW e14,gW e15⟩,⟨gW e7,gW (And.intro m7 n7)⟩,⟨gW e8,gW (And.intro m8 n5)⟩,gW e11,_,(λk=>if k=j then .slice none 0 0 else S k),gC,⟨?_,λk hk=>?_⟩⟩,zo⟩
       ·dsimp only;rw [Zjs,hset,←hnw]
       ·by_cases hkj:k=j
        ·subst hkj;dsimp only;rw [Zfq zo,Zjs,if_pos rfl,hW];rfl
        ·rw [ZBn hkj];simp (disch:=omega) only [Zfq,marks];exact el k zo
      ·have hjt':¬(j:Int)≤(tn:Int):=zo;have hjm:j=max mo tn+1:=zo;have hM2:=hM.top
       (refine wkax (w_14 e3 m3 e13 e14 e15 e7 m7 e8 m8 e11 e5 hM2 hlE hjt') w_t w_t w_t w_t w_t w_t (w_r 0) (w_s ?_);intros)
       refine r_frzD (Frz.own (d:=8) (k:=500) (sv:=s8) (ty:=91) (mm:=4) (es:=R) (pub:=0) (gW e8) (by exact m8)) ?_;have hM:PtM (Go.Pg.mark m 500) sv S (λk=>(W k).map qtA) j:=hM.upd zo zo;obtain⟨top,el⟩:=hM;have etn:=el tn zo
       have hgE:((List.range j).map λk=>AV.own (2000+k) (S k)).getD tn .u=.own (2000+tn) (S tn):=by
        rw [ZB8,ZCw,ZEg zo];rfl
       have hwt:=hwl tn;have hset:=λx:AV=>Zxx (λk=>AV.own (2000+k) (S k)) (n:=j) x (show tn < j by omega);have w7:Go.Pg.mark m 500 7=some (.box g7 78 [.v (.bool us),lim un,lim ud,.sl 4 UQ] false):=by show Go.Pg.upd m 500 _ 7=_;rw [Zfq zo];exact m7
       have w3:Go.Pg.mark m 500 3=some (.box g3 91 [iv q1,iv q2,iv q3,iv q4] false):=by show Go.Pg.upd m 500 _ 3=_;rw [Zfq zo];exact m3
       have htj:(tn:Int) < (j:Int):=zo;have htj2:tn < j:=zo;obtain⟨kn,hkn⟩:∃kn,kn=2000+tn:=⟨_,rfl⟩;rw [←hkn] at etn hgE;have b3:(3 == kn)=false:=by rw [ZF8];omega
       have b7:(7 == kn)=false:=by rw [ZF8];omega
       have b12:(12 == kn)=false:=by rw [ZF8];omega
       have n3:¬3=kn:=zo;have n7:¬7=kn:=zo;have n12:¬12=kn:=zo;have n12':¬kn=12:=zo;have hWn:∀k,(woL q (a.take (i+1)) k).map qtA=if tn=k then (W k).map qtA++[.agg [.v (.bool us),lim un,lim ud,.sl 4 R]] else (W k).map qtA:=λk=>by
        rw [hw2];by_cases h:tn=k
        ·rw [ZBo h,ZBo h,ZCb,hqt]
        ·rw [ZBn h,ZBn h]
       generalize Go.Pg.mark m 500=m1 at *;clear m3 m7 m8 hM2 hw2;generalize hLT:(W tn).map qtA=LT at *;generalize (List.range j).map (λk=>AV.own (2000+k) (S k))=E at *;refine r_drawS 13 (Ze1 [(10,.sl 4 [.agg [.v (.bool us),lim un,lim ud,.sl 4 R]])]) [11,1011] [kn] (by simp only [ZHd,ZEs];rfl) (by simp only [List.drop_succ_cons,ZD1];rfl) zk zr zk zk (by simp only [ZB2,ZCe,Nat.reduceAdd];rfl) ?_
       (refine wkax (w_22 e3 w3 e13 e14 e15 e7 w7 e11 e5 top hlE hgE etn b3 b7 b12 n12 n12' n3 n7 hwt htj) w_t w_t w_t w_t w_t w_t (w_r 0) (w_s ?_);intros)
       rename_i svn;intro hrel;have h1:=own_one (d:=58) (k:=kn) (sv:=svn) (gC) hrel;unfold Value.oneCell' at h1;refine⟨_,Frz.slotV (d:=58) (k:=kn) (gC),?_⟩
       (refine wkax (w_17 h1 e3 w3 e13 e14 e15 e7 w7 e11 e5 top hlE n12 n12' n3 n7 htj) w_t w_t w_t w_t w_t w_t (w_r 0) (w_s ?_);intros)
       refine⟨_,Frz.elOwn (K:=12) (k:=kn) (j:=tn) (gW n12) (gW n12') (by rw [ZHb zo]),?_⟩;refine Zzg ?_
       (refine wkax (w_13 e3 w3 e13 e14 e15 e7 w7 e11 e5 n12 n12' n3 n7) w_t w_t w_t w_t w_t w_t (w_r 0) (w_s ?_);intros)
       refine⟨i+1,⟨zo,⟨gW e3,gW (And.intro w3 n3)⟩,⟨gW e13,gW e14,gS⟩,_,(λk=>if k=tn then svn else S k),gW e5,⟨?_,λk hk=>?_⟩⟩,zo⟩
       ·dsimp only;rw [Zjs,List.set_set,hset,hm2,←hjm];congr 2;refine List.map_congr_left λk hk=>?_;by_cases h:k=tn
        ·rw [ZBo h,ZBo h,hkn,h]
        ·rw [ZBn h,ZBn h]
       ·dsimp only;by_cases h:k=tn
        ·subst h;rw [←hkn,ZBo rfl,hWn,ZBo rfl,hLT];simp (disch:=omega) only [Zfq,Zjs,marks]
        ·rw [ZBn h,hWn,ZBn (λh2=>h h2.symm)];simp (disch:=omega) only [Zfq,marks];exact el k zo
     ·exact⟨⟨ZBp _,zo⟩,⟨gW e3,gW m3⟩,⟨gW e13,gW e14,gW e15⟩,⟨gW e7,gW m7⟩,⟨gW e8,gW m8⟩,gC,_,_,gW e5,by(repeat' first|exact hM|refine PtM.upd ?_ zd zd)⟩
   ·exact⟨ZBx _,⟨gW e3,gW m3⟩,⟨gW e13,gW e14,gW e15,gW e5⟩,⟨gC,gC⟩,⟨gC,gW hum,gC⟩,⟨_,gC,gC⟩,by(repeat' first|exact hM|refine PtM.upd ?_ zd zd)⟩
  ·have hia:i=a.length:=zo;subst hia;rw [hfull] at hM;have hM2:=hM.top
   (refine wkad (w_8 e3 m3 e13 e14 e15 e5 hM2 hpm) w_t w_t (w_s ?_);intros)
   refine Exists.elim (Frz.elsPub (K:=12) (d:=5) (mm:=4) (λj=>2000+j) S _ hM2 (λj hj=>⟨hM.el j hj,zo⟩) (λi j _ _ h=>zo) (gW e5)) λm' hF=>⟨_,hF,?_⟩
   (refine wkad (w_8 e3 m3 e13 e14 e15 e5 hM2 hpm) w_t w_t (w_s ?_);intros)
   all_goals exact gL
 ·refine⟨ZBx _,⟨gC,gC⟩,⟨gC,gW hpm,gC⟩,s12,(λ_=>.slice none 0 0),gC,⟨?_,λj hj=>?_⟩⟩
  ·rw [Zjs];rfl
  ·have hj0:j=0:=by
    have:moQ q (a.take 0)=0:=rfl;omega
   subst hj0;rw [Zfq zd,Zjs];rfl
theorem XB.scl {p:QTs} {k n:Nat} (h:XB p k n) {s:Int} (hs:s=-1∨s=1):XB (sclT (s:Rat) p) k n:=by
 rcases hs with rfl | rfl
 ·exact h.neg
 ·show XB (sclT 1 p) k n;rw [Zi9];exact h
theorem Zxe (c:Rat) (p:QTs):Zbh c p=sclT c p:=by
 unfold Zbh sclT;exact ZEo λt _=>by rw [Rat.mul_comm]
theorem ratOfm1:Pure prog 27 [iv (-1)] (ratQ (-1:Rat)):=Zmd (z:=-1) (.inl rfl)
theorem Zz3:Pure prog 55 [ratQ (-1:Rat)] (.sl 4 ([((-1:Rat),[])].map qtA)):=by
 have c:=Zsg (-1) sz_m1 zo
 rwa [cst_ok,ZBn (by decide +kernel)] at c
theorem ratOf1':Pure prog 27 [iv 1] (.agg [.v (.bool false),lim [1],lim [1]]):=by rw [←Znh];exact Zmd (z:=1) (.inr (.inr rfl))
theorem Zzz (a num den:QTs) (q:Qt) {ka kb na nb L LA M:Nat} (ha:XB a ka na) (hu:XB num kb nb) (hd:XB den kb nb) (la:a.length≤LA) (hLA:1≤LA∧LA≤100000) (hMM:M≤1000) (hmo:moQ q.norm.1 a≤M) (lu:num.length≤L) (ld:den.length≤L) (h1:1≤L)
 (hq:na+(M+1)*nb≤maxQ) (hL:(M+1)*LA*L ^ (M+1)≤100000000) (hk:ka+(M+1)*(2*kb)+10≤100000) :
 Pure prog 342 [qpA a,q.av,.agg [qpA num,qpA den]] (if q.norm.2=0 then .agg [qpA a,qpA [((1:Rat),[])]] else .agg [qpA (rpN q.norm.1 a (sclT (q.norm.2:Rat) num) den),qpA (rpD q.norm.1 a den)]):=by
 have cn0:=Zx2 q.k q.a q.b q.c;have cn:Pure prog 162 [q.av] (.tup [q.norm.1.av,iv q.norm.2]):=cn0;clear cn0;have hs:=Zgx q;have c1:=ratOf1';have cc:=awConst1
 have o1:qpA [((1:Rat),[])]=.sl 4 [.agg [.v (.bool false),lim [1],lim [1],.sl 4 []]]:=by
  show AV.sl 4 [qtA ((1:Rat),[])]=_;rw [Zk8];rfl
 obtain⟨q1,q2,q3,q4⟩:=q;generalize hN:Qt.norm ⟨q1,q2,q3,q4⟩=nn at *;obtain⟨n,s⟩:=nn;simp only at hs cn ⊢;by_cases hs0:s=0
 ·subst hs0;rw [ZBo rfl,o1];show Pure _ _ [.sl 4 (a.map qtA),.agg [iv q1,iv q2,iv q3,iv q4],.agg [.sl 4 (num.map qtA),.sl 4 (den.map qtA)]] (.agg [.sl 4 (a.map qtA),.sl 4 [.agg [.v (.bool false),lim [1],lim [1],.sl 4 []]]]);obtain⟨n1,n2,n3,n4⟩:=n;generalize a.map qtA=A at *;generalize num.map qtA=U at *;generalize den.map qtA=D at *;refine pI func342 rfl ntmps342 results342 call342 ?_
  (refine wkad w_t (w_3 cn c1 cc) w_t (w_s ?_);intros)
  all_goals exact gL
 ·rw [ZBn hs0];have hs':s=-1∨s=1:=by rcases hs with h | h | h;exact .inl h;exact absurd h hs0;exact .inr h
  have hv:=hu.scl hs';have lv:(sclT (s:Rat) num).length≤L:=by rw [Zcy];exact lu
  obtain⟨mm,hmm⟩:∃mm,mm=moQ n a:=⟨_,rfl⟩;have hm:mm≤M:=by rw [hmm];exact hmo
  have e0:L ^ (M+1)=L ^ M*L:=ZC0 ..;have p1:∀i,i≤M+1→L ^ i≤L ^ (M+1):=λi hi=>ZDh h1 hi;have p0:∀i,i≤M→L ^ i≤L ^ M:=λi hi=>ZDh h1 hi;have p2:∀i,i≤M+1→i*nb≤(M+1)*nb:=λi hi=>ZB7 _ hi;have p3:∀i,i≤M+1→i*kb≤(M+1)*(2*kb):=λi hi=>ZCy hi zo;have r3:∀i,i≤M+1→i*(2*kb)≤(M+1)*(2*kb):=λi hi=>ZB7 _ hi;have hM:=Zjc;have b0:(M+1)*LA*L ^ (M+1)≤100000000:=hL;have b1:(M+1)*LA*L ^ (M+1)=M*LA*L ^ (M+1)+LA*L ^ (M+1):=by rw [ZDi,ZCi]
  have b2:L ^ M≤L ^ (M+1):=ZDh h1 zo;have b3:L≤L ^ (M+1):=by have h:=p1 1 zo;rwa [Nat.pow_one] at h
  have b4:M*LA*L ^ M≤M*LA*L ^ (M+1):=ZDw _ b2;have b6':L ^ (M+1)≤LA*L ^ (M+1):=ZHe _ zo;have b7':LA*L ^ M≤LA*L ^ (M+1):=ZDw _ b2;have b8:1*(2*kb)≤(M+1)*(2*kb):=ZB7 _ zo;have b5:nb≤(M+1)*nb:=ZHe _ zo;have hpa:∀k,XB (paQ n a k) ka na:=λk=>ha.part n k;have hpl:∀k,(paQ n a k).length≤LA:=λk=>ZBv (pa_len n a k) la;have hpn:=Zxl n (num:=sclT (s:Rat) num) ha.1 hv.1 hd.1;rw [←hpn];show Pure _ _ _ (.agg [.sl 4 ((hnX (paQ n a) (sclT (s:Rat) num) den (moQ n a) (moQ n a+1)).map qtA),.sl 4 ((pwX den (moQ n a)).map qtA)])
  rw [←hmm];have hlen:∀i,i≤mm→(hnX (paQ n a) (sclT (s:Rat) num) den mm i).length≤M*LA*L ^ M:=λi hi=>hn_len2 hpl lv ld h1 mm i M zo;have hlp:∀i,i≤mm→(pwX den i).length≤L ^ M:=λi hi=>ZBv (Zo6 ld i) (p0 i zo);have hx:∀i,i≤mm→XB (hnX (paQ n a) (sclT (s:Rat) num) den mm i) (ka+1+i*(2*kb)) (na+i*nb):=λi hi=>hn_xb ha hv hd n mm i zo;have cX:∀i,i≤mm→Pure prog 66 [.sl 4 ((hnX (paQ n a) (sclT (s:Rat) num) den mm i).map qtA),.sl 4 ((sclT (s:Rat) num).map qtA)] (.sl 4 ((mulX (hnX (paQ n a) (sclT (s:Rat) num) den mm i) (sclT (s:Rat) num)).map qtA)):=λi hi=>by
   have l1:=hlen i hi;have l2:(hnX (paQ n a) (sclT (s:Rat) num) den mm i).length*(sclT (s:Rat) num).length≤M*LA*L ^ M*L:=ZCy l1 lv;rw [ZC1 (M*LA),←e0] at l2;have l3:=p2 i zo;have l6:=r3 i zo;have l4:i*nb≤M*nb:=ZB7 _ zo;have l5:(M+1)*nb=M*nb+nb:=ZDi ..;exact Zz1 _ _ (hx i hi) hv zo zo zo zo zo zo
  have cN:∀k,Pure prog 100 [.sl 4 ((woL n a k).map qtA)] (.sl 4 ((paQ n a k).map qtA)):=λk=>by
   obtain⟨a1,a2,D,C,a3,a4,a5,a6⟩:=ha;exact exNrmG (woL n a k) (D:=D) (C:=C) ⟨λt ht=>by obtain⟨u,hu,rfl⟩:=Zjx ht;exact a6.1 u hu,ZBv (n1_wo n k a) a6.2⟩ a3 a4 a5 (Zsq a1.dom n k) (by have:=Zwf n a k;omega) (Zqq a2 n k) zo zo
  have cY:∀i,i≤mm→Pure prog 66 [.sl 4 ((paQ n a (mm - i)).map qtA),.sl 4 ((pwX den i).map qtA)] (.sl 4 ((mulX (paQ n a (mm - i)) (pwX den i)).map qtA)):=λi hi=>by
   have l1:=hlp i hi;have l0:=hpl (mm - i);have l2:(paQ n a (mm - i)).length*(pwX den i).length≤LA*L ^ M:=ZCy l0 l1;have l3:=p2 i zo;have l4:=p3 i zo;exact Zz1 _ _ (hpa _) (hd.pw i) zo zo zo zo zo zo
  have cA:∀i,i≤mm→Pure prog 69 [.sl 4 ((mulX (hnX (paQ n a) (sclT (s:Rat) num) den mm i) (sclT (s:Rat) num)).map qtA),.sl 4 ((mulX (paQ n a (mm - i)) (pwX den i)).map qtA)] (.sl 4 ((hnX (paQ n a) (sclT (s:Rat) num) den mm (i+1)).map qtA)):=λi hi=>by
   have x1:=(hx i hi).mul hv;have x2:=(hpa (mm - i)).mul (hd.pw i);have l1:=ZBv (Zd1 (hnX (paQ n a) (sclT (s:Rat) num) den mm i) (sclT (s:Rat) num)) (ZCy (hlen i hi) lv);rw [ZC1 (M*LA),←e0] at l1;have l7:=r3 (i+1) zo;rw [ZDi] at l7;have l2:=ZBv (Zd1 (paQ n a (mm - i)) (pwX den i)) (ZCy (hpl (mm - i)) (hlp i hi));have l3:=p2 i zo;have l4:=p3 i zo;have l5:i*nb≤M*nb:=ZB7 _ zo;have l6:(M+1)*nb=M*nb+nb:=ZDi ..;exact exPlus _ _ (x1.mono (k:=_) (ZBp _) (show _≤na+(M+1)*nb by omega)).qk (x2.mono (k:=_) (ZBp _) (show _≤na+(M+1)*nb by omega)).qk x1.nz x2.nz zo zo zo zo zo
  have cD:∀i,i < mm→Pure prog 66 [.sl 4 ((pwX den i).map qtA),.sl 4 (den.map qtA)] (.sl 4 ((pwX den (i+1)).map qtA)):=λi hi=>by
   have l1:=hlp i zo;have l2:(pwX den i).length*den.length≤L ^ M*L:=ZCy l1 ld;rw [←e0] at l2;have l3:=p2 (i+1) zo;have l4:=p3 (i+1) zo;have l5:(i+1)*nb=i*nb+nb:=ZDi ..;have l6:(i+1)*kb=i*kb+kb:=ZDi ..;exact Zz1 _ _ (hd.pw i) hd zo zo zo zo zo zo
  have cS0:=exSplit a n zo ha.2.1 zo;rw [←hmm] at cS0
  have cM:Pure prog 66 [.sl 4 ([((-1:Rat),[])].map qtA),.sl 4 (num.map qtA)] (.sl 4 ((mulX [((-1:Rat),[])] num).map qtA)):=by
   have hx1:XB [((-1:Rat),[])] 1 0:=xbC _ _ (by decide +kernel);have l1:([((-1:Rat),[])]:QTs).length*num.length≤1*L:=ZCy zs lu;have l2:([((-1:Rat),[])]:QTs).length≤1:=by simp
   exact Zz1 _ _ hx1 hu zo zo zo zo zo zo
  have hVW:s=-1→(sclT (s:Rat) num).map qtA=(mulX [((-1:Rat),[])] num).map qtA:=λh=>by rw [h,mul_neg hu.1];rfl
  have hVU:s=1→(sclT (s:Rat) num).map qtA=num.map qtA:=λh=>by rw [h];show(sclT 1 num).map qtA=_;rw [Zi9]
  have cM1:=ratOfm1;have cM2:=Zz3;have hpl2:((List.range (mm+1)).map λk=>qpA (woL n a k)).length=mm+1:=by rw [ZBr,List.length_range]
  have hpg:∀k,k≤mm→((List.range (mm+1)).map λk=>qpA (woL n a k)).getD k .u=.sl 4 ((woL n a k).map qtA):=λk hk=>by
   rw [ZB8,ZCw,ZEg zo];rfl
  have d00:(pwX den 0).map qtA=[.agg [.v (.bool false),lim [1],lim [1],.sl 4 []]]:=by
   show [qtA ((1:Rat),[])]=_;rw [Zk8];rfl
  clear hx hlen hlp hpa hpl b0 b1 b2 b3 b4 b5 b6' b7' b8 p1 p0 p2 p3 r3 e0 hq hL hk;have cS1:Pure prog 350 [.sl 4 (a.map qtA),n.av] (.sl 1 ((List.range (mm+1)).map λk=>qpA (woL n a k))):=cS0;clear cS0;show Pure _ _ [.sl 4 (a.map qtA),.agg [iv q1,iv q2,iv q3,iv q4],.agg [.sl 4 (num.map qtA),.sl 4 (den.map qtA)]] _;have h00:(hnX (paQ n a) (sclT (s:Rat) num) den mm 0).map qtA=[]:=rfl;generalize hHN:(λi=>(hnX (paQ n a) (sclT (s:Rat) num) den mm i).map qtA)=HN at *;have hHN:∀i,(hnX (paQ n a) (sclT (s:Rat) num) den mm i).map qtA=HN i:=λi=>by rw [←hHN]
  generalize hXX:(λi=>(mulX (hnX (paQ n a) (sclT (s:Rat) num) den mm i) (sclT (s:Rat) num)).map qtA)=XX at *;have hXX:∀i,(mulX (hnX (paQ n a) (sclT (s:Rat) num) den mm i) (sclT (s:Rat) num)).map qtA=XX i:=λi=>by rw [←hXX]
  generalize hYY:(λi=>(mulX (paQ n a (mm - i)) (pwX den i)).map qtA)=YY at *;have hYY:∀i,(mulX (paQ n a (mm - i)) (pwX den i)).map qtA=YY i:=λi=>by rw [←hYY]
  generalize hDN:(λi=>(pwX den i).map qtA)=DN at *;have hDN:∀i,(pwX den i).map qtA=DN i:=λi=>by rw [←hDN]
  generalize hPN:(λi=>(paQ n a i).map qtA)=PN at *;have hPN:∀i,(paQ n a i).map qtA=PN i:=λi=>by rw [←hPN]
  simp only [hHN,hXX,hYY,hDN,hPN] at cX cN cY cA cD h00 d00 ⊢;clear hHN hXX hYY hDN hPN;generalize (List.range (mm+1)).map (λk=>qpA (woL n a k))=PT at *;obtain⟨n1,n2,n3,n4⟩:=n;generalize a.map qtA=A at *;have cUV:s=1→num.map qtA=(sclT (s:Rat) num).map qtA:=λh=>by rw [h];show _=(sclT 1 num).map qtA;rw [Zi9]
  generalize (sclT (s:Rat) num).map qtA=V at *;generalize (mulX [((-1:Rat),[])] num).map qtA=W at *;generalize num.map qtA=U at *;generalize den.map qtA=D at *;generalize [((-1:Rat),[])].map qtA=NG at *;have cS:Pure prog 350 [.sl 4 A,.agg [iv n1,iv n2,iv n3,iv n4]] (.sl 1 PT):=cS1;clear cS1;have hmm1:((mm+1:Nat):Int) - 1=(mm:Int):=zo;clear hN hs hs0 hpn hv lv hu hd ha hmm;rcases hs' with rfl | rfl
  rotate_left
  have hV:=hVU rfl
  rotate_left
  have hV:=hVW rfl;all_goals (
   subst hV;clear hVU hVW;refine pI func342 rfl ntmps342 results342 call342 ?_
   (refine wkad (w_2 hmm1 hpl2) (w_7 cn cM1 cM2 cM cS c1 cc) w_t (w_s ?_);intros)
   refine Zea (Frz.nil (d:=11) 4 (gC)) ?_;refine Zad (ι:=Nat) (λi e m=>i≤mm+1∧(∃g x,e 5=.pbox 5 g 0∧m 5=some (.box g 47 [x,.sl 4 D] false))∧(∃g,e 6=.pbox 6 g 0∧m 6=some (.box g 47 [.v (.slice none 0 0),.v (.slice none 0 0)] false))∧(e 9=.sl 4 V∧e 10=.sl 1 PT)∧e 11=.sl 4 (HN i)∧e 12=.sl 4 (DN (min i mm))∧e 13=.v (.int .i64 ((mm:Int) - (i:Int)))) (λi=>mm+1 - i) 0 zr ?_ ?_
   ·rintro i e m ⟨hi,⟨g5,x5,e5,m5⟩,⟨g6,e6,m6⟩,⟨e9,e10⟩,e11,e12,e13⟩
    by_cases hlt:i≤mm
    ·obtain⟨k,hk⟩:∃k,mm=i+k:=⟨mm - i,zo⟩;have h13:(mm:Int) - (i:Int)=(k:Int):=zo;have hmin:min i mm=i:=zo;have x1:=cX i hlt;have y1:=cY i hlt;have a1:=cA i hlt;have k1:=cN k;have hg:=hpg k zo;have hk3:k < PT.length:=zo;have h13':(k:Int) - 1=(mm:Int) - ((i+1:Nat):Int):=zo;rw [h13] at e13;rw [hmin] at e12;rw [show mm - i=k by omega] at y1;have cDi:=cD i;clear cX cY cA cN cD hpg cn cS c1 cc cM cM1 cM2 h00 d00;generalize (woL _ a k).map qtA=WK at *;by_cases hk0:k=0
     ·have hmin':min (i+1) mm=i:=zo;have hk0':¬(k:Int) > 0:=zo
      (refine wkad (w_12 e5 m5 e6 m6 e9 e10 e11 e12 e13 hpl2 hg hk0') (w_4 k1 x1 y1 a1) (w_1 (w_d 13 [(2,.sl 4 (XX i)),(7,.sl 4 (PN k)),(9,.sl 4 (YY i)),(10,.sl 4 (HN (i+1)))] [] [])) (w_s ?_);intros)
      exact⟨i+1,⟨zo,⟨g5,x5,gW e5,gW m5⟩,⟨g6,gW e6,gW m6⟩,⟨gW e9,gW e10⟩,gC,by rw [hmin'];exact gW e12,by rw [←h13'];exact gC⟩,zo⟩
     ·have hmin':min (i+1) mm=i+1:=zo;have hk0':(k:Int) > 0:=zo;have d1:=cDi zo
      (refine wkad (w_12 e5 m5 e6 m6 e9 e10 e11 e12 e13 hpl2 hg hk0') (w_5 k1 x1 y1 a1 d1) (w_1 (w_d 13 [(2,.sl 4 (XX i)),(7,.sl 4 (PN k)),(9,.sl 4 (YY i)),(10,.sl 4 (HN (i+1)))] [] [])) (w_s ?_);intros)
      exact⟨i+1,⟨zo,⟨g5,x5,gW e5,gW m5⟩,⟨g6,gW e6,gW m6⟩,⟨gW e9,gW e10⟩,gC,by rw [hmin'];exact gC,by rw [←h13'];exact gC⟩,zo⟩
    ·have him:i=mm+1:=zo;have h13:(mm:Int) - (i:Int)=-1:=zo;have hmin:min i mm=mm:=zo;rw [h13] at e13;rw [hmin] at e12;subst him;clear cX cY cA cN cD hpg cn cS c1 cc cM cM1 cM2 h00 d00 h13 hmin;generalize HN (mm+1)=H at *;generalize DN mm=E at *
     (refine wkad (w_9 e5 m5 e6 m6 e9 e10 e11 e12 e13) w_t w_t (w_s ?_);intros)
     all_goals exact gM (w_2 e6 m6)
   ·exact⟨ZBx _,⟨_,_,gC,gC⟩,⟨_,gC,gC⟩,⟨gC,gC⟩,by rw [h00];exact gC,by rw [Nat.zero_min,d00];exact gC,by rw [show(mm:Int) - ((0:Nat):Int)=(mm:Int) by omega];exact gC⟩)
theorem Ze9:szOf prog 353=some 3:=by kernel_rfl
theorem Zfb:Zd5 prog 353=some 72:=by kernel_rfl
theorem zCmb:Zan prog 353=some (.agg #[.slice none 0 0,.slice none 0 0,.slice none 0 0]):=by kernel_rfl
theorem Ze7:szOf prog 363=some 1:=by kernel_rfl
theorem szFn:szOf prog 361=some 1:=by kernel_rfl
theorem zFn:Zan prog 361=some .nilFunc:=by kernel_rfl
theorem zSch:Zan prog 363=some (.agg #[.nilFunc]):=by kernel_rfl
theorem Ze8:szOf prog 350=some 4:=by kernel_rfl
theorem zPlc:Zan prog 350=some (.agg #[.int .i64 0,.int .i64 0,.int .i64 0,.bool false]):=by kernel_rfl
section
attribute [local go_sem] underlying3 underlying4 underlying161 underlying24 underlying26 underlying28 underlying91 underlying76 underlying78 underlying33 underlying34 sz3 by3 z3 szB zB Zas zRat Zav zInt Zau zNat Zag Zar Zah Bool.and_self Zal Zbb zSlQ szQT byQT zQT Za8 zSlT szQP zQP underlying346 underlying47 szFr byFr zFr Zch Zck zSQP
end
end Go.Proofs.YtkefeinbjbeidaaGreatDoor
namespace Go.Proofs.YtkefeinbjbeidaaGreatDoor
open Go Go.RowKit Go.Pg Go.Pol Go.Proofs.Tryz
section
variable {ps:List PQ} {rs:List Rat}
def vlQ (ps:List PQ) (rs:List Rat):List Qt→Rat
 | []=>1
 | q :: l=>Qt.val q ps rs*vlQ ps rs l
def pwr (x:Rat):Nat→Rat
 | 0=>1
 | n+1=>pwr x n*x
def swX (W:Nat→Rat) (x:Rat):Nat→Rat
 | 0=>0
 | i+1=>swX W x i+W i*pwr x i
end
def alQ (C:Qt→Prop) (l:QTs):Prop:=∀t∈l,∀q∈t.2,C q
section
variable {C:Qt→Prop}
theorem alQ.join {p q:QTs} (hp:alQ C p) (hq:alQ C q):alQ C (Za1 p q):=λt ht=>by
 obtain⟨s,hs,e⟩:=Ziq ht;rw [e];rcases List.mem_append.1 hs with h | h
 ·exact hp s h
 ·exact hq s h
theorem alQ.gat {l:QTs} (h:alQ C l):alQ C (gatM l):=by
 rw [←Zrv];intro t ht;exact Zjl (P:=λx=>∀q∈x,C q) l [] (λt ht=>by cases ht) h t (List.mem_filter.1 ((Za3 _).mem_iff.1 ht)).1
theorem alQ.mul {p q:QTs} (hp:alQ C p) (hq:alQ C q):alQ C (mulX p q):=alQ.gat λu hu=>by
 obtain⟨s,hs,t,ht,rfl⟩:=Zft hu;intro x hx;rcases List.mem_append.1 ((Za3 _).mem_iff.1 hx) with h | h
 ·exact hp s hs x h
 ·exact hq t ht x h
theorem alQ.pw {d:QTs} (h:alQ C d):∀i,alQ C (pwX d i)
 | 0=>λt ht x hx=>by
   rw [List.mem_singleton.1 ht] at hx;cases hx
 | i+1=>(h.pw i).mul h
theorem alQ.part {a:QTs} (h:alQ C a) (q:Qt) (k:Nat):alQ C (paQ q a k):=alQ.gat λu hu x hx=>by
 obtain⟨t,ht,rfl⟩:=Zjx hu;exact h t ht x (List.mem_filter.1 hx).1
theorem alQ.scl {p:QTs} (h:alQ C p) (s:Rat):alQ C (sclT s p):=λu hu=>by
 obtain⟨t,ht,rfl⟩:=List.mem_map.1 hu;exact h t ht
theorem alQ.rf {P:Nat→QTs} {a d:QTs} (hP:∀k,alQ C (P k)) (ha:alQ C a) (hd:alQ C d) (m:Nat):∀i,alQ C (rfX P a d m i)
 | 0=>λt ht=>by cases ht
 | i+1=>(alQ.rf hP ha hd m i).join (((hP i).mul (ha.pw i)).mul (hd.pw (m - i)))
end
def cstT (u:Rat):QTs:=if u=0 then [] else [(u,[])]
theorem cstT_xb {u:Rat} {k:Nat} (h:Sz u k):XB (cstT u) (k+1) 0:=by
 have hd:=Zaf.1 h.2;have hn:=Zaf.1 h.1;have hk:65536 ^ k < 65536 ^ (k+1):=Nat.pow_lt_pow_right zo zo;unfold cstT;split
 ·exact Zom.mono zo (ZBp _)
 ·rename_i h0;refine⟨⟨λt ht=>by rw [List.mem_singleton.1 ht];exact⟨h0,rgQ.de⟩,ZGb _ _⟩,λt ht=>by rw [List.mem_singleton.1 ht];exact ZBp _,u.den,u.num.natAbs,u.den_nz,zo,zo,λt ht=>by rw [List.mem_singleton.1 ht];exact ZDy _,?_⟩;rw [Zbf];exact cl_le.2 (ZE4 _ (ZDm u.den_nz))
theorem Zi1 (u:Rat):(cstT u).length≤1:=by unfold cstT;split<;>simp
theorem ZAo {C:Qt→Prop} (u:Rat):alQ C (cstT u):=by
 unfold cstT;split
 ·exact λt ht=>by cases ht
 ·exact λt ht x hx=>by rw [List.mem_singleton.1 ht] at hx;cases hx
end Go.Proofs.YtkefeinbjbeidaaGreatDoor
