/- Contracts of the functions that the law reaches, and the rules by which they are walked. They say what a call hands back for every input within the bounds that each names; no other condition. -/
import Derived.Test.YtkefeinbjbeidaaGreatDoorBg7
import Derived.Sort.AssemblyPlain
import Derived.Shelf.SlSortCmp.NoneTotal
import Derived.Sort.LotD5
set_option linter.unusedSimpArgs false
set_option linter.unusedVariables false
set_option maxRecDepth 20000
set_option maxHeartbeats 16000000
namespace Go.Proofs.YtkefeinbjbeidaaGreatDoor
open Go Go.RowKit Go.Pg Go.Pol Go.Proofs.Tryz
attribute [-bool_to_prop] Bool.and_eq_decide Bool.or_eq_decide Bool.decide_beq_decide decide_eq_decide
attribute [local go_sem] Zbt Za7 Zbw Zas Zav Zau Za9 Zba Zca Zcd Zcc Zcb Zqx Zsm Zqy Zh1 Zid Zko Zqz Zgo Zjr Zku Zlr Zqp Zkt Zlq Zqo Zgh Zg5 Zj4 Zgn Zkn Zl5 Zuy Zu6
theorem cbStep2 (σ:Mem) (KB KC KV g:Nat) (svC svV:Value) (cs:List (Po × Po)) (vs:List Vt) (fr:Nat) (i:Nat) (s:RS) (hB:σ KB=some (.box g 145 [.own KC svC,.own KV svV,iv fr] false)) (hV:σ KV=some (.row svV 259 3 (vs.map Vt.av) 0)) (hC:σ KC=some (.row svC 150 2 (cs.map coA) 0)) (hBV:KB≠KV) (hBC:KB≠KC) (hVC:KV≠KC) (hl:vs.length≤64) (hf:fr≤100) (hok:StOk cs s) (hco:∀c∈cs,Co c.1∧Co c.2) (hk:s.k=2):ACall prog 103 [.pbox KB g 0,s.av,iv i] σ λr σ'=>∃sv,r=coA (FS.nxt ⟨cs,vs,fr⟩ i s).2 ∧
 σ'=upd (upd σ KV (some (.row sv 259 3 ((vs++(FS.nxt ⟨cs,vs,fr⟩ i s).1).map Vt.av) 0))) KB (some (.box g 145 [.own KC svC,.own KV sv,iv (if s.k=1 then fr+1 else fr:Nat)] false)):=by
 have mB:=Zaz hB;have mV:=Zaz hV;have mC:=Zaz hC;simp only [Ent.sh,AV.shL,AV.sh] at mB mV mC;have har:arS s.k=2:=by rw [hk];rfl
 have hal:=hok.al;have h0:=hok.ai 0 zo;obtain⟨a1,a2⟩:Co (cs.getD (gI s.ar 0).toNat ([],[])).1∧Co (cs.getD (gI s.ar 0).toNat ([],[])).2:=hco _ (Zki zo);have h1:=hok.ai 1 zo;obtain⟨b1,b2⟩:Co (cs.getD (gI s.ar 1).toNat ([],[])).1∧Co (cs.getD (gI s.ar 1).toNat ([],[])).2:=hco _ (Zki zo)
 have en:FS.nxt ⟨cs,vs,fr⟩ i s=([],(addM (cs.getD (gI s.ar 0).toNat ([],[])).1 (sclM s.r.q (subM (cs.getD (gI s.ar 1).toNat ([],[])).1 (cs.getD (gI s.ar 0).toNat ([],[])).1)),addM (cs.getD (gI s.ar 0).toNat ([],[])).2 (sclM s.r.q (subM (cs.getD (gI s.ar 1).toNat ([],[])).2 (cs.getD (gI s.ar 0).toNat ([],[])).2)))):=by
  unfold FS.nxt;simp only [hk];rfl
 rw [en];simp only [ZBn (show ¬s.k=1 by omega)];clear en;generalize ha:cs.getD (gI s.ar 0).toNat ([],[])=a at *;generalize hb:cs.getD (gI s.ar 1).toNat ([],[])=b at *;have ro:=hok.r2 hk;have zr:=(RQ.ok_av hok.rl ro).2;have s1:=poSub b.1 a.1 b1.pk a1.pk b1.st a1.st (by have:=b1.ln;omega) (by have:=a1.ln;omega) zo zo zo;have s2:=poSub b.2 a.2 b2.pk a2.pk b2.st a2.st (by have:=b2.ln;omega) (by have:=a2.ln;omega) zo zo zo;have d1:=b1.pk.sub a1.pk;have d2:=b2.pk.sub a2.pk;have t1:=Zw0 ordM b1.st a1.st;have t2:=Zw0 ordM b2.st a2.st;have l1:=Zw1 b.1 a.1;have l2:=Zw1 b.2 a.2;have n1:=a1.ln
 have n2:=a2.ln;have n3:=b1.ln;have n4:=b2.ln;have c1:=Zrk (subM b.1 a.1) s.r.q d1 zr t1 zo zo zo zo;have c2:=Zrk (subM b.2 a.2) s.r.q d2 zr t2 zo zo zo zo;have e1:=poAdd a.1 (sclM s.r.q (subM b.1 a.1)) a1.pk (d1.scl zr) a1.st (Zxb t1) zo (by have:=Zxc s.r.q (subM b.1 a.1);omega) zo zo zo;have e2:=poAdd a.2 (sclM s.r.q (subM b.2 a.2)) a2.pk (d2.scl zr) a2.st (Zxb t2) zo (by have:=Zxc s.r.q (subM b.2 a.2);omega) zo zo zo;have re:=RQ.ok_eq hok.rl ro;obtain⟨k,nm,ar,r⟩:=s;simp only at *;subst hk;generalize hq:r.q=q at *;rw [re];have al:=λg3 g4 g7=>cbAlongS 3 4 7 (KB+1000) (KC+1000) (KV+1000) g3 g4 g7 g svC svV fr 2 nm ar q cs a b (sclM q (subM b.1 a.1),sclM q (subM b.2 a.2)) (addM a.1 (sclM q (subM b.1 a.1)),addM a.2 (sclM q (subM b.2 a.2))) zo h0 h1 ha hb s1 s2 c1 c2 e1 e2
 clear s1 s2 c1 c2 e1 e2 d1 d2 t1 t2 l1 l2 a1 a2 b1 b2 hco hok re ro zr hq n1 n2 n3 n4;generalize addM a.1 (sclM q (subM b.1 a.1))=x1 at *;generalize addM a.2 (sclM q (subM b.2 a.2))=x2 at *;refine Zbe func103 rfl ntmps103 results103 call103 zr zs ?_;(focus (refine wkad (w_4 mB mV mC @Zcg) w_t w_t ?_;(repeat' first|exact w_t|apply w_l);all_goals intros));rename_i g3 g4 g6 g7;have al:=al g3 g4 g7;(focus (refine wkax (w_5 mB mV mC @Zcg @ZA4) w_t w_t w_t w_t (w_1 al) w_y (w_r 0) ?_;(repeat' first|exact w_t|apply w_l);all_goals intros));simp (disch:=omega) only [go_sem]
 refine Zie (Sub.refl _) ⟨svV,rfl,rfl⟩ ?_;rw [Zd9 hV,Zd9 hB]
 (repeat' (first|exact Agr.start _|(refine Agr.own ?_ zo)))
abbrev frmA (cs:List (Po × Po)) (vs:List Vt):AV:=.agg [.sl 2 (cs.map coA),.sl 3 (vs.map Vt.av)]
def parsN (l:List Vt) (i:Nat):List Int:=((List.range i).filter λj=>decide ((l.getD j (0,0,0)).1=1)).map λn:Nat=>(n:Int)
def cnt1 (l:List Vt):Nat:=(l.filter λv=>decide (v.1=1)).length
def cF (ss:List RS):Nat→Nat
 | 0=>0
 | i+1=>cF ss i+if (ss.getD i RS.zero).k=1 then 1 else 0
def cP (ss:List RS):Nat→Nat
 | 0=>0
 | i+1=>cP ss i+if (ss.getD i RS.zero).k=5∨(ss.getD i RS.zero).k=6 then 1 else 0
def cD (ss:List RS):Nat→Nat
 | 0=>0
 | i+1=>cD ss i+if (ss.getD i RS.zero).k=1∨(ss.getD i RS.zero).k=2∨(ss.getD i RS.zero).k=3∨(ss.getD i RS.zero).k=4∨(ss.getD i RS.zero).k=5 then 0 else 2
theorem frN_fr (ss:List RS):∀i,(frN ss i).fr≤i
 | 0=>ZBp _
 | i+1=>by
   have:=frN_fr ss i;unfold frN;simp only [FS.push];split<;>omega
theorem Ztp (ss:List RS):∀i k,nfN ss i≤nfN ss (i+k)
 | i,0=>ZBp _
 | i,k+1=>ZBv (Ztp ss i k) (by show _≤nfN ss (i+k)+_;omega)
structure FigOk (ss:List RS):Prop where
 len:ss.length≤40
 er:∀i,i < ss.length→errS ss i=0
 lm:∀s∈ss,s.r.lm 2
 nf:nfN ss ss.length≤20
theorem FigOk.fi {ss:List RS} (h:FigOk ss) {i:Nat} (hi:i≤ss.length) (hj:∀j,j < i→bigN ss j=false):∃D,FI (frN ss i) (nfN ss i) D∧nfN ss i≤20:=by
 have hr:∀s∈ss,s.k=2→s.r.ok=true:=λs hs=>by
  obtain⟨j,hj,rfl⟩:=List.mem_iff_getElem.1 hs;exact(Zn6 hj (h.er j hj)).2.2.2
 obtain⟨D,hD⟩:=frN_ok ss hr (λs hs=>lm_bd (h.lm s hs)) i hi hj;refine⟨D,hD,ZBv ?_ h.nf⟩;have:=Ztp ss i (ss.length - i)
 rwa [show i+(ss.length - i)=ss.length by omega] at this
theorem FI.co {f:FS} {n D:Nat} (h:FI f n D) (hn:n≤20):∀c∈f.cs,Co c.1∧Co c.2:=λc hc=>by
 obtain⟨h1,h2⟩:=h.cs c hc;obtain⟨l1,l2⟩:=h.ln c hc;have hv:=h.nv;exact⟨⟨h1.pk zo h.D0 h.Dl hn,h1.1,l1⟩,⟨h2.pk zo h.D0 h.Dl hn,h2.1,l2⟩⟩
theorem FigOk.st {ss:List RS} (h:FigOk ss) {i:Nat} (hi:i < ss.length):StOk (frN ss i).cs ss[i]:=by
 obtain⟨h1,h2,h3,h4⟩:=Zn6 hi (h.er i hi);exact⟨h1,h2,λk hk=>by rw [Zsf];exact h3 k hk,h4,h.lm _ (ZB0 hi)⟩
theorem Zub {ss:List RS} {i:Nat} (hi:i < ss.length):frN ss (i+1)=⟨(frN ss i).cs++[((frN ss i).nxt i ss[i]).2],(frN ss i).vs++((frN ss i).nxt i ss[i]).1,if ss[i].k=1 then (frN ss i).fr+1 else (frN ss i).fr⟩:=by
 show(frN ss i).push i (ss.getD i RS.zero)=_;rw [show ss.getD i RS.zero=ss[i] from by rw [ZB8,ZBz hi];rfl];rfl
theorem bigN_at {ss:List RS} {i:Nat} (hi:i < ss.length):bigN ss i=(decide (64 < ((frN ss i).vs++((frN ss i).nxt i ss[i]).1).length) || decide (4000 < ((frN ss i).nxt i ss[i]).2.1.length) || decide (4000 < ((frN ss i).nxt i ss[i]).2.2.length)):=by
 unfold bigN;rw [Zub hi,show ss.getD i ⟨0,.empty,[],⟨false,[],[]⟩⟩=ss[i] from by rw [ZB8,ZBz hi];rfl]
theorem nxt_vars (f:FS) (i:Nat) (s:RS):(f.nxt i s).1.length≤3:=by
 unfold FS.nxt;simp only
 repeat' split
 all_goals simp
def CbStep (i:Nat) (s:RS):Prop:=∀(σ:Mem) (KB KC KV g:Nat) (svC svV:Value) (cs:List (Po × Po)) (vs:List Vt) (fr:Nat),σ KB=some (.box g 145 [.own KC svC,.own KV svV,iv fr] false)→σ KV=some (.row svV 259 3 (vs.map Vt.av) 0)→σ KC=some (.row svC 150 2 (cs.map coA) 0)→KB≠KV→KB≠KC→KV≠KC→vs.length≤64→fr≤100→StOk cs s→(∀c∈cs,Co c.1∧Co c.2)→ACall prog 103 [.pbox KB g 0,s.av,iv i] σ λr σ'=>∃sv,r=coA (FS.nxt ⟨cs,vs,fr⟩ i s).2 ∧
 σ'=upd (upd σ KV (some (.row sv 259 3 ((vs++(FS.nxt ⟨cs,vs,fr⟩ i s).1).map Vt.av) 0))) KB (some (.box g 145 [.own KC svC,.own KV sv,iv (if s.k=1 then fr+1 else fr:Nat)] false))
theorem coFrameG (ss:List RS) (gs:List RG) (cR:Pure prog 102 [figA ss gs] (iv 0)) (ho:FigOk ss) (hcb:∀i (h:i < ss.length),CbStep i ss[i]) :
 Pure prog 57 [figA ss gs] (if (List.range ss.length).any (bigN ss)=true then .tup [.agg [.v (.slice none 0 0),.v (.slice none 0 0)],iv 4] else .tup [frmA (frN ss ss.length).cs (frN ss ss.length).vs,iv 0]):=by
 have cR:Pure prog 102 [.agg [.sl 6 (ss.map RS.av),.sl 5 (gs.map RG.av)]] (iv 0):=cR;show Pure _ _ [.agg [.sl 6 (ss.map RS.av),.sl 5 (gs.map RG.av)]] _;have hg:∀i (h:i < ss.length),(ss.map RS.av).getD i .u=ss[i].av:=λi h=>Zao RS.av h;have hls:(ss.map RS.av).length=ss.length:=ZBr ..;have hlen:=ho.len;generalize ss.map RS.av=M at *;generalize gs.map RG.av=N at *;refine pI func57 rfl ntmps57 results57 call57 ?_;(focus (refine wkad (w_1 hls) (w_1 cR) w_t ?_;(repeat' first|exact w_t|apply w_l);all_goals intros));rename_i g1 g2 gb;refine Zea (Frz.nilBox (k:=16) 0 20 2 150 (gC) rfl zo) ?_
 refine Zea (Frz.nilBox (k:=16) 1 21 3 259 (gC) rfl zo) ?_;refine Zad (ι:=Nat) (λi e m=>i≤ss.length∧e 2=.pbox 2 g2 0∧m 2=some (.box g2 105 [.v (.slice none 0 0),.v (.slice none 0 0)] false)∧e 5=.pbox 16 gb 0∧e 18=.sl 6 M∧e 19=iv ss.length∧e 20=iv i∧(∃svC svV,m 16=some (.box gb 145 [.own 20 svC,.own 21 svV,iv (frN ss i).fr] false)∧m 20=some (.row svC 150 2 ((frN ss i).cs.map coA) 0)∧m 21=some (.row svV 259 3 ((frN ss i).vs.map Vt.av) 0))∧∀j,j < i→bigN ss j=false) (λi=>ss.length - i) 0 zr ?_ ?_
 ·rintro i e m ⟨hi,e2,m2,e5,e18,e19,e20,⟨svC,svV,m16,m20,m21⟩,hbig⟩
  by_cases hlt:i < ss.length
  ·have hgi:=hg i hlt;obtain⟨D,hD,hn⟩:=ho.fi hi hbig;have hco:=hD.co hn;have hst:=ho.st hlt;have hfr:=frN_fr ss i;have hnv:=hD.nv;have hb:=bigN_at hlt;have hsu:=Zub hlt;have hn3:=nxt_vars (frN ss i) i ss[i];have hcl:=Zsf ss i;have hst2:=λm' hB hV hC=>hcb i hlt m' 16 20 21 gb svC svV (frN ss i).cs (frN ss i).vs (frN ss i).fr hB hV hC zo zo zo hnv zo hst hco;rw [show(FS.mk (frN ss i).cs (frN ss i).vs (frN ss i).fr)=frN ss i from rfl] at hst2;clear hD hco hst;generalize hs:ss[i]=s at *;generalize hf:frN ss i=f at *;generalize hx:f.nxt i s=nx at *;obtain⟨nv,c1,c2⟩:=nx;obtain⟨k,nm,ar,⟨rs,rl,rd⟩⟩:=s
   obtain⟨cs,vs,fr⟩:=f;simp only at *;(focus (refine wkad (w_11 e2 m2 e5 e18 e19 e20 m16 m20 m21 hgi hls) w_t w_t ?_;(repeat' first|exact w_t|apply w_l);all_goals intros));refine Zgw (hst2 _ (gW m16) (gW m21) (gW m20)) ?_;intro sv;generalize hfr2:(if k=1 then fr+1 else fr)=fr2 at *;have hvl:((vs++nv).map Vt.av).length=(vs++nv).length:=ZBr ..;have hvl2:(vs++nv).length≤67:=by rw [ZCh];omega
   have hnx:∀j,j < i+1→bigN ss i=false→bigN ss j=false:=λj hj h=>by
    by_cases e:j=i
    ·rw [e];exact h
    ·exact hbig j zo
   have hany:bigN ss i=true→(List.range ss.length).any (bigN ss)=true:=λh=>List.any_eq_true.2 ⟨i,List.mem_range.2 hlt,h⟩;generalize vs++nv=vs2 at *;have hc1:(c1.map tmA).length=c1.length:=ZBr ..;have hc2:(c2.map tmA).length=c2.length:=ZBr ..;have hcsl:(cs.map coA).length=cs.length:=ZBr ..;by_cases b1:64 < vs2.length
   ·rw [ZBo (hany (by rw [hb];simp [b1]))];(focus (refine wkld (w_8 e2 m2 e5 e18 e19 e20 hvl hls) w_t (w_1 e2) w_t ?_;(repeat' first|exact w_t|apply w_l);all_goals intros))
   ·by_cases b2:4000 < c1.length
    ·rw [ZBo (hany (by rw [hb];simp [b2]))];(focus (refine wkld (w_9 e2 m2 e5 e18 e19 e20 hvl hc1 hls) w_t (w_1 e2) w_t ?_;(repeat' first|exact w_t|apply w_l);all_goals intros))
    ·by_cases b3:4000 < c2.length
     ·rw [ZBo (hany (by rw [hb];simp [b3]))];(focus (refine wkld (w_10 e2 m2 e5 e18 e19 e20 hvl hc1 hc2 hls) w_t (w_1 e2) w_t ?_;(repeat' first|exact w_t|apply w_l);all_goals intros))
     ·have hbf:bigN ss i=false:=by rw [hb];simp [b1,b2,b3]
      clear hany;(focus (refine wkax (w_12 e2 m2 e5 e18 e19 e20 m20 hvl hc1 hc2 hcsl hls) w_t (w_1 (w_d 11 [] [12,2012,16] [20,60])) w_t w_t w_t w_y (w_r 0) ?_;(repeat' first|exact w_t|apply w_l);all_goals intros));rename_i svC2;refine⟨i+1,⟨zo,gW e2,gW m2,gW e5,gW e18,gW e19,gS,⟨svC2,sv,?_,?_,?_⟩,λj hj=>hnx j hj hbf⟩,zo⟩
      ·rw [hsu];exact gW hfr2
      ·rw [hsu,ZCb];exact gC
      ·rw [hsu];exact gC
  ·have hin:i=ss.length:=zo;subst hin
   have hno:¬(List.range ss.length).any (bigN ss)=true:=by
    rw [List.any_eq_true]
    rintro ⟨j,hj,hb⟩
    rw [hbig j (List.mem_range.1 hj)] at hb;cases hb
   rw [ZBn hno];generalize (frN ss ss.length).fr=fr at *;generalize (frN ss ss.length).cs=cs at *;generalize (frN ss ss.length).vs=vs at *;(focus (refine wkld (w_10 e2 m2 e5 e18 e19 e20 m16 m20 m21 hls) w_t (w_5 e2 m2 m16 m20 m21) w_t ?_;(repeat' first|exact w_t|apply w_l);all_goals intros))
 ·exact⟨ZBx _,gC,gC,gC,gC,gW hls,gC,⟨_,_,by(simp (disch:=omega) only [go_sem,List.set_cons_zero,List.set_cons_succ,frN]<;>repeat' first|rfl|refine⟨?_,?_⟩),by(simp (disch:=omega) only [go_sem,frN,ZDk]<;>repeat' first|rfl|refine⟨?_,?_⟩),by(simp (disch:=omega) only [go_sem,frN,ZDk]<;>repeat' first|rfl|refine⟨?_,?_⟩)⟩,λj hj=>zo⟩
end Go.Proofs.YtkefeinbjbeidaaGreatDoor
namespace Go.Proofs.YtkefeinbjbeidaaGreatDoor
attribute [-bool_to_prop] Bool.and_eq_decide Bool.or_eq_decide Bool.decide_beq_decide decide_eq_decide
section
open Go Go.RowKit Go.Pg
end
section
open Go Go.RowKit Go.Pg Go.Pol
end
end Go.Proofs.YtkefeinbjbeidaaGreatDoor
namespace Go.Pol
section
def cl (q:Rat):Nat:=(q.num.natAbs+q.den - 1)/q.den
theorem cl_le {q:Rat} {B:Nat}:cl q≤B↔q.num.natAbs≤B*q.den:=by
 have h:0 < q.den:=ZDm q.den_nz;unfold cl;rw [←Nat.lt_succ_iff,ZEr h,ZDi];omega
theorem cl_self (q:Rat):q.num.natAbs≤cl q*q.den:=cl_le.1 (ZBp _)
theorem Zob {q:Rat} {D:Nat} (h:q.den ∣ D):BQ D (cl q) q:=⟨h,cl_self q⟩
theorem cl_add (a b:Rat):cl (a+b)≤cl a+cl b:=cl_le.2 ((Zob (ZFn a.den b.den)).add (Zob (ZHa b.den a.den))).2
theorem cl_mul (a b:Rat):cl (a*b)≤cl a*cl b:=cl_le.2 ((Zob (ZDy a.den)).mul (Zob (ZDy b.den))).2
theorem ZAl {a b:Rat} {D:Nat} (h:a.den ∣ D) (k:b.den ∣ D):(a+b).den ∣ D:=((Zob h).add (Zob k)).1
theorem ZAk {a b:Rat} {D E:Nat} (h:a.den ∣ D) (k:b.den ∣ E):(a*b).den ∣ D*E:=((Zob h).mul (Zob k)).1
variable {κ:Type}
def n1 (l:List (Rat × κ)):Nat:=(l.map λt=>cl t.1).sum
theorem Zbf (t:Rat × κ) (l:List (Rat × κ)):n1 (t :: l)=cl t.1+n1 l:=rfl
theorem Zpo (l m:List (Rat × κ)):n1 (l++m)=n1 l+n1 m:=by unfold n1;rw [ZCb,List.sum_append]
theorem n1_mem {l:List (Rat × κ)} {t:Rat × κ} (h:t∈l):cl t.1≤n1 l:=by
 induction l with
 | nil=>cases h
 | cons s l ih =>
   rw [Zbf];rcases List.mem_cons.1 h with rfl | h
   ·omega
   ·have:=ih h;omega
theorem Zyz (f:Rat × κ→Bool) (l:List (Rat × κ)):n1 (l.filter f)≤n1 l:=by
 induction l with
 | nil=>exact ZBp _
 | cons t l ih =>
   rw [ZEv];split
   ·rw [Zbf,Zbf];omega
   ·rw [Zbf];omega
theorem n1_take (l:List (Rat × κ)) (i:Nat):n1 (l.take i)≤n1 l:=by
 have:=Zpo (l.take i) (l.drop i);rw [ZDs] at this;omega
def NB (D B:Nat) (l:List (Rat × κ)):Prop:=(∀t∈l,t.1.den ∣ D)∧n1 l≤B
theorem NB.nil (D B:Nat):NB D B ([]:List (Rat × κ)):=⟨λt h=>(by cases h),ZBx _⟩
theorem NB.mono {D B E C:Nat} {l:List (Rat × κ)} (h:NB D B l) (hd:D ∣ E) (hb:B≤C):NB E C l:=⟨λt ht=>Nat.dvd_trans (h.1 t ht) hd,ZBv h.2 hb⟩
theorem NB.bq {D B:Nat} {l:List (Rat × κ)} (h:NB D B l) {t:Rat × κ} (ht:t∈l):BQ D B t.1:=(Zob (h.1 t ht)).mono (ZDy _) (ZBv (n1_mem ht) h.2)
theorem NB.filter {D B:Nat} {l:List (Rat × κ)} (h:NB D B l) (f:Rat × κ→Bool):NB D B (l.filter f):=⟨λt ht=>h.1 t (List.mem_filter.1 ht).1,ZBv (Zyz f l) h.2⟩
theorem NB.take {D B:Nat} {l:List (Rat × κ)} (h:NB D B l) (i:Nat):NB D B (l.take i):=⟨λt ht=>h.1 t (ZC6 ht),ZBv (n1_take l i) h.2⟩
theorem NB.app {D B C:Nat} {l m:List (Rat × κ)} (h:NB D B l) (k:NB D C m):NB D (B+C) (l++m) :=
 ⟨λt ht=>(List.mem_append.1 ht).elim (h.1 t) (k.1 t),by rw [Zpo];exact ZC2 h.2 k.2⟩
theorem NB.scale {D B E:Nat} {l:List (Rat × κ)} (h:NB D B l) {a:Rat} (ha:a.den ∣ E):NB (D*E) (B*cl a) (Zbh a l):=by
 refine⟨λt ht=>?_,ZBv ?_ (ZB7 _ h.2)⟩
 ·obtain⟨s,hs,rfl⟩:=List.mem_map.1 ht;exact ZAk (h.1 s hs) ha
 ·clear h
  induction l with
  | nil=>exact ZBx _
  | cons t l ih =>
    show cl (t.1*a)+n1 (Zbh a l)≤(cl t.1+n1 l)*cl a;rw [ZCi];exact ZC2 (cl_mul _ _) ih
end
section
variable {κ:Type} [DecidableEq κ]
theorem n1_addC (l:List (Rat × κ)) (t:Rat × κ):n1 (addC l t)≤n1 l+cl t.1:=by
 induction l with
 | nil=>show cl t.1+0≤0+cl t.1;omega
 | cons s l ih =>
   unfold addC;split
   ·rw [Zbf,Zbf];have:=cl_add s.1 t.1;simp only;omega
   ·rw [Zbf,Zbf];omega
theorem den_addC {D:Nat} {l:List (Rat × κ)} {t:Rat × κ} (h:∀s∈l,s.1.den ∣ D) (ht:t.1.den ∣ D):∀s∈addC l t,s.1.den ∣ D:=by
 induction l with
 | nil=>intro s hs;rw [List.mem_singleton.1 hs];exact ht
 | cons u l ih =>
   intro s hs;unfold addC at hs;split at hs
   ·rcases List.mem_cons.1 hs with rfl | hs
    ·exact ZAl (h u (.head _)) ht
    ·exact h s (.tail _ hs)
   ·rcases List.mem_cons.1 hs with rfl | hs
    ·exact h _ (.head _)
    ·exact ih (λv hv=>h v (.tail _ hv)) s hs
theorem NB.addC {D B C:Nat} {l:List (Rat × κ)} (h:NB D B l) {t:Rat × κ} (ht:t.1.den ∣ D) (hc:cl t.1≤C):NB D (B+C) (addC l t) :=
 ⟨den_addC h.1 ht,ZBv (n1_addC l t) (ZC2 h.2 hc)⟩
end
section
variable {κ:Type} {lt:κ→κ→Prop} [DecidableRel lt]
theorem NB.addP {D B C:Nat} {p q:List (Rat × κ)} (hp:NB D B p) (hq:NB D C q):NB D (B+C) (addP lt p q):=by
 suffices h:(∀t∈Go.Pol.addP lt p q,t.1.den ∣ D)∧n1 (Go.Pol.addP lt p q)≤n1 p+n1 q from⟨h.1,ZBv h.2 (ZC2 hp.2 hq.2)⟩
 replace hp:=hp.1
 replace hq:=hq.1
 fun_induction Go.Pol.addP lt p q with
 | case1 q=>exact⟨hq,by show n1 q≤0+n1 q;omega⟩
 | case2 s p=>exact⟨hp,ZGp _ _⟩
 | case3 s p u q h1 ih =>
   obtain⟨a,b⟩:=ih (λt h=>hp t (.tail _ h)) hq;exact⟨λt ht=>by
    rcases List.mem_cons.1 ht with rfl | ht
    ·exact hp _ (.head _)
    ·exact a t ht,by rw [Zbf,Zbf];omega⟩
 | case4 s p u q h1 h2 ih =>
   obtain⟨a,b⟩:=ih hp (λt h=>hq t (.tail _ h));exact⟨λt ht=>by
    rcases List.mem_cons.1 ht with rfl | ht
    ·exact hq _ (.head _)
    ·exact a t ht,by rw [Zbf,Zbf u];omega⟩
 | case5 s p u q h1 h2 h3 ih =>
   obtain⟨a,b⟩:=ih (λt h=>hp t (.tail _ h)) (λt h=>hq t (.tail _ h));exact⟨a,by rw [Zbf,Zbf];omega⟩
 | case6 s p u q h1 h2 h3 ih =>
   obtain⟨a,b⟩:=ih (λt h=>hp t (.tail _ h)) (λt h=>hq t (.tail _ h));exact⟨λt ht=>by
    rcases List.mem_cons.1 ht with rfl | ht
    ·exact ZAl (hp _ (.head _)) (hq _ (.head _))
    ·exact a t ht,by rw [Zbf,Zbf,Zbf];have:=cl_add s.1 u.1;simp only;omega⟩
theorem sumH_nb {D:Nat} (l:List (List (Rat × κ))) (h:∀p∈l,∀t∈p,t.1.den ∣ D):NB D ((l.map n1).sum) (sumH lt l):=by
 fun_induction sumH lt l with
 | case1=>exact .nil _ _
 | case2 p=>exact⟨h p (.head _),by simp⟩
 | case3 p q l ih1 ih2 =>
   have:=(ih1 λu hu=>h u (ZC6 hu)).addP (lt:=lt) (ih2 λu hu=>h u (ZD5 hu))
   rwa [←List.sum_append,←ZCb,ZDs] at this
end
section
variable {κ:Type} {cmp:κ→κ→Int}
theorem NB.sumG {D B:Nat} {l:List (Rat × κ)} (h:NB D B l):NB D B (sumG cmp l):=by
 have:=sumH_nb (lt:=λx y=>cmp y x < 0) (D:=D) (l.map λt=>if t.1=0 then [] else [t]) λp hp t ht=>by
  obtain⟨s,hs,rfl⟩:=List.mem_map.1 hp;split at ht
  ·cases ht
  ·rw [List.mem_singleton.1 ht];exact h.1 s hs
 refine this.mono (ZDy _) (ZBv ?_ h.2);clear this h
 induction l with
 | nil=>exact ZBp _
 | cons t l ih =>
   rw [ZCs,ZCs,List.sum_cons,Zbf];refine ZC2 ?_ ih;split
   ·exact ZBx _
   ·show cl t.1+0≤_;omega
def prodL (mu:κ→κ→κ) (l m:List (Rat × κ)):List (Rat × κ):=l.flatMap λs=>m.map λt=>(s.1*t.1,mu s.2 t.2)
theorem Zfu (mu:κ→κ→κ) (s:Rat × κ) (l m:List (Rat × κ)):prodL mu (s :: l) m=(m.map λt=>(s.1*t.1,mu s.2 t.2))++prodL mu l m:=rfl
theorem Zim (mu:κ→κ→κ) (l m:List (Rat × κ)):(prodL mu l m).length=l.length*m.length:=by
 induction l with
 | nil=>simp [prodL]
 | cons s l ih=>rw [Zfu,ZCh,ZBr,ih,ZB2,ZDi,ZEj]
theorem Zft {mu:κ→κ→κ} {l m:List (Rat × κ)} {u:Rat × κ} (h:u∈prodL mu l m):∃s∈l,∃t∈m,u=(s.1*t.1,mu s.2 t.2):=by
 obtain⟨s,hs,hu⟩:=List.mem_flatMap.1 h;obtain⟨t,ht,rfl⟩:=List.mem_map.1 hu;exact⟨s,hs,t,ht,rfl⟩
theorem NB.prodL {mu:κ→κ→κ} {D B E C:Nat} {l m:List (Rat × κ)} (h:NB D B l) (k:NB E C m):NB (D*E) (B*C) (prodL mu l m):=by
 refine⟨λu hu=>?_,ZBv ?_ (ZCy h.2 k.2)⟩
 ·obtain⟨s,hs,t,ht,rfl⟩:=Zft hu;exact ZAk (h.1 s hs) (k.1 t ht)
 ·clear h k
  induction l with
  | nil=>exact ZBx _
  | cons s l ih =>
    rw [Zfu,Zpo,Zbf,ZCi];refine ZC2 ?_ ih;clear ih
    induction m with
    | nil=>exact ZBx _
    | cons t m ih =>
      rw [ZCs,Zbf,Zbf,ZCu];exact ZC2 (cl_mul _ _) ih
end
section
variable {κ:Type}
theorem evl_lin (a:Rat) (f g:κ→Rat) (l:List (Rat × κ)):evl (λk=>a*f k+g k) l=a*evl f l+evl g l:=by
 induction l with
 | nil=>show(0:Rat)=a*0+0;rw [ZF1,ZDx]
 | cons t l ih=>simp only [evl];rw [ih];grind
theorem evl_zero (l:List (Rat × κ)):evl (λ_=>0) l=0:=by
 induction l with
 | nil=>rfl
 | cons t l ih=>simp only [evl];rw [ih,ZF1,ZDx]
theorem evl_swap (ψ:κ→κ→Rat) (l m:List (Rat × κ)):evl (λk=>evl (ψ k) m) l=evl (λk'=>evl (λk=>ψ k k') l) m:=by
 induction l with
 | nil=>show(0:Rat)=evl (λ_=>0) m;rw [evl_zero]
 | cons s l ih =>
   show s.1*evl (ψ s.2) m+evl (λk=>evl (ψ k) m) l=evl (λk'=>s.1*ψ s.2 k'+evl (λk=>ψ k k') l) m;rw [ih,evl_lin]
theorem evl_row (φ:κ→Rat) (mu:κ→κ→κ) (s:Rat × κ) (m:List (Rat × κ)):evl φ (m.map λt=>(s.1*t.1,mu s.2 t.2))=s.1*evl (λk=>φ (mu s.2 k)) m:=by
 induction m with
 | nil=>show(0:Rat)=s.1*0;rw [ZF1]
 | cons t m ih=>simp only [ZCs,evl];rw [ih];grind
theorem Zz5 (φ:κ→Rat) (mu:κ→κ→κ) (l m:List (Rat × κ)):evl φ (prodL mu l m)=evl (λk=>evl (λk'=>φ (mu k k')) m) l:=by
 induction l with
 | nil=>rfl
 | cons s l ih=>rw [Zfu,Zz7,ih,evl_row];rfl
theorem Zz6 [DecidableEq κ] (l:List (Rat × κ)) (x:κ):cof l x=evl (λk=>if k=x then 1 else 0) l:=by
 induction l with
 | nil=>rfl
 | cons t l ih =>
   simp only [cof,evl];rw [ih];split<;>grind
end
section
variable {κ:Type} {lt:κ→κ→Prop} [DecidableRel lt] {D:κ→Prop}
theorem evl_sumH (o:KO D lt) (φ:κ→Rat) (l:List (List (Rat × κ))) (h:∀p∈l,Srt D lt p):evl φ (sumH lt l)=(l.map (evl φ)).sum:=by
 fun_induction sumH lt l with
 | case1=>rfl
 | case2 p=>show evl φ p=evl φ p+0;rw [ZDx]
 | case3 p q l ih1 ih2 =>
   have h1:∀u∈(p :: q :: l).take ((p :: q :: l).length/2),Srt D lt u:=λu hu=>h u (ZC6 hu);have h2:∀u∈(p :: q :: l).drop ((p :: q :: l).length/2),Srt D lt u:=λu hu=>h u (ZD5 hu);have happ:∀l m:List Rat,(l++m).sum=l.sum+m.sum:=λl m=>by
    induction l with
    | nil=>show m.sum=0+m.sum;rw [ZFz]
    | cons a l ih=>show a+(l++m).sum=a+l.sum+m.sum;rw [ih,Rat.add_assoc]
   rw [Zug o φ (Zhb o _ h1).dom (Zhb o _ h2).dom,ih1 h1,ih2 h2,←happ,←ZCb,ZDs]
end
structure RG {κ:Type} (D:κ→Prop) (cmp:κ→κ→Int) (mu:κ→κ→κ) (e:κ):Prop where
 o:CO cmp
 comm:∀a b,mu a b=mu b a
 assoc:∀a b c,mu (mu a b) c=mu a (mu b c)
 one:∀a,D a→mu a e=a
 cl:∀a b,D a→D b→D (mu a b)
 de:D e
section
variable {κ:Type} {D:κ→Prop} {cmp:κ→κ→Int} {mu:κ→κ→κ} {e:κ}
theorem CO.koD (o:CO cmp):KO D (λx y=>cmp y x < 0):=⟨o.ko.irr,o.ko.tr,λx y _ _=>o.ko.tri x y trivial trivial⟩
abbrev SQ (D:κ→Prop) (cmp:κ→κ→Int) (p:List (Rat × κ)):Prop:=Srt D (λx y=>cmp y x < 0) p
abbrev adG (cmp:κ→κ→Int) (p q:List (Rat × κ)):List (Rat × κ):=addP (λx y=>cmp y x < 0) p q
def mlG (cmp:κ→κ→Int) (mu:κ→κ→κ) (p q:List (Rat × κ)):List (Rat × κ):=sumG cmp (prodL mu p q)
theorem Zkx {l:List (Rat × κ)} (h:∀t∈l,D t.2):∀p∈l.map (λt=>if t.1=0 then [] else [t]),SQ D cmp p:=λp hp=>by
 obtain⟨t,ht,rfl⟩:=List.mem_map.1 hp;split
 ·exact .nil
 ·rename_i h0;exact Srt.nil.cons h0 (h t ht) (λu hu=>by cases hu)
theorem Zgp (o:CO cmp) {l:List (Rat × κ)} (h:∀t∈l,D t.2):SQ D cmp (sumG cmp l):=Zhb o.koD _ (Zkx h)
theorem Zuf (o:CO cmp) (φ:κ→Rat) (l:List (Rat × κ)):evl φ (sumG cmp l)=evl φ l:=by
 unfold sumG;rw [evl_sumH (D:=λ_=>True) o.koD φ _ (Zkx λ_ _=>trivial)]
 induction l with
 | nil=>rfl
 | cons t l ih =>
   rw [ZCs,ZCs,List.sum_cons,ih];show _=t.1*φ t.2+evl φ l;congr 1;split
   ·rename_i h;rw [h,Rat.zero_mul];rfl
   ·show t.1*φ t.2+0=_;rw [ZDx]
theorem Zia (o:CO cmp) {p q:List (Rat × κ)} (hp:SQ D cmp p) (hq:SQ D cmp q) (h:∀φ,evl φ p=evl φ q):p=q:=by
 classical exact Zi8 o.koD hp hq λx=>by rw [Zz6,Zz6,h]
theorem Zsj (o:CO cmp) (φ:κ→Rat) (p q:List (Rat × κ)):evl φ (adG cmp p q)=evl φ p+evl φ q:=Zug (D:=λ_=>True) o.koD φ (λ_ _=>trivial) (λ_ _=>trivial)
theorem Zgg (o:CO cmp) {p q:List (Rat × κ)} (hp:SQ D cmp p) (hq:SQ D cmp q):SQ D cmp (adG cmp p q):=Zc0 o.koD hp hq
theorem adG_comm (o:CO cmp) {p q:List (Rat × κ)} (hp:SQ D cmp p) (hq:SQ D cmp q):adG cmp p q=adG cmp q p:=by classical exact ZBb o.koD hp hq
theorem ZBf (o:CO cmp) {p q r:List (Rat × κ)} (hp:SQ D cmp p) (hq:SQ D cmp q) (hr:SQ D cmp r):adG cmp (adG cmp p q) r=adG cmp p (adG cmp q r):=by classical exact Zv9 o.koD hp hq hr
theorem adG_nil (p:List (Rat × κ)):adG cmp p []=p:=Zog p
theorem adG_nil' (p:List (Rat × κ)):adG cmp [] p=p:=by cases p<;>simp [adG,addP]
theorem Zfo (o:CO cmp) (φ:κ→Rat) (p q:List (Rat × κ)):evl φ (mlG cmp mu p q)=evl (λk=>evl (λk'=>φ (mu k k')) q) p:=by
 unfold mlG;rw [Zuf o,Zz5]
theorem Zbg (r:RG D cmp mu e) {p q:List (Rat × κ)} (hp:SQ D cmp p) (hq:SQ D cmp q):SQ D cmp (mlG cmp mu p q):=Zgp r.o λu hu=>by
 obtain⟨s,hs,t,ht,rfl⟩:=Zft hu;exact r.cl _ _ (hp.dom s hs) (hq.dom t ht)
theorem Ztu (r:RG D cmp mu e) {p q:List (Rat × κ)} (hp:SQ D cmp p) (hq:SQ D cmp q):mlG cmp mu p q=mlG cmp mu q p :=
 Zia r.o (Zbg r hp hq) (Zbg r hq hp) λφ=>by
  rw [Zfo r.o,Zfo r.o,evl_swap];simp only [r.comm]
theorem Zip (r:RG D cmp mu e) {p q s:List (Rat × κ)} (hp:SQ D cmp p) (hq:SQ D cmp q) (hs:SQ D cmp s):mlG cmp mu (mlG cmp mu p q) s=mlG cmp mu p (mlG cmp mu q s) :=
 Zia r.o (Zbg r (Zbg r hp hq) hs) (Zbg r hp (Zbg r hq hs)) λφ=>by
  simp only [Zfo r.o,r.assoc]
theorem mlG_add (r:RG D cmp mu e) {p q s:List (Rat × κ)} (hp:SQ D cmp p) (hq:SQ D cmp q) (hs:SQ D cmp s):mlG cmp mu (adG cmp p q) s=adG cmp (mlG cmp mu p s) (mlG cmp mu q s) :=
 Zia r.o (Zbg r (Zgg r.o hp hq) hs) (Zgg r.o (Zbg r hp hs) (Zbg r hq hs)) λφ=>by
  rw [Zfo r.o,Zsj r.o,Zsj r.o,Zfo r.o,Zfo r.o]
theorem Zrz (p:List (Rat × κ)):mlG cmp mu [] p=[]:=by
 show sumG cmp []=[];unfold sumG;simp [sumH]
theorem Zyq (r:RG D cmp mu e):SQ D cmp [((1:Rat),e)]:=Srt.nil.cons (show(1:Rat)≠0 by decide) r.de (λu hu=>by cases hu)
theorem Zy3 (r:RG D cmp mu e) {p:List (Rat × κ)} (hp:SQ D cmp p):mlG cmp mu p [((1:Rat),e)]=p :=
 Zia r.o (Zbg r hp (Zyq r)) hp λφ=>by
  rw [Zfo r.o];have hd:=hp.dom;clear hp
  induction p with
  | nil=>rfl
  | cons t p ih =>
    show t.1*(1*φ (mu t.2 e)+0)+_=t.1*φ t.2+_;rw [ih λu hu=>hd u (.tail _ hu),r.one _ (hd t (.head _)),ZFo,ZDx]
def pwG (cmp:κ→κ→Int) (mu:κ→κ→κ) (e:κ) (a:List (Rat × κ)):Nat→List (Rat × κ)
 | 0=>[((1:Rat),e)]
 | n+1=>mlG cmp mu (pwG cmp mu e a n) a
theorem Zh4 (r:RG D cmp mu e) {a:List (Rat × κ)} (ha:SQ D cmp a):∀n,SQ D cmp (pwG cmp mu e a n)
 | 0=>Zyq r
 | n+1=>Zbg r (Zh4 r ha n) ha
def rfG (cmp:κ→κ→Int) (mu:κ→κ→κ) (e:κ) (P:Nat→List (Rat × κ)) (a d:List (Rat × κ)) (m:Nat):Nat→List (Rat × κ)
 | 0=>[]
 | k+1=>adG cmp (rfG cmp mu e P a d m k) (mlG cmp mu (mlG cmp mu (P k) (pwG cmp mu e a k)) (pwG cmp mu e d (m - k)))
def hnG (cmp:κ→κ→Int) (mu:κ→κ→κ) (e:κ) (P:Nat→List (Rat × κ)) (a d:List (Rat × κ)) (m:Nat):Nat→List (Rat × κ)
 | 0=>[]
 | n+1=>adG cmp (mlG cmp mu (hnG cmp mu e P a d m n) a) (mlG cmp mu (P (m - n)) (pwG cmp mu e d n))
theorem Zxo (r:RG D cmp mu e) {P:Nat→List (Rat × κ)} {a d:List (Rat × κ)} (hP:∀k,SQ D cmp (P k)) (ha:SQ D cmp a) (hd:SQ D cmp d) (m:Nat):∀k,SQ D cmp (rfG cmp mu e P a d m k)
 | 0=>.nil
 | k+1=>Zgg r.o (Zxo r hP ha hd m k) (Zbg r (Zbg r (hP k) (Zh4 r ha k)) (Zh4 r hd _))
theorem Zsa (r:RG D cmp mu e) {P:Nat→List (Rat × κ)} {a d:List (Rat × κ)} (hP:∀k,SQ D cmp (P k)) (ha:SQ D cmp a) (hd:SQ D cmp d) (m:Nat):∀n,SQ D cmp (hnG cmp mu e P a d m n)
 | 0=>.nil
 | n+1=>Zgg r.o (Zbg r (Zsa r hP ha hd m n) ha) (Zbg r (hP _) (Zh4 r hd _))
theorem horner (r:RG D cmp mu e) {P:Nat→List (Rat × κ)} {a d:List (Rat × κ)} (hP:∀k,SQ D cmp (P k)) (ha:SQ D cmp a) (hd:SQ D cmp d) (m:Nat):hnG cmp mu e P a d m (m+1)=rfG cmp mu e P a d m (m+1):=by
 have key:∀n,n≤m+1→adG cmp (rfG cmp mu e P a d m (m+1 - n)) (mlG cmp mu (hnG cmp mu e P a d m n) (pwG cmp mu e a (m+1 - n)))=rfG cmp mu e P a d m (m+1):=by
  intro n
  induction n with
  | zero=>intro _;show adG cmp _ (mlG cmp mu [] _)=_;rw [Zrz,adG_nil];rfl
  | succ n ih =>
    intro hn;rw [←ih zo];obtain⟨k,hk⟩:∃k,m=n+k:=⟨m - n,zo⟩;have e1:m+1 - (n+1)=k:=zo;have e2:m+1 - n=k+1:=zo;have e3:m - k=n:=zo;have e4:m - n=k:=zo;rw [e1,e2];show adG cmp _ (mlG cmp mu (adG cmp (mlG cmp mu _ a) (mlG cmp mu (P (m - n)) _)) _)=adG cmp (adG cmp _ (mlG cmp mu (mlG cmp mu (P k) _) (pwG cmp mu e d (m - k)))) (mlG cmp mu _ (mlG cmp mu (pwG cmp mu e a k) a));rw [e3,e4];have s1:=Zxo r hP ha hd m k;have s2:=Zsa r hP ha hd m n;have s3:=Zh4 r ha k;have s4:=Zh4 r hd n;have s5:=hP k;generalize rfG cmp mu e P a d m k=R at *;generalize hnG cmp mu e P a d m n=H at *;generalize pwG cmp mu e a k=A at *
    generalize pwG cmp mu e d n=N at *;generalize P k=Q at *;rw [mlG_add r (Zbg r s2 ha) (Zbg r s5 s4) s3,Zip r s2 ha s3,Ztu r ha s3,Zip r s5 s4 s3,Ztu r s4 s3,←Zip r s5 s3 s4,
     ZBf r.o s1 (Zbg r (Zbg r s5 s3) s4) (Zbg r s2 (Zbg r s3 ha)),adG_comm r.o (Zbg r s2 (Zbg r s3 ha)) (Zbg r (Zbg r s5 s3) s4)]
 have h:=key (m+1) (ZBp _);rw [ZE0] at h;rw [←h];show _=adG cmp [] (mlG cmp mu _ [((1:Rat),e)]);rw [Zy3 r (Zsa r hP ha hd m _),adG_nil']
end
end Go.Pol
namespace Go.Proofs.YtkefeinbjbeidaaGreatDoor
open Go Go.RowKit Go.Pg Go.Pol Go.Proofs.Tryz
attribute [-bool_to_prop] Bool.and_eq_decide Bool.or_eq_decide Bool.decide_beq_decide decide_eq_decide
attribute [local go_sem] Zas Zav Zau Zag Zar Zah Bool.and_self Zal Zbb Za8
abbrev gatM (l:QTs):QTs:=sumG ordQ l
theorem Zzt:gatM []=[]:=by simp [gatM,sumG,sumH]
theorem Zli (t:Rat × List Qt):gatM [t]=if t.1=0 then [] else [t]:=by simp [gatM,sumG,sumH]
theorem Zzs {l:QTs} (h:2≤l.length):gatM l=Za1 (gatM (l.take (l.length/2))) (gatM (l.drop (l.length/2))):=by
 match l,h with
 | a :: b :: r,_ =>
   unfold gatM sumG;rw [List.map_take,List.map_drop];show sumH _ (_ :: _ :: r.map _)=_;rw [sumH];simp only [ZB2,ZBr];rfl
theorem Zmm:∀(n:Nat) (l:QTs) {j m:Nat},l.length=n→QK l j m→QK (gatM l) (n*(j+1) - 1) m∧(gatM l).length≤n:=by
 intro n
 induction n using Nat.strongRecOn with
 | _ n ih =>
   intro l j m hl hq
   match n,l,hl with
   | 0,[],_=>rw [Zzt];exact⟨λt ht=>by(cases ht),ZBp _⟩
   | 1,[t],_ =>
     rw [Zli];split
     ·exact⟨λt ht=>by(cases ht),ZBx _⟩
     ·exact⟨hq.mono zo (ZBp _),by simp⟩
   | n+2,l,hl =>
     rw [Zzs zo];have ht:(l.take (l.length/2)).length=(n+2)/2:=by rw [ZB9];omega
     have hd:(l.drop (l.length/2)).length=n+2 - (n+2)/2:=by rw [ZDo];omega
     obtain⟨a1,a2⟩:=ih _ zo (l.take (l.length/2)) ht (λt h=>hq t (ZC6 h));obtain⟨b1,b2⟩:=ih _ zo (l.drop (l.length/2)) hd (λt h=>hq t (ZD5 h));have e:(n+2)*(j+1)=(n+2)/2*(j+1)+(n+2 - (n+2)/2)*(j+1):=by rw [←ZCi];congr 1;omega
     have p1:1*(j+1)≤(n+2)/2*(j+1):=ZB7 _ zo;have p2:1*(j+1)≤(n+2 - (n+2)/2)*(j+1):=ZB7 _ zo;refine⟨(join_QK a1 b1).mono zo (ZBp _),?_⟩;refine ZBv (Zet _ _) ?_;omega
def GH (l:QTs) (k m:Nat):Prop:=∀s:QTs,s <:+: l→QK s k m∧QK (gatM s) k m
theorem GH.part {l s:QTs} {k m:Nat} (h:GH l k m) (hs:s <:+: l):GH s k m:=λu hu=>h u (hu.trans hs)
theorem GH.of_qk {l:QTs} {j m:Nat} (h:QK l j m):GH l (l.length*(j+1)+j) m:=λs hs=>by
 have hq:QK s j m:=λt ht=>h t (hs.subset ht);have hl:=hs.length_le;have:=ZB7 (j+1) hl;exact⟨hq.mono zo (ZBp _),(Zmm _ s rfl hq).1.mono zo (ZBp _)⟩
theorem Zvq {D B a b:Nat} {l:QTs} (h:NB D B l) (h0:D≠0) (hd:D < 65536 ^ a) (hb:B < 65536 ^ b) {m:Nat} (hm:∀t∈l,t.2.length≤m):QK l (a+b) m :=
 λt ht=>⟨bq_sz (h.bq ht) h0 hd hb,hm t ht⟩
theorem n1_infix {s l:QTs} (h:s <:+: l):n1 s≤n1 l:=by
 obtain⟨a,b,rfl⟩:=h;rw [Zpo,Zpo];omega
theorem Zix {l:QTs} {m:Nat} (hm:∀t∈l,t.2.length≤m):∀t∈gatM l,t.2.length≤m:=by
 have:∃j,QK l j m:=by
  induction l with
  | nil=>exact⟨0,λt ht=>by cases ht⟩
  | cons a l ih =>
    obtain⟨j,hj⟩:=ih λt ht=>hm t (.tail _ ht);refine⟨max j (max (toL a.1.num.natAbs).length (toL a.1.den).length),λt ht=>?_⟩;rcases List.mem_cons.1 ht with rfl | ht
    ·exact⟨⟨zo,zo⟩,hm _ (.head _)⟩
    ·exact⟨(hj t ht).1.mono zo,(hj t ht).2⟩
 obtain⟨j,hj⟩:=this;exact λt ht=>((Zmm _ l rfl hj).1 t ht).2
theorem GH.of_nb {D B a b:Nat} {l:QTs} (h:NB D B l) (h0:D≠0) (hd:D < 65536 ^ a) (hb:B < 65536 ^ b) {m:Nat} (hm:∀t∈l,t.2.length≤m):GH l (a+b) m:=λs hs=>by
 have hn:NB D B s:=⟨λt ht=>h.1 t (hs.subset ht),ZBv (n1_infix hs) h.2⟩;have hm2:∀t∈s,t.2.length≤m:=λt ht=>hm t (hs.subset ht);exact⟨Zvq hn h0 hd hb hm2,Zvq (NB.sumG (cmp:=ordQ) hn) h0 hd hb (Zix hm2)⟩
theorem Zs7:∀(n:Nat) (l:QTs) {j m:Nat},l.length=n→GH l j m→n≤100000000→m≤1000000→j≤900000→Pure prog 81 [qpA l] (qpA (gatM l)):=by
 intro n
 induction n using Nat.strongRecOn with
 | _ n ih =>
   intro l j m hl hG hn hm hj;have hq:=(hG l (List.infix_refl l)).1;have hlm:(l.map qtA).length=n:=by rw [ZBr,hl]
   match n,l,hl with
   | 0,[],_ =>
     clear ih hG;refine Zen (r:=.v (.slice none 0 0)) ?_ (by rw [Zzt];exact .nil 4);show Pure _ _ [.sl 4 []] _;refine pI func81 rfl ntmps81 results81 call81 ?_
     (refine wkad w_t w_t w_t (w_s ?_);intros)
     all_goals exact gL
   | 1,[t],_ =>
     clear ih hG;obtain⟨ht,-⟩:=hq t (.head _);have cz:=qSign t.1 ht zo;rw [Zli];by_cases h0:t.1=0
     ·rw [ZBo h0];have hz2:t.1.num.sign=0:=by rw [Zc4];exact h0
      refine Zen (r:=.v (.slice none 0 0)) ?_ (.nil 4);show Pure _ _ [.sl 4 [qtA t]] _;rw [hz2] at cz;clear hq hz2 h0;obtain⟨t1,t2⟩:=t;simp only at *;generalize t2.map Qt.av=T at *;generalize toL t1.num.natAbs=a at *;generalize toL t1.den=b at *;refine pI func81 rfl ntmps81 results81 call81 ?_
      (refine wkad w_t (w_1 cz) w_t (w_s ?_);intros)
      all_goals exact gL
     ·rw [ZBn h0];have hz2:¬t.1.num.sign=0:=by rw [Zc4];exact h0
      show Pure _ _ [.sl 4 [qtA t]] (.sl 4 [qtA t]);clear hq h0;obtain⟨t1,t2⟩:=t;simp only at *;generalize t1.num.sign=z at *;generalize t2.map Qt.av=T at *;generalize toL t1.num.natAbs=a at *;generalize toL t1.den=b at *;refine pI func81 rfl ntmps81 results81 call81 ?_
      (refine wkad (w_1 hz2) (w_1 cz) w_t (w_s ?_);intros)
      all_goals exact gL
   | n+2,l,hl =>
     rw [Zzs zo];have ht:(l.take (l.length/2)).length=(n+2)/2:=by rw [ZB9];omega
     have hd:(l.drop (l.length/2)).length=n+2 - (n+2)/2:=by rw [ZDo];omega
     have qt:l.take (l.length/2) <:+: l:=(List.take_prefix _ _).isInfix;have qd:l.drop (l.length/2) <:+: l:=(List.drop_suffix _ _).isInfix;have c1:=ih _ zo _ ht (hG.part qt) zo hm hj;have c2:=ih _ zo _ hd (hG.part qd) zo hm hj;obtain⟨q1,a1⟩:=hG _ qt;obtain⟨q2,b1⟩:=hG _ qd;have a2:=(Zmm _ _ ht q1).2;have b2:=(Zmm _ _ hd q2).2;have c3:=rxJoin _ _ a1 b1 zo zo zo zo hm;clear ih a1 b1 a2 b2 qt qd hq hG q1 q2;have m1:(l.take (l.length/2)).map qtA=(l.map qtA).take ((n+2)/2):=by rw [List.map_take,hl]
     have m2:(l.drop (l.length/2)).map qtA=(l.map qtA).drop ((n+2)/2):=by rw [List.map_drop,hl]
     have c1:Pure prog 81 [.sl 4 ((l.map qtA).take ((n+2)/2))] (.sl 4 ((gatM (l.take (l.length/2))).map qtA)):=by rw [←m1];exact c1
     have c2:Pure prog 81 [.sl 4 ((l.map qtA).drop ((n+2)/2))] (.sl 4 ((gatM (l.drop (l.length/2))).map qtA)):=by rw [←m2];exact c2
     have c3:Pure prog 74 [.sl 4 ((gatM (l.take (l.length/2))).map qtA),.sl 4 ((gatM (l.drop (l.length/2))).map qtA)] (.sl 4 ((Za1 (gatM (l.take (l.length/2))) (gatM (l.drop (l.length/2)))).map qtA)):=c3;show Pure _ _ [.sl 4 (l.map qtA)] (.sl 4 ((Za1 (gatM (l.take (l.length/2))) (gatM (l.drop (l.length/2)))).map qtA));clear m1 m2;generalize (Za1 (gatM (l.take (l.length/2))) (gatM (l.drop (l.length/2)))).map qtA=R at *;generalize (gatM (l.take (l.length/2))).map qtA=G1 at *;generalize (gatM (l.drop (l.length/2))).map qtA=G2 at *;generalize l.map qtA=A at *;have htk:A.take (n+2)=A:=ZDf zo
     have hn2:((n+2:Nat):Int).tdiv 2=(((n+2)/2:Nat):Int):=by first|rfl|(rw [Int.tdiv_eq_ediv_of_nonneg zo];omega)
     refine pI func81 rfl ntmps81 results81 call81 ?_
     (refine wkad (w_3 hlm htk hn2) (w_3 c1 c2 c3) (w_1 (w_d 6 [(3,.sl 4 G1),(7,.sl 4 G2),(8,.sl 4 R)] [] [])) (w_s ?_);intros)
     all_goals exact gL
theorem Zxi (p:QTs) {j n:Nat} (hp:QK p j n) (lp:p.length≤100000) (hj:j≤1000000) (hn:n≤1000000):Pure prog 10 [qpA p,qpA p] (.v (.bool true)):=by
 have hlp:(p.map qtA).length=p.length:=ZBr ..;have gp:∀i (h:i < p.length),(p.map qtA).getD i .u=qtA p[i]:=λi h=>Zao qtA h;show Pure _ _ [.sl 4 (p.map qtA),.sl 4 (p.map qtA)] _;generalize p.map qtA=A at *;refine pI func10 rfl ntmps10 results10 call10 ?_
 (refine wkad (w_1 hlp) w_t w_t (w_s ?_);intros)
 refine Zad (ι:=Nat) (λi e _=>i≤p.length∧e 0=.sl 4 A∧e 1=.sl 4 A∧e 5=iv i) (λi=>p.length - i) 0 zr ?_ ?_
 ·rintro i e m ⟨hi,e0,e1,e5⟩
  by_cases hlt:i < p.length
  ·have hg:=gp i hlt;have ms:=hp _ (ZB0 hlt);clear gp hp;generalize p[i]=s at *;have c1:=qEqual s.1 s.1 ms.1 ms.1 hj hj;have c2:=Zxh s.2 s.2 (by have:=ms.2;omega) (by have:=ms.2;omega);rw [ZBw rfl] at c1;rw [Zbq.refl] at c2;clear ms;obtain⟨s1,s2⟩:=s;simp only at *;generalize s2.map Qt.av=S2 at *;generalize toL s1.num.natAbs=a at *;generalize toL s1.den=b at *
   (refine wkad (w_5 e0 e1 e5 hlp hg) (w_2 c1 c2) (w_1 (w_d 6 [(10,.v (.bool true)),(23,iv 0)] [] [])) (w_s ?_);intros)
   exact⟨i+1,⟨zo,gW e0,gW e1,gS⟩,zo⟩
  ·clear gp hp
   (refine wkad (w_4 e0 e1 e5 hlp) w_t w_t (w_s ?_);intros)
   all_goals exact gL
 ·exact⟨ZBx _,gC,gC,gC⟩
structure RE where
 r:RQ
 q:List Qt
abbrev RE.av (t:RE):AV:=.agg [.v (.bool t.r.s),lim t.r.l,lim t.r.d,qsA t.q]
def RE.ok (t:RE):Bool:=t.r.ok && t.q.all Qt.ok
def sgP (l:List Qt):Int:=l.foldl (λs q=>s*q.norm.2) 1
def nzP (l:List Qt):List Qt:=(l.filter λq=>decide (q.norm.2≠0)).map λq=>q.norm.1
def putP (l:List Qt):List Qt:=(nzP l).foldl (putQ Qt.cmp) []
def RE.t (t:RE):Rat × List Qt:=(t.r.q*(sgP t.q:Rat),putP t.q)
theorem Zs4 (l:List Qt) (q:Qt):sgP (l++[q])=sgP l*q.norm.2:=by unfold sgP;rw [ZFp];rfl
theorem putP_y (l:List Qt) {q:Qt} (h:q.norm.2≠0):putP (l++[q])=putQ Qt.cmp (putP l) q.norm.1:=by
 unfold putP nzP;rw [ZEh,ZCb,ZFp,ZEv,ZBo (ZBw h)];rfl
theorem putP_n (l:List Qt) {q:Qt} (h:q.norm.2=0):putP (l++[q])=putP l:=by
 unfold putP nzP;rw [ZEh,ZCb,ZFp,ZEv,ZBn (by simp [h])];rfl
theorem Zke (l:List Qt):(putP l).length≤l.length:=by
 unfold putP;rw [(Zfm (cmp:=Qt.cmp) (nzP l) []).length_eq,ZC4];unfold nzP;rw [ZBr];exact ZGa _ _
theorem Zgx (q:Qt):q.norm.2=-1∨q.norm.2=0∨q.norm.2=1:=by
 unfold Qt.norm Zeg Zfl
 repeat' split
 all_goals first|exact .inl rfl|exact .inr (.inl rfl)|exact .inr (.inr rfl)
theorem sg_mul {a b:Int} (ha:a=-1∨a=0∨a=1) (hb:b=-1∨b=0∨b=1):a*b=-1∨a*b=0∨a*b=1:=by
 rcases ha with rfl | rfl | rfl<;>rcases hb with rfl | rfl | rfl<;>decide
theorem Zl9 (l:List Qt):sgP l=-1∨sgP l=0∨sgP l=1:=by
 have key:∀(l:List Qt) (s:Int),(s=-1∨s=0∨s=1)→(l.foldl (λs q=>s*q.norm.2) s=-1∨l.foldl (λs q=>s*q.norm.2) s=0∨l.foldl (λs q=>s*q.norm.2) s=1):=by
  intro l
  induction l with
  | nil=>intro s h;exact h
  | cons a l ih=>intro s h;exact ih _ (sg_mul h (Zgx a))
 exact key l 1 (.inr (.inr rfl))
theorem Zm9 {z:Int} (h:z=-1∨z=0∨z=1):Sz (z:Rat) 1:=by
 refine Sz.int ?_ (ZBp _);rcases h with rfl | rfl | rfl
 ·exact Nat.le_of_eq Zdc
 ·show(toL 0).length≤1;rw [Zay];exact ZBx _
 ·exact Nat.le_of_eq Zdc
theorem qOfS {z:Int} (h:z=-1∨z=0∨z=1):Pure prog 39 [iv z] (ratQ (z:Rat)):=by
 rcases h with rfl | rfl | rfl
 ·exact qOfM
 ·exact qOf 0 zo
 ·exact qOf 1 zo
def nrmR (l:List RE):AV:=if l.all RE.ok=true then qpA (gatM (l.map RE.t)) else .v (.slice none 0 0)
theorem Zi4 {α:Type} {p:α→Bool} {l:List α} {i:Nat} (h:i < l.length) (h1:(l.take i).all p=true) (h2:p l[i]=true):(l.take (i+1)).all p=true:=by
 rw [ZEq,ZBz h,List.all_append,h1];simp [h2]
theorem Zkm {α:Type} {p:α→Bool} {l:List α} {i:Nat} (h:i < l.length) (h2:p l[i]=false):l.all p=false:=by
 rw [List.all_eq_false];exact⟨l[i],ZB0 h,by simp [h2]⟩
theorem rxNorm (l:List RE) {J:Nat} (hl:l.length≤1000) (hr:∀t∈l,t.r.lm J) (hq:∀t∈l,t.q.length≤1000) (hJ:J≤800):Pure prog 127 [.sl 4 (l.map RE.av)] (nrmR l):=by
 have hlm:(l.map RE.av).length=l.length:=ZBr ..;have hg:∀i (h:i < l.length),(l.map RE.av).getD i .u=RE.av l[i]:=λi h=>Zao RE.av h;generalize l.map RE.av=A at *;refine pI func127 rfl ntmps127 results127 call127 ?_
 (refine wkad (w_1 hlm) w_t w_t (w_s ?_);intros)
 refine Zea (Frz.nilOwn (d:=3) 75 4 78 (gC)) ?_;refine Zad (ι:=Nat) (λi e m=>i≤l.length∧(l.take i).all RE.ok=true∧e 0=.sl 4 A∧e 4=iv i∧∃sv,e 3=.own 75 sv∧m 75=some (.row sv 78 4 (((l.take i).map RE.t).map qtA) 0)) (λi=>l.length - i) 0 zr ?_ ?_
 ·rintro i e m ⟨hi,ha,e0,e4,sv,e3,m75⟩
  have hol:((((l.take i).map RE.t).map qtA)).length=i:=by rw [ZBr,ZBr,ZB9];omega
  by_cases hlt:i < l.length
  ·have hgi:=hg i hlt;have hri:=hr _ (ZB0 hlt);have hqi:=hq _ (ZB0 hlt);have hta:((l.take (i+1)).map RE.t).map qtA=((l.take i).map RE.t).map qtA++[qtA l[i].t]:=by rw [ZEq,ZBz hlt,ZCb,ZCb];rfl
   have hok:=Zi4 (p:=RE.ok) hlt ha;have hbad:=Zkm (p:=RE.ok) hlt;have hbr:RE.ok l[i]=false→nrmR l=.v (.slice none 0 0):=λh=>by unfold nrmR;rw [hbad h];rfl
   clear hbad hg hr hq ha;generalize l[i]=t at *;generalize nrmR l=NR at *;generalize ((l.take i).map RE.t).map qtA=O at *;obtain⟨r,q⟩:=t;simp only at hri hqi;have hgi:A.getD i .u=.agg [.v (.bool r.s),lim r.l,lim r.d,.sl 4 (q.map Qt.av)]:=hgi;have crq:=qRight r.s r.l r.d hri.1 hri.2.1 (by have:=hri.2.2.1;omega) (by have:=hri.2.2.2;omega)
   cases hro:r.ok with
   | false =>
     rw [show(RQ.ok ⟨r.s,r.l,r.d⟩)=false from hro] at crq;rw [hbr (by unfold RE.ok;rw [hro];rfl)];clear hbr hok hta;obtain⟨s,x,d⟩:=r;simp only at *;generalize q.map Qt.av=Q at *
     (refine wkad (w_6 e0 e4 e3 m75 hlm hgi) (w_1 crq) w_t (w_s ?_);intros)
     all_goals exact gL
   | true =>
     rw [show(RQ.ok ⟨r.s,r.l,r.d⟩)=true from hro] at crq;have hz:=(RQ.ok_av hri hro).2;have hre:=RQ.ok_eq hri hro;have hqm:(q.map Qt.av).length=q.length:=ZBr ..;have hgq:∀k (h:k < q.length),(q.map Qt.av).getD k .u=Qt.av q[k]:=λk h=>Zao Qt.av h;have hbq:∀k (h:k < q.length),Qt.ok q[k]=false→NR=.v (.slice none 0 0):=λk h h2=>hbr (by unfold RE.ok;rw [Zkm (p:=Qt.ok) h h2,ZGd]);have hqk:q.all Qt.ok=true→RE.ok ⟨r,q⟩=true:=λh=>by unfold RE.ok;rw [hro,h];rfl
     have het:qtA (RE.t ⟨r,q⟩)=.agg [.v (.bool (decide ((r.q*(sgP q:Rat)).num < 0))),lim (toL (r.q*(sgP q:Rat)).num.natAbs),lim (toL (r.q*(sgP q:Rat)).den),.sl 4 ((putP q).map Qt.av)]:=rfl;rw [het] at hta;clear het hbr;generalize hx:r.q=x at *;subst hre;clear hro;simp only at *;generalize hQ:q.map Qt.av=Q at *;have cm:=qMul x (sgP q:Rat) hz (Zm9 (Zl9 q)) zo zo;have cs:=qOfS (Zl9 q);have cm:Pure prog 76 [.agg [.v (.bool (decide (x.num < 0))),lim (toL x.num.natAbs),lim (toL x.den)],ratQ (sgP q:Rat)] (ratQ (x*(sgP q:Rat))):=cm;generalize hxn:toL x.num.natAbs=xn at *;generalize hxd:toL x.den=xd at *
     generalize hxs:decide (x.num < 0)=xs at *
     (refine wkad (w_6 e0 e4 e3 m75 hlm hgi) (w_1 crq) w_t (w_s ?_);intros)
     refine Zea (Frz.nil (d:=6) 4 (gC)) ?_;refine Zad (ι:=Nat) (λk e m=>k≤q.length∧(q.take k).all Qt.ok=true∧e 0=.sl 4 A∧e 4=iv i∧e 3=.own 75 sv∧m 75=some (.row sv 78 4 O 0)∧e 5=iv (sgP (q.take k))∧e 6=.sl 4 ((putP (q.take k)).map Qt.av)∧e 7=iv k) (λk=>q.length - k) 0 zr ?_ ?_
     ·rintro k e m ⟨hk,hak,e0,e4,e3,m75,e5,e6,e7⟩
      by_cases hkt:k < q.length
      ·have hgk:=hgq k hkt;have hok2:=Zi4 (p:=Qt.ok) hkt hak;have hbk:=hbq k hkt;have htk:q.take (k+1)=q.take k++[q[k]]:=by rw [ZEq,ZBz hkt];rfl
       have s1:=Zs4 (q.take k) q[k];have s2:=putP_y (q.take k) (q:=q[k]);have s3:=putP_n (q.take k) (q:=q[k]);have hpl:=Zke (q.take k);have htl:(q.take k).length≤1000:=by rw [ZB9];omega
       have hsg:=Zl9 (q.take k);have hns:=Zgx q[k];rw [←htk] at s1 s2 s3;have c1:=Zxj q[k].k q[k].a q[k].b q[k].c;have c2:=rqNorm q[k].k q[k].a q[k].b q[k].c;have c3:=rxPut (putP (q.take k)) (q[k].norm).1 zo;clear hgq hbq hqk cm cs hta hok htk hak;generalize q[k]=y at *;generalize hP1:putP (q.take (k+1))=P1 at *;generalize hS1:sgP (q.take (k+1))=S1 at *;generalize putP (q.take k)=P0 at *;generalize sgP (q.take k)=S0 at *;generalize hn1:y.norm.1=nn at *;generalize hn2:y.norm.2=ns at *;obtain⟨y1,y2,y3,y4⟩:=y;simp only at *
       cases hyo:Qt.ok ⟨y1,y2,y3,y4⟩with
       | false =>
         rw [hyo] at c1;rw [hbk hyo];clear s1 s2 s3 c2 c3 hok2 hbk
         (refine wkad (w_11 e0 e4 e3 m75 e5 e6 e7 hlm hgi hqm hgk) (w_1 c1) w_t (w_s ?_);intros)
         all_goals exact gL
       | true =>
         rw [hyo] at c1;have hok3:=hok2 hyo;clear hbk hok2;obtain⟨n1,n2,n3,n4⟩:=nn;by_cases hns0:ns=0
         ·have s3:=s3 hns0;subst s3;subst s1;clear s2 c3;generalize hPA:P1.map Qt.av=PA at *
          (refine wkad (w_12 e0 e4 e3 m75 e5 e6 e7 hlm hgi hqm hgk hns0) (w_2 c1 c2) w_t (w_s ?_);intros)
          exact⟨k+1,⟨zo,hok3,gW e0,gW e4,gW e3,gW m75,by rw [hS1,hns0];exact gC,by rw [hP1,hPA];exact gW e6,gS⟩,zo⟩
         ·have s2:=s2 hns0;subst s2;have hw:IntKind.i64.wrap (S0*ns)=S0*ns:=by rcases sg_mul hsg hns with h | h | h<;>rw [h]<;>rfl
          subst s1;clear s3;have c3:Pure prog 200 [.sl 4 (P0.map Qt.av),.agg [iv n1,iv n2,iv n3,iv n4]] (.sl 4 ((putQ Qt.cmp P0 ⟨n1,n2,n3,n4⟩).map Qt.av)):=c3;generalize hPB:(putQ Qt.cmp P0 ⟨n1,n2,n3,n4⟩).map Qt.av=PB' at *;generalize P0.map Qt.av=PA at *
          (refine wkad (w_13 e0 e4 e3 m75 e5 e6 e7 hlm hgi hqm hgk hns0 hw) (w_3 c1 c2 c3) w_t (w_s ?_);intros)
          exact⟨k+1,⟨zo,hok3,gW e0,gW e4,gW e3,gW m75,by rw [hS1];exact gC,by rw [hP1,hPB];exact gC,gS⟩,zo⟩
      ·have hkl:k=q.length:=zo;subst hkl;rw [ZDc] at hak e5 e6;have hok3:=hok (hqk hak);clear hgq hbq hqk hok;generalize (putP q).map Qt.av=PA at *;generalize hS:sgP q=S0 at *;generalize x*(S0:Rat)=w at *
       (refine wkad (w_11 e0 e4 e3 m75 e5 e6 e7 hlm hgi hqm hol) (w_2 cs cm) (w_1 (w_d 18 [(7,ratQ (S0:Rat)),(8,ratQ w)] [12,1012] [74,75])) (w_s ?_);intros)
       exact⟨i+1,⟨zo,hok3,gW e0,gS,_,gC,by rw [hta];exact gC⟩,zo⟩
     ·exact⟨ZBx _,rfl,gW e0,gW e4,gW e3,gW m75,gC,gC,gC⟩
  ·have hil:i=l.length:=zo;subst hil;rw [ZDc] at m75 ha hol;have hfin:nrmR l=.sl 4 ((gatM (l.map RE.t)).map qtA):=by unfold nrmR;rw [ZBo ha]
   have hqk:QK (l.map RE.t) (J+1) 1000:=λt ht=>by
    obtain⟨u,hu,rfl⟩:=List.mem_map.1 ht
    have hok:u.r.ok=true:=by
     have:=List.all_eq_true.1 ha u hu;unfold RE.ok at this;simp only [ZCj] at this;exact this.1
    have:=hq u hu;have:=Zke u.q;exact⟨(RQ.ok_av (hr u hu) hok).2.mul (Zm9 (Zl9 u.q)),by show(putP u.q).length≤1000;omega⟩
   have h1:l.length*(J+1+1)≤1000*(J+1+1):=ZB7 _ hl;have cg:=Zs7 l.length (l.map RE.t) (ZBr ..) (GH.of_qk hqk) zo zo (by rw [ZBr];omega);have cg:Pure prog 81 [.sl 4 ((l.map RE.t).map qtA)] (.sl 4 ((gatM (l.map RE.t)).map qtA)):=cg;rw [hfin];show _;clear hg hr hq hqk ha;generalize (gatM (l.map RE.t)).map qtA=G at *;generalize (l.map RE.t).map qtA=O at *
   (refine wkax (w_6 e0 e4 e3 m75 hlm hol) w_t w_t (w_1 cg) w_t w_t w_y (w_r 0) (w_s ?_);intros)
   all_goals exact gL
 ·exact⟨ZBx _,rfl,gC,gC,_,gC,gC⟩
attribute [go_sem] underlying163 szOpn zOpn szFnR zFnR
attribute [local go_sem] undFnR
abbrev subT (p q:QTs):QTs:=Za1 p (q.map λt=>(-t.1,t.2))
structure OpF (f:Nat) (s:Rat):Prop where
 pm:s=1∨s=-1
 ct:∀(a b:Rat) {j k:Nat},Sz a j→Sz b k→j≤1000000→k≤1000000→Pure prog f [ratQ a,ratQ b] (ratQ (a+s*b))
theorem opAdd:OpF 52 1:=⟨.inl rfl,λa b _ _ ha hb hj hk=>by rw [ZFo];exact Zte a b ha hb zo zo⟩
theorem opSub:OpF 115 (-1):=⟨.inr rfl,λa b _ _ ha hb hj hk=>by
 have:a+-1*b=a - b:=by grind
 rw [this];exact ratSub a b ha hb zo zo⟩
def sclT (s:Rat) (q:QTs):QTs:=q.map λt=>(s*t.1,t.2)
theorem Zcy (s:Rat) (q:QTs):(sclT s q).length=q.length:=ZBr ..
theorem Zxd (s:Rat) (q:QTs) {i:Nat} (h:i < q.length):(sclT s q)[i]'(by rw [Zcy];exact h)=(s*q[i].1,q[i].2):=ZGc ..
theorem Zz2 (f:Nat) (s:Rat) (op:OpF f s) (p q:QTs) {j k n:Nat} (hp:QK p j n) (hq:QK q k n) (np:∀t∈p,t.1≠0) (nq:∀t∈q,t.1≠0) (lp:p.length≤100000000) (lq:q.length≤100000000) (hj:j≤900000) (hk:k≤900000) (hn:n≤1000000) :
 Pure prog 116 [.agg [.fn f []],qpA p,qpA q] (qpA (Za1 p (sclT s q))):=by
 have hz0:ratQ ((0:Nat):Rat)=.agg [.v (.bool false),lim [],lim (toL 1)]:=by
  show AV.agg [.v (.bool (decide ((0:Rat).num < 0))),lim (toL (0:Rat).num.natAbs),lim (toL (0:Rat).den)]=_;rw [show(0:Rat).num=0 from rfl,show(0:Rat).den=1 from rfl,show(0:Int).natAbs=0 from rfl,Zay];rfl
 have hz1:ratQ (0:Rat)=.agg [.v (.bool false),lim [],lim (toL 1)]:=hz0;have c0:Pure prog 27 [iv 0] (.agg [.v (.bool false),lim [],lim (toL 1)]):=by rw [←hz0];exact Zo5 0 zo
 have sz0:Sz (0:Rat) 1:=Zm9 (.inr (.inl rfl));have hsn:s≠0:=by rcases op.pm with h | h<;>rw [h]<;>decide
 show Pure _ _ [.agg [.fn f []],.sl 4 (p.map qtA),.sl 4 (q.map qtA)] _;refine pI func116 rfl ntmps116 results116 call116 ?_
 (refine wkad w_t (w_1 c0) w_t (w_s ?_);intros)
 rename_i g3 g8;generalize toL 1=one at *;refine Zea (Frz.nilOwn (d:=7) 79 4 78 (gC)) ?_;refine Zad (ι:=Nat × Nat) (λx e m=>x.1≤p.length∧x.2≤q.length∧e 1=.sl 4 ((p.drop x.1).map qtA)∧e 2=.sl 4 ((q.drop x.2).map qtA)∧e 3=.pbox 3 g3 0∧m 3=some (.box g3 163 [.fn f []] false)∧e 8=.pbox 8 g8 0∧m 8=some (.box g8 28 [.v (.bool false),lim [],lim one] false)∧∃sv out,e 7=.own 79 sv∧m 79=some (.row sv 78 4 (out.map qtA) 0)∧out.length≤x.1+x.2∧Za1 p (sclT s q)=out++Za1 (p.drop x.1) ((sclT s q).drop x.2)) (λx=>p.length+q.length - (x.1+x.2)) (0,0) zr ?_ ?_
 ·rintro ⟨i,l⟩ e m ⟨hi,hl,e1,e2,e3,m3,e8,m8,sv,out,e7,m79,ho,hs⟩
  simp only at hi hl e1 e2 ho hs;have hlen:(out.map qtA).length=out.length:=ZBr ..;by_cases hi2:i < p.length
  ·have hd:(p.drop i).map qtA=qtA p[i] :: (p.drop (i+1)).map qtA:=by rw [ZDl hi2];rfl
   have hdl:((p.drop (i+1)).map qtA).length=p.length - (i+1):=by rw [ZBr,ZDo]
   have ms:=hp _ (ZB0 hi2);have ns:=np _ (ZB0 hi2);rw [hd] at e1;have hdp:=hd;clear hd;by_cases hl2:l < q.length
   ·have hd:(q.drop l).map qtA=qtA q[l] :: (q.drop (l+1)).map qtA:=by rw [ZDl hl2];rfl
    have hel:((q.drop (l+1)).map qtA).length=q.length - (l+1):=by rw [ZBr,ZDo]
    have mt:=hq _ (ZB0 hl2);have nt:=nq _ (ZB0 hl2);have st:=Zp1 (p:=p) (q:=sclT s q) hi2 (show l < (sclT s q).length by rw [Zcy];exact hl2);rw [Zxd s q hl2] at st;rw [hd] at e2;have hdq:=hd;clear hd hp hq np nq;generalize p[i]=u at *;generalize q[l]=v at *;have cl:=exCmpP u.2 v.2 (by have:=ms.2;omega) (by have:=mt.2;omega);have h3:=Zpe u.2 v.2;have hou:∀x:Rat × List Qt,(out++[x]).map qtA=out.map qtA++[.agg [.v (.bool (decide (x.1.num < 0))),lim (toL x.1.num.natAbs),lim (toL x.1.den),.sl 4 (x.2.map Qt.av)]]:=λx=>by rw [ZCb];rfl
    rw [st] at hs;clear st;have ca1:=op.ct u.1 0 ms.1 sz0 zo zo;have ca2:=op.ct 0 v.1 sz0 mt.1 zo zo;have ca3:=op.ct u.1 v.1 ms.1 mt.1 zo zo;rw [show u.1+s*0=u.1 by rw [ZF1,ZDx],hz1] at ca1;rw [show 0+s*v.1=s*v.1 by rw [ZFz],hz1] at ca2;have hpm:=op.pm;have zs1:=Zc8 u.1 ms.1 zo
    have hsz:Sz (s*v.1) (k+1):=by
     rcases hpm with h | h
     ·rw [h,ZFo];exact mt.1.mono zo
     ·rw [h,show -1*v.1=- v.1 by grind];exact mt.1.neg.mono zo
    have zs2:=Zc8 (s*v.1) hsz zo;have zs3:=Zc8 (u.1+s*v.1) (ms.1.add hsz) zo;have nz1:¬u.1.num.sign=0:=by rw [Zc4];exact ns
    have nz2:¬(s*v.1).num.sign=0:=by rw [Zc4];exact λh=>by rcases Rat.mul_eq_zero.1 h with h | h;exact hsn h;exact nt h
    have hou1:=hou u;have hou2:=hou (s*v.1,v.2);have hou3:=hou (u.1+s*v.1,v.2);clear hou ms mt hsz hpm;obtain⟨u1,u2⟩:=u;obtain⟨v1,v2⟩:=v;simp only at *;have cl:Pure prog 194 [.sl 4 (u2.map Qt.av),.sl 4 (v2.map Qt.av)] (iv (ordQ u2 v2)):=cl;have e1:e 1=.sl 4 (.agg [.v (.bool (decide (u1.num < 0))),lim (toL u1.num.natAbs),lim (toL u1.den),.sl 4 (u2.map Qt.av)] :: (p.drop (i+1)).map qtA):=e1;have hdp:(p.drop i).map qtA=.agg [.v (.bool (decide (u1.num < 0))),lim (toL u1.num.natAbs),lim (toL u1.den),.sl 4 (u2.map Qt.av)] :: (p.drop (i+1)).map qtA:=hdp;have e2:e 2=.sl 4 (.agg [.v (.bool (decide (v1.num < 0))),lim (toL v1.num.natAbs),lim (toL v1.den),.sl 4 (v2.map Qt.av)] :: (q.drop (l+1)).map qtA):=e2
    have hdq:(q.drop l).map qtA=.agg [.v (.bool (decide (v1.num < 0))),lim (toL v1.num.natAbs),lim (toL v1.den),.sl 4 (v2.map Qt.av)] :: (q.drop (l+1)).map qtA:=hdq;have ca1:Pure prog f [.agg [.v (.bool (decide (u1.num < 0))),lim (toL u1.num.natAbs),lim (toL u1.den)],.agg [.v (.bool false),lim [],lim one]] (.agg [.v (.bool (decide (u1.num < 0))),lim (toL u1.num.natAbs),lim (toL u1.den)]):=ca1;have ca2:Pure prog f [.agg [.v (.bool false),lim [],lim one],.agg [.v (.bool (decide (v1.num < 0))),lim (toL v1.num.natAbs),lim (toL v1.den)]] (ratQ (s*v1)):=ca2;have ca3:Pure prog f [.agg [.v (.bool (decide (u1.num < 0))),lim (toL u1.num.natAbs),lim (toL u1.den)],.agg [.v (.bool (decide (v1.num < 0))),lim (toL v1.num.natAbs),lim (toL v1.den)]] (ratQ (u1+s*v1)):=ca3
    have zs1:Pure prog 18 [.agg [.v (.bool (decide (u1.num < 0))),lim (toL u1.num.natAbs),lim (toL u1.den)]] (iv u1.num.sign):=zs1;rcases h3 with⟨h1,h2⟩ | ⟨h1,h2,h4⟩ | ⟨h1,h2,h4⟩
    ·rw [ZBo h2] at hs;rw [h1] at cl;clear ca2 ca3 zs2 zs3 nz2 hou2 hou3 h1 h2;generalize u1.num.sign=z at *;generalize hO:out.map qtA=O at *;generalize hPd:(p.drop (i+1)).map qtA=PD at *;have htp:PD.take (p.length - (i+1))=PD:=ZDf zo;generalize hQd:(q.drop (l+1)).map qtA=QD at *;have htq:QD.take (q.length - (l+1))=QD:=ZDf zo;generalize u2.map Qt.av=U2 at *;generalize v2.map Qt.av=V2 at *
     (refine wkax (w_14 e1 e2 e3 m3 e8 m8 e7 m79 hlen hdl hel htp htq nz1) (w_3 cl ca1 zs1) (w_3 (w_d 8 [(8,iv (-1))] [] []) (w_d 9 [] [] [10,11]) (w_d 12 [] [] [10])) w_t w_t w_t w_y (w_r 0) (w_s ?_);intros)
     refine⟨(i+1,l),⟨by simp only;omega,by simp only;omega,by rw [hPd];exact gC,by rw [hdq];exact gW e2,gW e3,gW m3,gW e8,gW m8,_,out++[(u1,u2)],gC,by rw [hou1];exact gC,by simp only [ZCh,ZB2,ZCe];omega,by rw [hs,ZCz];rfl⟩,by simp only;omega⟩
    ·rw [ZBn h2,ZBn h4] at hs;have huv:u2=v2:=Zbq.eqz _ _ h1;rw [h1] at cl;clear ca1 ca2 zs1 zs2 nz1 nz2 hou1 hou2 h2 h4;by_cases hz:u1+s*v1=0
     ·rw [ZBo hz] at hs;have hz2:(u1+s*v1).num.sign=0:=by rw [Zc4];exact hz
      rw [hz2] at zs3;clear hou3 h1 huv hz hz2;generalize u1+s*v1=w at *;generalize hO:out.map qtA=O at *;generalize hPd:(p.drop (i+1)).map qtA=PD at *;have htp:PD.take (p.length - (i+1))=PD:=ZDf zo;generalize hQd:(q.drop (l+1)).map qtA=QD at *;have htq:QD.take (q.length - (l+1))=QD:=ZDf zo;generalize u2.map Qt.av=U2 at *;generalize v2.map Qt.av=V2 at *
      (refine wkax (w_13 e1 e2 e3 m3 e8 m8 e7 m79 hlen hdl hel htp htq) (w_3 cl ca3 zs3) (w_4 (w_d 8 [(8,iv 0)] [] []) (w_d 9 [] [] [10,11]) (w_d 12 [] [] [10]) (w_d 14 [] [] [11])) w_t w_t w_t w_y (w_r 0) (w_s ?_);intros)
      refine⟨(i+1,l+1),⟨by simp only;omega,by simp only;omega,by rw [hPd];exact gC,by rw [hQd];exact gC,gW e3,gW m3,gW e8,gW m8,_,out,gW e7,by rw [hO];exact gW m79,by simp only;omega,hs⟩,by simp only;omega⟩
     ·rw [ZBn hz] at hs;have hz2:¬(u1+s*v1).num.sign=0:=by rw [Zc4];exact hz
      have hs:Za1 p (sclT s q)=out++(u1+s*v1,v2) :: Za1 (p.drop (i+1)) ((sclT s q).drop (l+1)):=by rw [←huv];exact hs
      clear h1 huv hz;generalize (u1+s*v1).num.sign=z at *;generalize u1+s*v1=w at *;generalize hO:out.map qtA=O at *;generalize hPd:(p.drop (i+1)).map qtA=PD at *;have htp:PD.take (p.length - (i+1))=PD:=ZDf zo;generalize hQd:(q.drop (l+1)).map qtA=QD at *;have htq:QD.take (q.length - (l+1))=QD:=ZDf zo;generalize u2.map Qt.av=U2 at *;generalize v2.map Qt.av=V2 at *
      (refine wkax (w_14 e1 e2 e3 m3 e8 m8 e7 m79 hlen hdl hel htp htq hz2) (w_3 cl ca3 zs3) (w_4 (w_d 8 [(8,iv 0)] [] []) (w_d 9 [] [] [10,11]) (w_d 12 [] [] [10]) (w_d 14 [] [] [11])) w_t w_t w_t w_y (w_r 0) (w_s ?_);intros)
      refine⟨(i+1,l+1),⟨by simp only;omega,by simp only;omega,by rw [hPd];exact gC,by rw [hQd];exact gC,gW e3,gW m3,gW e8,gW m8,_,out++[(w,v2)],gC,by rw [hou3];exact gC,by simp only [ZCh,ZB2,ZCe];omega,by rw [hs,ZCz];rfl⟩,by simp only;omega⟩
    ·rw [ZBn h2,ZBo h4] at hs;rw [h1] at cl;clear ca1 ca3 zs1 zs3 nz1 hou1 hou3 h1 h2 h4;generalize (s*v1).num.sign=z at *;generalize s*v1=w at *;generalize hO:out.map qtA=O at *;generalize hPd:(p.drop (i+1)).map qtA=PD at *;have htp:PD.take (p.length - (i+1))=PD:=ZDf zo;generalize hQd:(q.drop (l+1)).map qtA=QD at *;have htq:QD.take (q.length - (l+1))=QD:=ZDf zo;generalize u2.map Qt.av=U2 at *;generalize v2.map Qt.av=V2 at *
     (refine wkax (w_14 e1 e2 e3 m3 e8 m8 e7 m79 hlen hdl hel htp htq nz2) (w_3 cl ca2 zs2) (w_3 (w_d 8 [(8,iv 1)] [] []) (w_d 9 [] [] [10,11]) (w_d 14 [] [] [11])) w_t w_t w_t w_y (w_r 0) (w_s ?_);intros)
     refine⟨(i,l+1),⟨by simp only;omega,by simp only;omega,by rw [hdp];exact gW e1,by rw [hQd];exact gC,gW e3,gW m3,gW e8,gW m8,_,out++[(w,v2)],gC,by rw [hou2];exact gC,by simp only [ZCh,ZB2,ZCe];omega,by rw [hs,ZCz];rfl⟩,by simp only;omega⟩
   ·have hl3:l=q.length:=zo;subst hl3;rw [Zfh (.inr (by rw [Zcy];exact ZBp _)),ZD4 (l:=sclT s q) (by rw [Zcy];exact ZBp _),ZC4,ZDl hi2] at hs
    have hs:Za1 p (sclT s q)=(out++[p[i]])++Za1 (p.drop (i+1)) ((sclT s q).drop q.length):=by
     rw [Zfh (.inr (by rw [Zcy];exact ZBp _)),hs,ZD4 (l:=sclT s q) (by rw [Zcy];exact ZBp _)];simp
    rw [show q.drop q.length=[] from ZD4 (ZBp _)] at e2;have e2:e 2=.sl 4 []:=e2;have hq0:(q.drop q.length).map qtA=[]:=by rw [ZD4 (ZBp _)];rfl
    clear hp hq np nq;generalize p[i]=u at *;have hou1:(out++[u]).map qtA=out.map qtA++[.agg [.v (.bool (decide (u.1.num < 0))),lim (toL u.1.num.natAbs),lim (toL u.1.den),.sl 4 (u.2.map Qt.av)]]:=by rw [ZCb];rfl
    have ca1:=op.ct u.1 0 ms.1 sz0 zo zo;rw [show u.1+s*0=u.1 by rw [ZF1,ZDx],hz1] at ca1;have zs1:=Zc8 u.1 ms.1 zo;have nz1:¬u.1.num.sign=0:=by rw [Zc4];exact ns
    obtain⟨u1,u2⟩:=u;simp only at *;have e1:e 1=.sl 4 (.agg [.v (.bool (decide (u1.num < 0))),lim (toL u1.num.natAbs),lim (toL u1.den),.sl 4 (u2.map Qt.av)] :: (p.drop (i+1)).map qtA):=e1;have hdp:(p.drop i).map qtA=.agg [.v (.bool (decide (u1.num < 0))),lim (toL u1.num.natAbs),lim (toL u1.den),.sl 4 (u2.map Qt.av)] :: (p.drop (i+1)).map qtA:=hdp;have ca1:Pure prog f [.agg [.v (.bool (decide (u1.num < 0))),lim (toL u1.num.natAbs),lim (toL u1.den)],.agg [.v (.bool false),lim [],lim one]] (.agg [.v (.bool (decide (u1.num < 0))),lim (toL u1.num.natAbs),lim (toL u1.den)]):=ca1;have zs1:Pure prog 18 [.agg [.v (.bool (decide (u1.num < 0))),lim (toL u1.num.natAbs),lim (toL u1.den)]] (iv u1.num.sign):=zs1
    generalize u1.num.sign=z at *;generalize hO:out.map qtA=O at *;generalize hPd:(p.drop (i+1)).map qtA=PD at *;have htp:PD.take (p.length - (i+1))=PD:=ZDf zo;generalize u2.map Qt.av=U2 at *
    (refine wkad (w_12 e1 e2 e3 m3 e8 m8 e7 m79 hlen hdl htp nz1) (w_2 ca1 zs1) (w_2 (w_d 9 [] [] [10,11]) (w_d 12 [] [] [10])) (w_s ?_);intros)
    refine⟨(i+1,q.length),⟨by simp only;omega,by simp only;omega,by rw [hPd];exact gC,by rw [hq0];exact gW e2,gW e3,gW m3,gW e8,gW m8,_,out++[(u1,u2)],gC,by rw [hou1];exact gC,by simp only [ZCh,ZB2,ZCe];omega,hs⟩,by simp only;omega⟩
  ·have hi3:i=p.length:=zo;subst hi3;rw [show p.drop p.length=[] from ZD4 (ZBp _)] at e1;have e1:e 1=.sl 4 []:=e1;have hp0:(p.drop p.length).map qtA=[]:=by rw [ZD4 (ZBp _)];rfl
   by_cases hl2:l < q.length
   ·have hd:(q.drop l).map qtA=qtA q[l] :: (q.drop (l+1)).map qtA:=by rw [ZDl hl2];rfl
    have hel:((q.drop (l+1)).map qtA).length=q.length - (l+1):=by rw [ZBr,ZDo]
    have mt:=hq _ (ZB0 hl2);have nt:=nq _ (ZB0 hl2);rw [hd] at e2;have hdq:=hd;have hsl:(sclT s q).drop l=(s*q[l].1,q[l].2) :: (sclT s q).drop (l+1):=by rw [ZDl (by rw [Zcy];exact hl2),Zxd s q hl2]
    rw [Zfh (.inl (ZBp _)),ZD4 (ZBp _),ZF3,hsl] at hs
    have hs:Za1 p (sclT s q)=(out++[(s*q[l].1,q[l].2)])++Za1 (p.drop p.length) ((sclT s q).drop (l+1)):=by
     rw [Zfh (.inl (ZBp _)),hs,ZD4 (l:=p) (ZBp _)];simp
    clear hd hsl hp hq np nq;generalize q[l]=v at *;have ca2:=op.ct 0 v.1 sz0 mt.1 zo zo;rw [show 0+s*v.1=s*v.1 by rw [ZFz],hz1] at ca2;have hpm:=op.pm
    have hsz:Sz (s*v.1) (k+1):=by
     rcases hpm with h | h
     ·rw [h,ZFo];exact mt.1.mono zo
     ·rw [h,show -1*v.1=- v.1 by grind];exact mt.1.neg.mono zo
    have zs2:=Zc8 (s*v.1) hsz zo;have nz2:¬(s*v.1).num.sign=0:=by rw [Zc4];exact λh=>by rcases Rat.mul_eq_zero.1 h with h | h;exact hsn h;exact nt h
    have hou2:(out++[(s*v.1,v.2)]).map qtA=out.map qtA++[.agg [.v (.bool (decide ((s*v.1).num < 0))),lim (toL (s*v.1).num.natAbs),lim (toL (s*v.1).den),.sl 4 (v.2.map Qt.av)]]:=by rw [ZCb];rfl
    clear mt nt hsz hpm;obtain⟨v1,v2⟩:=v;simp only at *;have e2:e 2=.sl 4 (.agg [.v (.bool (decide (v1.num < 0))),lim (toL v1.num.natAbs),lim (toL v1.den),.sl 4 (v2.map Qt.av)] :: (q.drop (l+1)).map qtA):=e2;have hdq:(q.drop l).map qtA=.agg [.v (.bool (decide (v1.num < 0))),lim (toL v1.num.natAbs),lim (toL v1.den),.sl 4 (v2.map Qt.av)] :: (q.drop (l+1)).map qtA:=hdq;have ca2:Pure prog f [.agg [.v (.bool false),lim [],lim one],.agg [.v (.bool (decide (v1.num < 0))),lim (toL v1.num.natAbs),lim (toL v1.den)]] (ratQ (s*v1)):=ca2;generalize (s*v1).num.sign=z at *;generalize s*v1=w at *;generalize hO:out.map qtA=O at *
    generalize hQd:(q.drop (l+1)).map qtA=QD at *;have htq:QD.take (q.length - (l+1))=QD:=ZDf zo;generalize v2.map Qt.av=V2 at *
    (refine wkad (w_12 e1 e2 e3 m3 e8 m8 e7 m79 hlen hel htq nz2) (w_2 ca2 zs2) (w_2 (w_d 9 [] [] [10,11]) (w_d 14 [] [] [11])) (w_s ?_);intros)
    refine⟨(p.length,l+1),⟨by simp only;omega,by simp only;omega,by rw [hp0];exact gW e1,by rw [hQd];exact gC,gW e3,gW m3,gW e8,gW m8,_,out++[(w,v2)],gC,by rw [hou2];exact gC,by simp only [ZCh,ZB2,ZCe];omega,hs⟩,by simp only;omega⟩
   ·have hl3:l=q.length:=zo;subst hl3;rw [show q.drop q.length=[] from ZD4 (ZBp _)] at e2;have e2:e 2=.sl 4 []:=e2;rw [Zfh (.inl (ZBp _)),ZD4 (ZBp _),ZD4 (l:=sclT s q) (by rw [Zcy];exact ZBp _),ZC4,ZC4] at hs;rw [hs];clear hp hq np nq hs;generalize hO:out.map qtA=O at *;rw [show qpA out=.sl 4 O from ZDt _ hO]
    (refine wkad (w_9 e1 e2 e3 m3 e8 m8 e7 m79 hlen) w_t w_t (w_s ?_);intros)
    all_goals exact gM (w_1 m79)
 ·exact⟨ZBx _,ZBx _,gC,gC,gC,gC,gC,gC,_,[],gC,gC,ZBx _,by simp⟩
def wOf (w:List Int) (s:RS):Int :=
 if s.k=2 then gI w (gI s.ar 0).toNat+gI w (gI s.ar 1).toNat
 else if s.k=3∨s.k=4 then gI w (gI s.ar 0).toNat+gI w (gI s.ar 1).toNat+gI w (gI s.ar 2).toNat
 else if s.k=5 then 2*gI w (gI s.ar 0).toNat+gI w (gI s.ar 1).toNat
 else 1
def wts (ss:List RS):Nat→List Int
 | 0=>[]
 | i+1=>wts ss i++[wOf (wts ss i) (ss.getD i RS.zero)]
def thinB (ss:List RS) (gs:List RG):Bool :=
 (wts ss ss.length).all (λw=>decide (w≤8)) && gs.all λg=>!(decide (g.k=6) || decide (g.k=7)) || g.ar.all λa=>decide (gI (wts ss ss.length) a.toNat≤3)
def rat2 (r:RQ):Bool:=decide (r.l.length≤2) && decide (r.d.length≤2)
def fewB (ss:List RS) (gs:List RG):Bool :=
 decide (ss.length≤8) && (decide (gs.length≤3) && (decide (figE ss gs=0) && (thinB ss gs && (ss.all (λs=>rat2 s.r) && gs.all λg=>rat2 g.r))))
attribute [local go_sem] Zbt Za7 Zbw Za9 Zba Zca Zcd Zcc Zcb Zbp Zbr Zct Zcu
def thinG (w:List Int) (g:RG):Bool:=!(decide (g.k=6) || decide (g.k=7)) || g.ar.all λa=>decide (gI w a.toNat≤3)
end Go.Proofs.YtkefeinbjbeidaaGreatDoor
namespace Go.Proofs.YtkefeinbjbeidaaGreatDoor
open Go Go.RowKit Go.Pg Go.Proofs.Tryz
theorem szBld:szOf prog 268=some 2:=by kernel_rfl
theorem zBld:Zan prog 268=some (.agg #[.pointer none,.slice none 0 0]):=by kernel_rfl
theorem szSl8:szOf prog 113=some 1:=by kernel_rfl
theorem zSl8:Zan prog 113=some (.slice none 0 0):=by kernel_rfl
theorem szPB:szOf prog 266=some 1:=by kernel_rfl
theorem zPB:Zan prog 266=some (.pointer none):=by kernel_rfl
theorem Zse (w:World) (a:Addr) (n:Nat) (ad:Addr):(w.freeze a n).cell? ad=w.cell? ad:=by
 unfold World.freeze;split
 ·rfl
 ·unfold World.cell?;simp only [ZFg];by_cases h:a.block=ad.block
  ·rw [ZBo h]
   cases hh:w.heap[ad.block]? with
   | none=>rfl
   | some o=>cases o<;>rfl
  ·rw [ZBn h]
theorem Zp6 (w:World) (g n:Nat):w.grownBy (w.freeze ⟨g,0,none⟩ n) (some g):=by
 unfold World.freeze;split
 ·exact⟨rfl,rfl,rfl,ZBp _,λk _ _=>rfl⟩
 ·exact⟨rfl,rfl,rfl,by simp,λk _ hk=>by
   simp only [ZFg];rw [ZBn (λe=>hk (by rw [←e]))]⟩
theorem mem_drop {c:Cx} {σ:Mem} {w w':World} {imm:Imm} (h:Mx c σ w imm) {row:Option Nat} (hg:w.grownBy w' row) (hdw:w.drawn≤w'.drawn) (hB:∀g,row=some g→c.B≤g) (hcell:∀ad,imm ad→w'.cell? ad=w.cell? ad)
 (k:Nat) (hoth:∀j e2 b,j≠k→σ j=some e2→e2.blk=some b→some b≠row):Mx c (upd σ k none) w' imm∧Keeps w imm w' imm:=by
 refine⟨⟨⟨λj e2 hj=>?_,λj j' e1 e2 b h1 h2 h3 h4=>?_,λad h1=>ZD2 (h.ok.lt ad h1) hg.size,λad h1=>h.ok.spot ad h1⟩,h.below.grown hg hdw h.lt (λg hg'=>hB g hg'),ZBv h.lt hg.size,h.old,h.new,λad h1=>(hcell ad (h.old ad h1)).trans (h.cells ad h1)⟩,λad h1=>⟨h1,hcell ad h1⟩⟩
 ·rw [Zam] at hj;by_cases hjk:j=k
  ·rw [ZBo hjk] at hj;cases hj
  ·rw [ZBn hjk] at hj;refine(h.ok.ent j e2 hj).keep hg ?_ (λ_ h1=>h1) hcell λad h1=>.inl h1;rcases hb:e2.blk with _ | b
   ·exact .inl rfl
   ·exact .inr (hoth j e2 b hjk hj hb)
 ·rw [Zam] at h1 h2;by_cases hjk:j=k
  ·rw [ZBo hjk] at h1;cases h1
  ·by_cases hjk':j'=k
   ·rw [ZBo hjk'] at h2;cases h2
   ·rw [ZBn hjk] at h1;rw [ZBn hjk'] at h2;exact h.ok.apart j j' e1 e2 b h1 h2 h3 h4
theorem ubVs {w:World} {imm:Imm} {KB g:Nat} {vs:Array Value} (hl:[AV.pbox KB g 0].length=vs.size) (hr:∀(j:Nat) (a:AV) (x:Value),[AV.pbox KB g 0][j]?=some a→vs[j]?=some x→Rs w imm a x):vs=#[.pointer (some ⟨g,0,none⟩)]:=by
 have h1:vs.size=1:=hl.symm;have h2:=hr 0 _ vs[0] rfl (ZC5 zo);have h3:=h2.pbox_inv;refine Array.ext (by simpa using h1) λi hi hj=>?_;have:i=0:=zo;subst this
 simpa using h3
theorem ubCur {cur:Array Value} (h:2=cur.size):∃x y,cur=#[x,y]:=by
 refine⟨cur[0],cur[1],Array.ext (by simpa using h.symm) λi hi hj=>?_⟩
 match i,hi,hj with
 | 0,_,_=>rfl
 | 1,_,_=>rfl
 | i+2,hi,_=>omega
theorem bldCheck (σ:Mem) (KB g:Nat) (c0 c1:AV) (hB:σ KB=some (.box g 268 [c0,c1] false)) (h0:c0=.v (.pointer none)∨c0=.pbox KB g 0) :
 ACall prog 285 [.pbox KB g 0] σ λr σ'=>r=.tup []∧σ'=upd σ KB (some (.box g 268 [.pbox KB g 0,c1] false)):=by
 refine⟨call285,λc w imm vs hm hl hr=>?_⟩;obtain rfl:=ubVs hl hr;obtain⟨cur,hh,hBg,hlen,hone,hrs,hp,hq⟩:=hm.ok.ent KB _ hB;obtain⟨x,y,rfl⟩:=ubCur hlen;have hx:=hrs 0 _ x rfl rfl;have hy:=hrs 1 _ y rfl rfl;have c0':w.cell? ⟨g,0,none⟩=some x:=by rw [Lib.cell_of_heap hh];rfl
 rcases h0 with rfl | rfl
 ·obtain rfl:=hx.v_inv;refine(ubFresh g w c0' (by simp [World.shape?,hh]) (by simp [World.frozen?,hh])).mono ?_
  rintro e w' ⟨rfl,rfl⟩
  have hgr:w.grownBy (w.setCell ⟨g,0,none⟩ (.pointer (some ⟨g,0,none⟩))) (some g):=⟨rfl,rfl,rfl,by simp,λk _ hk=>heap_setCell_other w ⟨g,0,none⟩ k _ (λe=>hk (by simp [e]))⟩;have hcell:∀ad,imm ad→(w.setCell ⟨g,0,none⟩ (.pointer (some ⟨g,0,none⟩))).cell? ad=w.cell? ad:=λad h2=>Zd3 hgr (hm.ok.lt ad h2) (by
   have hne:ad.block≠g:=λe=>by have:=hp ad h2 e;cases this
   simpa using hne)
  have hkeep:Keeps w imm (w.setCell ⟨g,0,none⟩ (.pointer (some ⟨g,0,none⟩))) imm:=λad h2=>⟨h2,hcell ad h2⟩;refine⟨.tup [],_,imm,_,rfl,⟨rfl,rfl⟩,.pure (.tup [] #[] rfl λj a x h1 _=>by simp at h1),Zdr hm hgr (ZBp _) (λg' hg'=>by cases hg';exact hBg) hcell KB _ ⟨_,heap_setCell_same w g 0 _ _ _ hh,hBg,rfl,λb hb=>?_,λj b z h2 h3=>?_,hp,λh2=>by cases h2⟩ λj e2 b h2 h3 h4=>?_⟩
  ·simp only [ZFb,List.not_mem_nil,or_false] at hb;rcases hb with rfl | rfl
   ·rfl
   ·exact hone _ zs
  ·match j,h2,h3 with
   | 0,h2,h3 =>
     simp only [ZEm,Option.some.injEq] at h2;subst h2;have:z=.pointer (some ⟨g,0,none⟩):=by simpa using h3.symm
     subst this;exact .pbox _ _ _
   | 1,h2,h3 =>
     simp only [ZFs,ZEm,Option.some.injEq] at h2;subst h2;have:z=y:=by simpa using h3.symm
     subst this;exact hkeep.rs hy
   | j+2,h2,h3=>simp at h2
  ·have:b≠g:=λe=>h2 (hm.ok.apart j KB e2 _ g h3 hB (e ▸ h4) rfl);exact⟨by simpa using this,by simpa [Ent.blk] using λe=>this e.symm⟩
 ·obtain rfl:=hx.pbox_inv;refine(ubUsed g w c0').mono ?_
  rintro e w' ⟨rfl,rfl⟩
  have he:upd σ KB (some (.box g 268 [.pbox KB g 0,c1] false))=σ:=by
   funext k
   rw [Zam];split
   ·rename_i h;rw [h,hB]
   ·rfl
  exact⟨.tup [],_,imm,_,rfl,⟨rfl,rfl⟩,.pure (.tup [] #[] rfl λj a x h1 _=>by simp at h1),by rw [he];exact hm,Keeps.refl _ _⟩
theorem ZA2 (σ:Mem) (KB KT g:Nat) (sv:Value) (c0:AV) (l:List UInt8) (hB:σ KB=some (.box g 268 [c0,.own KT sv] false)) (hT:σ KT=some (.row sv 5 1 (l.map λb=>.v (.int .u8 b.toNat)) 0)) (h0:l≠[]) :
 ACall prog 246 [.pbox KB g 0] σ λr σ'=>r=.v (.string ⟨l.toArray⟩)∧σ'=upd σ KT none:=by
 refine⟨call246,λc w imm vs hm hl hr=>?_⟩;obtain rfl:=ubVs hl hr;obtain⟨cur,hh,hBg,hlen,hone,hrs,hp,hq⟩:=hm.ok.ent KB _ hB;obtain⟨x,y,rfl⟩:=ubCur hlen;have hy:=hrs 1 _ y rfl rfl;obtain rfl:=hy.own_inv;obtain⟨xs,hown,-,-,hrd,-,hpi,-⟩:=hm.ok.ent KT _ hT;have hl0:l.length≠0:=by simpa using h0
 have hll:(l.map λb=>AV.v (.int .u8 b.toNat)).length=l.length:=ZBr ..;rw [hll] at hown;rcases hown.2 with⟨_,h2⟩ | ⟨gr,cap,cur,rfl,hBr,hhr,hnc,hcm,hcs,htake⟩
 ·exact absurd h2 hl0
 have hxs:∀(j:Nat) (z:UInt8),l[j]?=some z→xs[j]?=some (Value.int .u8 z.toNat):=λj z hz=>by
  have hj:j < xs.length:=by rw [hown.1,ZEb];exact(List.getElem?_eq_some_iff.1 hz).1
  have:=hrd j (.v (.int .u8 z.toNat)) xs[j] (by rw [Zvz l λb:UInt8=>(.int .u8 b.toNat:Value),ZCw,hz];rfl) (ZBz hj);have:=(Rs.pure this).v_inv;rw [ZBz hj,this]
 refine(ubString g gr cap x cur l w hh hhr h0 hnc hcm (by rw [hcs,ZEb]) λj z hz=>?_).mono ?_
 ·have hj:=(List.getElem?_eq_some_iff.1 hz).1;have:=hown.cellAt j zo;rw [ZDa,ZCg,this,hxs j z hz]
 ·rintro e w' ⟨rfl,rfl⟩
  have hgr:w.grownBy (w.drew.freeze ⟨gr,0,none⟩ l.length) (some gr):=by
   have:=Zp6 w.drew gr l.length;exact⟨this.os,this.tape,this.output,this.size,this.block⟩
  have hdw:w.drawn≤w.drew.drawn:=Nat.le_succ w.drawn;have hcell:∀ad,imm ad→(w.drew.freeze ⟨gr,0,none⟩ l.length).cell? ad=w.cell? ad:=λad _=>by rw [Zse];rfl
  obtain⟨h1,h2⟩:=mem_drop hm hgr (by have h1:(w.drew.freeze ⟨gr,0,none⟩ l.length).drawn=w.drew.drawn:=by unfold World.freeze;(repeat' split)<;>rfl
                                     rw [h1];exact hdw) (λg' hg'=>by cases hg';exact hBr) hcell KT λj e2 b h2 h3 h4 he=>h2 (hm.ok.apart j KT e2 _ gr h3 hT (by cases he;exact h4) rfl)
  exact⟨_,_,imm,_,rfl,⟨rfl,rfl⟩,.pure (.v _),h1,h2⟩
end Go.Proofs.YtkefeinbjbeidaaGreatDoor
namespace Go.Proofs.YtkefeinbjbeidaaGreatDoor
open Go Go.RowKit Go.Pg Go.Proofs.Tryz
attribute [-bool_to_prop] Bool.and_eq_decide Bool.or_eq_decide Bool.decide_beq_decide decide_eq_decide
attribute [go_sem] underlying268 underlying266 underlying23 szBld zBld szSl8 zSl8 szPB zPB
def by8 (b:UInt8):AV:=.v (.int .u8 b.toNat)
theorem bldLen (σ:Mem) (KB KT g:Nat) (sv:Value) (c0:AV) (l:List UInt8) (hB:σ KB=some (.box g 268 [c0,.own KT sv] false)) (hT:σ KT=some (.row sv 5 1 (l.map by8) 0)) :
 ACall prog 244 [.pbox KB g 0] σ λr σ'=>r=iv l.length∧σ'=σ:=by
 have mB:=Zaz hB;have mT:=Zaz hT;simp only [Ent.sh,AV.shL,AV.sh] at mB mT;have hl:(l.map by8).length=l.length:=ZBr ..;refine Zbe func244 rfl ntmps244 results244 call244 zr zs ?_;generalize l.map by8=L at *
 (refine wkap (w_3 mB mT hl) w_t (w_r 0) (w_s ?_);intros)
 simp (disch:=omega) only [go_sem];exact Zie (Sub.refl _) ⟨rfl,rfl⟩ (Agr.start σ)
theorem bldWrite (σ:Mem) (KB KT g:Nat) (sv:Value) (c0:AV) (l:List UInt8) (b:UInt8) (hB:σ KB=some (.box g 268 [c0,.own KT sv] false)) (hT:σ KT=some (.row sv 5 1 (l.map by8) 0))
 (h0:c0=.v (.pointer none)∨c0=.pbox KB g 0) (n2:KB≠KT) (hl:l.length≤100000000) :
 ACall prog 245 [.pbox KB g 0,by8 b] σ λr σ'=>∃sv',r=.v .nilIface∧σ'=upd (upd σ KT (some (.row sv' 5 1 ((l++[b]).map by8) 0))) KB (some (.box g 268 [.pbox KB g 0,.own KT sv'] false)):=by
 have mB:=Zaz hB;have mT:=Zaz hT;simp only [Ent.sh,AV.shL,AV.sh] at mB mT;have hl1:(l.map by8).length=l.length:=ZBr ..;rw [ZCb];have hcc:=bldCheck (Zeb σ) (KB+1000) g c0.sh (.own (KT+1000) sv) mB (by rcases h0 with rfl | rfl;exact .inl rfl;exact .inr rfl);refine Zbe func245 rfl ntmps245 results245 call245 zr zs ?_;generalize l.map by8=L at *;have hb8:by8 b=.v (.int .u8 b.toNat):=rfl;rw [hb8];simp only [AV.shL,AV.sh]
 (refine wkap (w_3 mB mT hl1) w_t (w_r 0) (w_s ?_);intros)
 refine Zgv hcc ?_
 (refine wkap (w_2 mT hl1) w_t (w_r 0) (w_s ?_);intros)
 simp (disch:=omega) only [go_sem];rename_i x1 x2;refine Zie (Sub.refl _) ⟨x2,rfl,rfl⟩ ?_;have he:∀a c d:Option Ent,upd (upd σ KT a) KB d=upd (upd (upd σ KB c) KT a) KB d:=λa c d=>by
  funext j
  simp only [Zam];by_cases h:j=KB
  ·rw [ZBo h,ZBo h]
  ·rw [ZBn h,ZBn h,ZBn h]
 rw [he _ (some (.box g 268 [.pbox KB g 0,.own KT sv] false)) _];refine Agr.put ?_ rfl rfl;refine Agr.put ?_ rfl rfl;refine Agr.own ?_ zo;refine Agr.put ?_ rfl rfl;exact Agr.start σ
theorem r_frzD {P:Program} {n:Nat} {Q:AE→St→Prop} {id:Nat} {ops:Array Oper} {st st':St} (h:Frz n st st') (k:Za5 P 0 n (.region id ops true) Q st'):Za5 P 0 n (.region id ops true) Q st:=λc a w imm hr=>by
 obtain⟨i,h1⟩:=h c a w imm hr;exact k c a w i h1
end Go.Proofs.YtkefeinbjbeidaaGreatDoor
namespace Go.Proofs.YtkefeinbjbeidaaGreatDoor
open Go Go.RowKit Go.Pg Go.Proofs.Tryz
def digF:Nat→Nat→List UInt8
 | 0,_=>[]
 | f+1,n=>if n=0 then [] else digF f (n/10)++[UInt8.ofNat (48+n%10)]
def dig (n:Nat):List UInt8:=digF n n
theorem Zqd:∀(f g n:Nat),n≤f→n≤g→digF f n=digF g n
 | 0,0,_,_,_=>rfl
 | 0,g+1,n,h,_=>by
   have:n=0:=zo;subst this;rfl
 | f+1,0,n,_,h=>by
   have:n=0:=zo;subst this;rfl
 | f+1,g+1,n,h1,h2=>by
   unfold digF;by_cases h:n=0
   ·rw [ZBo h,ZBo h]
   ·rw [ZBn h,ZBn h,Zqd f g _ zo zo]
theorem Zuj:dig 0=[]:=rfl
theorem Zkk {n:Nat} (h:n≠0):dig n=dig (n/10)++[UInt8.ofNat (48+n%10)]:=by
 obtain⟨m,rfl⟩:∃m,n=m+1:=⟨n - 1,zo⟩;show digF (m+1) (m+1)=_;rw [digF,ZBn h];rw [Zqd m ((m+1)/10) _ zo zo];rfl
theorem Zuk {n:Nat}:(dig n).length=0↔n=0:=by
 constructor
 ·intro h;rcases ZCv n with h1 | h1
  ·exact h1
  ·rw [Zkk zo] at h;simp at h
 ·rintro rfl;rfl
theorem ZAi:∀{k n:Nat},n < 10 ^ k→(dig n).length≤k
 | 0,n,h=>by
   have:n=0:=by simpa using h
   subst this;simp [Zuj]
 | k+1,n,h=>by
   rcases ZCv n with h1 | h1
   ·subst h1;simp [Zuj]
   ·rw [Zkk zo,ZCh];have:=ZAi (k:=k) (n:=n/10) (by rw [ZC0] at h;omega);simp only [ZB2,ZCe];omega
theorem dig_lg (n:Nat):(dig n).length≤5*(toL n).length:=by
 refine ZAi ?_;have h1:=Zaf.1 (ZBp ((toL n).length))
 have h3:65536 ^ (toL n).length≤10 ^ (5*(toL n).length):=by
  rw [Nat.pow_mul];exact ZG9 zd _
 omega
theorem decB_dig:∀(n:Nat) (s:ByteArray),decB n n s=⟨(dig n).toArray⟩++s:=by
 intro n
 induction n using Nat.strongRecOn with
 | ind n ih =>
   intro s;rcases ZCv n with h | h
   ·subst h;show s=ByteArray.empty++s;rw [ByteArray.empty_append]
   ·rw [ZAm zo,ih (n/10) zo,Zkk (n:=n) zo,←ByteArray.append_assoc];congr 1
theorem decS_dig {n:Nat} (h:n≠0):decS n=⟨(dig n).toArray⟩:=by
 unfold decS;rw [ZBn h,decB_dig,ByteArray.append_empty]
def g4F:Nat→Nat→List Nat
 | 0,_=>[]
 | f+1,n=>if n=0 then [] else n%10000 :: g4F f (n/10000)
def g4 (n:Nat):List Nat:=g4F n n
theorem Zua:∀(f g n:Nat),n≤f→n≤g→g4F f n=g4F g n
 | 0,0,_,_,_=>rfl
 | 0,g+1,n,h,_=>by
   have:n=0:=zo;subst this;rfl
 | f+1,0,n,_,h=>by
   have:n=0:=zo;subst this;rfl
 | f+1,g+1,n,h1,h2=>by
   unfold g4F;by_cases h:n=0
   ·rw [ZBo h,ZBo h]
   ·rw [ZBn h,ZBn h,Zua f g _ zo zo]
theorem Zzv {n:Nat} (h:n≠0):g4 n=n%10000 :: g4 (n/10000):=by
 obtain⟨m,rfl⟩:∃m,n=m+1:=⟨n - 1,zo⟩;show g4F (m+1) (m+1)=_;rw [g4F,ZBn h];rw [Zua m ((m+1)/10000) _ zo zo];rfl
theorem ZAh (n i:Nat):n/10000 ^ (i+1)=n/10000/10000 ^ i:=by
 rw [ZC0,ZCq,ZGl]
theorem Zui (n i:Nat):n/10000 ^ (i+1)=n/10000 ^ i/10000:=by
 rw [ZC0,ZGl]
theorem Zvy:∀(i n:Nat),i < (g4 n).length↔n/10000 ^ i≠0
 | i,n=>by
   rcases ZCv n with h | h
   ·subst h;simp [g4,g4F]
   ·rw [Zzv zo,ZB2]
    cases i with
    | zero=>simp;omega
    | succ i=>rw [ZAh,←Zvy i (n/10000)];omega
theorem Zzw:∀(i n:Nat) (h:i < (g4 n).length),(g4 n)[i]=n/10000 ^ i%10000
 | i,n,h=>by
   have h0:n≠0:=by rintro rfl;simp [g4,g4F] at h
   have e:=Zzv h0;have e2:(g4 n)[i]?=(n%10000 :: g4 (n/10000))[i]?:=by rw [e]
   rw [ZBz h] at e2
   cases i with
   | zero =>
     simp only [ZEm,Option.some.injEq] at e2;rw [e2];simp
   | succ i =>
     have h2:i < (g4 (n/10000)).length:=by rw [e,ZB2] at h;omega
     rw [ZFs,ZBz h2,Option.some.injEq,Zzw i _ h2,←ZAh] at e2;exact e2
theorem g4_len (n:Nat):(g4 n).length≤5*(toL n).length:=by
 rcases ZCv (g4 n).length with h | h
 ·omega
 ·have h0:=(Zvy ((g4 n).length - 1) n).1 zo;generalize (g4 n).length=L at *;have h1:=Zaf.1 (ZBp ((toL n).length))
  have h3:65536 ^ (toL n).length≤10000 ^ (2*(toL n).length):=by
   rw [Nat.pow_mul];exact ZG9 zd _
  have h4:10000 ^ (L - 1)≤n:=by
   rcases ZCc n (10000 ^ (L - 1)) with h5 | h5
   ·exact absurd (ZGm h5) h0
   ·exact h5
  have h5:10000 ^ (L - 1) < 10000 ^ (2*(toL n).length):=zo;have:=(Nat.pow_lt_pow_iff_right (by decide:1 < 10000)).1 h5;omega
end Go.Proofs.YtkefeinbjbeidaaGreatDoor
namespace Go.Proofs.YtkefeinbjbeidaaGreatDoor
open Go Go.RowKit Go.Pg Go.Proofs.Tryz
attribute [-bool_to_prop] Bool.and_eq_decide Bool.or_eq_decide Bool.decide_beq_decide decide_eq_decide
def w16 (x:Nat):AV:=.v (.int .u16 (x:Int))
theorem g4_take {n i:Nat} (h:n/10000 ^ i≠0):((g4 n).take (i+1)).map w16=((g4 n).take i).map w16++[.v (.int .u16 ((n/10000 ^ i%10000:Nat):Int))]:=by
 have hi:=(Zvy i n).2 h;rw [ZEq,ZBz hi,Zzw i n hi,ZCb];rfl
theorem g4_all {n i:Nat} (hi:i≤(g4 n).length) (h:n/10000 ^ i=0):i=(g4 n).length:=by
 rcases ZCc i (g4 n).length with h1 | h1
 ·exact absurd h ((Zvy i n).1 h1)
 ·omega
theorem dig_w8 (x:Nat) (h:x < 10):by8 (UInt8.ofNat (48+x))=.v (.int .u8 ((48+x:Nat):Int)):=by
 unfold by8;rw [show(UInt8.ofNat (48+x)).toNat=48+x from(UInt8.toNat_ofNat' ..).trans zo]
def dl:Nat→Nat
 | 0=>1000 | 1=>100 | 2=>10 | 3=>1 | _=>0
def vl (V g:Nat):Nat→Nat
 | 0=>V | 1=>(V*10000+g)/1000 | 2=>(V*10000+g)/100 | 3=>(V*10000+g)/10 | _=>V*10000+g
theorem vl_step {V g j:Nat} (hg:g < 10000) (hj:j < 4):vl V g (j+1)=vl V g j*10+g/dl j%10∧(vl V g j=0→V=0)∧(vl V g j=0→(vl V g (j+1)=0↔g < dl j))∧dl j/10=dl (j+1)∧0 < dl j∧dl j≤1000∧vl V g j≤V*10000+g:=by
 match j,hj with
 | 0,_=>(show(V*10000+g)/1000=V*10+g/1000%10∧(V=0→V=0)∧(V=0→((V*10000+g)/1000=0↔g < 1000))∧1000/10=100∧0 < 1000∧1000≤1000∧V≤V*10000+g;omega)
 | 1,_=>(show(V*10000+g)/100=(V*10000+g)/1000*10+g/100%10∧((V*10000+g)/1000=0→V=0)∧((V*10000+g)/1000=0→((V*10000+g)/100=0↔g < 100))∧100/10=10∧0 < 100∧100≤1000∧(V*10000+g)/1000≤V*10000+g;omega)
 | 2,_=>(show(V*10000+g)/10=(V*10000+g)/100*10+g/10%10∧((V*10000+g)/100=0→V=0)∧((V*10000+g)/100=0→((V*10000+g)/10=0↔g < 10))∧10/10=1∧0 < 10∧10≤1000∧(V*10000+g)/100≤V*10000+g;omega)
 | 3,_=>(show V*10000+g=(V*10000+g)/10*10+g/1%10∧((V*10000+g)/10=0→V=0)∧((V*10000+g)/10=0→(V*10000+g=0↔g < 1))∧1/10=0∧0 < 1∧1≤1000∧(V*10000+g)/10≤V*10000+g;omega)
theorem dig_next {v x:Nat} (h:v*10+x≠0) (hx:x < 10):dig (v*10+x)=dig v++[UInt8.ofNat (48+x)]:=by
 rw [Zkk h,show(v*10+x)/10=v from by omega,show(v*10+x)%10=x from by omega]
theorem Zyx (n:Nat) (hn:(toL n).length≤10000000):Pure prog 191 [lim (toL n)] (.v (.string (decS n))):=by
 have cn:=Zpn n zo;by_cases h0:n=0
 ·subst h0;have l0:(toL 0).length=0:=by rw [Zay];rfl
  refine pI func191 rfl ntmps191 results191 call191 ?_
  (refine wkvp (w_2 l0 @ZDq) (w_1 cn) (w_s ?_);intros)
  simp (disch:=omega) only [go_sem];rfl
 ·have hp:=Zbc.2 (ZDm h0);have hG:=g4_len n;have hD:=decS_dig h0;rw [hD];refine pI func191 rfl ntmps191 results191 call191 ?_
  (refine wkvp w_t (w_1 cn) (w_s ?_);intros)
  refine Zea (Frz.nilOwn (d:=3) 500 1 161 (gC)) ?_;refine Zad (ι:=Nat) (λi e m=>i≤(g4 n).length∧e 0=lim (toL (n/10000 ^ i))∧∃sv,e 3=.own 500 sv∧m 500=some (.row sv 161 1 (((g4 n).take i).map w16) 0)) (λi=>(g4 n).length - i) 0 zr ?_ ?_
  ·rintro i e m ⟨hi,e0,sv,e3,m500⟩
   have hlr:(((g4 n).take i).map w16).length≤100000000:=by rw [ZBr,ZB9];omega
   by_cases hk0:n/10000 ^ i=0
   ·have hiL:=g4_all hi hk0;rw [hk0] at e0;subst hiL;rw [ZDc] at m500;clear hlr;have l0:(toL 0).length=0:=by rw [Zay];rfl
    have hGl:((g4 n).map w16).length=(g4 n).length:=ZBr ..;have hGp:0 < (g4 n).length:=(Zvy 0 n).2 (by simpa using h0);have gg:∀i (h:i < (g4 n).length),((g4 n).map w16).getD i .u=.v (.int .u16 ((n/10000 ^ i%10000:Nat):Int)):=λi h=>by
     rw [Zao w16 h,Zzw i n h];rfl
    generalize (g4 n).map w16=W at *
    (refine wkvp (w_6 e0 e3 m500 l0 @ZDq hGl) w_t (w_s ?_);intros)
    rename_i gB;refine Zea (Frz.nilBox (k:=6) 1 501 1 5 (gC) rfl zo) ?_;refine Zad (ι:=Nat) (λi e m=>i≤(g4 n).length∧(e 3=.own 500 sv∧e 6=.pbox 6 gB 0∧e 7=.v (.int .i64 (((g4 n).length:Int) - 1 - (i:Int)))∧m 500=some (.row sv 161 1 W 0))∧∃c0 sv2,m 6=some (.box gB 268 [c0,.own 501 sv2] false)∧(c0=.v (.pointer none)∨c0=.pbox 6 gB 0)∧m 501=some (.row sv2 5 1 ((dig (n/10000 ^ ((g4 n).length - i))).map by8) 0)) (λi=>(g4 n).length - i) 0 zr ?_ ?_
    ·rintro i e m ⟨hi,⟨e3,e6,e7,m500⟩,c0,sv2,m6,hc0,m501⟩
     by_cases hlt:i < (g4 n).length
     ·obtain⟨p,hp⟩:∃p,(g4 n).length=p+1+i:=⟨(g4 n).length - 1 - i,zo⟩;have ggp:=gg p zo;have hV:n/10000 ^ ((g4 n).length - i)=n/10000 ^ p/10000:=by rw [show(g4 n).length - i=p+1 from by omega,Zui]
      have hV2:n/10000 ^ ((g4 n).length - (i+1))=n/10000 ^ p:=by rw [show(g4 n).length - (i+1)=p from by omega]
      have hT:n/10000 ^ p/10000*10000+n/10000 ^ p%10000=n/10000 ^ p:=zo;have hle:n/10000 ^ p≤n:=ZFx _ _;have e7:e 7=iv p:=by rw [e7];congr 2;omega
      have hgl:n/10000 ^ p%10000 < 10000:=ZC8 _ zo;rw [hV] at m501;clear gg hV;generalize n/10000 ^ p%10000=g at *;generalize hVe:n/10000 ^ p/10000=V at *
      (refine wkap (w_7 e3 e6 e7 m500 m6 m501 hGl) w_t (w_r 0) (w_s ?_);intros)
      refine Zad (ι:=Nat) (λj e m=>j≤4∧(e 3=.own 500 sv∧e 6=.pbox 6 gB 0∧e 7=iv p∧e 8=.v (.int .u16 (dl j:Nat))∧m 500=some (.row sv 161 1 W 0))∧∃c0 sv2,m 6=some (.box gB 268 [c0,.own 501 sv2] false)∧(c0=.v (.pointer none)∨c0=.pbox 6 gB 0)∧m 501=some (.row sv2 5 1 ((dig (vl V g j)).map by8) 0)) (λj=>4 - j) 0 zr ?_ ?_
      ·rintro j e m ⟨hj,⟨e3,e6,e7,e8,m500⟩,c0,sv2,m6,hc0,m501⟩
       by_cases hj4:j < 4
       ·obtain⟨s1,s2,s3,s4,s5,s6,s7⟩:=vl_step (V:=V) hgl hj4
        have hdl:(dig (vl V g j)).length≤100000000:=by
         have h1:=dig_lg (vl V g j);have h2:=Zda (n:=vl V g j) (m:=n) zo;omega
        have hdz:=Zuk (n:=vl V g j);have hx:g/dl j%10 < 10:=ZC8 _ zo;have hdn:=dig_next (v:=vl V g j) (x:=g/dl j%10);rw [←s1] at hdn;obtain⟨v1,hv1⟩:∃v1,vl V g (j+1)=v1:=⟨_,rfl⟩;rw [hv1] at s1 s3 hdn;generalize vl V g j=v at *;generalize dl j=d at *
        have w0:IntKind.u16.wrap ((g/d:Nat):Int)=((g/d:Nat):Int):=by
         have:g/d≤g:=ZFx _ _;show((g/d:Nat):Int)%65536=_;generalize g/d=z at *;omega
        have w1:IntKind.u16.wrap (48+(((g/d:Nat):Int)).tmod 10)=((48+g/d%10:Nat):Int):=by
         rw [Int.tmod_eq_emod_of_nonneg (ZFh _)];show(48+((g/d:Nat):Int)%10)%65536=_;generalize g/d=z at *;omega
        have w3:IntKind.u16.wrap ((d:Int).tdiv 10)=((d/10:Nat):Int):=by
         rw [Int.tdiv_eq_ediv_of_nonneg (ZFh _)];show((d:Int)/10)%65536=_;omega
        have w2:IntKind.u8.wrap ((48+g/d%10:Nat):Int)=((48+g/d%10:Nat):Int):=by
         show(((48+g/d%10:Nat):Int))%256=_;omega
        have hb8:=dig_w8 (g/d%10) hx;have cl:=fun(m:Mem) a b=>bldLen m 6 501 gB sv2 c0 (dig v) a b;have cw:=fun(m:Mem) a b=>bldWrite m 6 501 gB sv2 c0 (dig v) (UInt8.ofNat (48+g/d%10)) a b hc0 zo hdl;rw [hb8] at cw
        (refine wkap (w_8 e3 e6 e7 e8 m500 m6 m501 hGl) w_t (w_r 0) (w_s ?_);intros)
        refine Zdp (cl _ (gW m6) (gW m501)) ?_
        rintro _ _ ⟨rfl,rfl⟩
        by_cases hv:v=0
        ·have hl0:=hdz.2 hv;by_cases hgd:g < d
         ·(refine wkap (w_16 e3 e6 e7 e8 m500 m6 m501 hGl ggp @Zdk w0 w1 w2 w3 hl0 @ZDq) w_t (w_r 0) (w_s ?_);intros)
          exact⟨j+1,⟨zo,⟨gW e3,gW e6,gW e7,by rw [←s4];exact gC,gW m500⟩,c0,sv2,gW m6,hc0,by rw [hv1,(s3 hv).2 hgd];rw [hv] at m501;exact gW m501⟩,zo⟩
         ·have hne:=λh=>hgd ((s3 hv).1 h)
          (refine wkap (w_16 e3 e6 e7 e8 m500 m6 m501 hGl ggp @Zdk w0 w1 w2 w3 hl0 @ZDq) w_t (w_r 0) (w_s ?_);intros)
          refine Zdp (cw _ (gW m6) (gW m501)) ?_
          rintro _ _ ⟨sv3,rfl,rfl⟩
          (refine wkap (w_7 e3 e6 e7 e8 m500 hGl w3) w_t (w_r 0) (w_s ?_);intros)
          exact⟨j+1,⟨zo,⟨gW e3,gW e6,gW e7,by rw [←s4];exact gC,gW m500⟩,.pbox 6 gB 0,sv3,gC,.inr rfl,by rw [hv1,hdn zo hx];exact gC⟩,zo⟩
        ·have hlp:0 < (dig v).length:=ZDm λh=>hv (hdz.1 h)
         (refine wkap (w_14 e3 e6 e7 e8 m500 m6 m501 hGl ggp @Zdk w0 w1 w2 w3) w_t (w_r 0) (w_s ?_);intros)
         refine Zdp (cw _ (gW m6) (gW m501)) ?_
         rintro _ _ ⟨sv3,rfl,rfl⟩
         (refine wkap (w_7 e3 e6 e7 e8 m500 hGl w3) w_t (w_r 0) (w_s ?_);intros)
         exact⟨j+1,⟨zo,⟨gW e3,gW e6,gW e7,by rw [←s4];exact gC,gW m500⟩,.pbox 6 gB 0,sv3,gC,.inr rfl,by rw [hv1,hdn zo hx];exact gC⟩,zo⟩
       ·have:j=4:=zo;subst this;have e8:e 8=.v (.int .u16 0):=e8;have h4:vl V g 4=n/10000 ^ p:=hT;rw [h4] at m501
        (refine wkap (w_8 e3 e6 e7 e8 m500 m6 m501 hGl) w_t (w_r 0) (w_s ?_);intros)
        exact⟨i+1,⟨zo,⟨gW e3,gW e6,by(simp (disch:=omega) only [go_sem,e7];congr 2;omega),gW m500⟩,c0,sv2,gW m6,hc0,by rw [hV2];exact gW m501⟩,zo⟩
      ·exact⟨zo,⟨gW e3,gW e6,gW e7,by show _=AV.v (.int .u16 1000);exact gC,gW m500⟩,c0,sv2,gW m6,hc0,by show _=some (Ent.row sv2 5 1 ((dig V).map by8) 0);exact gW m501⟩
     ·have:i=(g4 n).length:=zo;subst this;have e7:e 7=.v (.int .i64 (-1)):=by rw [e7];congr 2;omega
      rw [ZE0,ZFj,ZFf] at m501;have hne:dig n≠[]:=λh=>h0 (Zuk.1 (by rw [h];rfl));have cs:=fun(m:Mem) a (b:m 501=some (.row sv2 5 1 ((dig n).map by8) 0))=>ZA2 m 6 501 gB sv2 c0 (dig n) a b hne
      (refine wkap (w_7 e3 e6 e7 m500 m6 m501 hGl) w_t (w_r 0) (w_s ?_);intros)
      refine Zdp (cs _ (gW m6) (gW m501)) ?_
      rintro _ _ ⟨rfl,rfl⟩
      (refine wkap w_t w_t (w_r 0) (w_s ?_);intros)
      all_goals simp (disch:=omega) only [go_sem]
    ·exact⟨ZBx _,⟨gW e3,gC,by(simp (disch:=omega) only [go_sem];congr 2;omega),gW m500⟩,.v (.pointer none),.slice none 0 0,gC,.inl rfl,by rw [ZEk,hk0];exact gC⟩
   ·have hkp:=Zbc.2 (ZDm hk0);have hilt:=(Zvy i n).2 hk0;have hlk:(toL (n/10000 ^ i)).length≤(toL n).length:=Zda (ZFx _ _);have ht:=g4_take hk0;have hdp:=Zui n i;have cb:=Zpm (toL (n/10000 ^ i)) 10000 zo (Zaq _) zo zo;rw [Zap,←hdp] at cb;clear hdp;generalize ((g4 n).take i).map w16=W at *;generalize n/10000 ^ i%10000=x at *;obtain⟨y,hy⟩:∃y,n/10000 ^ (i+1)=y:=⟨_,rfl⟩;rw [hy] at cb;generalize n/10000 ^ i=z at *
    (refine wkvp (w_3 e0 e3 m500) (w_1 cb) (w_s ?_);intros)
    exact⟨i+1,⟨zo,by rw [hy];exact gC,_,gC,by rw [ht];exact gC⟩,zo⟩
  ·exact⟨ZBx _,by rw [ZFj,ZFf];exact gC,_,gC,gC⟩
attribute [local go_sem] Zau Zav Zas Zww Zz8 List.append_eq
theorem intText (z:Int) (hz:(toL z.natAbs).length≤10000000):Pure prog 190 [intZ z] (.v (.string (decZ z))):=by
 have cs:=iSign z zo;have ct:=Zyx z.natAbs hz;have hs:=Zf1 z.natAbs;have h45:(Zgk [45]).size=1:=Zeu _;unfold decZ;have e45:Zgk [45]=⟨#[45]⟩:=rfl;rw [e45] at h45 ⊢;generalize decS z.natAbs=s at *;by_cases h:z < 0
 ·rw [ZBo h];rw [ZFk h] at cs;rw [show intZ z=.agg [.v (.bool true),lim (toL z.natAbs)] from by unfold intZ intA;rw [ZBw h]] at *;refine pI func190 rfl ntmps190 results190 call190 ?_
  (refine wkvp (w_1 h45) (w_2 cs ct) (w_s ?_);intros)
  simp (disch:=omega) only [go_sem]
 ·rw [ZBn h];have h2:¬z.sign < 0:=by rw [Int.sign_neg_iff];exact h
  rw [show intZ z=.agg [.v (.bool false),lim (toL z.natAbs)] from by unfold intZ intA;rw [ZBy h]] at *;generalize z.sign=x at *;refine pI func190 rfl ntmps190 results190 call190 ?_
  (refine wkvp w_t (w_2 cs ct) (w_s ?_);intros)
  simp (disch:=omega) only [go_sem]
theorem ratText (q:Rat) {k:Nat} (h:Sz q k) (hk:k≤1000000):Pure prog 110 [ratQ q] (.v (.string (decQ q))):=by
 have cp:=Zf8 q h zo;have h1:=h.1;have h2:=h.2;have cr:=Zfr (decide (q.num < 0)) q.num.natAbs q.den zo zo q.den_nz;rw [show zI (decide (q.num < 0)) q.num.natAbs=q.num from by unfold zI;by_cases hq:q.num < 0<;>simp [hq]<;>omega,ZFm] at cr;have co:=Zk5 q.den zo;have cz:=intText q.num zo;have cd:=Zyx q.den zo;have z1:=Zqe q.num;have z2:=Zf1 q.den;have e47:Zgk [47]=⟨#[47]⟩:=rfl;have h47:(Zgk [47]).size=1:=Zeu _;rw [e47] at h47;unfold decQ;rw [e47];by_cases hd:q.den=1
 ·rw [ZBo hd];rw [ZBw hd] at co;generalize decZ q.num=s at *;refine pI func110 rfl ntmps110 results110 call110 ?_
  (refine wkad w_t (w_4 cp cr co cz) w_t (w_s ?_);intros)
  simp (disch:=omega) only [go_sem]
 ·rw [ZBn hd];rw [ZBy hd] at co;generalize decZ q.num=s at *;generalize decS q.den=t at *;have h3:(s++⟨#[47]⟩:ByteArray).size=s.size+1:=by rw [ZCp,h47]
  refine pI func110 rfl ntmps110 results110 call110 ?_
  (refine wkad (w_2 h47 h3) (w_5 cp cr co cz cd) (w_1 (w_d 5 [(2,.v (.string s)),(6,.v (.string t))] [] [])) (w_s ?_);intros)
  simp (disch:=omega) only [go_sem]
end Go.Proofs.YtkefeinbjbeidaaGreatDoor
namespace Go.Proofs.YtkefeinbjbeidaaGreatDoor
open Go Go.RowKit Go.Pg Go.Pol Go.Proofs.Tryz
def tS (ss:List ByteArray) (p:List Qt) (s0:ByteArray):Nat→ByteArray
 | 0=>s0
 | i+1=>(if (tS ss p s0 i).size=0 then tS ss p s0 i else tS ss p s0 i++⟨#[42]⟩)++(p.getD i Qt.zero).txt ss
def chkP (n:Int):List Qt→Int
 | []=>0
 | q :: l=>if Qt.chk q n 64=0 then chkP n l else Qt.chk q n 64
def absR (a:Rat):Rat:=if a.num < 0 then -a else a
def tTxt (ss:List ByteArray) (t:Rat × List Qt):ByteArray:=tS ss t.2 (if t.2.length≠0∧absR t.1=1 then ⟨#[]⟩ else decQ (absR t.1)) t.2.length
def eS (ss:List ByteArray) (l:QTs):Nat→ByteArray
 | 0=>⟨#[]⟩
 | i+1=>(if i=0 then (if (l.getD i (0,[])).1.num < 0 then ⟨#[45]⟩ else ⟨#[]⟩) else eS ss l i++(if (l.getD i (0,[])).1.num < 0 then ⟨#[32,45,32]⟩ else ⟨#[32,43,32]⟩))++tTxt ss (l.getD i (0,[]))
def chkE (n:Int):QTs→Int
 | []=>0
 | t :: l=>if chkP n t.2=0 then chkE n l else chkP n t.2
def eTxt (ss:List ByteArray) (l:QTs):ByteArray:=if l.length=0 then ⟨#[48]⟩ else eS ss l l.length
theorem Zun {n:Int}:∀{p:List Qt},(∀j (h:j < p.length),Qt.chk p[j] n 64=0)→chkP n p=0
 | [],_=>rfl
 | q :: l,h=>by
   have h0:Qt.chk q n 64=0:=h 0 zs;unfold chkP;rw [ZBo h0];exact Zun λj hj=>h (j+1) (by simpa using hj)
theorem ZAs {n:Int}:∀{p:List Qt} {i:Nat} (hi:i < p.length),(∀j (h:j < p.length),j < i→Qt.chk p[j] n 64=0)→Qt.chk p[i] n 64≠0→chkP n p=Qt.chk p[i] n 64
 | q :: l,0,_,_,h2=>by
   have h2:Qt.chk q n 64≠0:=h2;unfold chkP;rw [ZBn h2];rfl
 | q :: l,i+1,hi,h,h2=>by
   have h0:Qt.chk q n 64=0:=h 0 zs zo;unfold chkP;rw [ZBo h0];exact ZAs (by simpa using hi) (λj hj hji=>h (j+1) (by simpa using hj) zo) h2
theorem Zuo {n:Int}:∀{l:QTs},(∀j (h:j < l.length),chkP n l[j].2=0)→chkE n l=0
 | [],_=>rfl
 | q :: l,h=>by
   have h0:chkP n q.2=0:=h 0 zs;unfold chkE;rw [ZBo h0];exact Zuo λj hj=>h (j+1) (by simpa using hj)
theorem ZAt {n:Int}:∀{l:QTs} {i:Nat} (hi:i < l.length),(∀j (h:j < l.length),j < i→chkP n l[j].2=0)→chkP n l[i].2≠0→chkE n l=chkP n l[i].2
 | q :: l,0,_,_,h2=>by
   have h2:chkP n q.2≠0:=h2;unfold chkE;rw [ZBn h2];rfl
 | q :: l,i+1,hi,h,h2=>by
   have h0:chkP n q.2=0:=h 0 zs zo;unfold chkE;rw [ZBo h0];exact ZAt (by simpa using hi) (λj hj hji=>h (j+1) (by simpa using hj) zo) h2
theorem txt_pos (q:Qt) (ss:List ByteArray):0 < (q.txt ss).size:=by
 unfold Qt.txt;split<;>simp only [ZCp]<;>(have:(⟨#[41]⟩:ByteArray).size=1:=rfl;omega)
theorem txt_size (q:Qt) (ss:List ByteArray) (hs:∀s∈ss,s.size≤1000) (ha:q.a < 64):(q.txt ss).size≤4000:=by
 have h1:=Zf6 hs q.a.toNat;have h2:=Zf6 hs q.b.toNat;have h3:=Zf6 hs q.c.toNat;have z:=Zf1 q.a.toNat;have zl:(toL q.a.toNat).length≤1:=Zaf.2 zo;have s1:(⟨#[83,40]⟩:ByteArray).size=2:=rfl;have s2:(⟨#[80,40]⟩:ByteArray).size=2:=rfl;have s3:(⟨#[44,32]⟩:ByteArray).size=2:=rfl;have s4:(⟨#[41]⟩:ByteArray).size=1:=rfl;have s5:(⟨#[116,40]⟩:ByteArray).size=2:=rfl;unfold Qt.txt;split
 ·simp only [ZCp];omega
 ·split<;>simp only [ZCp]<;>omega
theorem ZAq {q:Qt} {n:Int} (ss:List ByteArray) (hs:∀s∈ss,s.size≤1000) (h:Qt.chk q n 64=0):(q.txt ss).size≤4000:=by
 unfold Qt.txt;by_cases hk:q.k=3
 ·have ha:q.a < 64:=by
   rcases ZAr (k:=q.k) (a:=q.a) (b:=q.b) (c:=q.c) h with h1 | h1
   ·exact h1.2.2.1
   ·exact absurd hk h1.1
  exact txt_size q ss hs ha
 ·have h1:=Zf6 hs q.a.toNat;have h2:=Zf6 hs q.b.toNat;have h3:=Zf6 hs q.c.toNat;have s1:(⟨#[83,40]⟩:ByteArray).size=2:=rfl;have s2:(⟨#[80,40]⟩:ByteArray).size=2:=rfl;have s3:(⟨#[44,32]⟩:ByteArray).size=2:=rfl;have s4:(⟨#[41]⟩:ByteArray).size=1:=rfl;rw [ZBn hk];split<;>simp only [ZCp]<;>omega
theorem tS_pos (ss:List ByteArray) (p:List Qt) (s0:ByteArray) (i:Nat) (h:0 < i):0 < (tS ss p s0 i).size:=by
 obtain⟨j,rfl⟩:∃j,i=j+1:=⟨i - 1,zo⟩;unfold tS;rw [ZCp];have:=txt_pos (p.getD j Qt.zero) ss;omega
theorem Zwu {ss:List ByteArray} {p:List Qt} {s0:ByteArray} {n:Int} (hs:∀s∈ss,s.size≤1000) {i:Nat} (hi:i≤p.length) (h:∀j (h:j < p.length),j < i→Qt.chk p[j] n 64=0):(tS ss p s0 i).size≤s0.size+i*4001:=by
 induction i with
 | zero=>unfold tS;omega
 | succ i ih =>
   have h1:=ih zo λj hj hji=>h j hj zo;have h2:=ZAq ss hs (h i zo zo);have e:p.getD i Qt.zero=p[i]:=by rw [ZB8,ZBz zo];rfl
   unfold tS;rw [ZCp,e];have s1:(⟨#[42]⟩:ByteArray).size=1:=rfl;split
   ·omega
   ·rw [ZCp];omega
theorem Zqf {q:Rat} {k:Nat} (h:Sz q k):(decQ q).size≤10*k+4:=by
 have h1:=h.1;have h2:=h.2;have z1:=Zqe q.num;have z2:=Zf1 q.den;have h47:(Zgk [47]).size=1:=Zeu _;unfold decQ;split
 ·omega
 ·rw [ZCp,ZCp];omega
theorem Zoi {q:Rat} {k:Nat} (h:Sz q k):Sz (absR q) k:=by
 unfold absR;split
 ·exact⟨by rw [show(-q).num=-q.num from rfl,ZGo];exact h.1,h.2⟩
 ·exact h
theorem ZBi (q:Rat):ratQ (absR q)=.agg [.v (.bool false),lim (toL q.num.natAbs),lim (toL q.den)]:=by
 unfold absR;split
 ·rename_i h;unfold ratQ;rw [show(-q).num=-q.num from rfl,show(-q).den=q.den from rfl,ZGo,ZBy zo]
 ·rename_i h;unfold ratQ;rw [ZBy h]
end Go.Proofs.YtkefeinbjbeidaaGreatDoor
namespace Go.Pol
open Go.Sort
def ltC {α:Type} (cmp:α→α→Int) (x y:α):Bool:=decide (cmp x y < 0)
theorem Ztl {α β:Type} {cmp:α→α→Int} (o:CO cmp) (f:β→α):∀{l m:List β},(∀s∈l,∀t∈l,f s=f t→s=t)→(l.Pairwise λs t=>cmp (f s) (f t)≤0)→(m.Pairwise λs t=>cmp (f s) (f t)≤0)→l.Perm m→l=m
 | [],m,_,_,_,p=>(List.nil_perm.1 p).symm
 | a :: l,[],_,_,_,p=>by have:=p.length_eq;simp at this
 | a :: l,b :: m,hi,hl,hm,p=>by
   have hl':=List.pairwise_cons.1 hl;have hm':=List.pairwise_cons.1 hm
   have hab:a=b:=by
    have h1:a∈b :: m:=p.mem_iff.1 (.head _);have h2:b∈a :: l:=p.mem_iff.2 (.head _);rcases List.mem_cons.1 h1 with h | h1
    ·exact h
    ·rcases List.mem_cons.1 h2 with h | h2
     ·exact h.symm
     ·exact hi a (.head _) b (.tail _ h2) (o.anti (hl'.1 b h2) (hm'.1 a h1))
   subst hab;rw [Ztl o f (λs hs t ht=>hi s (.tail _ hs) t (.tail _ ht)) hl'.2 hm'.2 (List.Perm.cons_inv p)]
theorem dst_inj {κ:Type} {l:List (Rat × κ)} (h:Dst l):∀s∈l,∀t∈l,s.2=t.2→s=t:=by
 induction l with
 | nil=>intro s hs;cases hs
 | cons a l ih =>
   have h':=List.pairwise_cons.1 h;intro s hs t ht e;rcases List.mem_cons.1 hs with rfl | hs
   ·rcases List.mem_cons.1 ht with rfl | ht
    ·rfl
    ·exact absurd e (h'.1 t ht)
   ·rcases List.mem_cons.1 ht with ht | ht
    ·rw [ht] at e;exact absurd e.symm (h'.1 s hs)
    ·exact ih h'.2 s hs t ht e
section
variable {α:Type} {β:Type} (f:α→β)
variable [Inhabited α]
end
section
variable {α:Type} [Inhabited α] {lt:α→α→Bool}
theorem bitsLen_256 {x:Nat} (h:256≤x):bitsLen x=8+bitsLen (x/256):=by
 have h1:=lt_two_pow_bitsLen x;have h2:=lt_two_pow_bitsLen (x/256)
 have h3:8 < bitsLen x:=by
  rcases ZCc 8 (bitsLen x) with h | h
  ·exact h
  ·have:=(bitsLen_le_iff x 8).1 h;omega
 have a:bitsLen x≤8+bitsLen (x/256):=(bitsLen_le_iff _ _).2 (by rw [ZCx];omega);have b:bitsLen (x/256)≤bitsLen x - 8:=(bitsLen_le_iff _ _).2 (by
  obtain⟨m,hm⟩:∃m,bitsLen x=8+m:=⟨bitsLen x - 8,zo⟩;rw [hm] at h1 ⊢;rw [ZCx] at h1;rw [show 8+m - 8=m by omega];exact Nat.div_lt_of_lt_mul h1)
 omega
def hintN (n:Nat):Hint:=if n=0 then .increasing else if n=12 then .decreasing else .unknown
section
variable {d d1 d2:Array α} {a b lim lim1 pv:Nat} {wb wp:Bool} {c:Nat × Hint} {hint:Hint} {pi:Array α × Bool}
end
end
end Go.Pol
namespace Go.Proofs.YtkefeinbjbeidaaGreatDoor
open Go Go.RowKit Go.Pg Go.Pol Go.Proofs.Tryz
attribute [-bool_to_prop] Bool.and_eq_decide Bool.or_eq_decide Bool.decide_beq_decide decide_eq_decide
theorem Zcz {P:Program} {t:TypeId} {w:World} (h:(P.underlying t).map Zfx=some false):(isAgg t).run P w=.ok false w:=by
 obtain⟨d,hd,h⟩:=Option.map_eq_some_iff.1 h;simp only [isAgg,ZB6,ZCa hd,ZB5];cases d<;>first|rfl|cases h
theorem ag_st {P:Program} {t:TypeId} {w:World} (h:(P.underlying t).map Zfx=some true):(isAgg t).run P w=.ok true w:=by
 obtain⟨d,hd,h⟩:=Option.map_eq_some_iff.1 h;simp only [isAgg,ZB6,ZCa hd,ZB5];cases d<;>first|rfl|cases h
def sqR:Go.Shelf.Ren:=⟨fun | 14=>226 | 15=>227 | 20=>263 | 21=>264 | 22=>265 | 23=>266 | 24=>267 | 25=>268 | 26=>269 | 27=>270 | 28=>271 | 29=>272 | 46=>302 | 47=>303 | 48=>304 | 49=>305 | 50=>306 | 57=>313 | n=>n,fun | 0=>0 | 3=>3 | 4=>4 | 5=>5 | 9=>9 | 22=>76 | 24=>91 | 25=>125 | 39=>190 | 45=>286 | 46=>287 | 50=>229 | 53=>189 | 55=>121 | 66=>313 | 70=>317 | 76=>323 | 77=>324 | n=>n,λn=>n⟩
theorem sqL:Go.Proofs.SlLaysF0.n14 prog sqR:={
 mixed:=by kernel_rfl
 f14:=⟨f226.name,by decide,by kernel_rfl⟩
 f15:=by kernel_rfl
 f20:=⟨f263.name,by decide,by kernel_rfl⟩
 f21:=⟨f264.name,by decide,by kernel_rfl⟩
 f22:=⟨f265.name,by decide,by kernel_rfl⟩
 f23:=⟨f266.name,by decide,by kernel_rfl⟩
 f24:=⟨f267.name,by decide,by kernel_rfl⟩
 f25:=⟨f268.name,by decide,by kernel_rfl⟩
 f26:=⟨f269.name,by decide,by kernel_rfl⟩
 f27:=⟨f270.name,by decide,by kernel_rfl⟩
 f28:=by kernel_rfl
 f29:=by kernel_rfl
 f46:=⟨f302.name,by decide,by kernel_rfl⟩
 f47:=by kernel_rfl
 f48:=by kernel_rfl
 f49:=⟨f305.name,by decide,by kernel_rfl⟩
 f50:=⟨f306.name,by decide,by kernel_rfl⟩
 f57:=⟨f313.name,by decide,by kernel_rfl⟩
 t0:=by kernel_rfl
 a0:=λ_=>Zcz (t:=0) zk
 z0:=λ_=>Zac zk
 v0:=λ_=>Zab zk
 t3:=by kernel_rfl
 a3:=λ_=>Zcz (t:=3) zk
 z3:=λ_=>Zac zk
 v3:=λ_=>Zab zk
 t4:=by kernel_rfl
 a4:=λ_=>Zcz (t:=4) zk
 z4:=λ_=>Zac zk
 v4:=λ_=>Zab zk
 t5:=by kernel_rfl
 a5:=λ_=>Zcz (t:=5) zk
 z5:=λ_=>Zac zk
 v5:=λ_=>Zab zk
 t9:=by kernel_rfl
 a9:=λ_=>Zcz (t:=9) zk
 z9:=λ_=>Zac zk
 v9:=λ_=>Zab zk
 t22:=by kernel_rfl
 a22:=λ_=>Zcz (t:=76) zk
 z22:=λ_=>Zac zk
 v22:=λ_=>Zab zk
 t25:=by kernel_rfl
 a25:=λ_=>Zcz (t:=125) zk
 z25:=λ_=>Zac zk
 v25:=λ_=>Zab zk
 t39:=by kernel_rfl
 a39:=λ_=>Zcz (t:=190) zk
 z39:=λ_=>Zac zk
 v39:=λ_=>Zab zk
 t45:=by kernel_rfl
 a45:=λ_=>Zcz (t:=286) zk
 z45:=λ_=>Zac zk
 v45:=λ_=>Zab zk
 t46:=by kernel_rfl
 a46:=λ_=>Zcz (t:=287) zk
 z46:=λ_=>Zac zk
 v46:=λ_=>Zab zk
 t50:=by kernel_rfl
 a50:=λ_=>Zcz (t:=229) zk
 z50:=λ_=>Zac zk
 v50:=λ_=>Zab zk
 t53:=by kernel_rfl
 a53:=λ_=>Zcz (t:=189) zk
 z53:=λ_=>Zac zk
 v53:=λ_=>Zab zk
 t55:=by kernel_rfl
 a55:=λ_=>Zcz (t:=121) zk
 z55:=λ_=>Zac zk
 v55:=λ_=>Zab zk
 t66:=by kernel_rfl
 a66:=λ_=>Zcz (t:=313) zk
 z66:=λ_=>Zac zk
 v66:=λ_=>Zab zk
 t70:=by kernel_rfl
 a70:=λ_=>Zcz (t:=317) zk
 z70:=λ_=>Zac zk
 v70:=λ_=>Zab zk
 t76:=by kernel_rfl
 a76:=λ_=>Zcz (t:=323) zk
 z76:=λ_=>Zac zk
 v76:=λ_=>Zab zk
 t77:=by kernel_rfl
 a77:=λ_=>Zcz (t:=324) zk
 z77:=λ_=>Zac zk
 v77:=λ_=>Zab zk
}
def stR:Go.Shelf.Ren:=⟨fun | 14=>250 | 15=>227 | 20=>287 | 21=>288 | 22=>289 | 23=>290 | 24=>291 | 25=>292 | 26=>293 | 27=>294 | 28=>271 | 29=>272 | 46=>308 | 47=>303 | 48=>304 | 49=>309 | 50=>310 | 57=>314 | n=>n,fun | 0=>0 | 3=>3 | 4=>4 | 5=>5 | 9=>9 | 22=>33 | 24=>78 | 25=>232 | 39=>190 | 45=>286 | 46=>287 | 50=>229 | 53=>189 | 55=>121 | 66=>313 | 70=>317 | 76=>323 | 77=>324 | n=>n,λn=>n⟩
theorem stL:Go.Proofs.SlLaysF0.n14 prog stR:={
 mixed:=by kernel_rfl
 f14:=⟨f250.name,by decide,by kernel_rfl⟩
 f15:=by kernel_rfl
 f20:=⟨f287.name,by decide,by kernel_rfl⟩
 f21:=⟨f288.name,by decide,by kernel_rfl⟩
 f22:=⟨f289.name,by decide,by kernel_rfl⟩
 f23:=⟨f290.name,by decide,by kernel_rfl⟩
 f24:=⟨f291.name,by decide,by kernel_rfl⟩
 f25:=⟨f292.name,by decide,by kernel_rfl⟩
 f26:=⟨f293.name,by decide,by kernel_rfl⟩
 f27:=⟨f294.name,by decide,by kernel_rfl⟩
 f28:=by kernel_rfl
 f29:=by kernel_rfl
 f46:=⟨f308.name,by decide,by kernel_rfl⟩
 f47:=by kernel_rfl
 f48:=by kernel_rfl
 f49:=⟨f309.name,by decide,by kernel_rfl⟩
 f50:=⟨f310.name,by decide,by kernel_rfl⟩
 f57:=⟨f314.name,by decide,by kernel_rfl⟩
 t0:=by kernel_rfl
 a0:=λ_=>Zcz (t:=0) zk
 z0:=λ_=>Zac zk
 v0:=λ_=>Zab zk
 t3:=by kernel_rfl
 a3:=λ_=>Zcz (t:=3) zk
 z3:=λ_=>Zac zk
 v3:=λ_=>Zab zk
 t4:=by kernel_rfl
 a4:=λ_=>Zcz (t:=4) zk
 z4:=λ_=>Zac zk
 v4:=λ_=>Zab zk
 t5:=by kernel_rfl
 a5:=λ_=>Zcz (t:=5) zk
 z5:=λ_=>Zac zk
 v5:=λ_=>Zab zk
 t9:=by kernel_rfl
 a9:=λ_=>Zcz (t:=9) zk
 z9:=λ_=>Zac zk
 v9:=λ_=>Zab zk
 t22:=by kernel_rfl
 a22:=λ_=>Zcz (t:=33) zk
 z22:=λ_=>Zac zk
 v22:=λ_=>Zab zk
 t25:=by kernel_rfl
 a25:=λ_=>Zcz (t:=232) zk
 z25:=λ_=>Zac zk
 v25:=λ_=>Zab zk
 t39:=by kernel_rfl
 a39:=λ_=>Zcz (t:=190) zk
 z39:=λ_=>Zac zk
 v39:=λ_=>Zab zk
 t45:=by kernel_rfl
 a45:=λ_=>Zcz (t:=286) zk
 z45:=λ_=>Zac zk
 v45:=λ_=>Zab zk
 t46:=by kernel_rfl
 a46:=λ_=>Zcz (t:=287) zk
 z46:=λ_=>Zac zk
 v46:=λ_=>Zab zk
 t50:=by kernel_rfl
 a50:=λ_=>Zcz (t:=229) zk
 z50:=λ_=>Zac zk
 v50:=λ_=>Zab zk
 t53:=by kernel_rfl
 a53:=λ_=>Zcz (t:=189) zk
 z53:=λ_=>Zac zk
 v53:=λ_=>Zab zk
 t55:=by kernel_rfl
 a55:=λ_=>Zcz (t:=121) zk
 z55:=λ_=>Zac zk
 v55:=λ_=>Zab zk
 t66:=by kernel_rfl
 a66:=λ_=>Zcz (t:=313) zk
 z66:=λ_=>Zac zk
 v66:=λ_=>Zab zk
 t70:=by kernel_rfl
 a70:=λ_=>Zcz (t:=317) zk
 z70:=λ_=>Zac zk
 v70:=λ_=>Zab zk
 t76:=by kernel_rfl
 a76:=λ_=>Zcz (t:=323) zk
 z76:=λ_=>Zac zk
 v76:=λ_=>Zab zk
 t77:=by kernel_rfl
 a77:=λ_=>Zcz (t:=324) zk
 z77:=λ_=>Zac zk
 v77:=λ_=>Zab zk
}
theorem co_h1 {α:Type} {cmp:α→α→Int} (o:CO cmp) (x y:α):cmp x x=0∧(cmp x y < 0↔0 < cmp y x):=⟨o.refl x,o.flip x y⟩
theorem co_h2 {α:Type} {cmp:α→α→Int} (o:CO cmp) (a b c:α) (h1:cmp a b≤0) (h2:cmp b c≤0):cmp a c≤0:=o.le_tr h1 h2
theorem sqPdqK (σ:Mem) (K:Nat) (sv:Value) (L:List Qt) (lm:Nat) (hK:σ K=some (.row sv 91 4 (L.map Qt.av) 0)) (hl:L.length≤1000000000) (hlim:lm≤1000000000):ACall prog 226 [.own K sv,iv 0,iv L.length,iv lm,.fn 164 []] σ λr σ'=>r=.tup []∧σ'=upd σ K (some (.row sv 91 4 ((srtQ Qt.cmp L).map Qt.av) 0)):=by
 refine(Zl7 sqL (k:=4) (λ_=>ag_st (t:=91) zk) (λ_=>Zac zk) zo (λq:Qt=>[iv q.k,iv q.a,iv q.b,iv q.c]) Qt.cmp (g:=164) L (λ_=>rfl) hK zo (co_h1 qtO) (co_h2 qtO) (λx _ y _=>quCmp x.k x.a x.b x.c y.k y.a y.b y.c) call226 lm zo λp cap w=>Go.Proofs.AnyF.pdqsortCmpFunc_none sqL p cap lm _ w).mono λr σ' h=>?_;obtain⟨l',hp,hs,rfl,rfl⟩:=h;have e:l'=srtQ Qt.cmp L:=Ze6 qtO hs (Zb5 qtO.cp _) (hp.trans (Za3 _).symm);rw [e];exact⟨rfl,rfl⟩
theorem stPdqK (σ:Mem) (K:Nat) (sv:Value) (L:List (Rat × List Qt)) (lm:Nat) (hK:σ K=some (.row sv 78 4 (L.map qtA) 0)) (hl:L.length≤1000000000) (hq:∀t∈L,t.2.length≤1000000) (hd:Dst L) (hlim:lm≤1000000000):ACall prog 250 [.own K sv,iv 0,iv L.length,iv lm,.fn 198 []] σ λr σ'=>r=.tup []∧σ'=upd σ K (some (.row sv 78 4 ((srtQ ordT L).map qtA) 0)):=by
 refine(Zl7 stL (k:=4) (λ_=>ag_st (t:=78) zk) (λ_=>Zac zk) zo (λt:Rat × List Qt=>[.v (.bool (decide (t.1.num < 0))),lim (toL t.1.num.natAbs),lim (toL t.1.den),.sl 4 (t.2.map Qt.av)]) ordT (g:=198) L (λ_=>rfl) hK zo (λs t=>co_h1 Zbq s.2 t.2) (λs t u=>co_h2 Zbq s.2 t.2 u.2) (λs hs t ht=>exCmpT s t (hq s hs) (hq t ht)) call250 lm zo λp cap w=>Go.Proofs.AnyF.pdqsortCmpFunc_none stL p cap lm _ w).mono λr σ' h=>?_;obtain⟨l',hp,hs,rfl,rfl⟩:=h;have e:l'=srtQ ordT L:=Ztl Zbq (λs:Rat × List Qt=>s.2) (λs hs' t ht' e=>dst_inj hd s (hp.mem_iff.1 hs') t (hp.mem_iff.1 ht') e) hs (Zb5 (Zbq.cp.key λs:Rat × List Qt=>s.2) L) (hp.trans (Za3 _).symm)
 rw [e];exact⟨rfl,rfl⟩
attribute [go_sem] underlying313 underlying323 szXs byXs zXs
theorem Zq3 (a:Nat) (s:Nat) (hs:s < 64):shrI .u64 (a:Int) (s:Int)=((a/2 ^ s:Nat):Int):=by
 unfold shrI;rw [show min ((s:Int).toNat) IntKind.u64.bits=s by rw [ZFc];exact ZD7 (by show s≤64;omega),ZGw _ (Int.le_of_lt (Int.pow_pos zd))];simp
def hintI:Go.Sort.Hint→Int
 | .unknown=>0
 | .increasing=>1
 | .decreasing=>2
abbrev u64A (n:Nat):AV:=.v (.int .u64 (n:Int))
theorem Zny (i:Nat):len8 i=Go.Sort.bitsLen i:=rfl
theorem bLen64 (x:Nat) (hx:x≤1000000000):Pure prog 272 [u64A x] (iv (Go.Sort.bitsLen x:Nat)):=by
 have n32:¬(4294967296:Int)≤(x:Int):=zo;by_cases h16:65536≤x
 ·have g16:(65536:Int)≤(x:Int):=zo;have b1:=Go.Pol.bitsLen_256 (x:=x) zo;have b2:=Go.Pol.bitsLen_256 (x:=x/256) zo;rw [ZGl] at b2;have b2:Go.Sort.bitsLen (x/256)=8+Go.Sort.bitsLen (x/65536):=b2;have s16:shrI .u64 (x:Int) 16=((x/65536:Nat):Int):=Zq3 x 16 zo;have hy:x/65536≤15258:=zo;rw [b1,b2];clear b1 b2;generalize x/65536=y at *;have s8:shrI .u64 (y:Int) 8=((y/256:Nat):Int):=Zq3 y 8 zo;by_cases h8:256≤y
  ·have g8:(256:Int)≤(y:Int):=zo;rw [Go.Pol.bitsLen_256 h8];have hz:y/256 < 256:=zo;generalize y/256=z at *;rw [←Zny];have b:=Zgb hz;refine pI func272 rfl ntmps272 results272 call272 ?_
   (repeat' (first|(apply Zro (g:=len8) (n:=256) zk zk zo)|(with_reducible first|refine stp ?_|apply gx1|apply gx2|apply gx3|apply gx4|apply gx5|apply gx6|apply gx7)|(with_reducible refine Zcm ?_;intro _)|((with_reducible refine gE ?_);(try simp (disch:=omega) only [go_sem,n32,g16,s16,s8,g8])<;>first|rfl|omega)|with_reducible refine Zaj zd ?_))
   (all_goals (try simp (disch:=omega) only [go_sem,ZBw,ZBy,ZBo,ZBn,Int.reduceAdd,Int.reduceSub,Int.reduceToNat,ZB3]));(all_goals first|done|rfl|(congr 2;first|done|omega|(rw [ZCf];simp only [bool_to_prop,ZB1,ZCl,ZCm,ZCn,ZCo];omega))|skip)
  ·have g8:¬(256:Int)≤(y:Int):=zo;rw [←Zny];have b:=Zgb (i:=y) zo;refine pI func272 rfl ntmps272 results272 call272 ?_
   (repeat' (first|(apply Zro (g:=len8) (n:=256) zk zk zo)|(with_reducible first|refine stp ?_|apply gx1|apply gx2|apply gx3|apply gx4|apply gx5|apply gx6|apply gx7)|(with_reducible refine Zcm ?_;intro _)|((with_reducible refine gE ?_);(try simp (disch:=omega) only [go_sem,n32,g16,s16,s8,g8])<;>first|rfl|omega)|with_reducible refine Zaj zd ?_))
   (all_goals (try simp (disch:=omega) only [go_sem,ZBw,ZBy,ZBo,ZBn,Int.reduceAdd,Int.reduceSub,Int.reduceToNat,ZB3]));(all_goals first|done|rfl|(congr 2;first|done|omega|(rw [ZCf];simp only [bool_to_prop,ZB1,ZCl,ZCm,ZCn,ZCo];omega))|skip)
 ·have g16:¬(65536:Int)≤(x:Int):=zo;have s8:shrI .u64 (x:Int) 8=((x/256:Nat):Int):=Zq3 x 8 zo;by_cases h8:256≤x
  ·have g8:(256:Int)≤(x:Int):=zo;rw [Go.Pol.bitsLen_256 h8];have hz:x/256 < 256:=zo;generalize x/256=z at *;rw [←Zny];have b:=Zgb hz;refine pI func272 rfl ntmps272 results272 call272 ?_
   (repeat' (first|(apply Zro (g:=len8) (n:=256) zk zk zo)|(with_reducible first|refine stp ?_|apply gx1|apply gx2|apply gx3|apply gx4|apply gx5|apply gx6|apply gx7)|(with_reducible refine Zcm ?_;intro _)|((with_reducible refine gE ?_);(try simp (disch:=omega) only [go_sem,n32,g16,s8,g8])<;>first|rfl|omega)|with_reducible refine Zaj zd ?_))
   (all_goals (try simp (disch:=omega) only [go_sem,ZBw,ZBy,ZBo,ZBn,Int.reduceAdd,Int.reduceSub,Int.reduceToNat,ZB3]));(all_goals first|done|rfl|(congr 2;first|done|omega|(rw [ZCf];simp only [bool_to_prop,ZB1,ZCl,ZCm,ZCn,ZCo];omega))|skip)
  ·have g8:¬(256:Int)≤(x:Int):=zo;rw [←Zny];have b:=Zgb (i:=x) zo;refine pI func272 rfl ntmps272 results272 call272 ?_
   (repeat' (first|(apply Zro (g:=len8) (n:=256) zk zk zo)|(with_reducible first|refine stp ?_|apply gx1|apply gx2|apply gx3|apply gx4|apply gx5|apply gx6|apply gx7)|(with_reducible refine Zcm ?_;intro _)|((with_reducible refine gE ?_);(try simp (disch:=omega) only [go_sem,n32,g16,s8,g8])<;>first|rfl|omega)|with_reducible refine Zaj zd ?_))
   (all_goals (try simp (disch:=omega) only [go_sem,ZBw,ZBy,ZBo,ZBn,Int.reduceAdd,Int.reduceSub,Int.reduceToNat,ZB3]));(all_goals first|done|rfl|(congr 2;first|done|omega|(rw [ZCf];simp only [bool_to_prop,ZB1,ZCl,ZCm,ZCn,ZCo];omega))|skip)
theorem bLen (x:Nat) (hx:x≤1000000000):Pure prog 227 [u64A x] (iv (Go.Sort.bitsLen x:Nat)):=by
 have c:=bLen64 x hx;generalize ((Go.Sort.bitsLen x:Nat):Int)=r at *;refine pI func227 rfl ntmps227 results227 call227 ?_
 (refine wkap w_t (w_1 c) (w_r 0) (w_s ?_);intros)
 all_goals exact gL
theorem Zmv {x:Nat} (h:x≤1000000000):Go.Sort.bitsLen x≤30:=(Go.Sort.bitsLen_le_iff x 30).2 zo
attribute [local go_sem] Zag Zar Zah Bool.and_self Zal Zbb Za8
theorem Zw5 (σ:Mem) (K:Nat) (sv:Value) (L:List Qt) (hK:σ K=some (.row sv 91 4 (L.map Qt.av) 0)) (hl:L.length≤1000000000):ACall prog 163 [.own K sv,.fn 164 []] σ λr σ'=>r=.tup []∧σ'=upd σ K (some (.row sv 91 4 ((srtQ Qt.cmp L).map Qt.av) 0)):=by
 refine Zjn (args':=[.own (K+1000) sv,.fn 164 []]) func163 rfl ntmps163 results163 call163 zr zs (.cons (Sub.own _ _ _) (.cons (Sub.refl _) .nil)) ?_;have hL:∀k,lent σ (k+1000)=σ k:=λk=>by unfold lent;rw [ZBn zo,ZE3]
 generalize lent σ=m0 at *;have m0K:m0 (K+1000)=some (.row sv 91 4 (L.map Qt.av) 0):=by rw [hL,hK]
 have cb:=bLen L.length hl;have hb:=Zmv hl;have hml:(L.map Qt.av).length=L.length:=ZBr ..;have ci:=fun(σ:Mem) h=>sqPdqK σ (K+1000) sv L (Go.Sort.bitsLen L.length) h hl zo;generalize (srtQ Qt.cmp L).map Qt.av=V at *;generalize Go.Sort.bitsLen L.length=lim at *;have ci:∀(σ:Mem),σ (K+1000)=some (.row sv 91 4 (L.map Qt.av) 0)→ACall prog 226 [.own (K+1000) sv,iv 0,iv L.length,iv lim,.fn 164 []] σ _:=ci;generalize L.map Qt.av=LA at *
 (refine wkap (w_2 m0K hml) (w_1 cb) (w_r 0) (w_s ?_);intros)
 refine Zgv (ci _ (by(simp (disch:=omega) only [go_sem,m0K]<;>repeat' first|rfl|refine⟨?_,?_⟩))) ?_
 (refine wkap w_t w_t (w_r 0) (w_s ?_);intros)
 simp (disch:=omega) only [go_sem];refine Zqm (Sub.refl _) ⟨rfl,rfl⟩ λk hk=>?_;by_cases e:k=K
 ·subst e;rw [Zam,ZBo rfl,Zam,ZBo rfl]
 ·rw [Zam,ZBn zo,Zam,ZBn e,hL]
theorem stSortN (σ:Mem) (K:Nat) (sv:Value) (L:List (Rat × List Qt)) (hK:σ K=some (.row sv 78 4 (L.map qtA) 0)) (hl:L.length≤1000000000) (hq:∀t∈L,t.2.length≤1000000) (hd:Dst L):ACall prog 197 [.own K sv,.fn 198 []] σ λr σ'=>r=.tup []∧σ'=upd σ K (some (.row sv 78 4 ((srtQ ordT L).map qtA) 0)):=by
 refine Zjn (args':=[.own (K+1000) sv,.fn 198 []]) func197 rfl ntmps197 results197 call197 zr zs (.cons (Sub.own _ _ _) (.cons (Sub.refl _) .nil)) ?_;have hL:∀k,lent σ (k+1000)=σ k:=λk=>by unfold lent;rw [ZBn zo,ZE3]
 generalize lent σ=m0 at *;have m0K:m0 (K+1000)=some (.row sv 78 4 (L.map qtA) 0):=by rw [hL,hK]
 have cb:=bLen L.length hl;have hb:=Zmv hl;have hml:(L.map qtA).length=L.length:=ZBr ..;have ci:=fun(σ:Mem) h=>stPdqK σ (K+1000) sv L (Go.Sort.bitsLen L.length) h hl hq hd zo;generalize (srtQ ordT L).map qtA=V at *;generalize Go.Sort.bitsLen L.length=lim at *;have ci:∀(σ:Mem),σ (K+1000)=some (.row sv 78 4 (L.map qtA) 0)→ACall prog 250 [.own (K+1000) sv,iv 0,iv L.length,iv lim,.fn 198 []] σ _:=ci;generalize L.map qtA=LA at *
 (refine wkap (w_2 m0K hml) (w_1 cb) (w_r 0) (w_s ?_);intros)
 refine Zgv (ci _ (by(simp (disch:=omega) only [go_sem,m0K]<;>repeat' first|rfl|refine⟨?_,?_⟩))) ?_
 (refine wkap w_t w_t (w_r 0) (w_s ?_);intros)
 simp (disch:=omega) only [go_sem];refine Zqm (Sub.refl _) ⟨rfl,rfl⟩ λk hk=>?_;by_cases e:k=K
 ·subst e;rw [Zam,ZBo rfl,Zam,ZBo rfl]
 ·rw [Zam,ZBn zo,Zam,ZBn e,hL]
def maxQ:Nat:=1000
theorem qSort (σ:Mem) (K:Nat) (sv:Value) (L:List Qt) (hK:σ K=some (.row sv 91 4 (L.map Qt.av) 0)) (hl:L.length≤maxQ):ACall prog 163 [.own K sv,.fn 164 []] σ λr σ'=>r=.tup []∧σ'=upd σ K (some (.row sv 91 4 ((srtQ Qt.cmp L).map Qt.av) 0)):=Zw5 σ K sv L hK (by unfold maxQ at hl;omega)
theorem Zjc:maxQ≤1000:=by unfold maxQ;omega
theorem Zzf:12≤maxQ:=by unfold maxQ;omega
def maxT:Nat:=100000000
theorem Ztx:maxT=100000000:=rfl
theorem Znu:maxT≤100000000:=by unfold maxT;omega
theorem Zze:12≤maxT:=by unfold maxT;omega
theorem stSortT (σ:Mem) (K:Nat) (sv:Value) (L:List (Rat × List Qt)) (hK:σ K=some (.row sv 78 4 (L.map qtA) 0)) (hl:L.length≤maxT) (hq:∀t∈L,t.2.length≤1000000) (hd:Dst L):ACall prog 197 [.own K sv,.fn 198 []] σ λr σ'=>r=.tup []∧σ'=upd σ K (some (.row sv 78 4 ((srtQ ordT L).map qtA) 0)):=stSortN σ K sv L hK (by unfold maxT at hl;omega) hq hd
attribute [go_sem] underlying227 underlying164 underlying225 zSum zMap
attribute [local go_sem] Zas Zav Zau Zov Zju Zok Zox Za7
def mpN:QTs→Nat→List (MKey × AV)
 | [],_=>[]
 | t :: l,n=>(MKey.s (keyS t.2),iv n) :: mpN l (n+1)
abbrev mpE (T:QTs):List (MKey × AV):=mpN T 0
def B8 (T:QTs):Prop:=∀t∈T,∀q∈t.2,q.b8
theorem Zrx (s:ByteArray):∀(T:QTs) (n:Nat),Ze3 (.s s) (mpN T n)=true
 | [],_=>rfl
 | t :: T,n=>by
   show(MKey.like (.s s) (.s (keyS t.2)) && Ze3 (.s s) (mpN T (n+1)))=true;rw [Zrx s T (n+1)];rfl
theorem Zy0 (l:QTs) (t:Rat × List Qt):∀n,mpN (l++[t]) n=mpN l n++[(MKey.s (keyS t.2),iv ((n+l.length:Nat)))]:=by
 induction l with
 | nil=>intro n;rfl
 | cons a l ih =>
   intro n;show(MKey.s (keyS a.2),iv n) :: mpN (l++[t]) (n+1)=_;rw [ih];show _=(MKey.s (keyS a.2),iv n) :: (mpN l (n+1)++_);rw [show n+1+l.length=n+(a :: l).length by simp only [ZB2];omega]
theorem Ztt {l m:QTs} (h:l.map (λt=>t.2)=m.map λt=>t.2):∀n,mpN l n=mpN m n:=by
 induction l generalizing m with
 | nil=>intro n;cases m with
   | nil=>rfl
   | cons b m=>simp at h
 | cons a l ih=>intro n;cases m with
   | nil=>simp at h
   | cons b m =>
     simp only [ZCs,List.cons.injEq] at h;show(MKey.s (keyS a.2),iv n) :: mpN l (n+1)=(MKey.s (keyS b.2),iv n) :: mpN m (n+1);rw [h.1,ih h.2]
theorem Zry:∀{T:QTs} {p:List Qt} {i:Nat} (hi:i < T.length) (n:Nat),B8 T→(∀q∈p,q.b8)→T[i].2=p→(∀j (h:j < T.length),j < i→T[j].2≠p)→Zci (.s (keyS p)) (mpN T n)=some (iv ((n+i:Nat)))
 | [],p,i,hi,_,_,_,_,_=>by simp at hi
 | t :: T,p,0,hi,n,hb,hp,he,_=>by
   show(if MKey.s (keyS t.2)=MKey.s (keyS p) then _ else _)=_;have he:t.2=p:=he;rw [ZBo (by rw [he])];rfl
 | t :: T,p,i+1,hi,n,hb,hp,he,hn=>by
   show(if MKey.s (keyS t.2)=MKey.s (keyS p) then _ else Zci (.s (keyS p)) (mpN T (n+1)))=_;have h0:t.2≠p:=hn 0 zs zo;rw [ZBn (λh=>h0 (Zt2 (hb t (.head _)) hp (by injection h))),Zry (by simpa using hi) (n+1) (λu hu=>hb u (.tail _ hu)) hp he (λj h hj=>hn (j+1) (by simpa using h) zo)];rw [show n+1+i=n+(i+1) by omega]
theorem Zld:∀{T:QTs} {p:List Qt} (n:Nat),B8 T→(∀q∈p,q.b8)→(∀j (h:j < T.length),T[j].2≠p)→Zci (.s (keyS p)) (mpN T n)=none∧∀x,Zcp (.s (keyS p)) x (mpN T n)=mpN T n++[(MKey.s (keyS p),x)]
 | [],p,_,_,_,_=>⟨rfl,λ_=>rfl⟩
 | t :: T,p,n,hb,hp,hn=>by
   have h0:t.2≠p:=hn 0 zs;have hk:¬MKey.s (keyS t.2)=MKey.s (keyS p):=λh=>h0 (Zt2 (hb t (.head _)) hp (by injection h));obtain⟨h1,h2⟩:=Zld (n+1) (λu hu=>hb u (.tail _ hu)) hp (λj h=>hn (j+1) (by simpa using h));refine⟨?_,λx=>?_⟩
   ·show(if MKey.s (keyS t.2)=MKey.s (keyS p) then _ else Zci (.s (keyS p)) (mpN T (n+1)))=_;rw [ZBn hk,h1]
   ·show(if MKey.s (keyS t.2)=MKey.s (keyS p) then _ else _ :: Zcp (.s (keyS p)) x (mpN T (n+1)))=_;rw [ZBn hk,h2];rfl
theorem ZBd:∀{T:QTs} {t:Rat × List Qt} {i:Nat} (hi:i < T.length),T[i].2=t.2→(∀j (h:j < T.length),j < i→T[j].2≠t.2)→addC T t=T.set i (T[i].1+t.1,T[i].2)
 | [],t,i,hi,_,_=>by simp at hi
 | s :: T,t,0,hi,he,_=>by
   have he:s.2=t.2:=he;show(if s.2=t.2 then _ else _)=_;rw [ZBo he];rfl
 | s :: T,t,i+1,hi,he,hn=>by
   show(if s.2=t.2 then _ else s :: addC T t)=_;have h0:s.2≠t.2:=hn 0 zs zo;rw [ZBn h0,ZBd (i:=i) (by simpa using hi) he (λj h hj=>hn (j+1) (by simpa using h) zo)];rfl
theorem ZBe:∀{T:QTs} {t:Rat × List Qt},(∀j (h:j < T.length),T[j].2≠t.2)→addC T t=T++[t]
 | [],t,_=>rfl
 | s :: T,t,hn=>by
   show(if s.2=t.2 then _ else s :: addC T t)=_;have h0:s.2≠t.2:=hn 0 zs;rw [ZBn h0,ZBe (λj h=>hn (j+1) (by simpa using h))];rfl
theorem Zuc (T:QTs) (p:List Qt):(∃i,∃h:i < T.length,T[i].2=p∧∀j (h:j < T.length),j < i→T[j].2≠p)∨∀j (h:j < T.length),T[j].2≠p:=by
 induction T with
 | nil=>exact .inr λj h=>by simp at h
 | cons t T ih =>
   by_cases h:t.2=p
   ·exact .inl ⟨0,by simp,h,λj _ hj=>zo⟩
   ·rcases ih with⟨i,hi,h1,h2⟩ | h2
    ·refine .inl ⟨i+1,by simpa using hi,h1,λj hj hji=>?_⟩
     cases j with
     | zero=>exact h
     | succ j=>exact h2 j (by simpa using hj) zo
    ·refine .inr λj hj=>?_
     cases j with
     | zero=>exact h
     | succ j=>exact h2 j (by simpa using hj)
theorem exNew (σ:Mem) (KB KM:Nat) (hne:KM≠KB):ACall prog 117 [] σ λr σ'=>∃g h,r=.pbox KB g 0∧σ'=upd (upd σ KM (some (.map h []))) KB (some (.box g 227 [.mp KM h,.v (.slice none 0 0)] false)):=by
 refine Zso (args':=[]) func117 rfl ntmps117 results117 call117 zr zs .nil ?_;have hL:∀k,lent σ (k+1000)=σ k:=λk=>by unfold lent;rw [ZBn zo,ZE3]
 generalize lent σ=m0 at *
 (refine wkap w_t w_t (w_r 0) (w_s ?_);intros)
 simp (disch:=omega) only [go_sem];rename_i h g;refine⟨.pbox KB g 0,_,λk=>if k=KB then 3 else if k=KM then 1 else k+1000,Sub.pbox _ _ _ _,⟨g,h,rfl,rfl⟩,λk e hk=>?_,λk k' _ _ he=>?_⟩
 ·by_cases h1:k=KB
  ·subst h1;rw [Zam,ZBo rfl] at hk;injection hk with hk
   subst hk;refine⟨.box g 227 [.mp 1 h,.v (.slice none 0 0)] false,by simp (disch:=omega) only [go_sem,ZBo];rfl,EntSub.box rfl (λx hx=>?_) λj a b ha hb=>?_⟩
   ·simp only [ZFb,List.not_mem_nil,or_false] at hx;rcases hx with rfl | rfl<;>rfl
   ·match j,ha,hb with
    | 0,ha,hb=>simp only [ZEm,Option.some.injEq] at ha hb;subst ha;subst hb;exact Sub.mp _ _ _
    | 1,ha,hb=>simp only [ZFs,ZEm,Option.some.injEq] at ha hb;subst ha;subst hb;exact Sub.refl _
    | j+2,ha,hb=>simp at ha
  ·rw [Zam,ZBn h1] at hk;simp only [ZBn h1];by_cases h2:k=KM
   ·subst h2;rw [Zam,ZBo rfl] at hk;injection hk with hk
    subst hk;simp only [ZCt];exact⟨.map h [],by simp (disch:=omega) only [go_sem,ZBo,ZBn],EntSub.refl _⟩
   ·rw [Zam,ZBn h2] at hk;simp only [ZBn h2];exact⟨e,by rw [←hk,←hL k];simp (disch:=omega) only [go_sem,ZBn],EntSub.refl _⟩
 ·simp only at he;split at he<;>split at he<;>(try split at he)<;>(try split at he)<;>first|omega|(subst_vars;rfl)
theorem exAdd (σ:Mem) (KB KM KT g h:Nat) (sv:Value) (T:QTs) (a:Rat) (p:List Qt) {j k:Nat} (hB:σ KB=some (.box g 227 [.mp KM h,.own KT sv] false)) (hM:σ KM=some (.map h (mpE T))) (hT:σ KT=some (.row sv 78 4 (T.map qtA) 0))
 (n1:KB≠KM) (n2:KB≠KT) (n3:KM≠KT) (hl:T.length≤100000000) (hp:p.length≤1000) (b1:B8 T) (b2:∀q∈p,q.b8) (hs:∀t∈T,Sz t.1 j) (ha:Sz a k) (hj:j≤1000000) (hk:k≤1000000) :
 ACall prog 118 [.pbox KB g 0,ratQ a,qsA p] σ λr σ'=>∃sv',r=.tup []∧σ'=upd (upd (upd σ KM (some (.map h (mpE (addC T (a,p)))))) KT (some (.row sv' 78 4 ((addC T (a,p)).map qtA) 0))) KB (some (.box g 227 [.mp KM h,.own KT sv'] false)):=by
 have mB:=Zaz hB;have mM:=Zaz hM;have mT:=Zaz hT;simp only [Ent.sh,AV.shL,AV.sh] at mB mM mT;have ck:=exKey p hp;have hlT:(T.map qtA).length=T.length:=ZBr ..;have hal:Ze3 (.s (keyS p)) (mpE T)=true:=Zrx _ T 0;rcases Zuc T p with⟨i,hi,he,hf⟩ | hf
 ·have hget:Zci (.s (keyS p)) (mpE T)=some (iv i):=by have:=Zry hi 0 b1 b2 he hf;rwa [ZCg] at this
  have hadd:=ZBd (t:=(a,p)) hi he hf
  have hkeys:mpE (addC T (a,p))=mpE T:=by
   refine Ztt ?_ 0;rw [hadd,List.map_set];show(T.map _).set i T[i].2=_;rw [←ZGc (f:=λt:Rat × List Qt=>t.2) (h:=by rw [ZBr];exact hi)];exact List.set_getElem_self _
  have hgi:(T.map qtA).getD i .u=qtA T[i]:=Zao qtA hi;have hst:(T.map qtA).set i (qtA (T[i].1+a,T[i].2))=(addC T (a,p)).map qtA:=by rw [hadd,List.map_set]
  have ca:=Zte T[i].1 a (hs _ (ZB0 hi)) ha zo zo;rw [hkeys];clear hs ha b1 b2 hf hadd hkeys;generalize T[i]=t at *;obtain⟨t1,t2⟩:=t;simp only at *;refine Zbe func118 rfl ntmps118 results118 call118 zr zs ?_;generalize hRR:(addC T (a,p)).map qtA=R at *;generalize T.map qtA=TA at *;generalize mpE T=es at *
  (refine wkad (w_9 mB mM mT @Zcg @Zcw hget hal hgi hlT) (w_2 ck ca) (w_1 (w_d 4 [(14,ratQ (t1+a))] [17] [])) (w_s ?_);intros)
  simp (disch:=omega) only [go_sem];have e1:upd σ KM (some (.map h es))=σ:=Zd9 hM;have e2:upd (upd σ KT (some (.row sv 78 4 R 0))) KB (some (.box g 227 [.mp KM h,.own KT sv] false))=upd σ KT (some (.row sv 78 4 R 0)):=Zd9 (by rw [Zam,ZBn n2];exact hB);refine Zie (Sub.refl _) ⟨sv,rfl,rfl⟩ ?_;rw [e1,e2];exact((Agr.start σ).own zo).put rfl (by rw [←hst];rfl)
 ·have hget:Zci (.s (keyS p)) (mpE T)=none:=(Zld 0 b1 b2 hf).1;have hput:∀x,Zcp (.s (keyS p)) x (mpE T)=mpE T++[(MKey.s (keyS p),x)]:=(Zld 0 b1 b2 hf).2;have hadd:=ZBe (t:=(a,p)) hf;have hmp:mpE (addC T (a,p))=mpE T++[(MKey.s (keyS p),iv T.length)]:=by rw [hadd];show mpN _ 0=_;rw [Zy0,ZCg]
  have hrow:(addC T (a,p)).map qtA=T.map qtA++[.agg [.v (.bool (decide (a.num < 0))),lim (toL a.num.natAbs),lim (toL a.den),.sl 4 (p.map Qt.av)]]:=by rw [hadd,ZCb];rfl
  rw [hmp,hrow];clear hs ha b1 b2 hf hadd hmp hrow;refine Zbe func118 rfl ntmps118 results118 call118 zr zs ?_;generalize T.map qtA=TA at *;generalize mpE T=es at *
  (refine wkax (w_9 mB mM mT @Zcg @Zcw hget hal hput hlT) (w_1 ck) (w_2 (w_d 5 [] [10] []) (w_d 6 [] [9,2009,12] [])) w_t w_t w_t w_y (w_r 0) (w_s ?_);intros)
  simp (disch:=omega) only [go_sem];rename_i x1 x2 x3;refine Zie (Sub.refl _) ⟨x3,rfl,rfl⟩ ?_;refine Agr.put ?_ rfl rfl;refine Agr.put ?_ rfl rfl;refine Agr.own ?_ zo;refine Agr.put ?_ rfl rfl;refine Agr.own ?_ zo;exact Agr.start σ
def nzT (T:QTs):QTs:=T.filter λt=>decide (t.1≠0)
theorem nzT_y {T:QTs} {i:Nat} (h:i < T.length) (h0:T[i].1≠0):nzT (T.take (i+1))=nzT (T.take i)++[T[i]]:=by
 unfold nzT;rw [ZEq,ZBz h,ZEh];show _++List.filter _ [T[i]]=_;rw [ZEv,ZBo (ZBw h0)];rfl
theorem nzT_n {T:QTs} {i:Nat} (h:i < T.length) (h0:T[i].1=0):nzT (T.take (i+1))=nzT (T.take i):=by
 unfold nzT;rw [ZEq,ZBz h,ZEh];show _++List.filter _ [T[i]]=_;rw [ZEv,ZBn (by simp [h0])];simp
theorem Zrp (T:QTs):(nzT T).length≤T.length:=ZGa _ _
theorem exExpr (σ:Mem) (KB KM KT KP g h:Nat) (sv:Value) (T:QTs) {j n:Nat} (hB:σ KB=some (.box g 227 [.mp KM h,.own KT sv] false)) (hT:σ KT=some (.row sv 78 4 (T.map qtA) 0))
 (hl:T.length≤maxT) (hd:Dst T) (hs:QK T j n) (hj:j≤1000000) (hn:n≤1000000) :
 ACall prog 120 [.pbox KB g 0] σ λr σ'=>∃sv',r=.own KP sv'∧σ'=upd σ KP (some (.row sv' 78 4 ((srtQ ordT (nzT T)).map qtA) 0)):=by
 have hMT:=Znu;have mB:=Zaz hB;have mT:=Zaz hT;simp only [Ent.sh,AV.shL,AV.sh] at mB mT;have hlT:(T.map qtA).length=T.length:=ZBr ..;have hg:∀i (h:i < T.length),(T.map qtA).getD i .u=qtA T[i]:=λi h=>Zao qtA h;refine Zg9 func120 rfl ntmps120 results120 call120 zr zs ?_;have hL:∀k,Zeb σ (k+1000)=(σ k).map Ent.sh:=Agr.start σ;have h0:∀k,k < 1000→Zeb σ k=none:=λk hk=>Zcg hk;generalize Zeb σ=m0 at *;generalize T.map qtA=A at *
 (refine wkap (w_3 mB mT hlT) w_t (w_r 0) (w_s ?_);intros)
 refine Zea (Frz.nilOwn (d:=3) 22 4 78 (gC)) ?_;refine Zad (ι:=Nat) (λi e m=>i≤T.length∧e 9=.own (KT+1000) sv∧e 10=iv T.length∧e 11=iv i∧m (KT+1000)=some (.row sv 78 4 A 0)∧(∀k,m (k+1000)=m0 (k+1000))∧∃sv,e 3=.own 22 sv∧m 22=some (.row sv 78 4 ((nzT (T.take i)).map qtA) 0)) (λi=>T.length - i) 0 zr ?_ ?_
 ·rintro i e m ⟨hi,e9,e10,e11,mT,hm,sv',e3,m22⟩
  have hol:((nzT (T.take i)).map qtA).length≤100000000:=by rw [ZBr];have:=Zrp (T.take i);rw [ZB9] at this;omega
  by_cases hlt:i < T.length
  ·have hgi:=hg i hlt;have ms:=hs _ (ZB0 hlt);have hy:=nzT_y hlt;have hnn:=nzT_n hlt;clear hg hs;generalize T[i]=t at *;have cz:=Zc8 t.1 ms.1 zo;by_cases hz:t.1=0
   ·have hnz:=hnn hz;clear hnn;have hz2:t.1.num.sign=0:=by rw [Zc4];exact hz
    rw [hz2] at cz;clear hy ms hz2;obtain⟨t1,t2⟩:=t;simp only at *;generalize hO:(nzT (T.take i)).map qtA=O at *;generalize t2.map Qt.av=S2 at *;generalize toL t1.num.natAbs=a at *;generalize toL t1.den=b at *
    (refine wkap (w_8 e9 e10 e11 mT e3 m22 hlT hgi) (w_1 cz) (w_r 0) (w_s ?_);intros)
    exact⟨i+1,⟨zo,gW e9,gW e10,gS,by(simp (disch:=omega) only [go_sem,mT]<;>repeat' first|rfl|refine⟨?_,?_⟩),λk=>by rw [←hm k];try simp (disch:=omega) [Zam,marks,mark],_,gW e3,by rw [hnz,hO];exact gW m22⟩,zo⟩
   ·have hy:=hy hz;have hz2:¬t.1.num.sign=0:=by rw [Zc4];exact hz
    have hmp:(nzT (T.take (i+1))).map qtA=(nzT (T.take i)).map qtA++[qtA t]:=by rw [hy,ZCb];rfl
    clear hnn ms hy;obtain⟨t1,t2⟩:=t;simp only at *;generalize t1.num.sign=z at *;generalize (nzT (T.take i)).map qtA=O at *;have hmp:(nzT (T.take (i+1))).map qtA=O++[.agg [.v (.bool (decide (t1.num < 0))),lim (toL t1.num.natAbs),lim (toL t1.den),.sl 4 (t2.map Qt.av)]]:=hmp;have hgi:A.getD i .u=.agg [.v (.bool (decide (t1.num < 0))),lim (toL t1.num.natAbs),lim (toL t1.den),.sl 4 (t2.map Qt.av)]:=hgi;have cz:Pure prog 18 [.agg [.v (.bool (decide (t1.num < 0))),lim (toL t1.num.natAbs),lim (toL t1.den)]] (iv z):=cz;generalize t2.map Qt.av=S2 at *;generalize toL t1.num.natAbs=a at *;generalize toL t1.den=b at *
    (refine wkap (w_9 e9 e10 e11 mT e3 m22 hlT hgi hz2) (w_1 cz) (w_r 0) (w_s ?_);intros)
    exact⟨i+1,⟨zo,gW e9,gW e10,gS,by(simp (disch:=omega) only [go_sem,mT]<;>repeat' first|rfl|refine⟨?_,?_⟩),λk=>by rw [←hm k];try simp (disch:=omega) [Zam,marks,mark],_,gC,by rw [hmp];exact gC⟩,zo⟩
  ·have hil:i=T.length:=zo;subst hil;rw [ZDc] at m22 hol;rw [ZBr] at hol;have hmem:∀t,t∈nzT T→t∈T:=λt ht=>(List.mem_filter.1 ht).1;have ci:=fun(m:Mem) h=>stSortT m 22 sv' (nzT T) h (by have:=Zrp T;omega) (λt ht=>by have:=(hs t (hmem t ht)).2;omega) (hd.sublist List.filter_sublist);clear hg hs
   (refine wkap (w_7 e9 e10 e11 mT e3 m22 hlT) w_t (w_r 0) (w_s ?_);intros)
   refine Zgv (ci _ (gW m22)) ?_
   (refine wkap (w_1 e3) w_t (w_r 0) (w_s ?_);intros)
   simp (disch:=omega) only [go_sem];refine Zi2 (σ:=σ) (r:=.own KP sv') 22 KP zo (Sub.own _ _ _) ⟨sv',rfl,rfl⟩ ?_ ?_
   ·simp only [Zam,ZBo]
   ·intro k hk _;rw [Zam,ZBn zo,hm k,hL k,Zam,ZBn hk]
 ·exact⟨ZBx _,gC,gC,gC,by(simp (disch:=omega) only [go_sem,mT]<;>repeat' first|rfl|refine⟨?_,?_⟩),λk=>by try simp (disch:=omega) [Zam,marks,mark],_,gC,gC⟩
theorem exAddO (σ:Mem) (KB KM KT KP g h:Nat) (sv svP:Value) (T:QTs) (a:Rat) (p:List Qt) {j k:Nat} (hB:σ KB=some (.box g 227 [.mp KM h,.own KT sv] false)) (hM:σ KM=some (.map h (mpE T))) (hT:σ KT=some (.row sv 78 4 (T.map qtA) 0)) (hP:σ KP=some (.row svP 91 4 (p.map Qt.av) 0)) (n4:KP≠KB) (n5:KP≠KM) (n6:KP≠KT)
 (n1:KB≠KM) (n2:KB≠KT) (n3:KM≠KT) (hl:T.length≤100000000) (hp:p.length≤1000) (b1:B8 T) (b2:∀q∈p,q.b8) (hs:∀t∈T,Sz t.1 j) (ha:Sz a k) (hj:j≤1000000) (hk:k≤1000000) :
 ACall prog 118 [.pbox KB g 0,ratQ a,.own KP svP] σ λr σ'=>∃sv' eP,r=.tup []∧σ'=upd (upd (upd (upd σ KP eP) KM (some (.map h (mpE (addC T (a,p)))))) KT (some (.row sv' 78 4 ((addC T (a,p)).map qtA) 0))) KB (some (.box g 227 [.mp KM h,.own KT sv'] false)):=by
 have mB:=Zaz hB;have mM:=Zaz hM;have mT:=Zaz hT;have mP:=Zaz hP;simp only [Ent.sh,AV.shL,AV.sh] at mB mM mT mP;have ck:=exKey p hp;have ck:Pure prog 195 [.sl 4 (p.map Qt.av)] (strA (keyS p)):=ck;have hlT:(T.map qtA).length=T.length:=ZBr ..;have hal:Ze3 (.s (keyS p)) (mpE T)=true:=Zrx _ T 0;rcases Zuc T p with⟨i,hi,he,hf⟩ | hf
 ·have hget:Zci (.s (keyS p)) (mpE T)=some (iv i):=by have:=Zry hi 0 b1 b2 he hf;rwa [ZCg] at this
  have hadd:=ZBd (t:=(a,p)) hi he hf
  have hkeys:mpE (addC T (a,p))=mpE T:=by
   refine Ztt ?_ 0;rw [hadd,List.map_set];show(T.map _).set i T[i].2=_;rw [←ZGc (f:=λt:Rat × List Qt=>t.2) (h:=by rw [ZBr];exact hi)];exact List.set_getElem_self _
  have hgi:(T.map qtA).getD i .u=qtA T[i]:=Zao qtA hi;have hst:(T.map qtA).set i (qtA (T[i].1+a,T[i].2))=(addC T (a,p)).map qtA:=by rw [hadd,List.map_set]
  have ca:=Zte T[i].1 a (hs _ (ZB0 hi)) ha zo zo;rw [hkeys];clear hs ha b1 b2 hf hadd hkeys;generalize T[i]=t at *;obtain⟨t1,t2⟩:=t;simp only at *;refine Zbe func118 rfl ntmps118 results118 call118 zr zs ?_;generalize hRR:(addC T (a,p)).map qtA=R at *;generalize T.map qtA=TA at *;generalize mpE T=es at *;generalize hPA:p.map Qt.av=PA at *
  (repeat' (first|(with_reducible first|refine stp ?_|apply gx1|apply gx2|apply gx3|apply gx4|apply gx5|apply gx6|apply gx7|apply gy8|apply gz2|apply gz3|apply gw2 (ck)|refine gw0 (ca) ?_ ?_|refine gw3 (ca) ?_ ?_ ?_)|(with_reducible refine Zcm ?_;intro _)|((with_reducible refine gE ?_);(try simp (disch:=omega) only [go_sem,mB,mM,mT,mP,Zcg,Zcw,hget,hal,hgi,hlT,ZBw,ZBy,ZBo,ZBn,Int.reduceAdd,Int.reduceSub,Int.reduceToNat,ZB3])<;>first|rfl|omega)|with_reducible refine Zaj zd ?_|((with_reducible apply gy1);iterate 3 focus rfl)|((with_reducible apply gy2);iterate 3 focus rfl)|((with_reducible apply gy3);iterate 2 focus rfl)|((with_reducible apply gy4);iterate 1 focus rfl)|((with_reducible apply gy5);iterate 4 focus rfl)|((with_reducible apply gy5c);iterate 4 focus rfl)|((with_reducible apply gy6);iterate 4 focus rfl)|((with_reducible apply Zj8);iterate 3 focus rfl)|((with_reducible apply Zj7);iterate 1 focus rfl)|((with_reducible apply gy7);iterate 1 focus rfl)|((with_reducible apply gy9);(focus ((with_reducible refine gE ?_);(try simp (disch:=omega) only [go_sem,mB,mM,mT,mP,Zcg,Zcw,hget,hal,hgi,hlT,ZBw,ZBy,ZBo,ZBn,Int.reduceAdd,Int.reduceSub,Int.reduceToNat,ZB3])<;>rfl)))|((with_reducible apply gz1);(focus first|rfl|(simp (disch:=omega) only [go_sem,mB,mM,mT,mP,Zcg,Zcw,hget,hal,hgi,hlT,ZBw,ZBy,ZBo,ZBn,Int.reduceAdd,Int.reduceSub,Int.reduceToNat,ZB3];done)))|((with_reducible apply Zcl (id:=4) (Ze1 [(14,ratQ (t1+a))]) [17] []);(focus kernel_rfl);(focus rfl);(focus kernel_rfl);(focus (simp only [ZB2,ZCe,Nat.reduceAdd];rfl)))|((with_reducible first|apply Zep|apply Zi0|apply Zer);all_goals (intro hc;(try simp only [bool_to_prop] at hc);try (exfalso;omega)))))
  simp (disch:=omega) only [go_sem];have e1:upd σ KM (some (.map h es))=σ:=Zd9 hM;have e2:upd (upd σ KT (some (.row sv 78 4 R 0))) KB (some (.box g 227 [.mp KM h,.own KT sv] false))=upd σ KT (some (.row sv 78 4 R 0)):=Zd9 (by rw [Zam,ZBn n2];exact hB);refine Zie (Sub.refl _) ⟨sv,some (.row svP 91 4 PA 0),rfl,rfl⟩ ?_;have e0:upd σ KP (some (.row svP 91 4 PA 0))=σ:=Zd9 hP;rw [e0,e1,e2];exact((Agr.start σ).own zo).put rfl (by rw [←hst];rfl)
 ·have hget:Zci (.s (keyS p)) (mpE T)=none:=(Zld 0 b1 b2 hf).1;have hput:∀x,Zcp (.s (keyS p)) x (mpE T)=mpE T++[(MKey.s (keyS p),x)]:=(Zld 0 b1 b2 hf).2;have hadd:=ZBe (t:=(a,p)) hf;have hmp:mpE (addC T (a,p))=mpE T++[(MKey.s (keyS p),iv T.length)]:=by rw [hadd];show mpN _ 0=_;rw [Zy0,ZCg]
  have hrow:(addC T (a,p)).map qtA=T.map qtA++[.agg [.v (.bool (decide (a.num < 0))),lim (toL a.num.natAbs),lim (toL a.den),.sl 4 (p.map Qt.av)]]:=by rw [hadd,ZCb];rfl
  rw [hmp,hrow];clear hs ha b1 b2 hf hadd hmp hrow;refine Zbe func118 rfl ntmps118 results118 call118 zr zs ?_;generalize T.map qtA=TA at *;generalize mpE T=es at *;generalize hPA:p.map Qt.av=PA at *
  (repeat' (first|(with_reducible first|refine stp ?_|apply gx1|apply gx2|apply gx3|apply gx4|apply gx5|apply gx6|apply gx7|apply gy8|apply gz2|apply gz3|apply gw2 (ck))|(with_reducible refine Zcm ?_;intro _)|((with_reducible refine gE ?_);(try simp (disch:=omega) only [go_sem,mB,mM,mT,mP,Zcg,Zcw,hget,hal,hput,hlT,ZBw,ZBy,ZBo,ZBn,Int.reduceAdd,Int.reduceSub,Int.reduceToNat,ZB3])<;>first|rfl|omega)|with_reducible refine Zaj zd ?_|((with_reducible apply gy1);iterate 3 focus rfl)|((with_reducible apply gy2);iterate 3 focus rfl)|((with_reducible apply gy3);iterate 2 focus rfl)|((with_reducible apply gy4);iterate 1 focus rfl)|((with_reducible apply gy5);iterate 4 focus rfl)|((with_reducible apply gy5c);iterate 4 focus rfl)|((with_reducible apply gy6);iterate 4 focus rfl)|((with_reducible apply Zj8);iterate 3 focus rfl)|((with_reducible apply Zj7);iterate 1 focus rfl)|((with_reducible apply gy7);iterate 1 focus rfl)|((with_reducible apply gy9);(focus ((with_reducible refine gE ?_);(try simp (disch:=omega) only [go_sem,mB,mM,mT,mP,Zcg,Zcw,hget,hal,hput,hlT,ZBw,ZBy,ZBo,ZBn,Int.reduceAdd,Int.reduceSub,Int.reduceToNat,ZB3])<;>rfl)))|((with_reducible apply gz1);(focus first|rfl|(simp (disch:=omega) only [go_sem,mB,mM,mT,mP,Zcg,Zcw,hget,hal,hput,hlT,ZBw,ZBy,ZBo,ZBn,Int.reduceAdd,Int.reduceSub,Int.reduceToNat,ZB3];done)))|((with_reducible apply Zcl (id:=4) (Ze1 []) [] []);(focus kernel_rfl);(focus rfl);(focus kernel_rfl);(focus (simp only [ZB2,ZCe,Nat.reduceAdd];rfl)))|((with_reducible first|apply Zep|apply Zi0|apply Zer);all_goals (intro hc;(try simp only [bool_to_prop] at hc);try (exfalso;omega)))))
  refine r_frzD (Frz.own (d:=2) (k:=KP+1000) (sv:=svP) (ty:=91) (mm:=4) (es:=PA) (pub:=0) (gC) (by(simp (disch:=omega) only [go_sem,mP]<;>repeat' first|rfl|refine⟨?_,?_⟩))) ?_
  (refine wkax (w_10 mB mM mT mP @Zcg @Zcw hget hal hput hlT) w_t (w_2 (w_d 5 [] [10] []) (w_d 6 [] [9,2009,12] [])) w_t w_t w_t w_y (w_r 0) (w_s ?_);intros)
  simp (disch:=omega) only [go_sem];rename_i x1 x2 x3;refine Zie (Sub.refl _) ⟨x3,some (.row svP 91 4 PA PA.length),rfl,rfl⟩ ?_;refine Agr.put ?_ rfl rfl;refine Agr.put ?_ rfl rfl;refine Agr.own ?_ zo;refine Agr.put ?_ rfl rfl;rw [mP];refine Agr.put ?_ rfl rfl;refine Agr.own ?_ zo;exact Agr.start σ
end Go.Proofs.YtkefeinbjbeidaaGreatDoor
