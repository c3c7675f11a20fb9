/- Contracts of the functions that the law reaches, and the rules by which they are walked. They say what a call hands back for every input within the bounds that each names; no other condition. -/
import Derived.Test.YtjbjejmmnbdbiaaGreatBe8
import Derived.Shelf.SlSortCmp.NoneTotal
set_option linter.unusedSimpArgs false
set_option linter.unusedVariables false
set_option maxRecDepth 20000
set_option maxHeartbeats 16000000
namespace Go.Proofs.YtjbjejmmnbdbiaaGreat
open Go Go.RowKit Go.Pg Go.Pol Go.Proofs.Tryz
attribute [-bool_to_prop] Bool.and_eq_decide Bool.or_eq_decide Bool.decide_beq_decide decide_eq_decide
attribute [local go_sem] Zbw Zbp Zbu Za8 Zba Za9 Za6 Za7 Zcd Zcf Zby Zce Zfq Zfz Zel Zb7 Zcc Zdc Zem Zbq Zcp Zcr Zcw Zek Zcq Zej Zlf Zb2 Zb4 Zdh Zdi
def bigE (E:Nat→List Po) (i:Nat):Bool:=(E i).any λp=>decide (4000 < p.length)
def hypL (E:Nat→List Po):Nat→List Po
 | 0=>[]
 | i+1=>hypL E i++E i
theorem any_yes {E:Nat→List Po} {i n:Nat} (hi:i < n) (h:bigE E i=true):(List.range n).any (bigE E)=true:=List.any_eq_true.2 ⟨i,List.mem_range.2 hi,h⟩
theorem any_no {E:Nat→List Po} {n:Nat} (h:∀j,j < n→bigE E j=false):(List.range n).any (bigE E)=false:=by
 rw [List.any_eq_false];intro j hj;rw [h j (List.mem_range.1 hj)];simp
theorem rhOf (ss:List RS) (gs:List RG) (cs:List Pt) (vs:List Vt) (E:Nat→List Po) (hE:∀i,(E i).length≤10) (hl:ss.length≤1000)
 (co:Pure prog 91 [figA ss gs] (.tup [frmA cs vs,iv 0]))
 (hst:∀i,i < ss.length→Pure prog 141 [figA ss gs,frmA cs vs,iv i] (.tup [.sl 1 ((E i).map poA),iv 0])) :
 Pure prog 90 [figA ss gs] (if (List.range ss.length).any (bigE E)=true then .tup [.v (.slice none 0 0),iv 4] else .tup [.sl 1 ((hypL E ss.length).map poA),iv 0]):=by
 have co:Pure prog 91 [.agg [.sl 6 (ss.map RS.av),.sl 5 (gs.map RG.av)]] (.tup [.agg [.sl 2 (cs.map coA),.sl 3 (vs.map Vt.av)],iv 0]):=co;have hst:∀i,i < ss.length→Pure prog 141 [.agg [.sl 6 (ss.map RS.av),.sl 5 (gs.map RG.av)],.agg [.sl 2 (cs.map coA),.sl 3 (vs.map Vt.av)],iv i] (.tup [.sl 1 ((E i).map poA),iv 0]):=hst;have hls:(ss.map RS.av).length=ss.length:=Zyn ..;have hhl:∀i,i≤ss.length→(hypL E i).length≤10*i:=λi=>by
  induction i with
  | zero=>intro _;simp [hypL]
  | succ i ih =>
    intro h;have h1:=ih zo;have h2:=hE i;have h3:hypL E (i+1)=hypL E i++E i:=rfl;rw [h3,Zza];omega
 show Pure _ _ [.agg [.sl 6 (ss.map RS.av),.sl 5 (gs.map RG.av)]] _;generalize ss.map RS.av=M at *;generalize gs.map RG.av=N at *;generalize cs.map coA=C at *;generalize vs.map Vt.av=V at *;refine pI func90 rfl ntmps90 results90 call90 ?_;(focus (refine wkap (w_1 hls) (w_1 co) (w_r 0) ?_;(repeat' first|exact w_t|apply w_l);all_goals intros));rename_i g1 g4;refine Zc4 (Frz.nilOwn (d:=6) 47 1 157 (gC)) ?_;refine Zab (ι:=Nat) (λi e m=>i≤ss.length∧e 1=.pbox 1 g1 0∧m 1=some (.box g1 49 [.sl 6 M,.sl 5 N] false)∧e 4=.pbox 4 g4 0∧m 4=some (.box g4 62 [.sl 2 C,.sl 3 V] false)∧e 7=iv i∧(∃sv,e 6=.own 47 sv∧m 47=some (.row sv 157 1 ((hypL E i).map poA) 0))∧∀j,j < i→bigE E j=false) (λi=>ss.length - i) 0 zr ?_ ?_
 ·rintro i e m ⟨hi,e1,m1,e4,m4,e7,⟨sv,e6,m6⟩,hj⟩
  by_cases hlt:i < ss.length
  ·have cst:=hst i hlt;have hyes:bigE E i=true→(List.range ss.length).any (bigE E)=true:=any_yes hlt;have hnx:bigE E i=false→∀j,j < i+1→bigE E j=false:=λh j hjj=>by
    by_cases e:j=i
    ·rw [e];exact h
    ·exact hj j zo
   have hrow:(hypL E (i+1)).map poA=(hypL E i).map poA++(E i).map poA:=by show(hypL E i++E i).map poA=_;rw [Zzh]
   have hll:((hypL E i).map poA).length≤10000:=by rw [Zyn];have:=hhl i hi;omega
   have hbig:bigE E i=(E i).any λp=>decide (4000 < p.length):=rfl;have hle:=hE i;have hgE:∀y (h:y < (E i).length),((E i).map poA).getD y .u=.sl 4 ((E i)[y].map tmA):=λy h=>Zad poA h;have hlE:((E i).map poA).length=(E i).length:=Zyn ..;clear hst hhl hj co;generalize bigE E i=b at *;generalize (hypL E i).map poA=R at *;generalize (E i).map poA=LA at *;generalize hL:E i=L at *;(focus (refine wkap (w_9 e1 m1 e4 m4 e7 e6 m6 hls hlE) (w_1 cst) (w_r 0) ?_;(repeat' first|exact w_t|apply w_l);all_goals intros));refine Zab (ι:=Nat) (λy e m=>y≤L.length∧e 1=.pbox 1 g1 0∧m 1=some (.box g1 49 [.sl 6 M,.sl 5 N] false)∧e 4=.pbox 4 g4 0∧m 4=some (.box g4 62 [.sl 2 C,.sl 3 V] false)∧e 7=iv i∧e 6=.own 47 sv∧m 47=some (.row sv 157 1 R 0)∧e 8=.sl 1 LA∧e 10=iv y∧∀j (h:j < L.length),j < y→¬4000 < L[j].length) (λy=>L.length - y) 0 zr ?_ ?_
   ·rintro y e m ⟨hy,e1,m1,e4,m4,e7,e6,m6,e8,e10,hq⟩
    by_cases hly:y < L.length
    ·have hgy:=hgE y hly;have hpl:(L[y].map tmA).length=L[y].length:=Zyn ..;have hby:4000 < L[y].length→b=true:=λh=>by rw [hbig,List.any_eq_true];exact⟨L[y],Zy6 hly,by simpa using h⟩
     have hqx:¬4000 < L[y].length→∀j (h:j < L.length),j < y+1→¬4000 < L[j].length:=λh j hjj h2=>by
      by_cases e:j=y
      ·subst e;exact h
      ·exact hq j hjj zo
     clear hq hbig hgE hrow;generalize L[y].map tmA=P at *;by_cases h4:4000 < L[y].length
     ·rw [Zyk (hyes (hby h4))];clear hqx hby hnx hyes;(focus (refine wklp (w_13 e1 m1 e4 m4 e7 e6 m6 e8 e10 hls hlE hgy hpl) w_t w_t (w_r 0) ?_;(repeat' first|exact w_t|apply w_l);all_goals intros))
     ·have:=hqx h4;clear hqx hby hnx hyes;(focus (refine wkap (w_13 e1 m1 e4 m4 e7 e6 m6 e8 e10 hls hlE hgy hpl) w_t (w_r 0) ?_;(repeat' first|exact w_t|apply w_l);all_goals intros));exact⟨y+1,⟨zo,gW e1,gW m1,gW e4,gW m4,gW e7,gW e6,gW m6,gW e8,gS,this⟩,zo⟩
    ·have hb:b=false:=by
      rw [hbig,List.any_eq_false];intro x hx;obtain⟨j,hjl,rfl⟩:=List.mem_iff_getElem.1 hx;have:=hq j hjl zo
      simpa using this
     have:=hnx hb;clear hq hbig hgE hnx hyes hb;(focus (refine wkap (w_11 e1 m1 e4 m4 e7 e6 m6 e8 e10 hls hlE) w_t (w_r 0) ?_;(repeat' first|exact w_t|apply w_l);all_goals intros));exact⟨i+1,⟨zo,gW e1,gW m1,gW e4,gW m4,gS,⟨_,gC,by rw [hrow];exact gC⟩,this⟩,zo⟩
   ·exact⟨Zyv _,gW e1,gW m1,gW e4,gW m4,gW e7,gW e6,gW m6,gC,gC,λj h h2=>zo⟩
  ·have hin:i=ss.length:=zo;subst hin;rw [Zyj (by rw [any_no hj];simp)];clear hst hhl hj co;generalize (hypL E ss.length).map poA=R at *;(focus (refine wklp (w_8 e1 m1 e4 m4 e7 e6 m6 hls) w_t (w_1 m6) (w_r 0) ?_;(repeat' first|exact w_t|apply w_l);all_goals intros))
 ·exact⟨Zyv _,gC,gC,gC,gC,gC,⟨_,gC,by(simp (disch:=omega) only [go_sem,hypL,Zzx]<;>repeat' first|rfl|refine⟨?_,?_⟩)⟩,λj h=>zo⟩
theorem rcFrame1 (ss:List RS) (gs:List RG) (cR:Pure prog 13 [figA ss gs] (iv 0)) (ho:FigOk ss) :
 Pure prog 91 [figA ss gs] (if (List.range ss.length).any (bigN ss)=true then .tup [.agg [.v (.slice none 0 0),.v (.slice none 0 0)],iv 4] else .tup [frmA (frN ss ss.length).cs (frN ss ss.length).vs,iv 0]):=by
 have cR:Pure prog 13 [.agg [.sl 6 (ss.map RS.av),.sl 5 (gs.map RG.av)]] (iv 0):=cR;show Pure _ _ [.agg [.sl 6 (ss.map RS.av),.sl 5 (gs.map RG.av)]] _;have hg:∀i (h:i < ss.length),(ss.map RS.av).getD i .u=ss[i].av:=λi h=>Zad RS.av h;have hls:(ss.map RS.av).length=ss.length:=Zyn ..;have hlen:=ho.len;have hN:∀(i:Nat) (hlt:i < ss.length) (svC svV:Value) (m':Mem),m' 21=some (.row svV 275 3 ((frN ss i).vs.map Vt.av) 0)→m' 20=some (.row svC 203 2 ((frN ss i).cs.map coA) 0)→(frN ss i).vs.length≤64→StOk (frN ss i).cs ss[i]→(∀c∈(frN ss i).cs,Co c.1∧Co c.2) →
  ACall prog 142 [.agg [.own 20 svC,.own 21 svV],.agg [.sl 6 (ss.map RS.av),.sl 5 (gs.map RG.av)],iv i,iv (frN ss i).fr] m' λr σ'=>∃sv,r=.tup [.agg [.own 20 svC,.own 21 sv],coA ((frN ss i).nxt i ss[i]).2]∧σ'=upd m' 21 (some (.row sv 275 3 (((frN ss i).vs++((frN ss i).nxt i ss[i]).1).map Vt.av) 0)) :=
  λi hlt svC svV m' hV hC h1 h2 h3=>rcNext m' 20 21 svC svV (frN ss i).cs (frN ss i).vs (frN ss i).fr i ss gs ss[i] hlt rfl hV hC zo h1 (by have:=Zxq ss i;omega) zo h2 h3
 generalize ss.map RS.av=M at *;generalize gs.map RG.av=N at *;refine pI func91 rfl ntmps91 results91 call91 ?_;(focus (refine wkap (w_1 hls) (w_1 cR) (w_r 0) ?_;(repeat' first|exact w_t|apply w_l);all_goals intros));rename_i g1 g2 g5;refine Zc4 (Frz.nilBox (k:=5) 0 20 2 203 (gC) rfl zo) ?_;refine Zc4 (Frz.nilBox (k:=5) 1 21 3 275 (gC) rfl zo) ?_;refine Zab (ι:=Nat) (λi e m=>i≤ss.length∧e 1=.pbox 1 g1 0∧m 1=some (.box g1 49 [.sl 6 M,.sl 5 N] false)∧e 2=.pbox 2 g2 0∧m 2=some (.box g2 62 [.v (.slice none 0 0),.v (.slice none 0 0)] false)∧e 5=.pbox 5 g5 0∧e 6=iv (frN ss i).fr∧e 18=.sl 6 M∧e 19=iv ss.length∧e 20=iv i∧(∃svC svV,m 5=some (.box g5 62 [.own 20 svC,.own 21 svV] false)∧m 20=some (.row svC 203 2 ((frN ss i).cs.map coA) 0)∧m 21=some (.row svV 275 3 ((frN ss i).vs.map Vt.av) 0))∧∀j,j < i→bigN ss j=false) (λi=>ss.length - i) 0 zr ?_ ?_
 ·rintro i e m ⟨hi,e1,m1,e2,m2,e5,e6,e18,e19,e20,⟨svC,svV,m5,m20,m21⟩,hbig⟩
  by_cases hlt:i < ss.length
  ·have hgi:=hg i hlt;obtain⟨D,hD,hn⟩:=ho.fi hi hbig;have hco:=hD.co hn;have hst:=ho.st hlt;have hfr:=Zxq ss i;have hnv:=hD.nv;have hb:=Zyb hlt;have hsu:=Zik hlt;have hn3:=Zr5 (frN ss i) i ss[i];have hcl:=Zhy ss i;have hst2:=λm' hV hC=>hN i hlt svC svV m' hV hC hnv hst hco;clear hD hco hst hN hg cR;generalize hs:ss[i]=s at *;generalize hf:frN ss i=f at *;generalize hx:f.nxt i s=nx at *;obtain⟨nv,c1,c2⟩:=nx;obtain⟨k,nm,ar,⟨rs,rl,rd⟩⟩:=s;obtain⟨cs,vs,fr⟩:=f;simp only at *;(focus (refine wkap (w_14 e1 m1 e2 m2 e5 e6 e18 e19 e20 m5 m20 m21 hgi hls) w_t (w_r 0) ?_;(repeat' first|exact w_t|apply w_l);all_goals intros))
   refine Zcm (hst2 _ (gW m21) (gW m20)) ?_;intro sv;have hvl:((vs++nv).map Vt.av).length=(vs++nv).length:=Zyn ..;have hvl2:(vs++nv).length≤67:=by rw [Zza];omega
   have hnx:∀j,j < i+1→bigN ss i=false→bigN ss j=false:=λj hj h=>by
    by_cases e:j=i
    ·rw [e];exact h
    ·exact hbig j zo
   have hany:bigN ss i=true→(List.range ss.length).any (bigN ss)=true:=λh=>List.any_eq_true.2 ⟨i,List.mem_range.2 hlt,h⟩;generalize vs++nv=vs2 at *;have hc1:(c1.map tmA).length=c1.length:=Zyn ..;have hc2:(c2.map tmA).length=c2.length:=Zyn ..;have hcsl:(cs.map coA).length=cs.length:=Zyn ..;by_cases b1:64 < vs2.length
   ·rw [Zyk (hany (by rw [hb];simp [b1]))];(focus (refine wklp (w_12 e1 e2 m2 e5 e6 e18 e19 e20 m5 m20 hvl hls) w_t (w_1 e2) (w_r 0) ?_;(repeat' first|exact w_t|apply w_l);all_goals intros))
   ·by_cases b2:4000 < c1.length
    ·rw [Zyk (hany (by rw [hb];simp [b2]))];(focus (refine wklp (w_13 e1 e2 m2 e5 e6 e18 e19 e20 m5 m20 hvl hc1 hls) w_t (w_1 e2) (w_r 0) ?_;(repeat' first|exact w_t|apply w_l);all_goals intros))
    ·by_cases b3:4000 < c2.length
     ·rw [Zyk (hany (by rw [hb];simp [b3]))];(focus (refine wklp (w_14 e1 e2 m2 e5 e6 e18 e19 e20 m5 m20 hvl hc1 hc2 hls) w_t (w_1 e2) (w_r 0) ?_;(repeat' first|exact w_t|apply w_l);all_goals intros))
     ·have hbf:bigN ss i=false:=by rw [hb];simp [b1,b2,b3]
      clear hany;by_cases k1:k=1
      ·subst k1;(focus (refine wkap (w_15 e1 e2 m2 e5 e6 e18 e19 e20 m5 m20 hvl hc1 hc2 hcsl hls) w_t (w_r 0) ?_;(repeat' first|exact w_t|apply w_l);all_goals intros));rename_i svC2;refine⟨i+1,⟨zo,gW e1,gW m1,gW e2,gW m2,gW e5,by(rw [hsu];exact gS),gW e18,gW e19,gS,⟨svC2,sv,?_,?_,?_⟩,λj hj=>hnx j hj hbf⟩,zo⟩
       ·(simp (disch:=omega) only [go_sem,List.set_cons_zero]<;>repeat' first|rfl|refine⟨?_,?_⟩)
       ·rw [hsu,Zzh];exact gC
       ·rw [hsu];exact gC
      ·(focus (refine wkap (w_15 e1 e2 m2 e5 e6 e18 e19 e20 m5 m20 hvl hc1 hc2 hcsl hls) w_t (w_r 0) ?_;(repeat' first|exact w_t|apply w_l);all_goals intros));rename_i svC2;refine⟨i+1,⟨zo,gW e1,gW m1,gW e2,gW m2,gW e5,by(rw [hsu];simp only [Zyj k1];exact gW e6),gW e18,gW e19,gS,⟨svC2,sv,?_,?_,?_⟩,λj hj=>hnx j hj hbf⟩,zo⟩
       ·(simp (disch:=omega) only [go_sem,List.set_cons_zero]<;>repeat' first|rfl|refine⟨?_,?_⟩)
       ·rw [hsu,Zzh];exact gC
       ·rw [hsu];exact gC
  ·have hin:i=ss.length:=zo;subst hin
   have hno:¬(List.range ss.length).any (bigN ss)=true:=by
    rw [List.any_eq_true]
    rintro ⟨j,hj,hb⟩
    rw [hbig j (List.mem_range.1 hj)] at hb;cases hb
   rw [Zyj hno];clear hN hg;generalize (frN ss ss.length).fr=fr at *;generalize (frN ss ss.length).cs=cs at *;generalize (frN ss ss.length).vs=vs at *;(focus (refine wklp (w_12 e1 e2 m2 e5 e6 e18 e19 e20 m5 m20 m21 hls) w_t (w_5 e2 m2 m5 m20 m21) (w_r 0) ?_;(repeat' first|exact w_t|apply w_l);all_goals intros))
 ·exact⟨Zyv _,gC,gC,gC,gC,gC,by(simp (disch:=omega) only [go_sem,frN]<;>repeat' first|rfl|refine⟨?_,?_⟩),gC,gW hls,gC,⟨_,_,by(simp (disch:=omega) only [go_sem,List.set_cons_zero,List.set_cons_succ,frN]<;>repeat' first|rfl|refine⟨?_,?_⟩),by(simp (disch:=omega) only [go_sem,frN,Zzx]<;>repeat' first|rfl|refine⟨?_,?_⟩),by(simp (disch:=omega) only [go_sem,frN,Zzx]<;>repeat' first|rfl|refine⟨?_,?_⟩)⟩,λj hj=>zo⟩
abbrev Pr:=Int × Int
def prA (p:Pr):AV:=.agg [iv p.1,iv p.2]
def Zdd (k:Int):List Pr :=
 if k=2∨k=5∨k=12∨k=10 then [(0,1)] else if k=8 then [(1,2)] else if k=3∨k=4∨k=7 then [(1,2),(0,-1)] else if k=9 then [(0,1),(2,3)] else if k=14 then [(0,1),(0,-1),(1,-1)] else []
def Zde (k:Int):List Pr :=
 if k=1 then [(0,1),(1,2)] else if k=2∨k=3∨k=4∨k=9 then [(0,1),(2,3)] else if k=5 then [(1,2)] else if k=7 then [(0,1),(2,3),(4,5),(6,7)] else []
def atN (i:Int) (ar:List Int) (k:Int):Int:=if k < 0 then i else gI ar k.toNat
def Zhh (i:Nat) (s:RS):List Pr:=(Zdd s.k).map λp=>(atN i s.ar p.1,atN i s.ar p.2)
def Zhm (g:RG):List Pr:=(Zde g.k).map λp=>(gI g.ar p.1.toNat,gI g.ar p.2.toNat)
def Zb8 (ss:List RS):Nat→List Pr
 | 0=>[]
 | i+1=>Zb8 ss i++(match ss[i]? with | some s=>Zhh i s | none=>[])
def Zcz (gs:List RG):Nat→List Pr
 | 0=>[]
 | i+1=>Zcz gs i++(match gs[i]? with | some g=>Zhm g | none=>[])
def Zdg (ss:List RS) (gs:List RG):List Pr:=Zb8 ss ss.length++Zcz gs gs.length
theorem Zi5 {ss:List RS} {i:Nat} (h:i < ss.length):Zb8 ss (i+1)=Zb8 ss i++Zhh i ss[i]:=by
 unfold Zb8;rw [Zym h];cases i<;>rfl
theorem Zjc {gs:List RG} {i:Nat} (h:i < gs.length):Zcz gs (i+1)=Zcz gs i++Zhm gs[i]:=by
 unfold Zcz;rw [Zym h];cases i<;>rfl
def ori (p:Pr):List Pr:=if p.1 < p.2 then [p] else if p.1 > p.2 then [(p.2,p.1)] else []
def oris (l:List Pr):List Pr:=l.flatMap ori
def cmpP (p q:Pr):Int:=if p.1≠q.1 then p.1 - q.1 else p.2 - q.2
theorem Zpf (x y:Pr):cmpP x x=0∧(cmpP x y < 0↔0 < cmpP y x):=by
 unfold cmpP;refine⟨by simp,?_⟩;by_cases h:x.1=y.1
 ·rw [Zyj (by simpa using h),Zyj (by simpa using h.symm)];omega
 ·rw [Zyk h,Zyk (ZAu h)];omega
theorem cmpP_2 (x y z:Pr) (h1:cmpP x y≤0) (h2:cmpP y z≤0):cmpP x z≤0:=by
 unfold cmpP at *;by_cases a:x.1=y.1<;>by_cases b:y.1=z.1
 ·rw [Zyj (by simpa using a)] at h1;rw [Zyj (by simpa using b)] at h2;rw [Zyj (by simp [a,b])];omega
 ·rw [Zyj (by simpa using a)] at h1;rw [Zyk b] at h2;rw [Zyk (by rw [a];exact b)];omega
 ·rw [Zyk a] at h1;rw [Zyj (by simpa using b)] at h2;rw [Zyk (by rw [←b];exact a)];omega
 ·rw [Zyk a] at h1;rw [Zyk b] at h2;have:x.1≠z.1:=zo;rw [Zyk this];omega
theorem Zx2 {x y:Pr} (h:cmpP x y=0):x=y:=by
 unfold cmpP at h;by_cases a:x.1=y.1
 ·rw [Zyj (by simpa using a)] at h;exact Prod.ext a zo
 ·rw [Zyk a] at h;omega
def Za0:List Pr→List Pr
 | []=>[]
 | [a]=>[a]
 | a :: b :: r=>if a=b then Za0 (b :: r) else a :: Za0 (b :: r)
theorem Zk3:∀(l:List Pr) (x:Pr),x∈Za0 l↔x∈l
 | [],x=>Iff.rfl
 | [a],x=>Iff.rfl
 | a :: b :: r,x=>by
   unfold Za0;have ih:=Zk3 (b :: r) x;split
   ·rename_i h;rw [ih,h];simp
   ·rw [Zz8,ih,Zz8,Zz8,Zz8]
theorem Zjf:∀(l:List Pr),l.Pairwise (λx y=>cmpP x y≤0)→(Za0 l).Pairwise λx y=>cmpP x y < 0
 | [],_=>.nil
 | [a],_=>by unfold Za0;simp
 | a :: b :: r,h=>by
   unfold Za0;have h2:=(List.pairwise_cons.1 h).2;have ih:=Zjf (b :: r) h2;split
   ·exact ih
   ·rename_i hab;refine List.pairwise_cons.2 ⟨λy hy=>?_,ih⟩;have hy:=(Zk3 (b :: r) y).1 hy;have h1:=(List.pairwise_cons.1 h).1 y hy;have hb:cmpP a b≤0:=(List.pairwise_cons.1 h).1 b (Zzw ..);rcases Int.lt_or_eq_of_le h1 with h3 | h3
    ·exact h3
    ·exfalso;have e:=Zx2 h3;subst e;rcases List.mem_cons.1 hy with e | hy
     ·exact hab e
     ·have h4:=(List.pairwise_cons.1 h2).1 a hy;have h5:=(Zpf b a).2;rcases Int.lt_or_eq_of_le h4 with h6 | h6
      ·have:=h5.1 h6;omega
      ·exact hab (Zx2 h6).symm
theorem Znz:∀(l m:List Pr),l.Pairwise (λx y=>cmpP x y < 0)→m.Pairwise (λx y=>cmpP x y < 0)→(∀x,x∈l↔x∈m)→l=m
 | [],[],_,_,_=>rfl
 | [],b :: m,_,_,h=>by have:=(h b).2 (Zzw ..);cases this
 | a :: l,[],_,_,h=>by have:=(h a).1 (Zzw ..);cases this
 | a :: l,b :: m,hl,hm,h=>by
   obtain⟨l1,l2⟩:=List.pairwise_cons.1 hl;obtain⟨m1,m2⟩:=List.pairwise_cons.1 hm
   have e:a=b:=by
    rcases List.mem_cons.1 ((h a).1 (Zzw ..)) with e | ha
    ·exact e
    ·rcases List.mem_cons.1 ((h b).2 (Zzw ..)) with e | hb
     ·exact e.symm
     ·have h1:=l1 b hb;have h2:=m1 a ha;have:=(Zpf a b).2.1 h1;omega
   subst e;rw [Znz l m l2 m2 λx=>?_];constructor
   ·intro hx;rcases List.mem_cons.1 ((h x).1 (ZAd _ hx)) with e | h3
    ·subst e;have:=l1 x hx;rw [(Zpf x x).1] at this;omega
    ·exact h3
   ·intro hx;rcases List.mem_cons.1 ((h x).2 (ZAd _ hx)) with e | h3
    ·subst e;have:=m1 x hx;rw [(Zpf x x).1] at this;omega
    ·exact h3
def hasB (all:List Pr) (i k:Nat):Bool:=decide (((i:Int),(k:Int))∈all) || decide (((k:Int),(i:Int))∈all)
def Zp3 (all:List Pr) (i:Nat):Nat→List Pr
 | 0=>[]
 | k+1=>Zp3 all i k++(if hasB all i (i+1+k) then [((i:Int),((i+1+k:Nat):Int))] else [])
def Zmq (all:List Pr) (n:Nat):Nat→List Pr
 | 0=>[]
 | i+1=>Zmq all n i++Zp3 all i (n - (i+1))
theorem Zh8 (all:List Pr) (i:Nat):∀(m:Nat) (x:Pr),x∈Zp3 all i m↔∃k,i < k∧k < i+1+m∧hasB all i k=true∧x=((i:Int),(k:Int))
 | 0,x=>by
   unfold Zp3;constructor
   ·intro h;cases h
   ·rintro ⟨k,h1,h2,_⟩;omega
 | m+1,x=>by
   unfold Zp3;rw [ZBc,Zh8 all i m x];constructor
   ·rintro (⟨k,h1,h2,h3,h4⟩ | h)
    ·exact⟨k,h1,zo,h3,h4⟩
    ·split at h
     ·rename_i hh;simp only [ZAr] at h;exact⟨i+1+m,zo,zo,hh,h⟩
     ·cases h
   ·rintro ⟨k,h1,h2,h3,h4⟩
    by_cases hk:k=i+1+m
    ·subst hk;right;rw [Zyk h3];simp [h4]
    ·left;exact⟨k,h1,zo,h3,h4⟩
theorem Zke (all:List Pr) (n:Nat):∀(m:Nat) (x:Pr),x∈Zmq all n m↔∃i k:Nat,i < m∧i < k∧k < n∧hasB all i k=true∧x=((i:Int),(k:Int))
 | 0,x=>by
   unfold Zmq;constructor
   ·intro h;cases h
   ·rintro ⟨i,k,h1,_⟩;omega
 | m+1,x=>by
   unfold Zmq;rw [ZBc,Zke all n m x,Zh8];constructor
   ·rintro (⟨i,k,h1,h2,h3,h4,h5⟩ | ⟨k,h1,h2,h3,h4⟩)
    ·exact⟨i,k,zo,h2,h3,h4,h5⟩
    ·exact⟨m,k,zo,h1,zo,h3,h4⟩
   ·rintro ⟨i,k,h1,h2,h3,h4,h5⟩
    by_cases hi:i=m
    ·subst hi;right;exact⟨k,h2,zo,h4,h5⟩
    ·left;exact⟨i,k,zo,h2,h3,h4,h5⟩
theorem Zi6 (all:List Pr) (i:Nat):∀m,(Zp3 all i m).Pairwise λx y=>cmpP x y < 0
 | 0=>.nil
 | m+1=>by
   unfold Zp3;refine List.pairwise_append.2 ⟨Zi6 all i m,by split<;>simp,λx hx y hy=>?_⟩;obtain⟨k,h1,h2,h3,rfl⟩:=(Zh8 all i m x).1 hx;split at hy
   ·simp only [ZAr] at hy;subst hy;unfold cmpP;simp only [ne_eq,not_true_eq_false,Zy8];omega
   ·cases hy
theorem Zi8 (all:List Pr) (n:Nat):∀m,(Zmq all n m).Pairwise λx y=>cmpP x y < 0
 | 0=>.nil
 | m+1=>by
   unfold Zmq;refine List.pairwise_append.2 ⟨Zi8 all n m,Zi6 all m _,λx hx y hy=>?_⟩;obtain⟨i,k,h1,h2,h3,h4,rfl⟩:=(Zke all n m x).1 hx;obtain⟨k',h1',h2',h3',rfl⟩:=(Zh8 all m _ y).1 hy;unfold cmpP;simp only;rw [Zyk zo];omega
theorem Zr3 {l:List Pr} {x:Pr}:x∈oris l↔x.1 < x.2∧(x∈l∨(x.2,x.1)∈l):=by
 unfold oris;rw [List.mem_flatMap];constructor
 ·rintro ⟨p,hp,hx⟩
  unfold ori at hx;split at hx
  ·simp only [ZAr] at hx;subst hx;exact⟨by assumption,.inl hp⟩
  ·split at hx
   ·simp only [ZAr] at hx;subst hx;exact⟨by simp only;omega,.inr hp⟩
   ·cases hx
 ·rintro ⟨h1,h | h⟩
  ·exact⟨x,h,by unfold ori;rw [Zyk h1];simp⟩
  ·exact⟨(x.2,x.1),h,by unfold ori;simp only;rw [Zyj zo,Zyk h1];simp⟩
theorem lines_eq {all l:List Pr} {n:Nat} (hb:∀p∈all,0≤p.1∧p.1 < n∧0≤p.2∧p.2 < n) (hp:l.Perm (oris all)) (hs:l.Pairwise λx y=>cmpP x y≤0):Za0 l=Zmq all n n:=by
 refine Znz _ _ (Zjf l hs) (Zi8 all n n) λx=>?_;rw [Zk3,hp.mem_iff,Zr3,Zke];constructor
 ·rintro ⟨h1,h⟩
  have hx:0≤x.1∧x.1 < n∧0≤x.2∧x.2 < n:=by
   rcases h with h | h
   ·exact hb x h
   ·obtain⟨a,b,c,d⟩:=hb _ h;exact⟨c,d,a,b⟩
  obtain⟨a,b,c,d⟩:=hx;have e1:((x.1.toNat:Nat):Int)=x.1:=ZBg a;have e2:((x.2.toNat:Nat):Int)=x.2:=ZBg c;refine⟨x.1.toNat,x.2.toNat,zo,zo,zo,?_,by rw [e1,e2]⟩;unfold hasB;rw [e1,e2];rcases h with h | h
  ·simp [h]
  ·simp [h]
 ·rintro ⟨i,k,h1,h2,h3,h4,rfl⟩
  refine⟨by simp only;omega,?_⟩;unfold hasB at h4;simp only [ZAc,Zzi] at h4;exact h4
theorem rg2 (t:TypeId):List.map (λi=>(t,i*1)) (List.range 0++[0]++[1])=[(t,0),(t,1)]:=rfl
theorem Zh5:szOf prog 40=some 1:=by kernel_rfl
theorem Zme:Zaq prog 40=some (.slice none 0 0):=by kernel_rfl
theorem Znx:szOf prog 86=some 1:=by kernel_rfl
attribute [go_sem] underlying86
attribute [local go_sem] eqP2 Zh5 Zme Znx rg2
def Zrj (k:Int):AV :=
 if k=2∨k=5∨k=12∨k=10 then .sl 2 [.agg [iv 0,iv 1]] else if k=8 then .sl 2 [.agg [iv 1,iv 2]] else if k=3∨k=4∨k=7 then .sl 2 [.agg [iv 1,iv 2],.agg [iv 0,iv (-1)]] else if k=9 then .sl 2 [.agg [iv 0,iv 1],.agg [iv 2,iv 3]] else if k=14 then .sl 2 [.agg [iv 0,iv 1],.agg [iv 0,iv (-1)],.agg [iv 1,iv (-1)]] else .v (.slice none 0 0)
theorem Zmg {c:Prop} [Decidable c] {a b:AV} {l m:List Pr} (h1:Vk a (.sl 2 (l.map prA))) (h2:Vk b (.sl 2 (m.map prA))):Vk (if c then a else b) (.sl 2 ((if c then l else m).map prA)):=by
 split
 ·exact h1
 ·exact h2
theorem sidesV (k:Int):Vk (Zrj k) (.sl 2 ((Zdd k).map prA)):=by
 unfold Zrj Zdd;exact Zmg (.refl _) (Zmg (.refl _) (Zmg (.refl _) (Zmg (.refl _) (Zmg (.refl _) (.nil 2)))))
theorem drSides (k:Int):Pure prog 36 [iv k] (.sl 2 ((Zdd k).map prA)):=by
 refine Zcj (r:=Zrj k) ?_ (sidesV k);refine pI func36 rfl ntmps36 results36 call36 ?_;(focus (refine wkad w_t w_t w_t ?_;(repeat' first|exact w_t|apply w_l);all_goals intros));all_goals (all_goals (try simp (disch:=omega) only [go_sem,Zrj,Zyo,Zyl,Zyk,Zyj,Int.reduceAdd,Int.reduceSub,Int.reduceToNat,Zyw]));(all_goals first|done|rfl|(congr 2;first|done|omega|(rw [Zzg];simp only [bool_to_prop,Zyy,Zzn,Zzo,Zzp,Zzq];omega))|skip)
def Zr2 (k:Int):AV :=
 if k=1 then .sl 2 [.agg [iv 0,iv 1],.agg [iv 1,iv 2]] else if k=2∨k=3∨k=4∨k=9 then .sl 2 [.agg [iv 0,iv 1],.agg [iv 2,iv 3]] else if k=5 then .sl 2 [.agg [iv 1,iv 2]] else if k=7 then .sl 2 [.agg [iv 0,iv 1],.agg [iv 2,iv 3],.agg [iv 4,iv 5],.agg [iv 6,iv 7]] else .v (.slice none 0 0)
theorem partsV (k:Int):Vk (Zr2 k) (.sl 2 ((Zde k).map prA)):=by
 unfold Zr2 Zde;exact Zmg (.refl _) (Zmg (.refl _) (Zmg (.refl _) (Zmg (.refl _) (.nil 2))))
theorem drParts (k:Int):Pure prog 37 [iv k] (.sl 2 ((Zde k).map prA)):=by
 refine Zcj (r:=Zr2 k) ?_ (partsV k);refine pI func37 rfl ntmps37 results37 call37 ?_;(focus (refine wkad w_t w_t w_t ?_;(repeat' first|exact w_t|apply w_l);all_goals intros));all_goals (all_goals (try simp (disch:=omega) only [go_sem,Zr2,Zyo,Zyl,Zyk,Zyj,Int.reduceAdd,Int.reduceSub,Int.reduceToNat,Zyw]));(all_goals first|done|rfl|(congr 2;first|done|omega|(rw [Zzg];simp only [bool_to_prop,Zyy,Zzn,Zzo,Zzp,Zzq];omega))|skip)
theorem drAt (i k k0:Int) (nm:ByteArray) (ar:List Int) (bo:Bool) (l d:List Nat) (hk:k < (ar.length:Int)):Pure prog 77 [iv k,.pimm [iv i],.pimm [iv k0,strA nm,ivs ar,.v (.bool bo),lim l,lim d]] (iv (atN i ar k)):=by
 have hll:(ar.map iv).length=ar.length:=Zyn ..;unfold atN;by_cases h:k < 0
 ·rw [Zyk h];refine pI func77 rfl ntmps77 results77 call77 ?_;(focus (refine wkad (w_1 h) w_t w_t ?_;(repeat' first|exact w_t|apply w_l);all_goals intros));all_goals exact gL
 ·rw [Zyj h];have hg:(ar.map iv).getD k.toNat .u=iv (gI ar k.toNat):=by rw [Zad iv zo,Zf8 zo]
  refine pI func77 rfl ntmps77 results77 call77 ?_;(focus (refine wkad (w_3 h hll hg) w_t w_t ?_;(repeat' first|exact w_t|apply w_l);all_goals intros));all_goals exact gL
abbrev fnV (f:FuncId):Value:=.func (.func f) #[] #[]
theorem rd_fnV {w:World} {imm:Imm} {f:FuncId} {x:Value} (h:Rd w imm (.fn f []) x):Rd w imm (.v (fnV f)) x:=by
 cases h with
 | fn _ _ vs hl _ =>
   obtain rfl:vs=#[]:=Array.eq_empty_of_size_eq_zero (by simpa using hl.symm);exact .v _
theorem rd_Vfn {w:World} {imm:Imm} {f:FuncId} {x:Value} (h:Rd w imm (.v (fnV f)) x):Rd w imm (.fn f []) x:=by
 cases h;exact .fn f [] #[] rfl λj a x h1 _=>by simp at h1
theorem Zu1 (f:FuncId):Sub (.pimm [.v (fnV f)]) (.pimm [.fn f []]):=λw imm x hx=>by
 obtain⟨ad,g,rfl,h1,h2⟩:=hx.pimm_inv;refine .pure (.pimm _ ad g h1 λj a ha=>?_)
 match j with
 | 0=>simp only [ZB6,Option.some.injEq] at ha;subst ha;exact rd_Vfn (h2 0 _ rfl)
 | j+1=>simp at ha
theorem Zsm (M N:List AV) (f g:FuncId):Pure prog 35 [.agg [.sl 6 M,.sl 5 N],.v (fnV f),.v (fnV g)] (.fn 76 [.pimm [.sl 6 M,.sl 5 N],.pimm [.v (fnV f)],.pimm [.v (fnV g)]]):=by
 refine pI func35 rfl ntmps35 results35 call35 ?_;(focus (refine wkad w_t w_t w_t ?_;(repeat' first|exact w_t|apply w_l);all_goals intros));all_goals exact gL
theorem drPairs (M N:List AV) (f g:FuncId):Pure prog 35 [.agg [.sl 6 M,.sl 5 N],.fn f [],.fn g []] (.fn 76 [.pimm [.sl 6 M,.sl 5 N],.pimm [.v (fnV f)],.pimm [.v (fnV g)]]):=by
 refine⟨(Zsm M N f g).1,λw imm vs him hl hr=>(Zsm M N f g).2 w imm vs him hl λj a x h1 h2=>?_⟩
 match j with
 | 0=>simp only [ZB6,Option.some.injEq] at h1;subst h1;exact hr 0 _ x rfl h2
 | 1=>simp only [ZCn,ZB6,Option.some.injEq] at h1;subst h1;exact rd_fnV (hr 1 _ x rfl h2)
 | 2=>simp only [ZCn,ZB6,Option.some.injEq] at h1;subst h1;exact rd_fnV (hr 2 _ x rfl h2)
 | j+3=>simp at h1
theorem Zyf {P:Program} {f:FuncId} {args args':List AV} {σ:Mem} {R:AV→Mem→Prop} (hs:Subs args args') (h:ACall P f args' σ R):ACall P f args σ R :=
 ⟨h.1,λc w imm vs hm hl hr=>h.2 c w imm vs hm (by rw [←hs.len];exact hl) λj a x h1 h2=>by
  have hj:j < args.length:=by rw [hs.len];exact(List.getElem?_eq_some_iff.1 h1).1
  exact hs.get j args[j] a (Zym hj) h1 w imm x (hr j args[j] x (Zym hj) h2)⟩
theorem Zm0 {P:Program} {f:FuncId} {args:List AV} {e:Nat→AV} {m:Mem} {t d:Nat} {K:St→Prop} {R:AV→Mem→Prop} (c:ACall P f args m R) (h:∀r σ',R r σ'→K ⟨upd e d r,σ'⟩):aRes P t (some d) (.call f args) K ⟨e,m⟩:=c.mono h
theorem Zl3 {P:Program} {n:Nat} {K:St→Prop} {st:St} (h:K st):Zji P n [] K st:=h
theorem Frz.pub {n:Nat} {e:Nat→AV} {m:Mem} {d:Nat} {a:AV} (he:e d=a) (ho:Zfs (marks m a.toks) a):Frz n ⟨e,m⟩ ⟨upd e d (pubV (marks m a.toks) a),marks m a.toks⟩:=λc ac w imm h=>by
 obtain⟨i',hm,hk⟩:=Zc1 a.toks h.mem;refine⟨i',λt=>?_,h.size,h.defers,hm⟩;show Rs w i' (upd e d (pubV (marks m a.toks) a) t) (ac.tmps.getD t undef);rw [Zal];split
 ·rename_i ht;subst ht;have:=h.env t;rw [show(⟨e,m⟩:St).env t=a from he] at this;exact .pure (Zgc hm (hk.rs this) ho)
 ·exact hk.rs (h.env t)
theorem Zgu {P:Program} {t:TypeId} {w:World} (h:(P.underlying t).map Zfv=some false):(isAgg t).run P w=.ok false w:=by
 obtain⟨d,hd,h⟩:=Option.map_eq_some_iff.1 h;simp only [isAgg,Zy3,Zy4 hd,Zy2];cases d<;>first|rfl|cases h
theorem ag_st {P:Program} {t:TypeId} {w:World} (h:(P.underlying t).map Zfv=some true):(isAgg t).run P w=.ok true w:=by
 obtain⟨d,hd,h⟩:=Option.map_eq_some_iff.1 h;simp only [isAgg,Zy3,Zy4 hd,Zy2];cases d<;>first|rfl|cases h
def ppR:Go.Shelf.Ren:=⟨fun | 14=>124 | 15=>125 | 20=>166 | 21=>167 | 22=>168 | 23=>169 | 24=>170 | 25=>171 | 26=>172 | 27=>173 | 28=>174 | 29=>175 | 46=>207 | 47=>208 | 48=>209 | 49=>210 | 50=>211 | 57=>229 | n=>n,fun | 0=>0 | 3=>3 | 4=>4 | 5=>5 | 9=>9 | 22=>40 | 24=>54 | 25=>124 | 39=>172 | 45=>224 | 46=>225 | 50=>229 | 53=>171 | 55=>94 | 66=>259 | 70=>263 | 76=>282 | 77=>283 | n=>n,λn=>n⟩
theorem ppL:Go.Proofs.SlLaysF0.n14 prog ppR:={
 mixed:=by kernel_rfl
 f14:=⟨f124.name,by decide,by kernel_rfl⟩
 f15:=by kernel_rfl
 f20:=⟨f166.name,by decide,by kernel_rfl⟩
 f21:=⟨f167.name,by decide,by kernel_rfl⟩
 f22:=⟨f168.name,by decide,by kernel_rfl⟩
 f23:=⟨f169.name,by decide,by kernel_rfl⟩
 f24:=⟨f170.name,by decide,by kernel_rfl⟩
 f25:=⟨f171.name,by decide,by kernel_rfl⟩
 f26:=⟨f172.name,by decide,by kernel_rfl⟩
 f27:=⟨f173.name,by decide,by kernel_rfl⟩
 f28:=by kernel_rfl
 f29:=by kernel_rfl
 f46:=⟨f207.name,by decide,by kernel_rfl⟩
 f47:=by kernel_rfl
 f48:=by kernel_rfl
 f49:=⟨f210.name,by decide,by kernel_rfl⟩
 f50:=⟨f211.name,by decide,by kernel_rfl⟩
 f57:=⟨f229.name,by decide,by kernel_rfl⟩
 t0:=by kernel_rfl
 a0:=λ_=>Zgu (t:=0) zk
 z0:=λ_=>Zah zk
 v0:=λ_=>Zak zk
 t3:=by kernel_rfl
 a3:=λ_=>Zgu (t:=3) zk
 z3:=λ_=>Zah zk
 v3:=λ_=>Zak zk
 t4:=by kernel_rfl
 a4:=λ_=>Zgu (t:=4) zk
 z4:=λ_=>Zah zk
 v4:=λ_=>Zak zk
 t5:=by kernel_rfl
 a5:=λ_=>Zgu (t:=5) zk
 z5:=λ_=>Zah zk
 v5:=λ_=>Zak zk
 t9:=by kernel_rfl
 a9:=λ_=>Zgu (t:=9) zk
 z9:=λ_=>Zah zk
 v9:=λ_=>Zak zk
 t22:=by kernel_rfl
 a22:=λ_=>Zgu (t:=40) zk
 z22:=λ_=>Zah zk
 v22:=λ_=>Zak zk
 t25:=by kernel_rfl
 a25:=λ_=>Zgu (t:=124) zk
 z25:=λ_=>Zah zk
 v25:=λ_=>Zak zk
 t39:=by kernel_rfl
 a39:=λ_=>Zgu (t:=172) zk
 z39:=λ_=>Zah zk
 v39:=λ_=>Zak zk
 t45:=by kernel_rfl
 a45:=λ_=>Zgu (t:=224) zk
 z45:=λ_=>Zah zk
 v45:=λ_=>Zak zk
 t46:=by kernel_rfl
 a46:=λ_=>Zgu (t:=225) zk
 z46:=λ_=>Zah zk
 v46:=λ_=>Zak zk
 t50:=by kernel_rfl
 a50:=λ_=>Zgu (t:=229) zk
 z50:=λ_=>Zah zk
 v50:=λ_=>Zak zk
 t53:=by kernel_rfl
 a53:=λ_=>Zgu (t:=171) zk
 z53:=λ_=>Zah zk
 v53:=λ_=>Zak zk
 t55:=by kernel_rfl
 a55:=λ_=>Zgu (t:=94) zk
 z55:=λ_=>Zah zk
 v55:=λ_=>Zak zk
 t66:=by kernel_rfl
 a66:=λ_=>Zgu (t:=259) zk
 z66:=λ_=>Zah zk
 v66:=λ_=>Zak zk
 t70:=by kernel_rfl
 a70:=λ_=>Zgu (t:=263) zk
 z70:=λ_=>Zah zk
 v70:=λ_=>Zak zk
 t76:=by kernel_rfl
 a76:=λ_=>Zgu (t:=282) zk
 z76:=λ_=>Zah zk
 v76:=λ_=>Zak zk
 t77:=by kernel_rfl
 a77:=λ_=>Zgu (t:=283) zk
 z77:=λ_=>Zah zk
 v77:=λ_=>Zak zk
}
def smP (p:Pr):Prop:=0≤p.1∧p.1 < 1000000000∧0≤p.2∧p.2 < 1000000000
theorem cmpC (p q:Pr) (hp:smP p) (hq:smP q):Pure prog 79 [prA p,prA q] (iv (cmpP p q)):=by
 obtain⟨a,b⟩:=p;obtain⟨c,d⟩:=q;obtain⟨a1,a2,a3,a4⟩:=hp;obtain⟨c1,c2,c3,c4⟩:=hq;simp only at a1 a2 a3 a4 c1 c2 c3 c4;show Pure _ _ [.agg [iv a,iv b],.agg [iv c,iv d]] (iv (cmpP (a,b) (c,d)));unfold cmpP;simp only;have w1:IntKind.i64.wrap (a - c)=a - c:=Ze9 zo zo;have w2:IntKind.i64.wrap (b - d)=b - d:=Ze9 zo zo;by_cases h:a=c
 ·rw [Zyj (by simpa using h)];refine pI func79 rfl ntmps79 results79 call79 ?_;(focus (refine wkad (w_3 h w1 w2) w_t w_t ?_;(repeat' first|exact w_t|apply w_l);all_goals intros));all_goals exact gL
 ·rw [Zyk h];refine pI func79 rfl ntmps79 results79 call79 ?_;(focus (refine wkad (w_3 h w1 w2) w_t w_t ?_;(repeat' first|exact w_t|apply w_l);all_goals intros));all_goals exact gL
theorem ppPdqK (σ:Mem) (K:Nat) (sv:Value) (L:List Pr) (lm:Nat) (hK:σ K=some (.row sv 54 2 (L.map prA) 0)) (hl:L.length≤1000000000) (hlim:lm≤1000000000) (hs:∀p∈L,smP p):ACall prog 124 [.own K sv,iv 0,iv L.length,iv lm,.fn 79 []] σ λr σ'=>∃l':List Pr,l'.Perm L∧l'.Pairwise (λx y=>cmpP x y≤0)∧r=.tup []∧σ'=upd σ K (some (.row sv 54 2 (l'.map prA) 0)) :=
 Ztd ppL (k:=2) (λ_=>ag_st (t:=54) zk) (λ_=>Zah zk) zo (λp:Pr=>[iv p.1,iv p.2]) cmpP (g:=79) L (λ_=>rfl) hK zo Zpf cmpP_2 (λx hx y hy=>cmpC x y (hs x hx) (hs y hy)) call124 lm zo λp cap w=>Go.Proofs.AnyF.pdqsortCmpFunc_none ppL p cap lm _ w
theorem ppSort (σ:Mem) (K:Nat) (sv:Value) (L:List Pr) (hK:σ K=some (.row sv 54 2 (L.map prA) 0)) (hl:L.length < 256) (hs:∀p∈L,smP p):ACall prog 78 [.own K sv,.fn 79 []] σ λr σ'=>∃l':List Pr,l'.Perm L∧l'.Pairwise (λx y=>cmpP x y≤0)∧r=.tup []∧σ'=upd σ K (some (.row sv 54 2 (l'.map prA) 0)):=by
 refine Zbg (tok:=0) func78 rfl ntmps78 results78 call78 zr zs ?_;have cb:=bitsLen L.length hl;have hb:=Ziv (i:=L.length) hl;have hml:(L.map prA).length=L.length:=Zyn ..;have ci:=fun(σ:Mem) h=>ppPdqK σ K sv L (len8 L.length) h zo zo hs;generalize len8 L.length=lim at *;have ci:∀(σ:Mem),σ K=some (.row sv 54 2 (L.map prA) 0)→ACall prog 124 [.own K sv,iv 0,iv L.length,iv lim,.fn 79 []] σ _:=ci;generalize L.map prA=LA at *;(focus (refine wkad (w_2 hK hml) (w_1 cb) w_t ?_;(repeat' first|exact w_t|apply w_l);all_goals intros));refine Zm0 (ci _ (by(simp (disch:=omega) only [go_sem,hK]<;>repeat' first|rfl|refine⟨?_,?_⟩))) ?_
 rintro _ _ ⟨l',h1,h2,rfl,rfl⟩
 (focus (refine wkad w_t w_t w_t ?_;(repeat' first|exact w_t|apply w_l);all_goals intros));simp (disch:=omega) only [go_sem];exact⟨l',h1,h2,rfl⟩
theorem Ziz:∀(l:List Pr) (b a:Pr),Za0 (l++[b,a])=if a=b then Za0 (l++[b]) else Za0 (l++[b])++[a]
 | [],b,a=>by
   show Za0 [b,a]=if a=b then Za0 [b] else Za0 [b]++[a];unfold Za0;by_cases h:b=a
   ·rw [Zyk h,Zyk h.symm,h];rfl
   ·rw [Zyj h,Zyj (ZAu h)];rfl
 | [x],b,a=>by
   have ih:=Ziz [] b a;simp only [ZB2] at ih;show Za0 (x :: b :: [a])=if a=b then Za0 (x :: b :: []) else Za0 (x :: b :: [])++[a];unfold Za0;rw [ih];by_cases h:x=b<;>by_cases h2:a=b<;>simp [h,h2]
 | x :: y :: r,b,a=>by
   have ih:=Ziz (y :: r) b a;simp only [ZBl] at ih ⊢;show Za0 (x :: y :: (r++[b,a]))=if a=b then Za0 (x :: y :: (r++[b])) else Za0 (x :: y :: (r++[b]))++[a];rw [show Za0 (x :: y :: (r++[b,a]))=if x=y then Za0 (y :: (r++[b,a])) else x :: Za0 (y :: (r++[b,a])) from rfl,show Za0 (x :: y :: (r++[b]))=if x=y then Za0 (y :: (r++[b])) else x :: Za0 (y :: (r++[b])) from rfl,ih];by_cases h:x=y<;>by_cases h2:a=b<;>simp [h,h2]
theorem Zl8 {l:List Pr} {j:Nat} (h:j+1 < l.length):Za0 (l.take (j+2))=if l[j+1]=l[j] then Za0 (l.take (j+1)) else Za0 (l.take (j+1))++[l[j+1]]:=by
 have e1:l.take (j+1)=l.take j++[l[j]]:=by rw [ZB8,Zym zo];rfl
 have e2:l.take (j+2)=l.take j++[l[j],l[j+1]]:=by rw [show j+2=(j+1)+1 from rfl,ZB8,Zym (by omega:j+1 < l.length),e1,Zzt];rfl
 rw [e2,e1];exact Ziz _ _ _
theorem Zxv {l:List Pr} (h:0 < l.length):Za0 (l.take 1)=l.take 1:=by
 cases l with
 | nil=>simp at h
 | cons a r=>rfl
theorem Zso:∀(l:List Pr),(Za0 l).length≤l.length
 | []=>Zyp _
 | [a]=>Zyp _
 | a :: b :: r=>by
   have ih:=Zso (b :: r);unfold Za0;split
   ·exact Zyz ih (Nat.le_succ _)
   ·simp only [Zyx] at ih ⊢;omega
theorem set_take {fs:List Pr} {k:Nat} (h:k < fs.length) (x:Pr):(fs.set k x).take (k+1)=fs.take k++[x]:=by
 rw [ZB8,List.getElem?_set_self h,List.take_set_of_le (Zyp _)];rfl
theorem Zwd {fs:List Pr} {k:Nat} (h:k < fs.length):(fs.map prA).getD k .u=.agg [iv fs[k].1,iv fs[k].2]:=Zad prA h
def CmpR (K:Nat) (sv:Value) (l:List Pr) (σ:Mem) (r:AV) (σ':Mem):Prop :=
 (Za0 l=l∧σ'=σ∧r=.own K sv)∨((Za0 l).length≤l.length∧r=.view K sv 2 0 (Za0 l).length∧σ'=upd σ K (some (.row sv 54 2 ((Za0 l).map prA++List.replicate (l.length - (Za0 l).length) (.agg [iv 0,iv 0])) 0)))
theorem Zwe (σ:Mem) (K:Nat) (sv:Value) (l:List Pr) (hK:σ K=some (.row sv 54 2 (l.map prA) 0)) (hl:l.length < 256):ACall prog 80 [.own K sv] σ (CmpR K sv l σ):=by
 refine Zbg (tok:=0) func80 rfl ntmps80 results80 call80 zr zs ?_;have hml:(l.map prA).length=l.length:=Zyn ..;by_cases h2:l.length < 2
 ·have hd:Za0 l=l:=by
   match l,h2 with
   | [],_=>rfl
   | [a],_=>rfl
   | a :: b :: r,h=>exact absurd h (by simp only [Zyx];omega)
  have hR:CmpR K sv l σ (.own K sv) σ:=.inl ⟨hd,rfl,rfl⟩;generalize CmpR K sv l σ=R at *;(focus (refine wkad (w_2 hK hml) w_t w_t ?_;(repeat' first|exact w_t|apply w_l);all_goals intros));all_goals (all_goals (try simp (disch:=omega) only [go_sem,Zyo,Zyl,Zyk,Zyj,Int.reduceAdd,Int.reduceSub,Int.reduceToNat,Zyw]));(all_goals first|done|rfl|(congr 2;first|done|omega|(rw [Zzg];simp only [bool_to_prop,Zyy,Zzn,Zzo,Zzp,Zzq];omega))|skip)
  all_goals assumption
 ·have hg:∀j (h:j < l.length),(l.map prA).getD j .u=.agg [iv l[j].1,iv l[j].2]:=λj h=>Zad prA h;generalize hM:l.map prA=M at *;(focus (refine wkad (w_2 hK hml) w_t w_t ?_;(repeat' first|exact w_t|apply w_l);all_goals intros));refine Zab (ι:=Nat) (λk e m=>(1≤k∧k≤l.length)∧Za0 (l.take k)=l.take k∧e 0=.own K sv∧e 3=iv k∧σ=m) (λk=>l.length - k) 1 zr ?_ ?_
  ·rintro k e m ⟨⟨hk1,hk⟩,hdk,e0,e3,rfl⟩
   by_cases hlt:k < l.length
   ·obtain⟨k,rfl⟩:∃q,k=q+1:=⟨k - 1,zo⟩;have g1:=hg (k+1) hlt;have g0:=hg k zo;have hst:=Zl8 hlt;have hi1:((k+1:Nat):Int) - 1=(k:Int):=zo;by_cases heq:l[k+1]=l[k]
    ·rw [Zyk heq,hdk] at hst;rw [heq] at g1;have hsl:((l.length:Nat):Int).toNat=l.length:=zo;(focus (refine wkad (w_7 e0 e3 hK hml g1 g0 hi1) w_t w_t ?_;(repeat' first|exact w_t|apply w_l);all_goals intros));refine Zab (ι:=Nat) (λq e m=>k+2+q≤l.length∧e 0=.own K sv∧e 4=.view K sv 2 (k+1) (l.length - (k+1))∧e 5=iv ((q+1:Nat):Int)∧∃fs:List Pr,fs.length=l.length∧(Za0 (l.take (k+2+q))).length≤k+1+q∧fs.take (Za0 (l.take (k+2+q))).length=Za0 (l.take (k+2+q))∧(∀j,k+1+q≤j→fs[j]?=l[j]?)∧e 3=iv ((Za0 (l.take (k+2+q))).length:Nat)∧m K=some (.row sv 54 2 (fs.map prA) 0)∧∀t,t≠K→m t=σ t) (λq=>l.length - q) 0 zr ?_ ?_
     ·rintro q e m ⟨hq,e0,e4,e5,fs,hfl,hle,htk,hfs,e3,mK,mo⟩
      have hfm:(fs.map prA).length=l.length:=by rw [Zyn,hfl]
      by_cases hq2:q+1 < l.length - (k+1)
      ·have hq3:k+1+(q+1) < l.length:=zo;have hst2:=Zl8 (l:=l) (j:=k+1+q) zo
       have f1:fs[k+1+(q+1)]'zo=l[k+1+q+1]'zo:=by
        have:=hfs (k+1+(q+1)) zo;rw [Zym zo,Zym zo] at this;exact Option.some.inj this
       have f0:fs[k+1+q]'zo=l[k+1+q]'zo:=by
        have:=hfs (k+1+q) zo;rw [Zym zo,Zym zo] at this;exact Option.some.inj this
       have g1:=Zwd (fs:=fs) (k:=k+1+(q+1)) zo;have g0:=Zwd (fs:=fs) (k:=k+1+q) zo;rw [f1] at g1;rw [f0] at g0;have hi2:((q+1:Nat):Int) - 1=(q:Int):=zo;have hqi:((q+1:Nat):Int) < ((l.length - (k+1):Nat):Int):=zo;have e12:k+1+q+2=k+2+(q+1):=zo;have e11:k+1+q+1=k+2+q:=zo;have e13:l.take (k+1+q+2)=l.take (k+2+(q+1)):=by rw [e12]
       have e14:l.take (k+1+q+1)=l.take (k+2+q):=by rw [e11]
       rw [e13,e14] at hst2;clear f1 f0;by_cases hne:l[k+1+q+1]'zo=l[k+1+q]'zo
       ·rw [Zyk hne] at hst2;rw [hne] at g1;generalize l[k+1+q]'zo=x at *;obtain⟨x1,x2⟩:=x;simp only at g0 g1;obtain⟨F,hF⟩:∃F,fs.map prA=F:=⟨_,rfl⟩;rw [hF] at mK hfm g0 g1;(focus (refine wkad (w_10 e0 e3 e4 e5 mK hfm g1 g0 hi2 hqi) w_t w_t ?_;(repeat' first|exact w_t|apply w_l);all_goals intros));refine⟨q+1,⟨zo,gW e0,gW e4,gS,fs,hfl,by rw [hst2];omega,by rw [hst2];exact htk,λj hj=>hfs j zo,by rw [hst2];exact gW e3,by rw [hF];(simp (disch:=omega) only [go_sem,mK]<;>repeat' first|rfl|refine⟨?_,?_⟩),mo⟩,zo⟩
       ·rw [Zyj hne] at hst2;have hls:(Za0 (l.take (k+2+(q+1)))).length=(Za0 (l.take (k+2+q))).length+1:=by rw [hst2,Zza];rfl
        have hkl:(Za0 (l.take (k+2+q))).length < fs.length:=zo;have hti:((Za0 (l.take (k+2+q))).length:Int) < (l.length:Int):=zo;generalize hdl:Za0 (l.take (k+2+q))=dl at *;have hgx:l[k+1+q+1]?=some (l[k+1+q+1]'zo):=Zym _;generalize l[k+1+q+1]'zo=x at *;generalize l[k+1+q]'zo=y at *;have hst3:=set_take hkl x;rw [htk,←hst2] at hst3;have hsm:(fs.map prA).set dl.length (.agg [iv x.1,iv x.2])=(fs.set dl.length x).map prA:=by rw [List.map_set];rfl
        have gz:=Zwd hkl;generalize fs[(dl.length)]'hkl=z at *;obtain⟨x1,x2⟩:=x;obtain⟨y1,y2⟩:=y;simp only at g0 g1 hsm;obtain⟨F,hF⟩:∃F,fs.map prA=F:=⟨_,rfl⟩;rw [hF] at mK hfm g0 g1 hsm gz;by_cases hx:x1=y1
        ·subst hx;have hy:¬x2=y2:=λe=>hne (by rw [e]);(focus (refine wkad (w_13 e0 e3 e4 e5 mK hfm g1 g0 gz hi2 hqi hy hti) w_t w_t ?_;(repeat' first|exact w_t|apply w_l);all_goals intros));refine⟨q+1,⟨zo,gW e0,gW e4,gS,fs.set dl.length (x1,x2),by rw [List.length_set];exact hfl,by rw [hls];omega,by rw [hls];exact hst3,λj hj=>by rw [List.getElem?_set_ne zo];exact hfs j zo,by rw [hls];exact gS,by rw [←hsm];exact gC,λt ht=>by rw [←mo t ht];show upd _ _ _ t=_;rw [Zal,Zyj ht];rfl⟩,zo⟩
        ·(focus (refine wkad (w_13 e0 e3 e4 e5 mK hfm g1 g0 gz hi2 hqi hx hti) w_t w_t ?_;(repeat' first|exact w_t|apply w_l);all_goals intros));all_goals first|(rename_i hz;exact absurd hz.1 zs)|refine⟨q+1,⟨zo,gW e0,gW e4,gS,fs.set dl.length (x1,x2),by rw [List.length_set];exact hfl,by rw [hls];omega,by rw [hls];exact hst3,λj hj=>by rw [List.getElem?_set_ne zo];exact hfs j zo,by rw [hls];exact gS,by rw [←hsm];exact gC,λt ht=>by rw [←mo t ht];show upd _ _ _ t=_;rw [Zal,Zyj ht];rfl⟩,zo⟩
      ·have hn:k+2+q=l.length:=zo;rw [hn,ZAf] at hle htk e3;have hfm2:(fs.map prA).take (Za0 l).length=(Za0 l).map prA:=by rw [←List.map_take,htk]
       have hfd:(fs.map prA).drop ((Za0 l).length+(l.length - (Za0 l).length))=[]:=Zz6 (by rw [hfm];omega);have hkn:(Za0 l).length≤l.length:=Zso l;have hR:CmpR K sv l σ (.view K sv 2 0 (Za0 l).length) (upd σ K (some (.row sv 54 2 ((Za0 l).map prA++List.replicate (l.length - (Za0 l).length) (.agg [iv 0,iv 0])) 0))):=.inr ⟨hkn,rfl,rfl⟩;have hmm:∀x,upd m K x=upd σ K x:=λx=>by
        funext t
        rw [Zal,Zal];split
        ·rfl
        ·rename_i ht;exact mo t ht
       generalize CmpR K sv l σ=R at *;generalize Za0 l=dl at *;generalize fs.map prA=F at *;have hrl:(dl.map prA++List.replicate (l.length - dl.length) (AV.agg [iv 0,iv 0])).length=l.length:=by rw [Zza,Zyn,ZCc];omega
       rw [←hmm] at hR;generalize hRP:List.replicate (l.length - dl.length) (AV.agg [iv 0,iv 0])=RP at *
       (repeat' (first|(with_reducible first|refine stp ?_|apply gx1|apply gx2|apply gx3|apply gx4|apply gx5|apply gx6|apply gx7|apply gy8|apply gz2|apply gz3)|(with_reducible refine Zcg ?_;intro _)|((with_reducible refine gE ?_);(try simp (disch:=omega) only [go_sem,e0,e3,e4,e5,mK,hfm,hfm2,hfd,hrl,hRP,Zzz,Zyo,Zyl,Zyk,Zyj,Int.reduceAdd,Int.reduceSub,Int.reduceToNat,Zyw])<;>first|rfl|omega)|with_reducible refine Zai zd ?_|((with_reducible apply gy1);iterate 3 focus rfl)|((with_reducible apply gy2);iterate 3 focus rfl)|((with_reducible apply gy3);iterate 2 focus rfl)|((with_reducible apply gy4);iterate 1 focus rfl)|((with_reducible apply gy5);iterate 4 focus rfl)|((with_reducible apply gy5c);iterate 4 focus rfl)|((with_reducible apply gy6);iterate 4 focus rfl)|((with_reducible apply Zfy);iterate 3 focus rfl)|((with_reducible apply Zfr);iterate 1 focus rfl)|((with_reducible apply gy7);iterate 1 focus rfl)|((with_reducible apply gy9);(focus ((with_reducible refine gE ?_);(try simp (disch:=omega) only [go_sem,e0,e3,e4,e5,mK,hfm,hfm2,hfd,hrl,hRP,Zzz,Zyo,Zyl,Zyk,Zyj,Int.reduceAdd,Int.reduceSub,Int.reduceToNat,Zyw])<;>rfl)))|((with_reducible apply gz1);(focus first|rfl|(simp (disch:=omega) only [go_sem,e0,e3,e4,e5,mK,hfm,hfm2,hfd,hrl,hRP,Zzz,Zyo,Zyl,Zyk,Zyj,Int.reduceAdd,Int.reduceSub,Int.reduceToNat,Zyw];done)))|((with_reducible apply Zas (Zbr []) [] []);(focus kernel_rfl);(focus rfl);(focus kernel_rfl);(focus (simp only [Zyx,Zy0,Nat.reduceAdd];rfl)))|((with_reducible first|apply Zcs|apply Zc8|apply Zcv);all_goals (intro hc;(try simp only [bool_to_prop] at hc);try (exfalso;omega)))))
       all_goals (all_goals (try simp (disch:=omega) only [go_sem,Zyo,Zyl,Zyk,Zyj,Int.reduceAdd,Int.reduceSub,Int.reduceToNat,Zyw]));(all_goals first|done|rfl|(congr 2;first|done|omega|(rw [Zzg];simp only [bool_to_prop,Zyy,Zzn,Zzo,Zzp,Zzq];omega))|skip)
       all_goals assumption
     ·have hln:(Za0 (l.take (k+2+0))).length=k+1:=by show(Za0 (l.take (k+2))).length=_;rw [hst,Zy1];omega
      refine⟨zo,gW e0,gC,gC,l,rfl,zo,by rw [hln];exact hst.symm,λ_ _=>rfl,by rw [hln];exact gW e3,by rw [hM];(simp (disch:=omega) only [go_sem,hK]<;>repeat' first|rfl|refine⟨?_,?_⟩),λ_ _=>gC⟩
    ·rw [Zyj heq,hdk] at hst
     have hdk2:Za0 (l.take (k+2))=l.take (k+2):=by
      have e:l.take ((k+1)+1)=l.take (k+1)++[l[k+1]]:=by rw [ZB8,Zym hlt];rfl
      exact hst.trans e.symm
     generalize l[k+1]=x at *;generalize l[k]'zo=y at *;obtain⟨x1,x2⟩:=x;obtain⟨y1,y2⟩:=y;simp only at g0 g1;by_cases hx:x1=y1
     ·subst hx;have hy:¬x2=y2:=λe=>heq (by rw [e]);(focus (refine wkad (w_8 e0 e3 hK hml g1 g0 hi1 hy) w_t w_t ?_;(repeat' first|exact w_t|apply w_l);all_goals intros));exact⟨k+2,⟨zo,hdk2,gW e0,gS,gC⟩,zo⟩
     ·(focus (refine wkad (w_8 e0 e3 hK hml g1 g0 hi1 hx) w_t w_t ?_;(repeat' first|exact w_t|apply w_l);all_goals intros));all_goals first|(rename_i hz;exact absurd hz.1 zs)|exact⟨k+2,⟨zo,hdk2,gW e0,gS,gC⟩,zo⟩
   ·have hkn:k=l.length:=zo;subst hkn;rw [ZAf] at hdk;have hR:CmpR K sv l σ (.own K sv) σ:=.inl ⟨hdk,rfl,rfl⟩;generalize CmpR K sv l σ=R at *;(focus (refine wkad (w_4 e0 e3 hK hml) w_t w_t ?_;(repeat' first|exact w_t|apply w_l);all_goals intros));all_goals (all_goals (try simp (disch:=omega) only [go_sem,Zyo,Zyl,Zyk,Zyj,Int.reduceAdd,Int.reduceSub,Int.reduceToNat,Zyw]));(all_goals first|done|rfl|(congr 2;first|done|omega|(rw [Zzg];simp only [bool_to_prop,Zyy,Zzn,Zzo,Zzp,Zzq];omega))|skip)
    all_goals assumption
  ·exact⟨zo,Zxv zo,gC,gC,gC⟩
abbrev yV (l:Nat):Value:=.func (.yield l) #[] #[]
theorem Ztf (k:Int):(Zdd k).length≤10:=by
 unfold Zdd
 repeat' split
 all_goals simp
theorem Ztq (k:Int):(Zde k).length≤10:=by
 unfold Zde
 repeat' split
 all_goals simp
theorem Zj4 (ss:List RS) (i:Nat):∀n,i≤n→∃r,Zb8 ss n=Zb8 ss i++r
 | 0,h=>⟨[],by rw [Nat.le_zero.1 h,Zzz]⟩
 | n+1,h=>by
   by_cases hi:i=n+1
   ·subst hi;exact⟨[],(Zzz _).symm⟩
   ·obtain⟨r,hr⟩:=Zj4 ss i n zo;exact⟨r++(match ss[n]? with | some s=>Zhh n s | none=>[]),by rw [←Zzt,←hr];rfl⟩
theorem Zkv (gs:List RG) (i:Nat):∀n,i≤n→∃r,Zcz gs n=Zcz gs i++r
 | 0,h=>⟨[],by rw [Nat.le_zero.1 h,Zzz]⟩
 | n+1,h=>by
   by_cases hi:i=n+1
   ·subst hi;exact⟨[],(Zzz _).symm⟩
   ·obtain⟨r,hr⟩:=Zkv gs i n zo;exact⟨r++(match gs[n]? with | some s=>Zhm s | none=>[]),by rw [←Zzt,←hr];rfl⟩
theorem Zuj {ss:List RS} {gs:List RG} {i j:Nat} (h:i < ss.length) {p:Pr} (hp:(Zhh i ss[i])[j]?=some p):(Zdg ss gs)[(Zb8 ss i).length+j]?=some p:=by
 obtain⟨r,hr⟩:=Zj4 ss (i+1) ss.length zo;have hj:j < (Zhh i ss[i]).length:=(List.getElem?_eq_some_iff.1 hp).1;unfold Zdg;rw [hr,Zi5 h,Zzt,Zzt,Zzv zo,ZBs,Zzr hj];exact hp
theorem Zuk {ss:List RS} {gs:List RG} {i j:Nat} (h:i < gs.length) {p:Pr} (hp:(Zhm gs[i])[j]?=some p):(Zdg ss gs)[(Zb8 ss ss.length).length+((Zcz gs i).length+j)]?=some p:=by
 obtain⟨r,hr⟩:=Zkv gs (i+1) gs.length zo;have hj:j < (Zhm gs[i]).length:=(List.getElem?_eq_some_iff.1 hp).1;unfold Zdg;rw [hr,Zjc h,Zzv zo,ZBs,Zzt,Zzv zo,ZBs,Zzr hj];exact hp
theorem prIt (l:Nat) (ss:List RS) (gs:List RG) (σ:Mem) (J:Nat→Mem→Prop) (hl:ss.length≤40) (hgl:gs.length≤8)
 (hs:∀i (h:i < ss.length),∀p∈Zdd ss[i].k,p.1 < (ss[i].ar.length:Int)∧p.2 < (ss[i].ar.length:Int))
 (hg:∀i (h:i < gs.length),∀p∈Zde gs[i].k,0≤p.1∧p.1 < (gs[i].ar.length:Int)∧0≤p.2∧p.2 < (gs[i].ar.length:Int))
 (hY:∀(j:Nat) (p:Pr),(Zdg ss gs)[j]?=some p→∀(m σ':Mem),Agr m σ'→J j σ'→YCall prog l [prA p] m λr m'=>r=.v (.bool true)∧∃σ'',Agr m' σ''∧J (j+1) σ'')
 (h0:J 0 σ):ACall prog 76 [.v (yV l),.pimm [.sl 6 (ss.map RS.av),.sl 5 (gs.map RG.av)],.pimm [.fn 36 []],.pimm [.fn 37 []]] σ λr σ'=>J (Zdg ss gs).length σ':=by
 have hls:(ss.map RS.av).length=ss.length:=Zyn ..;have hlg:(gs.map RG.av).length=gs.length:=Zyn ..;have kS:∀i (h:i < ss.length),(ss.map RS.av).getD i .u=ss[i].av:=λi h=>Zad RS.av h;have kG:∀i (h:i < gs.length),(gs.map RG.av).getD i .u=gs[i].av:=λi h=>Zad RG.av h;generalize ss.map RS.av=M at *;generalize gs.map RG.av=N at *;refine Za2 func76 rfl ntmps76 results76 call76 zr zs ?_;have hAg:=Agr.start σ;generalize lents σ=m0 at *;have hYd:∀(V:Value),V=yV l→True:=λ_ _=>trivial;show Zav _ _ _ _ _ ⟨λt=>[AV.v (yV l),.pimm [.sl 6 M,.sl 5 N],.pimm [.fn 36 []],.pimm [.fn 37 []]].getD t .u,m0⟩
 obtain⟨yv,hyv⟩:∃yv:AV,AV.v (yV l)=yv:=⟨_,rfl⟩;rw [hyv];(focus (refine wkad (w_1 hls) w_t w_t ?_;(repeat' first|exact w_t|apply w_l);all_goals intros));refine Zab (ι:=Nat) (λi e m=>i≤ss.length∧(e 0=yv∧e 1=.pimm [.sl 6 M,.sl 5 N]∧e 2=.pimm [.fn 36 []]∧e 3=.pimm [.fn 37 []])∧e 15=.sl 6 M∧e 16=iv ss.length∧e 17=iv i∧∃σ',Agr m σ'∧J (Zb8 ss i).length σ') (λi=>ss.length - i) 0 zr ?_ ?_
 ·rintro i e m ⟨hi,⟨e0,e1,e2,e3⟩,e15,e16,e17,σ1,hA1,hJ1⟩
  by_cases hlt:i < ss.length
  ·have gi:=kS i hlt;have hsi:=hs i hlt;have hsu:=Zi5 hlt;have hap:=fun(j:Nat) (p:Pr) (h:(Zhh i ss[i])[j]?=some p)=>hY _ p (Zuj (gs:=gs) hlt h);generalize ss[i]=s at *;obtain⟨k0,nm,ar,⟨rs,rl,rd⟩⟩:=s;have cS:=drSides k0;simp only at hsi;have hLl:((Zdd k0).map prA).length=(Zdd k0).length:=Zyn ..;have kLs:∀j (h:j < (Zdd k0).length),((Zdd k0).map prA).getD j .u=prA (Zdd k0)[j]:=λj h=>Zad prA h;have hst:Zhh i ⟨k0,nm,ar,⟨rs,rl,rd⟩⟩=(Zdd k0).map λp=>(atN i ar p.1,atN i ar p.2):=rfl;rw [hst] at hsu;have hLb:=Ztf k0;generalize Zdd k0=L at *
   generalize L.map prA=LA at *;(focus (refine wkad (w_9 e0 e1 e2 e3 e15 e16 e17 gi hLl) (w_1 cS) w_t ?_;(repeat' first|exact w_t|apply w_l);all_goals intros));rename_i g5 g6;refine Zc4 (Frz.pub (d:=7) (a:=.fn 77 [.pbox 5 g5 0,.pbox 6 g6 0]) (gC) (gC)) ?_;refine Zab (ι:=Nat) (λj e m=>j≤L.length∧(e 0=yv∧e 1=.pimm [.sl 6 M,.sl 5 N]∧e 2=.pimm [.fn 36 []]∧e 3=.pimm [.fn 37 []])∧e 15=.sl 6 M∧e 16=iv ss.length∧e 17=iv i∧e 7=.fn 77 [.pimm [iv i],.pimm [iv k0,strA nm,ivs ar,.v (.bool rs),lim rl,lim rd]]∧e 26=.sl 2 LA∧e 27=iv L.length∧e 28=iv j∧∃σ',Agr m σ'∧J ((Zb8 ss i).length+j) σ') (λj=>L.length - j) 0 zr ?_ ?_
   ·rintro j e m ⟨hj,⟨e0,e1,e2,e3⟩,e15,e16,e17,e7,e26,e27,e28,σ1,hA1,hJ1⟩
    by_cases hjl:j < L.length
    ·have gj:=kLs j hjl;obtain⟨hp1,hp2⟩:=hsi _ (Zy6 hjl);have cA1:=drAt i _ k0 nm ar rs rl rd hp1;have cA2:=drAt i _ k0 nm ar rs rl rd hp2;have hh:=fun(m':Mem) (hA:Agr m' σ1)=>hap j (atN i ar L[j].1,atN i ar L[j].2) (by rw [hst,Zzu,Zym hjl];rfl) m' σ1 hA hJ1;clear hap;generalize L[j]=p at *;obtain⟨p1,p2⟩:=p;simp only at cA1 cA2 hh;have gj:LA.getD j .u=.agg [iv p1,iv p2]:=gj;(focus (refine wkax (w_13 e0 e1 e2 e3 e15 e16 e17 e7 e26 e27 e28 gj hLl) w_t w_t w_t w_t w_t w_t (w_r 0) ?_;(repeat' first|exact w_t|apply w_l);all_goals intros));refine Zv6 10 (Zbr [(4,iv (atN i ar p1)),(8,iv (atN i ar p2))]) [] [] (by simp only [ZDb,ZBd];rfl) (by simp only [ZDi,ZAg];rfl) zk zr zk zk (by simp only [Zyx,Zy0,Nat.reduceAdd];rfl) ?_
     (focus (refine wkax (w_11 e0 e1 e2 e3 e15 e16 e17 e7 e26 e27 e28) (w_2 cA1 cA2) w_t w_t w_t w_t w_t (w_r 0) ?_;(repeat' first|exact w_t|apply w_l);all_goals intros));intro _;refine⟨_,Frz.refl _ _,.inr ⟨.tmp 32,l,#[.tmp 41],_,rfl,?_,?_⟩⟩
     ·rw [hyv];exact gW e0
     ·refine YCall.mono (show YCall prog l [.agg [iv (atN i ar p1),iv (atN i ar p2)]] _ _ from hh _ ?_) ?_
      ·(repeat' (first|exact hA1|(refine Agr.own ?_ zo)))
      ·rintro _ m2 ⟨rfl,σ2,hA2,hJ2⟩
       refine⟨_,Frz.refl _ _,λ_=>⟨_,Frz.refl _ _,.inl ?_⟩⟩;(focus (refine wkax (w_11 e0 e1 e2 e3 e15 e16 e17 e7 e26 e27 e28) w_t w_t w_t w_t w_t w_t (w_r 0) ?_;(repeat' first|exact w_t|apply w_l);all_goals intros));refine⟨_,Frz.refl _ _,Zl3 ?_⟩;(focus (refine wkad (w_11 e0 e1 e2 e3 e15 e16 e17 e7 e26 e27 e28) w_t w_t ?_;(repeat' first|exact w_t|apply w_l);all_goals intros));exact⟨j+1,⟨zo,⟨gW e0,gW e1,gW e2,gW e3⟩,gW e15,gW e16,gW e17,gW e7,gW e26,gW e27,gS,σ2,hA2,hJ2⟩,zo⟩
    ·have hjj:j=L.length:=zo;subst hjj;have hsl:(Zb8 ss (i+1)).length=(Zb8 ss i).length+L.length:=by rw [hsu,Zza,Zyn]
     rw [←hsl] at hJ1;(focus (refine wkad (w_11 e0 e1 e2 e3 e15 e16 e17 e7 e26 e27 e28) w_t w_t ?_;(repeat' first|exact w_t|apply w_l);all_goals intros));exact⟨i+1,⟨zo,⟨gW e0,gW e1,gW e2,gW e3⟩,gW e15,gW e16,gS,σ1,hA1,hJ1⟩,zo⟩
   ·exact⟨Zyv _,⟨gW e0,gW e1,gW e2,gW e3⟩,gW e15,gW e16,gW e17,gC,gC,by(simp (disch:=omega) only [go_sem,hLl]<;>repeat' first|rfl|refine⟨?_,?_⟩),gC,σ1,by(repeat' (first|exact hA1|(refine Agr.own ?_ zo))),hJ1⟩
  ·have hii:i=ss.length:=zo;subst hii;(focus (refine wkad (w_8 e0 e1 e2 e3 e15 e16 e17 hlg) w_t w_t ?_;(repeat' first|exact w_t|apply w_l);all_goals intros));refine Zab (ι:=Nat) (λi e m=>i≤gs.length∧(e 0=yv∧e 1=.pimm [.sl 6 M,.sl 5 N]∧e 3=.pimm [.fn 37 []])∧e 47=.sl 5 N∧e 48=iv gs.length∧e 49=iv i∧∃σ',Agr m σ'∧J ((Zb8 ss ss.length).length+(Zcz gs i).length) σ') (λi=>gs.length - i) 0 zr ?_ ?_
   ·rintro i e m ⟨hi,⟨e0,e1,e3⟩,e47,e48,e49,σ1,hA1,hJ1⟩
    by_cases hlt:i < gs.length
    ·have gi:=kG i hlt;have hgi:=hg i hlt;have hsu:=Zjc hlt;have hap:=fun(j:Nat) (p:Pr) (h:(Zhm gs[i])[j]?=some p)=>hY _ p (Zuk (ss:=ss) hlt h);generalize gs[i]=g at *;obtain⟨k0,ar,⟨rs,rl,rd⟩⟩:=g;have cS:=drParts k0;simp only at hgi;have hLl:((Zde k0).map prA).length=(Zde k0).length:=Zyn ..;have kLs:∀j (h:j < (Zde k0).length),((Zde k0).map prA).getD j .u=prA (Zde k0)[j]:=λj h=>Zad prA h;have hst:Zhm ⟨k0,ar,⟨rs,rl,rd⟩⟩=(Zde k0).map λp=>(gI ar p.1.toNat,gI ar p.2.toNat):=rfl;rw [hst] at hsu;have hll:(ar.map iv).length=ar.length:=Zyn ..
     have kA:∀j:Nat,j < ar.length→(ar.map iv).getD j .u=iv (gI ar j):=λj h=>by rw [Zad iv h,Zf8 h]
     have hLb:=Ztq k0;generalize Zde k0=L at *;generalize L.map prA=LA at *;(focus (refine wkad (w_8 e0 e1 e3 e47 e48 e49 gi hLl) (w_1 cS) w_t ?_;(repeat' first|exact w_t|apply w_l);all_goals intros));rename_i g11;refine Zc4 (Frz.pub (d:=11) (a:=.pbox 11 g11 0) (gC) (gC)) ?_;refine Zab (ι:=Nat) (λj e m=>j≤L.length∧(e 0=yv∧e 1=.pimm [.sl 6 M,.sl 5 N]∧e 3=.pimm [.fn 37 []])∧e 47=.sl 5 N∧e 48=iv gs.length∧e 49=iv i∧e 11=.pimm [iv k0,ivs ar,.v (.bool rs),lim rl,lim rd]∧e 56=.sl 2 LA∧e 57=iv L.length∧e 58=iv j∧∃σ',Agr m σ'∧J ((Zb8 ss ss.length).length+((Zcz gs i).length+j)) σ') (λj=>L.length - j) 0 zr ?_ ?_
     ·rintro j e m ⟨hj,⟨e0,e1,e3⟩,e47,e48,e49,e11,e56,e57,e58,σ1,hA1,hJ1⟩
      by_cases hjl:j < L.length
      ·have gj:=kLs j hjl;obtain⟨hp0,hp1,hp2,hp3⟩:=hgi _ (Zy6 hjl);have hh:=fun(m':Mem) (hA:Agr m' σ1)=>hap j (gI ar L[j].1.toNat,gI ar L[j].2.toNat) (by rw [hst,Zzu,Zym hjl];rfl) m' σ1 hA hJ1;clear hap;have a1:=kA L[j].1.toNat zo;have a2:=kA L[j].2.toNat zo;generalize L[j]=p at *;obtain⟨p1,p2⟩:=p;simp only at hp0 hp1 hp2 hp3 hh a1 a2;have gj:LA.getD j .u=.agg [iv p1,iv p2]:=gj;(focus (refine wkax (w_12 e0 e1 e3 e47 e48 e49 e11 e56 e57 e58 gj hLl) w_t w_t w_t w_t w_t w_t (w_r 0) ?_;(repeat' first|exact w_t|apply w_l);all_goals intros));refine Zv6 14 (Zbr []) [] [] (by simp only [ZDb,ZBd];rfl) (by simp only [ZDi,ZAg];rfl) zk zr zk zk (by simp only [Zyx,Zy0,Nat.reduceAdd];rfl) ?_
       (focus (refine wkax (w_13 e0 e1 e3 e47 e48 e49 e11 e56 e57 e58 hll a1 a2) w_t w_t w_t w_t w_t w_t (w_r 0) ?_;(repeat' first|exact w_t|apply w_l);all_goals intros));intro _;refine⟨_,Frz.refl _ _,.inr ⟨.tmp 62,l,#[.tmp 75],_,rfl,?_,?_⟩⟩
       ·rw [hyv];exact gW e0
       ·refine YCall.mono (show YCall prog l [.agg [iv (gI ar p1.toNat),iv (gI ar p2.toNat)]] _ _ from hh _ ?_) ?_
        ·(repeat' (first|exact hA1|(refine Agr.own ?_ zo)))
        ·rintro _ m2 ⟨rfl,σ2,hA2,hJ2⟩
         refine⟨_,Frz.refl _ _,λ_=>⟨_,Frz.refl _ _,.inl ?_⟩⟩;(focus (refine wkax (w_10 e0 e1 e3 e47 e48 e49 e11 e56 e57 e58) w_t w_t w_t w_t w_t w_t (w_r 0) ?_;(repeat' first|exact w_t|apply w_l);all_goals intros));refine⟨_,Frz.refl _ _,Zl3 ?_⟩;(focus (refine wkad (w_10 e0 e1 e3 e47 e48 e49 e11 e56 e57 e58) w_t w_t ?_;(repeat' first|exact w_t|apply w_l);all_goals intros));exact⟨j+1,⟨zo,⟨gW e0,gW e1,gW e3⟩,gW e47,gW e48,gW e49,gW e11,gW e56,gW e57,gS,σ2,hA2,hJ2⟩,zo⟩
      ·have hjj:j=L.length:=zo;subst hjj;have hsl:(Zcz gs (i+1)).length=(Zcz gs i).length+L.length:=by rw [hsu,Zza,Zyn]
       rw [←hsl] at hJ1;(focus (refine wkad (w_10 e0 e1 e3 e47 e48 e49 e11 e56 e57 e58) w_t w_t ?_;(repeat' first|exact w_t|apply w_l);all_goals intros));exact⟨i+1,⟨zo,⟨gW e0,gW e1,gW e3⟩,gW e47,gW e48,gS,σ1,hA1,hJ1⟩,zo⟩
     ·exact⟨Zyv _,⟨gW e0,gW e1,gW e3⟩,gW e47,gW e48,gW e49,gC,gC,by(simp (disch:=omega) only [go_sem,hLl]<;>repeat' first|rfl|refine⟨?_,?_⟩),gC,σ1,by(repeat' (first|exact hA1|(refine Agr.own ?_ zo))),hJ1⟩
    ·have hii:i=gs.length:=zo;subst hii;have hal:(Zb8 ss ss.length).length+(Zcz gs gs.length).length=(Zdg ss gs).length:=(Zza ..).symm;rw [hal] at hJ1;(focus (refine wkad (w_6 e0 e1 e3 e47 e48 e49) w_t w_t ?_;(repeat' first|exact w_t|apply w_l);all_goals intros));exact Zfn (r:=.tup []) (Sub.refl _) hJ1 hA1
   ·exact⟨Zyv _,⟨gW e0,gW e1,gW e3⟩,gC,gW hlg,gC,σ1,hA1,hJ1⟩
 ·exact⟨Zyv _,⟨gC,gC,gC,gC⟩,gC,gC,gC,σ,hAg,h0⟩
theorem Zxs (σ:Mem) (K:Nat) (sv:Value) (L:List Pr) (hK:σ K=some (.row sv 54 2 (L.map prA) 0)) (hl:L.length < 256) (hs:∀p∈L,smP p):ACall prog 38 [.own K sv] σ λr σ'=>∃l':List Pr,l'.Perm L∧l'.Pairwise (λx y=>cmpP x y≤0)∧CmpR K sv l' (upd σ K (some (.row sv 54 2 (l'.map prA) 0))) r σ':=by
 refine Zbg (tok:=0) func38 rfl ntmps38 results38 call38 zr zs ?_;have cs:=ppSort σ K sv L hK hl hs;(focus (refine wkad w_t w_t w_t ?_;(repeat' first|exact w_t|apply w_l);all_goals intros));refine Zm0 cs ?_
 rintro _ _ ⟨l',h1,h2,rfl,rfl⟩
 have cc:=Zwe (upd σ K (some (.row sv 54 2 (l'.map prA) 0))) K sv l' (by rw [Zal,Zyk rfl]) (by rw [h1.length_eq];exact hl);obtain⟨σ1,hσ1⟩:∃σ1,upd σ K (some (.row sv 54 2 (l'.map prA) 0))=σ1:=⟨_,rfl⟩;rw [hσ1] at cc ⊢;(focus (refine wkad w_t w_t w_t ?_;(repeat' first|exact w_t|apply w_l);all_goals intros));refine Zm0 cc ?_;intro r σ2 hr;(focus (refine wkad w_t w_t w_t ?_;(repeat' first|exact w_t|apply w_l);all_goals intros));exact⟨l',h1,h2,by rw [hσ1];exact hr⟩
theorem sides_in {k:Int} {p:Pr} (h:p∈Zdd k):p.1 < arS k∧p.2 < arS k:=by
 unfold Zdd at h;split at h
 ·rename_i hk;simp only [Zz8,List.not_mem_nil,or_false] at h;subst h;rcases hk with rfl | rfl | rfl | rfl<;>decide
 ·split at h
  ·rename_i hk;simp only [Zz8,List.not_mem_nil,or_false] at h;subst h;subst hk;decide
  ·split at h
   ·rename_i hk;simp only [Zz8,List.not_mem_nil,or_false] at h;rcases h with rfl | rfl<;>rcases hk with rfl | rfl | rfl<;>decide
   ·split at h
    ·rename_i hk;simp only [Zz8,List.not_mem_nil,or_false] at h;subst hk;rcases h with rfl | rfl<;>decide
    ·split at h
     ·rename_i hk;simp only [Zz8,List.not_mem_nil,or_false] at h;subst hk;rcases h with rfl | rfl | rfl<;>decide
     ·cases h
theorem parts_in {k:Int} {p:Pr} (h:p∈Zde k):0≤p.1∧p.1 < arG k∧0≤p.2∧p.2 < arG k:=by
 unfold Zde at h;split at h
 ·rename_i hk;simp only [Zz8,List.not_mem_nil,or_false] at h;subst hk;rcases h with rfl | rfl<;>decide
 ·split at h
  ·rename_i hk;simp only [Zz8,List.not_mem_nil,or_false] at h;rcases h with rfl | rfl<;>rcases hk with rfl | rfl | rfl | rfl<;>decide
  ·split at h
   ·rename_i hk;simp only [Zz8,List.not_mem_nil,or_false] at h;subst h;subst hk;decide
   ·split at h
    ·rename_i hk;simp only [Zz8,List.not_mem_nil,or_false] at h;subst hk;rcases h with rfl | rfl | rfl | rfl<;>decide
    ·cases h
theorem sidesN_3 (k:Int):(Zdd k).length≤3:=by
 unfold Zdd
 repeat' split
 all_goals simp
theorem partsN_4 (k:Int):(Zde k).length≤4:=by
 unfold Zde
 repeat' split
 all_goals simp
theorem Zj5 (ss:List RS):∀i,(Zb8 ss i).length≤3*i
 | 0=>Zyp _
 | i+1=>by
   have ih:=Zj5 ss i;unfold Zb8;rw [Zza];split
   ·rename_i s _;have:=sidesN_3 s.k;unfold Zhh;rw [Zyn];omega
   ·simp;omega
theorem Zkw (gs:List RG):∀i,(Zcz gs i).length≤4*i
 | 0=>Zyp _
 | i+1=>by
   have ih:=Zkw gs i;unfold Zcz;rw [Zza];split
   ·rename_i s _;have:=partsN_4 s.k;unfold Zhm;rw [Zyn];omega
   ·simp;omega
theorem Zlq {ss:List RS} {p:Pr}:∀{i:Nat},p∈Zb8 ss i→∃j,∃h:j < ss.length,p∈Zhh j ss[j]
 | 0,h=>by cases h
 | i+1,h=>by
   unfold Zb8 at h;rcases List.mem_append.1 h with h | h
   ·exact Zlq h
   ·split at h
    ·rename_i s hs;obtain⟨hj,e⟩:=List.getElem?_eq_some_iff.1 hs;exact⟨i,hj,by rw [e];exact h⟩
    ·cases h
theorem Zl5 {gs:List RG} {p:Pr}:∀{i:Nat},p∈Zcz gs i→∃g∈gs,p∈Zhm g
 | 0,h=>by cases h
 | i+1,h=>by
   unfold Zcz at h;rcases List.mem_append.1 h with h | h
   ·exact Zl5 h
   ·split at h
    ·rename_i s hs;exact⟨s,ZA6 hs,h⟩
    ·cases h
structure LnOk (ss:List RS) (gs:List RG):Prop where
 l1:ss.length≤40
 l2:gs.length≤8
 hs:∀i (h:i < ss.length),∀p∈Zdd ss[i].k,p.1 < (ss[i].ar.length:Int)∧p.2 < (ss[i].ar.length:Int)
 hg:∀i (h:i < gs.length),∀p∈Zde gs[i].k,0≤p.1∧p.1 < (gs[i].ar.length:Int)∧0≤p.2∧p.2 < (gs[i].ar.length:Int)
 b:∀p∈Zdg ss gs,0≤p.1∧p.1 < ss.length∧0≤p.2∧p.2 < ss.length
 len:(Zdg ss gs).length≤152
theorem Zxr {g:RG} {n:Nat} (h:errG g n=0):(g.ar.length:Int)=arG g.k∧∀i,i < g.ar.length→0≤gI g.ar i∧gI g.ar i < (n:Int):=by
 unfold errG at h;split at h
 ·cases h
 ·split at h
  ·cases h
  ·rename_i h1;split at h
   ·cases h
   ·rename_i h2;exact⟨by simpa using h1,λi hi=>Zwm (by simpa using h2) hi⟩
theorem lnOk {ss:List RS} {gs:List RG} (h:figE ss gs=0):LnOk ss gs:=by
 unfold figE at h;split at h
 ·cases h
 ·rename_i h0;split at h
  ·rename_i h1;exact absurd h h1
  ·rename_i h1;have h1:fstE (errS ss) ss.length=0:=by simpa using h1
   have e1:∀i,i < ss.length→errS ss i=0:=Zjv h1;have e2:∀i (hi:i < gs.length),errG gs[i] ss.length=0:=λi hi=>by
    have:=Zjv h i hi
    rwa [show gs.getD i ⟨0,[],⟨false,[],[]⟩⟩=gs[i] from by rw [Zyu,Zym hi];rfl] at this
   have k1:∀i (h:i < ss.length),∀p∈Zdd ss[i].k,p.1 < (ss[i].ar.length:Int)∧p.2 < (ss[i].ar.length:Int):=λi hi p hp=>by
    obtain⟨_,a,_⟩:=Zk2 hi (e1 i hi);rw [a];exact sides_in hp
   have k2:∀i (h:i < gs.length),∀p∈Zde gs[i].k,0≤p.1∧p.1 < (gs[i].ar.length:Int)∧0≤p.2∧p.2 < (gs[i].ar.length:Int):=λi hi p hp=>by
    obtain⟨a,_⟩:=Zxr (e2 i hi);rw [a];exact parts_in hp
   refine⟨zo,zo,k1,k2,λp hp=>?_,?_⟩
   ·unfold Zdg at hp;rcases List.mem_append.1 hp with hp | hp
    ·obtain⟨i,hi,hp⟩:=Zlq hp;unfold Zhh at hp;obtain⟨q,hq,rfl⟩:=List.mem_map.1 hp;obtain⟨_,_,a,_⟩:=Zk2 hi (e1 i hi);obtain⟨b1,b2⟩:=k1 i hi q hq;have at_in:∀k:Int,k < (ss[i].ar.length:Int)→0≤atN i ss[i].ar k∧atN i ss[i].ar k < ss.length:=λk hk=>by
      unfold atN;split
      ·omega
      ·have:=a k.toNat zo;omega
     have c1:=at_in _ b1;have c2:=at_in _ b2;exact⟨c1.1,c1.2,c2.1,c2.2⟩
    ·obtain⟨g,hg,hp⟩:=Zl5 hp;obtain⟨i,hi,rfl⟩:=List.mem_iff_getElem.1 hg;unfold Zhm at hp;obtain⟨q,hq,rfl⟩:=List.mem_map.1 hp;obtain⟨_,a⟩:=Zxr (e2 i hi);obtain⟨b1,b2,b3,b4⟩:=k2 i hi q hq;have c1:=a q.1.toNat zo;have c2:=a q.2.toNat zo;exact⟨c1.1,c1.2,c2.1,c2.2⟩
   ·have a:=Zj5 ss ss.length;have b:=Zkw gs gs.length;unfold Zdg;rw [Zza];omega
theorem ori_len (p:Pr):(ori p).length≤1:=by
 unfold ori
 repeat' split
 all_goals simp
theorem Zmv:∀(l:List Pr),(oris l).length≤l.length
 | []=>Zyp _
 | p :: l=>by
   have ih:=Zmv l;have:=ori_len p;show(ori p++oris l).length≤_;rw [Zza,Zyx];omega
theorem Zwn {l:List Pr} {j:Nat} {p:Pr} (h:l[j]?=some p):oris (l.take (j+1))=oris (l.take j)++ori p:=by
 unfold oris;rw [ZB8,h,List.flatMap_append];simp
def AgrB (t:Nat) (m σ:Mem):Prop:=∀k,k+1000≠t→m (k+1000)=(σ k).map Ent.sh
theorem AgrB.of {t:Nat} {m σ:Mem} (h:Agr m σ):AgrB t m σ:=λk _=>h k
theorem AgrB.own {t:Nat} {m σ:Mem} (h:AgrB t m σ) {j:Nat} {x:Option Ent} (hj:j < 1000):AgrB t (upd m j x) σ:=λk hk=>by
 rw [Zal,Zyj zo];exact h k hk
theorem AgrB.at {t:Nat} {m σ:Mem} (h:AgrB t m σ) {x:Option Ent}:AgrB t (upd m t x) σ:=λk hk=>by
 rw [Zal,Zyj hk];exact h k hk
theorem AgrB.put {t:Nat} {m σ:Mem} (h:AgrB t m σ) {j k:Nat} {e e':Ent} (hj:j=k+1000) (he:e'=e.sh):AgrB t (upd m j (some e')) (upd σ k (some e)):=λq hq=>by
 subst hj;subst he;rw [Zal,Zal];by_cases hc:q=k
 ·subst hc;rw [Zyk rfl,Zyk rfl];rfl
 ·rw [Zyj zo,Zyj hc];exact h q hq
theorem AgrB.close {t:Nat} {m σ:Mem} (h:AgrB t m σ) {k:Nat} {e e':Ent} (hk:σ k=some e) (ht:t=k+1000) (he:e'=e.sh):Agr (upd m t (some e')) σ:=λq=>by
 rw [Zal];by_cases hc:q+1000=t
 ·have:q=k:=zo;subst this;rw [Zyk hc,hk,he];rfl
 ·rw [Zyj hc];exact h q hc
theorem aE {P:Program} {n p t:Nat} {code:Code} {K:AE→St→Prop} {x X:AV} {m:Mem} {E:Nat→AV} (h5:E t=X) (h:∀E',E' t=X→Zav P 0 n code K ⟨upd E' p x,m⟩):Zav P 0 n code K ⟨upd E p x,m⟩:=h E h5
theorem drLines1 (ss:List RS) (gs:List RG) (cR:Pure prog 34 [figA ss gs] (iv 0)) (ok:LnOk ss gs):Pure prog 14 [figA ss gs] (.tup [.sl 2 ((Zmq (Zdg ss gs) ss.length ss.length).map prA),iv 0]):=by
 have cR:Pure prog 34 [.agg [.sl 6 (ss.map RS.av),.sl 5 (gs.map RG.av)]] (iv 0):=cR;have cP:=drPairs (ss.map RS.av) (gs.map RG.av) 36 37;have cI:=λl σ J=>prIt l ss gs σ J ok.l1 ok.l2 ok.hs ok.hg;show Pure _ _ [.agg [.sl 6 (ss.map RS.av),.sl 5 (gs.map RG.av)]] _;generalize ss.map RS.av=M at *;generalize gs.map RG.av=N at *;refine Zto 200 func14 rfl ntmps14 results14 call14 zs ?_;refine Zmf zr ?_;(focus (refine wkad w_t w_t w_t ?_;(repeat' first|exact w_t|apply w_l);all_goals intros));refine Zmf zr ?_;(focus (refine wkad w_t (w_1 cR) w_t ?_;(repeat' first|exact w_t|apply w_l);all_goals intros))
 refine Zmf zr ?_;(focus (refine wkad w_t w_t w_t ?_;(repeat' first|exact w_t|apply w_l);all_goals intros));refine xw_seq ?_;refine Zmf zr ?_;(focus (refine wkad w_t (w_1 cP) w_t ?_;(repeat' first|exact w_t|apply w_l);all_goals intros));rename_i g1 g5;refine xw_block ?_;refine xw_frz (Frz.nilBox (k:=5) (g:=g5) (bt:=40) (cs:=[.v (.slice none 0 0)]) 0 105 2 54 (gC) rfl zd) ?_;refine xw_loop 200 201 zd (gC) zd zr zr ?_;intro D l RR RB hround;have hAll:∀j,(Zdg ss gs).take j=(Zdg ss gs).take j:=λ_=>rfl;refine(Zyf (.cons (Sub.refl _) (.cons (Sub.refl _) (.cons (Zu1 _) (.cons (Zu1 _) .nil)))) (cI l _ (λj σ'=>∃sv,σ' 5=some (.box g5 40 [.own 105 sv] false)∧σ' 105=some (.row sv 54 2 ((oris ((Zdg ss gs).take j)).map prA) 0)∧σ' 200=some (.obj D (.deferred (some [])))∧σ' 201=some (.obj l RR)) ?_ ?_)).mono ?_
 ·intro j p hp m σ' hAg ⟨sv,h5,h105,h200,h201⟩;have ho:=Zwn hp;have hl0:=Zmv ((Zdg ss gs).take j);have hl1:((Zdg ss gs).take j).length≤152:=by rw [Zy1];have:=ok.len;omega
  have hl2:((oris ((Zdg ss gs).take j)).map prA).length≤152:=by rw [Zyn];omega
  have at_:∀{k:Nat} {e:Ent},σ' k=some e→m (k+1000)=some e.sh:=λhk=>by rw [hAg,hk];rfl
  have m5:=at_ h5;have m105:=at_ h105;have m201:=at_ h201;have L5:=Za5 m5;have L105:=Za5 m105;have L201:=Za5 m201;simp only [Ent.sh,AV.shL,AV.sh,Nat.reduceAdd] at m5 m105 m201 L5 L105 L201;refine hround m (prA p) _ m201 ?_;clear hround cI cR cP ok;refine aE (t:=5) (X:=.pbox 2005 g5 0) rfl λE e5=>?_;obtain⟨a,b⟩:=p;show Zav _ _ _ _ _ ⟨upd E 14 (.agg [iv a,iv b]),_⟩;have fin:∀(sv2:Value) (M1:Mem),oris ((Zdg ss gs).take (j+1))=oris ((Zdg ss gs).take (j+1))→True:=λ_ _ _=>trivial;generalize hT:oris ((Zdg ss gs).take j)=T at *;obtain⟨mm,hmm⟩:∃mm,mm=lents m:=⟨_,rfl⟩;rw [←hmm] at L5 L105 L201 ⊢
  by_cases hab:a < b
  ·(repeat' (first|(with_reducible first|refine stp ?_|apply gx1|apply gx2|apply gx3|apply gx4|apply gx5|apply gx6|apply gx7|apply gy8|apply gz2|apply gz3)|(with_reducible refine Zcg ?_;intro _)|((with_reducible refine gE ?_);(try simp (disch:=omega) only [go_sem,e5,L5,L105,L201,hab,hl2,Zyo,Zyl,Zyk,Zyj,Int.reduceAdd,Int.reduceSub,Int.reduceToNat,Zyw])<;>first|rfl|omega)|with_reducible refine Zai zd ?_|((with_reducible apply gy1);iterate 3 focus rfl)|((with_reducible apply gy2);iterate 3 focus rfl)|((with_reducible apply gy3);iterate 2 focus rfl)|((with_reducible apply gy4);iterate 1 focus rfl)|((with_reducible apply gy5);iterate 4 focus rfl)|((with_reducible apply gy5c);iterate 4 focus rfl)|((with_reducible apply gy6);iterate 4 focus rfl)|((with_reducible apply Zfy);iterate 3 focus rfl)|((with_reducible apply Zfr);iterate 1 focus rfl)|((with_reducible apply gy7);iterate 1 focus rfl)|((with_reducible apply gy9);(focus ((with_reducible refine gE ?_);(try simp (disch:=omega) only [go_sem,e5,L5,L105,L201,hab,hl2,Zyo,Zyl,Zyk,Zyj,Int.reduceAdd,Int.reduceSub,Int.reduceToNat,Zyw])<;>rfl)))|((with_reducible apply gz1);(focus first|rfl|(simp (disch:=omega) only [go_sem,e5,L5,L105,L201,hab,hl2,Zyo,Zyl,Zyk,Zyj,Int.reduceAdd,Int.reduceSub,Int.reduceToNat,Zyw];done)))|((with_reducible apply Zas (Zbr []) [] []);(focus kernel_rfl);(focus rfl);(focus kernel_rfl);(focus (simp only [Zyx,Zy0,Nat.reduceAdd];rfl)))|((with_reducible first|apply Zcs|apply Zc8|apply Zcv);all_goals (intro hc;(try simp only [bool_to_prop] at hc);try (exfalso;omega)))))
   refine⟨rfl,by(simp (disch:=omega) only [go_sem,L201]<;>repeat' first|rfl|refine⟨?_,?_⟩),?_⟩
   (repeat' (first|(with_reducible first|refine stp ?_|apply gx1|apply gx2|apply gx3|apply gx4|apply gx5|apply gx6|apply gx7|apply gy8|apply gz2|apply gz3)|(with_reducible refine Zcg ?_;intro _)|((with_reducible refine gE ?_);(try simp (disch:=omega) only [go_sem,e5,L5,L105,L201,hab,hl2,Zyo,Zyl,Zyk,Zyj,Int.reduceAdd,Int.reduceSub,Int.reduceToNat,Zyw])<;>first|rfl|omega)|with_reducible refine Zai zd ?_|((with_reducible apply gy1);iterate 3 focus rfl)|((with_reducible apply gy2);iterate 3 focus rfl)|((with_reducible apply gy3);iterate 2 focus rfl)|((with_reducible apply gy4);iterate 1 focus rfl)|((with_reducible apply gy5);iterate 4 focus rfl)|((with_reducible apply gy5c);iterate 4 focus rfl)|((with_reducible apply gy6);iterate 4 focus rfl)|((with_reducible apply Zfy);iterate 3 focus rfl)|((with_reducible apply Zfr);iterate 1 focus rfl)|((with_reducible apply gy7);iterate 1 focus rfl)|((with_reducible apply gy9);(focus ((with_reducible refine gE ?_);(try simp (disch:=omega) only [go_sem,e5,L5,L105,L201,hab,hl2,Zyo,Zyl,Zyk,Zyj,Int.reduceAdd,Int.reduceSub,Int.reduceToNat,Zyw])<;>rfl)))|((with_reducible apply gz1);(focus first|rfl|(simp (disch:=omega) only [go_sem,e5,L5,L105,L201,hab,hl2,Zyo,Zyl,Zyk,Zyj,Int.reduceAdd,Int.reduceSub,Int.reduceToNat,Zyw];done)))|((with_reducible apply Zas (Zbr []) [] []);(focus kernel_rfl);(focus rfl);(focus kernel_rfl);(focus (simp only [Zyx,Zy0,Nat.reduceAdd];rfl)))|((with_reducible first|apply Zcs|apply Zc8|apply Zcv);all_goals (intro hc;(try simp only [bool_to_prop] at hc);try (exfalso;omega)))))
   rename_i g6 r23 sv2;have ho:oris ((Zdg ss gs).take (j+1))=T++[(a,b)]:=by rw [ho];unfold ori;simp only;first|rw [Zyk hab]|rw [Zyj hab,Zyk hba]
   refine⟨rfl,gC,.v (.bool true),upd (upd m 1105 (some (.row sv2 54 2 (T.map prA++[prA (a,b)]) 0))) 1005 (some (.box g5 40 [.own 1105 sv2] false)),Sub.refl _,⟨rfl,upd (upd σ' 105 (some (.row sv2 54 2 (T.map prA++[prA (a,b)]) 0))) 5 (some (.box g5 40 [.own 105 sv2] false)),by(refine Agr.put ?_ rfl rfl;refine Agr.put hAg rfl rfl),sv2,by rw [Zal,Zyk rfl],by rw [Zal,Zyj zd,Zal,Zyk rfl,ho,Zzh];rfl,by rw [Zal,Zyj zd,Zal,Zyj zd];exact h200,by rw [Zal,Zyj zd,Zal,Zyj zd];exact h201⟩,?_⟩;refine AgrB.close (k:=1201) (e:=.obj l RR) ?_ (by rw [Zal,Zyj zd,Zal,Zyj zd];exact m201) rfl rfl
   refine AgrB.put ?_ rfl rfl;refine AgrB.put ?_ rfl rfl
   (repeat' (first|(exact AgrB.of (by rw [hmm];exact Agr.start m))|(refine AgrB.own ?_ zo)|(refine AgrB.at ?_)))
  ·by_cases hba:a > b
   ·(repeat' (first|(with_reducible first|refine stp ?_|apply gx1|apply gx2|apply gx3|apply gx4|apply gx5|apply gx6|apply gx7|apply gy8|apply gz2|apply gz3)|(with_reducible refine Zcg ?_;intro _)|((with_reducible refine gE ?_);(try simp (disch:=omega) only [go_sem,e5,L5,L105,L201,hab,hba,hl2,Zyo,Zyl,Zyk,Zyj,Int.reduceAdd,Int.reduceSub,Int.reduceToNat,Zyw])<;>first|rfl|omega)|with_reducible refine Zai zd ?_|((with_reducible apply gy1);iterate 3 focus rfl)|((with_reducible apply gy2);iterate 3 focus rfl)|((with_reducible apply gy3);iterate 2 focus rfl)|((with_reducible apply gy4);iterate 1 focus rfl)|((with_reducible apply gy5);iterate 4 focus rfl)|((with_reducible apply gy5c);iterate 4 focus rfl)|((with_reducible apply gy6);iterate 4 focus rfl)|((with_reducible apply Zfy);iterate 3 focus rfl)|((with_reducible apply Zfr);iterate 1 focus rfl)|((with_reducible apply gy7);iterate 1 focus rfl)|((with_reducible apply gy9);(focus ((with_reducible refine gE ?_);(try simp (disch:=omega) only [go_sem,e5,L5,L105,L201,hab,hba,hl2,Zyo,Zyl,Zyk,Zyj,Int.reduceAdd,Int.reduceSub,Int.reduceToNat,Zyw])<;>rfl)))|((with_reducible apply gz1);(focus first|rfl|(simp (disch:=omega) only [go_sem,e5,L5,L105,L201,hab,hba,hl2,Zyo,Zyl,Zyk,Zyj,Int.reduceAdd,Int.reduceSub,Int.reduceToNat,Zyw];done)))|((with_reducible apply Zas (Zbr []) [] []);(focus kernel_rfl);(focus rfl);(focus kernel_rfl);(focus (simp only [Zyx,Zy0,Nat.reduceAdd];rfl)))|((with_reducible first|apply Zcs|apply Zc8|apply Zcv);all_goals (intro hc;(try simp only [bool_to_prop] at hc);try (exfalso;omega)))))
    refine⟨rfl,by(simp (disch:=omega) only [go_sem,L201]<;>repeat' first|rfl|refine⟨?_,?_⟩),?_⟩
    (repeat' (first|(with_reducible first|refine stp ?_|apply gx1|apply gx2|apply gx3|apply gx4|apply gx5|apply gx6|apply gx7|apply gy8|apply gz2|apply gz3)|(with_reducible refine Zcg ?_;intro _)|((with_reducible refine gE ?_);(try simp (disch:=omega) only [go_sem,e5,L5,L105,L201,hab,hba,hl2,Zyo,Zyl,Zyk,Zyj,Int.reduceAdd,Int.reduceSub,Int.reduceToNat,Zyw])<;>first|rfl|omega)|with_reducible refine Zai zd ?_|((with_reducible apply gy1);iterate 3 focus rfl)|((with_reducible apply gy2);iterate 3 focus rfl)|((with_reducible apply gy3);iterate 2 focus rfl)|((with_reducible apply gy4);iterate 1 focus rfl)|((with_reducible apply gy5);iterate 4 focus rfl)|((with_reducible apply gy5c);iterate 4 focus rfl)|((with_reducible apply gy6);iterate 4 focus rfl)|((with_reducible apply Zfy);iterate 3 focus rfl)|((with_reducible apply Zfr);iterate 1 focus rfl)|((with_reducible apply gy7);iterate 1 focus rfl)|((with_reducible apply gy9);(focus ((with_reducible refine gE ?_);(try simp (disch:=omega) only [go_sem,e5,L5,L105,L201,hab,hba,hl2,Zyo,Zyl,Zyk,Zyj,Int.reduceAdd,Int.reduceSub,Int.reduceToNat,Zyw])<;>rfl)))|((with_reducible apply gz1);(focus first|rfl|(simp (disch:=omega) only [go_sem,e5,L5,L105,L201,hab,hba,hl2,Zyo,Zyl,Zyk,Zyj,Int.reduceAdd,Int.reduceSub,Int.reduceToNat,Zyw];done)))|((with_reducible apply Zas (Zbr []) [] []);(focus kernel_rfl);(focus rfl);(focus kernel_rfl);(focus (simp only [Zyx,Zy0,Nat.reduceAdd];rfl)))|((with_reducible first|apply Zcs|apply Zc8|apply Zcv);all_goals (intro hc;(try simp only [bool_to_prop] at hc);try (exfalso;omega)))))
    rename_i g6 r23 sv2;have ho:oris ((Zdg ss gs).take (j+1))=T++[(b,a)]:=by rw [ho];unfold ori;simp only;first|rw [Zyk hab]|rw [Zyj hab,Zyk hba]
    refine⟨rfl,gC,.v (.bool true),upd (upd m 1105 (some (.row sv2 54 2 (T.map prA++[prA (b,a)]) 0))) 1005 (some (.box g5 40 [.own 1105 sv2] false)),Sub.refl _,⟨rfl,upd (upd σ' 105 (some (.row sv2 54 2 (T.map prA++[prA (b,a)]) 0))) 5 (some (.box g5 40 [.own 105 sv2] false)),by(refine Agr.put ?_ rfl rfl;refine Agr.put hAg rfl rfl),sv2,by rw [Zal,Zyk rfl],by rw [Zal,Zyj zd,Zal,Zyk rfl,ho,Zzh];rfl,by rw [Zal,Zyj zd,Zal,Zyj zd];exact h200,by rw [Zal,Zyj zd,Zal,Zyj zd];exact h201⟩,?_⟩;refine AgrB.close (k:=1201) (e:=.obj l RR) ?_ (by rw [Zal,Zyj zd,Zal,Zyj zd];exact m201) rfl rfl
    refine AgrB.put ?_ rfl rfl;refine AgrB.put ?_ rfl rfl
    (repeat' (first|(exact AgrB.of (by rw [hmm];exact Agr.start m))|(refine AgrB.own ?_ zo)|(refine AgrB.at ?_)))
   ·(repeat' (first|(with_reducible first|refine stp ?_|apply gx1|apply gx2|apply gx3|apply gx4|apply gx5|apply gx6|apply gx7|apply gy8|apply gz2|apply gz3)|(with_reducible refine Zcg ?_;intro _)|((with_reducible refine gE ?_);(try simp (disch:=omega) only [go_sem,e5,L5,L105,L201,hab,hba,hl2,Zyo,Zyl,Zyk,Zyj,Int.reduceAdd,Int.reduceSub,Int.reduceToNat,Zyw])<;>first|rfl|omega)|with_reducible refine Zai zd ?_|((with_reducible apply gy1);iterate 3 focus rfl)|((with_reducible apply gy2);iterate 3 focus rfl)|((with_reducible apply gy3);iterate 2 focus rfl)|((with_reducible apply gy4);iterate 1 focus rfl)|((with_reducible apply gy5);iterate 4 focus rfl)|((with_reducible apply gy5c);iterate 4 focus rfl)|((with_reducible apply gy6);iterate 4 focus rfl)|((with_reducible apply Zfy);iterate 3 focus rfl)|((with_reducible apply Zfr);iterate 1 focus rfl)|((with_reducible apply gy7);iterate 1 focus rfl)|((with_reducible apply gy9);(focus ((with_reducible refine gE ?_);(try simp (disch:=omega) only [go_sem,e5,L5,L105,L201,hab,hba,hl2,Zyo,Zyl,Zyk,Zyj,Int.reduceAdd,Int.reduceSub,Int.reduceToNat,Zyw])<;>rfl)))|((with_reducible apply gz1);(focus first|rfl|(simp (disch:=omega) only [go_sem,e5,L5,L105,L201,hab,hba,hl2,Zyo,Zyl,Zyk,Zyj,Int.reduceAdd,Int.reduceSub,Int.reduceToNat,Zyw];done)))|((with_reducible apply Zas (Zbr []) [] []);(focus kernel_rfl);(focus rfl);(focus kernel_rfl);(focus (simp only [Zyx,Zy0,Nat.reduceAdd];rfl)))|((with_reducible first|apply Zcs|apply Zc8|apply Zcv);all_goals (intro hc;(try simp only [bool_to_prop] at hc);try (exfalso;omega)))))
    refine⟨rfl,by(simp (disch:=omega) only [go_sem,L201]<;>repeat' first|rfl|refine⟨?_,?_⟩),?_⟩
    (repeat' (first|(with_reducible first|refine stp ?_|apply gx1|apply gx2|apply gx3|apply gx4|apply gx5|apply gx6|apply gx7|apply gy8|apply gz2|apply gz3)|(with_reducible refine Zcg ?_;intro _)|((with_reducible refine gE ?_);(try simp (disch:=omega) only [go_sem,e5,L5,L105,L201,hab,hba,hl2,Zyo,Zyl,Zyk,Zyj,Int.reduceAdd,Int.reduceSub,Int.reduceToNat,Zyw])<;>first|rfl|omega)|with_reducible refine Zai zd ?_|((with_reducible apply gy1);iterate 3 focus rfl)|((with_reducible apply gy2);iterate 3 focus rfl)|((with_reducible apply gy3);iterate 2 focus rfl)|((with_reducible apply gy4);iterate 1 focus rfl)|((with_reducible apply gy5);iterate 4 focus rfl)|((with_reducible apply gy5c);iterate 4 focus rfl)|((with_reducible apply gy6);iterate 4 focus rfl)|((with_reducible apply Zfy);iterate 3 focus rfl)|((with_reducible apply Zfr);iterate 1 focus rfl)|((with_reducible apply gy7);iterate 1 focus rfl)|((with_reducible apply gy9);(focus ((with_reducible refine gE ?_);(try simp (disch:=omega) only [go_sem,e5,L5,L105,L201,hab,hba,hl2,Zyo,Zyl,Zyk,Zyj,Int.reduceAdd,Int.reduceSub,Int.reduceToNat,Zyw])<;>rfl)))|((with_reducible apply gz1);(focus first|rfl|(simp (disch:=omega) only [go_sem,e5,L5,L105,L201,hab,hba,hl2,Zyo,Zyl,Zyk,Zyj,Int.reduceAdd,Int.reduceSub,Int.reduceToNat,Zyw];done)))|((with_reducible apply Zas (Zbr []) [] []);(focus kernel_rfl);(focus rfl);(focus kernel_rfl);(focus (simp only [Zyx,Zy0,Nat.reduceAdd];rfl)))|((with_reducible first|apply Zcs|apply Zc8|apply Zcv);all_goals (intro hc;(try simp only [bool_to_prop] at hc);try (exfalso;omega)))))
    have ho:oris ((Zdg ss gs).take (j+1))=T:=by rw [ho];unfold ori;simp only;rw [Zyj hab,Zyj hba,Zzz]
    refine⟨rfl,gC,.v (.bool true),m,Sub.refl _,⟨rfl,σ',hAg,sv,h5,by rw [ho];exact h105,h200,h201⟩,?_⟩;refine AgrB.close (k:=1201) (e:=.obj l RR) ?_ m201 rfl rfl
    (repeat' (first|(exact AgrB.of (by rw [hmm];exact Agr.start m))|(refine AgrB.own ?_ zo)|(refine AgrB.at ?_)))
 ·have e0:oris ((Zdg ss gs).take 0)=[]:=rfl;exact⟨.slice none 0 0,gC,by rw [e0];exact gC,gC,gC⟩
 ·rintro r σ' ⟨sv,h5,h105,h200,h201⟩
  rw [ZAf] at h105;refine⟨h201,?_⟩;refine xw_flat zr ?_;have hsm:∀p∈oris (Zdg ss gs),smP p:=λp hp=>by
   have hl:=ok.l1;obtain⟨_,h | h⟩:=Zr3.1 hp
   ·obtain⟨a,b,c,d⟩:=ok.b _ h;exact⟨a,zo,c,zo⟩
   ·obtain⟨a,b,c,d⟩:=ok.b _ h;simp only at a b c d;exact⟨c,zo,a,zo⟩
  have hlen:(oris (Zdg ss gs)).length < 256:=by have:=Zmv (Zdg ss gs);have:=ok.len;omega
  have q5:upd σ' 201 none 5=some (.box g5 40 [.own 105 sv] false):=by rw [Zal,Zyj zd];exact h5
  have q105:upd σ' 201 none 105=some (.row sv 54 2 ((oris (Zdg ss gs)).map prA) 0):=by rw [Zal,Zyj zd];exact h105
  have q200:upd σ' 201 none 200=some (.obj D (.deferred (some []))):=by rw [Zal,Zyj zd];exact h200
  clear hround cI cR cP hAll;generalize upd σ' 201 none=σ1 at *;have co:=Zxs σ1 105 sv _ q105 hlen hsm;(focus (refine wkad (w_1 q5) w_t w_t ?_;(repeat' first|exact w_t|apply w_l);all_goals intros));refine Zm0 co ?_
  rintro r2 σ2 ⟨l',p1,p2,hC⟩
  have hln:=lines_eq ok.b p1 p2;rw [←hln];rcases hC with⟨hd,rfl,rfl⟩ | ⟨hle,rfl,rfl⟩
  ·rw [hd];(focus (refine wkad w_t w_t w_t ?_;(repeat' first|exact w_t|apply w_l);all_goals intros));refine .inr ⟨D,rfl,gW q200,?_⟩;generalize l'.map prA=LA at *;clear q5 q105 q200 co;(focus (refine wkad w_t w_t w_t ?_;(repeat' first|exact w_t|apply w_l);all_goals intros));all_goals exact gL
  ·(focus (refine wkad w_t w_t w_t ?_;(repeat' first|exact w_t|apply w_l);all_goals intros));refine .inr ⟨D,rfl,gW q200,?_⟩
   have hz:((Za0 l').map prA++List.replicate (l'.length - (Za0 l').length) (AV.agg [iv 0,iv 0])).take (Za0 l').length=(Za0 l').map prA:=by
    rw [List.take_append_of_le_length (by rw [Zyn];exact Zyp _),ZAl (by rw [Zyn];exact Zyp _)]
   generalize hF:(Za0 l').map prA++List.replicate (l'.length - (Za0 l').length) (AV.agg [iv 0,iv 0])=F at *;clear q5 q105 q200 co;generalize (Za0 l').length=w at *;generalize (Za0 l').map prA=LA at *;have hz0:F.take (0+w)=LA:=by rw [Zzd];exact hz
   (focus (refine wkad (w_1 hz0) w_t w_t ?_;(repeat' first|exact w_t|apply w_l);all_goals intros));all_goals exact gM (w_1 hz0)
def fit45S (s:RS):Bool:=!(decide (8 < s.ar.length) || decide (4 < s.r.l.length) || decide (4 < s.r.d.length))
def fit45G (g:RG):Bool:=!(decide (12 < g.ar.length) || decide (4 < g.r.l.length) || decide (4 < g.r.d.length))
def fit45 (ss:List RS) (gs:List RG):Bool:=ss.all fit45S && (gs.all fit45G && (decide (ss.length≤60) && decide (gs.length≤12)))
theorem Zqv (l:List Pr) (hl:l.length≤10000):Pure prog 11 [.sl 2 (l.map prA),.sl 2 (l.map prA)] (.v (.bool true)):=by
 have hll:(l.map prA).length=l.length:=Zyn ..;have kA:∀j (h:j < l.length),(l.map prA).getD j .u=.agg [iv l[j].1,iv l[j].2]:=λj h=>Zad prA h;generalize hM:l.map prA=M at *;refine pI func11 rfl ntmps11 results11 call11 ?_;(focus (refine wkad (w_1 hll) w_t w_t ?_;(repeat' first|exact w_t|apply w_l);all_goals intros));refine Zab (ι:=Nat) (λi e m=>i≤l.length∧e 0=.sl 2 M∧e 1=.sl 2 M∧e 12=iv l.length∧e 13=iv i) (λi=>l.length - i) 0 zr ?_ ?_
 ·rintro i e m ⟨hi,e0,e1,e12,e13⟩
  by_cases hlt:i < l.length
  ·have gi:=kA i hlt;(focus (refine wkad (w_6 e0 e1 e12 e13 gi hll) w_t w_t ?_;(repeat' first|exact w_t|apply w_l);all_goals intros));exact⟨i+1,⟨zo,gW e0,gW e1,gW e12,gS⟩,zo⟩
  ·have hii:i=l.length:=zo;subst hii;(focus (refine wkad (w_5 e0 e1 e12 e13 hll) w_t w_t ?_;(repeat' first|exact w_t|apply w_l);all_goals intros));all_goals exact gL
 ·exact⟨Zyv _,gC,gC,gW hll,gC⟩
end Go.Proofs.YtjbjejmmnbdbiaaGreat
namespace Go.Proofs.YtjbjejmmnbdbiaaGreat
open Go Go.RowKit Go.Pg Go.Proofs.Tryz
attribute [-bool_to_prop] Bool.and_eq_decide Bool.or_eq_decide Bool.decide_beq_decide decide_eq_decide
attribute [go_sem] underlying161
attribute [local go_sem] Zbw Zbp Zbu Zby Zew Zgf Zj2 Zk8 Zpj
structure RC where
 k:Int
 ar:List Int
 st:Int
abbrev RC.av (c:RC):AV:=.agg [iv c.k,ivs c.ar,iv c.st]
def cAr (k:Int):Int:=if k=1 then 2 else if k=2 then 3 else if k=3 then 4 else if k=4 then 0 else -1
def cErr (k:Int) (ar:List Int) (n:Nat):Int:=if cAr k < 0 then 8 else if (ar.length:Int)≠cAr k then 1 else if outB n ar=true then 2 else 0
def lineB (a b:ByteArray):ByteArray:=if 1 < a.size∨1 < b.size then ⟨#[40]⟩++a++⟨#[32]⟩++b++⟨#[41]⟩ else a++b
def cTxt (k:Int) (x y z w:ByteArray):ByteArray :=
 if k=1 then x++⟨#[32,33,61,32]⟩++y
 else if k=2 then x++⟨#[44,32]⟩++y++⟨#[44,32]⟩++z++⟨#[32,97,114,101,32,110,111,116,32,99,111,108,108,105,110,101,97,114]⟩
 else lineB x y++⟨#[32,97,110,100,32]⟩++lineB z w++⟨#[32,97,114,101,32,110,111,116,32,112,97,114,97,108,108,101,108]⟩
abbrev nmA (ss:List ByteArray) (j:Int):ByteArray:=ss.getD j.toNat ByteArray.empty
def cRes (c:RC) (ss:List ByteArray):AV :=
 if cErr c.k c.ar ss.length≠0 then .tup [strA ⟨#[]⟩,iv (cErr c.k c.ar ss.length)]
 else if c.k=4 then (if c.st < 0∨(ss.length:Int)≤c.st then .tup [strA ⟨#[]⟩,iv 2] else .tup [strA (⟨#[115,108,111,112,101,32,111,102,32]⟩++nmA ss c.st),iv 0])
 else .tup [strA (cTxt c.k (nmA ss (gI c.ar 0)) (nmA ss (gI c.ar 1)) (nmA ss (gI c.ar 2)) (nmA ss (gI c.ar 3))),iv 0]
attribute [go_sem] underlying153
attribute [local go_sem] Za8 Zba Za9 Za6 Za7 Zcd Zcf Zce Zb2 Zb4 Zdh Zdi Zbq Zcp Zem Zel Zlo Zs3
def cHas (k:Int):Bool:=decide (6≤k∧k≤14)
def cOf (s:RS) (i:Nat):RC :=
 if s.k=6 then ⟨4,[],i⟩
 else if s.k=7∨s.k=8 then ⟨1,[gI s.ar 1,gI s.ar 2],i⟩
 else if s.k=9 then ⟨3,s.ar,i⟩
 else if s.k=10∨s.k=12∨s.k=14 then ⟨1,[gI s.ar 0,gI s.ar 1],i⟩
 else if s.k=11 then ⟨2,s.ar,i⟩
 else if s.k=13 then ⟨1,[gI s.ar 0,gI s.ar 2],i⟩
 else ⟨0,[],0⟩
theorem Zuq (k:Int) (i:Int) (b:Bool):Vk (.tup [.agg [iv k,.v (.slice none 0 0),iv i],.v (.bool b)]) (.tup [(RC.mk k [] i).av,.v (.bool b)]) :=
 Vk.tupL (.cons (Vk.aggL (.cons (.refl _) (.cons (.nil 1) (.cons (.refl _) .nil)))) (.cons (.refl _) .nil))
theorem len2 {ar:List Int} (h:(ar.length:Int)=2):∃x y,ar=[x,y]:=by
 match ar,h with
 | [x,y],_=>exact⟨x,y,rfl⟩
theorem len3 {ar:List Int} (h:(ar.length:Int)=3):∃x y z,ar=[x,y,z]:=by
 match ar,h with
 | [x,y,z],_=>exact⟨x,y,z,rfl⟩
theorem len4 {ar:List Int} (h:(ar.length:Int)=4):∃x y z w,ar=[x,y,z,w]:=by
 match ar,h with
 | [x,y,z,w],_=>exact⟨x,y,z,w,rfl⟩
theorem rkStep (ss:List RS) (gs:List RG) (i:Nat) (s:RS) (hi:i < ss.length) (hs:ss[i]=s) (hl:(s.ar.length:Int)=arS s.k):Pure prog 143 [figA ss gs,iv i] (.tup [(cOf s i).av,.v (.bool (cHas s.k))]):=by
 have hg:(ss.map RS.av).getD i .u=s.av:=by rw [Zad RS.av hi,hs]
 have hls:(ss.map RS.av).length=ss.length:=Zyn ..;show Pure _ _ [.agg [.sl 6 (ss.map RS.av),.sl 5 (gs.map RG.av)],iv i] _;clear hs;generalize ss.map RS.av=M at *;generalize gs.map RG.av=N at *;obtain⟨k,nm,ar,⟨rs,rl,rd⟩⟩:=s;simp only at *;by_cases k6:k=6
 ·subst k6;refine Zcj (r:=.tup [.agg [iv 4,.v (.slice none 0 0),iv i],.v (.bool true)]) ?_ (Zuq 4 i true);refine pI func143 rfl ntmps143 results143 call143 ?_;(focus (refine wkld (w_2 hls hg) w_t w_t w_t ?_;(repeat' first|exact w_t|apply w_l);all_goals intros))
 by_cases k7:k=7
 ·subst k7;obtain⟨x,y,z,rfl⟩:=len3 (by simpa [arS] using hl);unfold cOf cHas;simp [gI];refine pI func143 rfl ntmps143 results143 call143 ?_;(focus (refine wkld (w_2 hls hg) w_t w_t (w_1 (w_d 7 [] [9] [32])) ?_;(repeat' first|exact w_t|apply w_l);all_goals intros))
 by_cases k8:k=8
 ·subst k8;obtain⟨x,y,z,rfl⟩:=len3 (by simpa [arS] using hl);unfold cOf cHas;simp [gI];refine pI func143 rfl ntmps143 results143 call143 ?_;(focus (refine wkld (w_2 hls hg) w_t w_t (w_1 (w_d 7 [] [9] [32])) ?_;(repeat' first|exact w_t|apply w_l);all_goals intros))
 by_cases k9:k=9
 ·subst k9;obtain⟨x,y,z,w,rfl⟩:=len4 (by simpa [arS] using hl);unfold cOf cHas;simp [gI];refine pI func143 rfl ntmps143 results143 call143 ?_;(focus (refine wkld (w_2 hls hg) w_t w_t (w_1 (w_d 9 [] [15] [49])) ?_;(repeat' first|exact w_t|apply w_l);all_goals intros))
 by_cases k10:k=10
 ·subst k10;obtain⟨x,y,z,rfl⟩:=len3 (by simpa [arS] using hl);unfold cOf cHas;simp [gI];refine pI func143 rfl ntmps143 results143 call143 ?_;(focus (refine wkld (w_2 hls hg) w_t w_t (w_1 (w_d 13 [] [9] [62])) ?_;(repeat' first|exact w_t|apply w_l);all_goals intros))
 by_cases k11:k=11
 ·subst k11;obtain⟨x,y,z,rfl⟩:=len3 (by simpa [arS] using hl);unfold cOf cHas;simp [gI];refine pI func143 rfl ntmps143 results143 call143 ?_;(focus (refine wkld (w_2 hls hg) w_t w_t (w_1 (w_d 15 [] [12] [76])) ?_;(repeat' first|exact w_t|apply w_l);all_goals intros))
 by_cases k12:k=12
 ·subst k12;obtain⟨x,y,z,w,rfl⟩:=len4 (by simpa [arS] using hl);unfold cOf cHas;simp [gI];refine pI func143 rfl ntmps143 results143 call143 ?_;(focus (refine wkld (w_2 hls hg) w_t w_t (w_1 (w_d 13 [] [9] [62])) ?_;(repeat' first|exact w_t|apply w_l);all_goals intros))
 by_cases k13:k=13
 ·subst k13;obtain⟨x,y,z,w,rfl⟩:=len4 (by simpa [arS] using hl);unfold cOf cHas;simp [gI];refine pI func143 rfl ntmps143 results143 call143 ?_;(focus (refine wkld (w_2 hls hg) w_t w_t (w_1 (w_d 17 [] [9] [87])) ?_;(repeat' first|exact w_t|apply w_l);all_goals intros))
 by_cases k14:k=14
 ·subst k14;obtain⟨x,y,rfl⟩:=len2 (by simpa [arS] using hl);unfold cOf cHas;simp [gI];refine pI func143 rfl ntmps143 results143 call143 ?_;(focus (refine wkld (w_2 hls hg) w_t w_t (w_1 (w_d 13 [] [9] [62])) ?_;(repeat' first|exact w_t|apply w_l);all_goals intros))
 have e1:cOf ⟨k,nm,ar,⟨rs,rl,rd⟩⟩ i=⟨0,[],0⟩:=by unfold cOf;simp [k6,k7,k8,k9,k10,k11,k12,k13,k14]
 have e2:cHas k=false:=by unfold cHas;rw [ZBe];omega
 rw [e1];simp only [e2];refine Zcj (r:=.tup [.agg [iv 0,.v (.slice none 0 0),iv 0],.v (.bool false)]) ?_ (Zuq 0 0 false);clear e1 e2;refine pI func143 rfl ntmps143 results143 call143 ?_;(focus (refine wkld (w_2 hls hg) w_t w_t w_t ?_;(repeat' first|exact w_t|apply w_l);all_goals intros))
def sameC (a b:RC):Bool:=decide (a.k=b.k) && (decide (a.st=b.st) && decide (a.ar=b.ar))
theorem rkSame (a b:RC) (h1:a.ar.length≤1000000000) (h2:b.ar.length≤1000000000):Pure prog 194 [a.av,b.av] (.v (.bool (sameC a b))):=by
 obtain⟨k,ar,st⟩:=a;obtain⟨k',ar',st'⟩:=b;unfold sameC;simp only at *;show Pure _ _ [.agg [iv k,.sl 1 (ar.map iv),iv st],.agg [iv k',.sl 1 (ar'.map iv),iv st']] _;have l1:(ar.map iv).length=ar.length:=Zyn ..;have l2:(ar'.map iv).length=ar'.length:=Zyn ..;by_cases hk:k=k'
 ·by_cases hs:st=st'
  ·by_cases hl:ar.length=ar'.length
   ·have g1:∀i (h:i < ar.length),(ar.map iv).getD i .u=iv (gI ar i):=λi h=>by rw [Zad iv h,Zf8 h]
    have g2:∀i (h:i < ar.length),(ar'.map iv).getD i .u=iv (gI ar' i):=λi h=>by rw [Zad iv zo,Zf8 zo]
    have hne:∀i,i < ar.length→gI ar i≠gI ar' i→decide (ar=ar')=false:=λi hi h=>Zyl λe=>h (by rw [e]);have heq:(∀i,i < ar.length→gI ar i=gI ar' i)→decide (ar=ar')=true:=λh=>Zyo (List.ext_getElem hl λi h3 h4=>by have:=h i h3;rwa [Zf8 h3,Zf8 h4] at this);subst hk hs;simp only [decide_true,ZAv];generalize decide (ar=ar')=v at *;generalize ar.map iv=A at *;generalize ar'.map iv=B at *;rw [←hl] at l2;generalize ar.length=n at *;refine pI func194 rfl ntmps194 results194 call194 ?_;(focus (refine wkad (w_2 l1 l2) w_t w_t ?_;(repeat' first|exact w_t|apply w_l);all_goals intros))
    all_goals rename_i ga gb
    refine Zab (ι:=Nat) (λi e m=>i≤n∧e 2=.pbox 2 ga 0∧m 2=some (.box ga 161 [iv k,.sl 1 A,iv st] false)∧e 3=.pbox 3 gb 0∧m 3=some (.box gb 161 [iv k,.sl 1 B,iv st] false)∧e 5=iv i∧∀j,j < i→gI ar j=gI ar' j) (λi=>n - i) 0 zr ?_ ?_
    ·rintro i e m ⟨hi,e2,m2,e3,m3,e5,hj⟩
     by_cases hlt:i < n
     ·have x1:=g1 i hlt;have x2:=g2 i hlt;have hnx:gI ar i=gI ar' i→∀j,j < i+1→gI ar j=gI ar' j:=λh j hjj=>by
       by_cases e:j=i
       ·rw [e];exact h
       ·exact hj j zo
      have hn:=hne i hlt;clear hj heq hne g1 g2;by_cases hx:gI ar i=gI ar' i
      ·have:=hnx hx;rw [←hx] at x2;clear hnx hn;generalize gI ar i=x at *;(focus (refine wkad (w_9 e2 m2 e3 m3 e5 l1 l2 x1 x2) w_t w_t ?_;(repeat' first|exact w_t|apply w_l);all_goals intros));exact⟨i+1,⟨zo,gW e2,gW m2,gW e3,gW m3,gS,this⟩,zo⟩
      ·rw [hn hx];clear hnx hn;generalize gI ar i=x at *;generalize gI ar' i=y at *;(focus (refine wkad (w_9 e2 m2 e3 m3 e5 l1 l2 x1 x2) w_t w_t ?_;(repeat' first|exact w_t|apply w_l);all_goals intros));all_goals exact gL
     ·rw [heq λj h=>hj j zo];clear hj heq hne g1 g2;(focus (refine wkld (w_7 e2 m2 e3 m3 e5 l1 l2) w_t w_t w_t ?_;(repeat' first|exact w_t|apply w_l);all_goals intros))
    ·exact⟨Zyv _,gC,gC,gC,gC,gC,λj h=>zo⟩
   ·have:decide (ar=ar')=false:=Zyl λe=>hl (by rw [e]);rw [this,ZA9,ZA9];subst hk hs;refine pI func194 rfl ntmps194 results194 call194 ?_;(focus (refine wkad (w_2 l1 l2) w_t w_t ?_;(repeat' first|exact w_t|apply w_l);all_goals intros));all_goals exact gL
  ·rw [Zyl hs,Zzc,ZA9];subst hk;refine pI func194 rfl ntmps194 results194 call194 ?_;(focus (refine wkad (w_2 l1 l2) w_t w_t ?_;(repeat' first|exact w_t|apply w_l);all_goals intros));all_goals exact gL
 ·rw [Zyl hk,Zzc];refine pI func194 rfl ntmps194 results194 call194 ?_;(focus (refine wkad (w_2 l1 l2) w_t w_t ?_;(repeat' first|exact w_t|apply w_l);all_goals intros));all_goals exact gL
def cndN (ss:List RS):Nat→List RC
 | 0=>[]
 | i+1=>cndN ss i++if cHas (ss.getD i RS.zero).k=true then [cOf (ss.getD i RS.zero) i] else []
theorem cndN_y {ss:List RS} {i:Nat} (hi:i < ss.length) (h:cHas ss[i].k=true):(cndN ss (i+1)).map RC.av=(cndN ss i).map RC.av++[(cOf ss[i] i).av]:=by
 show(cndN ss i++_).map RC.av=_;rw [show ss.getD i RS.zero=ss[i] from by rw [Zyu,Zym hi];rfl,Zyk h,Zzh];rfl
theorem cndN_n {ss:List RS} {i:Nat} (hi:i < ss.length) (h:cHas ss[i].k=false):(cndN ss (i+1)).map RC.av=(cndN ss i).map RC.av:=by
 show(cndN ss i++_).map RC.av=_;rw [show ss.getD i RS.zero=ss[i] from by rw [Zyu,Zym hi];rfl,Zyj (by rw [h];simp),Zzz]
theorem Zsp (ss:List RS):∀i,(cndN ss i).length≤i
 | 0=>by simp [cndN]
 | i+1=>by
   show(cndN ss i++_).length≤_;have:=Zsp ss i;rw [Zza];split<;>simp<;>omega
theorem rkOf (ss:List RS) (gs:List RG) (cs:List (Po × Po)) (vs:List Vt) (z:Int) (co:Pure prog 91 [figA ss gs] (.tup [frmA cs vs,iv z])) (hl:ss.length≤1000) (hk:z=0→∀i (h:i < ss.length),(ss[i].ar.length:Int)=arS ss[i].k) :
 Pure prog 92 [figA ss gs] (.tup [.sl 3 (if z=0 then (cndN ss ss.length).map RC.av else []),iv z]):=by
 have hg:∀i (h:i < ss.length),(ss.map RS.av).getD i .u=ss[i].av:=λi h=>Zad RS.av h;have hls:(ss.map RS.av).length=ss.length:=Zyn ..;by_cases hz:z=0
 ·subst hz;rw [Zyk rfl];have hy:=λi (h:i < ss.length)=>cndN_y (ss:=ss) h;have hn:=λi (h:i < ss.length)=>cndN_n (ss:=ss) h;have hcl:=Zsp ss;have hst:∀i (h:i < ss.length),Pure prog 143 [.agg [.sl 6 (ss.map RS.av),.sl 5 (gs.map RG.av)],iv i] (.tup [(cOf ss[i] i).av,.v (.bool (cHas ss[i].k))]):=λi h=>rkStep ss gs i ss[i] h rfl (hk rfl i h);show Pure _ _ [.agg [.sl 6 (ss.map RS.av),.sl 5 (gs.map RG.av)]] _;have co:Pure prog 91 [.agg [.sl 6 (ss.map RS.av),.sl 5 (gs.map RG.av)]] (.tup [.agg [.sl 2 (cs.map coA),.sl 3 (vs.map Vt.av)],iv 0]):=co;clear hk;generalize ss.map RS.av=M at *;generalize gs.map RG.av=N at *
  generalize cs.map coA=C at *;generalize vs.map Vt.av=V at *;refine pI func92 rfl ntmps92 results92 call92 ?_;(focus (refine wkap (w_1 hls) (w_1 co) (w_r 0) ?_;(repeat' first|exact w_t|apply w_l);all_goals intros));rename_i g1 g4;refine Zc4 (Frz.nilOwn (d:=6) 35 3 161 (gC)) ?_;refine Zab (ι:=Nat) (λi e m=>i≤ss.length∧e 1=.pbox 1 g1 0∧m 1=some (.box g1 49 [.sl 6 M,.sl 5 N] false)∧e 7=iv i∧∃sv,e 6=.own 35 sv∧m 35=some (.row sv 161 3 ((cndN ss i).map RC.av) 0)) (λi=>ss.length - i) 0 zr ?_ ?_
  ·rintro i e m ⟨hi,e1,m1,e7,sv,e6,m6⟩
   by_cases hlt:i < ss.length
   ·have hgi:=hg i hlt;have cst:=hst i hlt;have hy:=hy i hlt;have hn:=hn i hlt;have hll:((cndN ss i).map RC.av).length≤1000:=by rw [Zyn];have:=hcl i;omega
    clear hst hg hcl;generalize (cndN ss i).map RC.av=L at *;generalize cOf ss[i] i=c at *;obtain⟨ck,ca,ci⟩:=c;generalize ss[i]=s at *;obtain⟨k,nm,ar,⟨rs,rl,rd⟩⟩:=s;simp only at *;generalize cHas k=b at *
    cases b with
    | true =>
      have hy:=hy rfl;(focus (refine wkap (w_7 e1 m1 e7 e6 m6 hls hgi) (w_1 cst) (w_r 0) ?_;(repeat' first|exact w_t|apply w_l);all_goals intros));exact⟨i+1,⟨zo,gW e1,gW m1,gS,_,gC,by rw [hy];exact gC⟩,zo⟩
    | false =>
      have hn:=hn rfl;(focus (refine wkap (w_7 e1 m1 e7 e6 m6 hls hgi) (w_1 cst) (w_r 0) ?_;(repeat' first|exact w_t|apply w_l);all_goals intros));exact⟨i+1,⟨zo,gW e1,gW m1,gS,sv,gW e6,by rw [hn];exact gW m6⟩,zo⟩
   ·have hin:i=ss.length:=zo;subst hin;clear hst hg hcl hy hn;generalize (cndN ss ss.length).map RC.av=L at *;(focus (refine wklp (w_6 e1 m1 e7 e6 m6 hls) w_t (w_1 m6) (w_r 0) ?_;(repeat' first|exact w_t|apply w_l);all_goals intros))
  ·exact⟨Zyv _,gC,gC,gC,_,gC,by(simp (disch:=omega) only [go_sem,cndN,Zzx]<;>repeat' first|rfl|refine⟨?_,?_⟩)⟩
 ·rw [Zyj hz];refine Zcj (r:=.tup [.v (.slice none 0 0),iv z]) ?_ (Vk.tupL (.cons (.nil 3) (.cons (.refl _) .nil)));show Pure _ _ [.agg [.sl 6 (ss.map RS.av),.sl 5 (gs.map RG.av)]] _;have co:Pure prog 91 [.agg [.sl 6 (ss.map RS.av),.sl 5 (gs.map RG.av)]] (.tup [.agg [.sl 2 (cs.map coA),.sl 3 (vs.map Vt.av)],iv z]):=co;clear hk hg;generalize ss.map RS.av=M at *;generalize gs.map RG.av=N at *;generalize cs.map coA=C at *;generalize vs.map Vt.av=V at *;refine pI func92 rfl ntmps92 results92 call92 ?_;(focus (refine wklp (w_2 hls hz) (w_1 co) w_t (w_r 0) ?_;(repeat' first|exact w_t|apply w_l);all_goals intros))
def cndOk (c:RC) (ss:List RS):Bool:=decide (0≤c.st∧c.st < (ss.length:Int)) && (cHas (ss.getD c.st.toNat RS.zero).k && sameC c (cOf (ss.getD c.st.toNat RS.zero) c.st.toNat))
theorem cOf_len {s:RS} {i:Nat} (h:s.ar.length≤1000):(cOf s i).ar.length≤1000:=by
 unfold cOf
 repeat' split
 all_goals first|exact h|simp
theorem arS_le' (k:Int):arS k≤4:=by
 unfold arS
 repeat' split
 all_goals omega
theorem rkRight (c:RC) (ss:List RS) (gs:List RG) (hc:c.ar.length≤1000) (hl:ss.length≤1000) (hk:∀i (h:i < ss.length),(ss[i].ar.length:Int)=arS ss[i].k):Pure prog 144 [c.av,figA ss gs] (.v (.bool (cndOk c ss))):=by
 show Pure _ _ [c.av,.agg [.sl 6 (ss.map RS.av),.sl 5 (gs.map RG.av)]] _;have hls:(ss.map RS.av).length=ss.length:=Zyn ..;obtain⟨k,ar,st⟩:=c;unfold cndOk;simp only at *;by_cases hs:0≤st∧st < (ss.length:Int)
 ·rw [Zyo hs,ZAv];obtain⟨s,rfl⟩:∃s:Nat,st=s:=⟨st.toNat,zo⟩;rw [Zz5];have hlt:s < ss.length:=zo;have hgi:(ss.map RS.av).getD s .u=ss[s].av:=Zad RS.av hlt;rw [show ss.getD s RS.zero=ss[s] from by rw [Zyu,Zym hlt];rfl];have cst:Pure prog 143 [.agg [.sl 6 (ss.map RS.av),.sl 5 (gs.map RG.av)],iv s] (.tup [(cOf ss[s] s).av,.v (.bool (cHas ss[s].k))]):=rkStep ss gs s ss[s] hlt rfl (hk s hlt);have cm:=rkSame ⟨k,ar,s⟩ (cOf ss[s] s) (by show ar.length≤_;omega) (by have:=cOf_len (s:=ss[s]) (i:=s) (by have:=hk s hlt;have:=arS_le' ss[s].k;omega);omega)
  clear hk;generalize sameC ⟨k,ar,s⟩ (cOf ss[s] s)=v at *;generalize cOf ss[s] s=c at *;obtain⟨ck,ca,ci⟩:=c;generalize ss.map RS.av=M at *;generalize gs.map RG.av=N at *;generalize ss[s]=t at *;obtain⟨k',nm,ar',⟨rs,rl,rd⟩⟩:=t;simp only at *;generalize cHas k'=b at *;cases b
  ·refine pI func144 rfl ntmps144 results144 call144 ?_;(focus (refine wklp (w_2 hls hgi) (w_2 cst cm) w_t (w_r 0) ?_;(repeat' first|exact w_t|apply w_l);all_goals intros))
  ·refine pI func144 rfl ntmps144 results144 call144 ?_;(focus (refine wklp (w_2 hls hgi) (w_2 cst cm) w_t (w_r 0) ?_;(repeat' first|exact w_t|apply w_l);all_goals intros))
 ·rw [Zyl hs,Zzc];clear hk;generalize ss.map RS.av=M at *;generalize gs.map RG.av=N at *;by_cases h0:st < 0
  ·refine pI func144 rfl ntmps144 results144 call144 ?_;(focus (refine wklp (w_1 hls) w_t w_t (w_r 0) ?_;(repeat' first|exact w_t|apply w_l);all_goals intros))
  ·have h1:(ss.length:Int)≤st:=zo;refine pI func144 rfl ntmps144 results144 call144 ?_;(focus (refine wklp (w_1 hls) w_t w_t (w_r 0) ?_;(repeat' first|exact w_t|apply w_l);all_goals intros))
end Go.Proofs.YtjbjejmmnbdbiaaGreat
namespace Go.Proofs.YtjbjejmmnbdbiaaGreat
attribute [-bool_to_prop] Bool.and_eq_decide Bool.or_eq_decide Bool.decide_beq_decide decide_eq_decide
section
open Go Go.RowKit Go.Pg Go.Pol
end
end Go.Proofs.YtjbjejmmnbdbiaaGreat
namespace Go.Proofs.YtjbjejmmnbdbiaaGreat
open Go Go.RowKit Go.Pg Go.Pol Go.Proofs.Tryz
attribute [-bool_to_prop] Bool.and_eq_decide Bool.or_eq_decide Bool.decide_beq_decide decide_eq_decide
theorem Zop {α:Type} [DecidableEq α]:∀(l m:List α),l.Nodup→(∀x∈l,x∈m)→l.length≤m.length
 | [],_,_,_=>Zyv _
 | x :: l,m,h,hs=>by
   obtain⟨h1,h2⟩:=List.nodup_cons.1 h;have hx:=hs x (.head _);have:=Zop l (m.erase x) h2 λy hy=>(List.mem_erase_of_ne (show y≠x from λe=>h1 (by rw [←e];exact hy))).2 (hs y (.tail _ hy));rw [List.length_erase_of_mem hx] at this;have hp:=List.length_pos_of_mem hx;rw [Zyx];omega
theorem Zu3 {p:Po} (h:SrtM p):(p.map (·.2)).Nodup:=by
 rw [List.Nodup,List.pairwise_map];refine List.Pairwise.imp ?_ h.2;intro s t hst e;rw [e] at hst;exact ordM.irr _ hst
theorem len_of {r a b:Po} (hr:SrtM r) (h:∀t∈r,t.2∈a.map (·.2)∨t.2∈b.map (·.2)):r.length≤a.length+b.length:=by
 have:=Zop (r.map (·.2)) (a.map (·.2)++b.map (·.2)) (Zu3 hr) λx hx=>by
  obtain⟨t,ht,rfl⟩:=List.mem_map.1 hx;exact List.mem_append.2 (h t ht)
 simpa using this
theorem mem_scl {q:Rat} {p:Po} {t:Tm} (h:t∈sclM q p):t.2∈p.map (·.2):=by
 unfold sclM at h;split at h
 ·cases h
 ·obtain⟨s,hs,rfl⟩:=List.mem_map.1 h;exact List.mem_map.2 ⟨s,hs,rfl⟩
theorem Zqs {p q:Po} {t:Tm} (h:t∈addM p q):t.2∈p.map (·.2)∨t.2∈q.map (·.2):=by
 obtain⟨s,hs,e⟩:=Zjs h;rcases List.mem_append.1 hs with h1 | h1
 ·exact .inl (List.mem_map.2 ⟨s,h1,e.symm⟩)
 ·exact .inr (List.mem_map.2 ⟨s,h1,e.symm⟩)
theorem mem_neg {p:Po} {x:List Int} (h:x∈(Zb0 (-1) p).map (·.2)):x∈p.map (·.2):=by
 unfold Zb0 at h;rw [List.map_map] at h;exact h
theorem Zxa {a b:Po} (q:Rat) (ha:SrtM a) (hb:SrtM b):(addM a (sclM q (subM b a))).length≤a.length+b.length :=
 len_of (Zcx ordM ha (Zj8 (Zdj ordM hb ha))) λt ht=>by
  rcases Zqs ht with h | h
  ·exact .inl h
  ·obtain⟨s,hs,e⟩:=List.mem_map.1 h;have h1:=mem_scl hs;obtain⟨u,hu,e2⟩:=List.mem_map.1 h1;rcases Zqs hu with h2 | h2
   ·exact .inr (by rw [←e,←e2];exact h2)
   ·exact .inl (by rw [←e,←e2];exact mem_neg h2)
theorem Zph {f:FS} (h:∀c∈f.cs,SrtM c.1∧SrtM c.2) (s:RS) (k:Nat):SrtM (f.at s k).1∧SrtM (f.at s k).2:=by
 unfold FS.at;by_cases hk:(gI s.ar k).toNat < f.cs.length
 ·exact h _ (Zcu hk)
 ·rw [Zyu,Zz1 zo];exact⟨.nil,.nil⟩
theorem nxt_srt {f:FS} (h:∀c∈f.cs,SrtM c.1∧SrtM c.2) (i:Nat) (s:RS):SrtM (f.nxt i s).2.1∧SrtM (f.nxt i s).2.2:=by
 obtain⟨a1,a2⟩:=Zph h s 0;obtain⟨b1,b2⟩:=Zph h s 1;obtain⟨c1,c2⟩:=Zph h s 2;have hv:=Zfa;unfold FS.nxt;simp only;split
 ·split
  ·exact⟨.nil,.nil⟩
  ·split
   ·exact⟨hv _,.nil⟩
   ·exact⟨hv _,hv _⟩
 ·split
  ·exact⟨Zcx ordM a1 (Zj8 (Zdj ordM b1 a1)),Zcx ordM a2 (Zj8 (Zdj ordM b2 a2))⟩
  ·split
   ·exact⟨Zcx ordM a1 (Zdj ordM c1 b1),Zcx ordM a2 (Zdj ordM c2 b2)⟩
   ·split
    ·exact⟨Zcx ordM a1 (Zdj ordM b2 c2),Zcx ordM a2 (Zdj ordM c1 b1)⟩
    ·split
     ·exact⟨Zcx ordM a1 (Zeq ordM mulK (Zdj ordM b1 a1) (hv _)),Zcx ordM a2 (Zeq ordM mulK (Zdj ordM b2 a2) (hv _))⟩
     ·split
      ·exact⟨hv _,hv _⟩
      ·exact⟨hv _,hv _⟩
theorem Zq2 (ss:List RS):∀i,∀c∈(frN ss i).cs,SrtM c.1∧SrtM c.2
 | 0,c,h=>by simp [frN] at h
 | i+1,c,h=>by
   rcases List.mem_append.1 (show c∈(frN ss i).cs++[_] from h) with h1 | h1
   ·exact Zq2 ss i c h1
   ·rw [ZAr] at h1;subst h1;exact nxt_srt (Zq2 ss i) i _
theorem at_w {f:FS} {w:List Int} (h:∀n,((f.cs.getD n ([],[])).1.length:Int)≤gI w n∧((f.cs.getD n ([],[])).2.length:Int)≤gI w n) (s:RS) (k:Nat):((f.at s k).1.length:Int)≤gI w (gI s.ar k).toNat∧((f.at s k).2.length:Int)≤gI w (gI s.ar k).toNat:=h _
theorem nxt_w {f:FS} {w:List Int} (h0:∀c∈f.cs,SrtM c.1∧SrtM c.2) (h:∀n,((f.cs.getD n ([],[])).1.length:Int)≤gI w n∧((f.cs.getD n ([],[])).2.length:Int)≤gI w n) (i:Nat) (s:RS) :
 ((f.nxt i s).2.1.length:Int)≤wOf w s∧((f.nxt i s).2.2.length:Int)≤wOf w s:=by
 obtain⟨a1,a2⟩:=at_w h s 0;obtain⟨b1,b2⟩:=at_w h s 1;obtain⟨c1,c2⟩:=at_w h s 2;obtain⟨r1,r2⟩:=Zph h0 s 0;obtain⟨t1,t2⟩:=Zph h0 s 1;have hv:=λv=>(Zur v).l;have d1:=Zxa s.r.q r1 t1;have d2:=Zxa s.r.q r2 t2;unfold FS.nxt wOf;simp only;generalize f.at s 0=a at *;generalize f.at s 1=b at *;generalize f.at s 2=c at *;have hw:∀p q r:Po,(addM p (subM q r)).length≤p.length+(q.length+r.length):=fun(p q r:Po)=>Zyz (Zjy (lt:=ltM) p (subM q r)) (Nat.add_le_add_left (Zhq q r) _);have hw':∀(p q:Po) (v:Nat),(addM p (mlM (subM q p) (varM v))).length≤p.length+(q.length+p.length):=fun(p q:Po) (v:Nat)=>Zyz (Zjy (lt:=ltM) p (mlM (subM q p) (varM v))) (Nat.add_le_add_left (Zyz (Zjr (subM q p) v) (Zhq q p)) _)
 have two:∀{x y:Po} {v:Int},(x.length:Int)≤v→(y.length:Int)≤v→(x.length:Int)≤v∧(y.length:Int)≤v:=λh k=>⟨h,k⟩;have v1:=hv f.vs.length;have v2:=hv (f.vs.length+1);have v3:=hv (f.vs.length+2);have n0:((([]:Po)).length:Int)≤1:=by simp
 by_cases k1:s.k=1
 ·rw [Zyk k1,Zyj (show ¬s.k=2 by omega),Zyj (show ¬(s.k=3∨s.k=4) by omega),Zyj (show ¬s.k=5 by omega)];split
  ·exact two n0 n0
  ·split
   ·exact two (x:=varM f.vs.length) zo n0
   ·exact two (x:=varM f.vs.length) (y:=varM (f.vs.length+1)) zo zo
 ·rw [Zyj k1];by_cases k2:s.k=2
  ·rw [Zyk k2,Zyk k2];exact two (x:=addM a.1 (sclM s.r.q (subM b.1 a.1))) (y:=addM a.2 (sclM s.r.q (subM b.2 a.2))) zo zo
  ·rw [Zyj k2,Zyj k2];by_cases k3:s.k=3
   ·rw [Zyk k3,Zyk (Or.inl k3)];have h1:=hw a.1 c.1 b.1;have h2:=hw a.2 c.2 b.2;exact two (x:=addM a.1 (subM c.1 b.1)) (y:=addM a.2 (subM c.2 b.2)) zo zo
   ·rw [Zyj k3];by_cases k4:s.k=4
    ·rw [Zyk k4,Zyk (Or.inr k4)];have h1:=hw a.1 b.2 c.2;have h2:=hw a.2 c.1 b.1;exact two (x:=addM a.1 (subM b.2 c.2)) (y:=addM a.2 (subM c.1 b.1)) zo zo
    ·rw [Zyj k4,Zyj (show ¬(s.k=3∨s.k=4) by omega)];by_cases k5:s.k=5
     ·rw [Zyk k5,Zyk k5];have h1:=hw' a.1 b.1 f.vs.length;have h2:=hw' a.2 b.2 f.vs.length;exact two (x:=addM a.1 (mlM (subM b.1 a.1) (varM f.vs.length))) (y:=addM a.2 (mlM (subM b.2 a.2) (varM f.vs.length))) zo zo
     ·rw [Zyj k5,Zyj k5];split
      ·exact two (x:=varM (f.vs.length+1)) (y:=varM (f.vs.length+2)) zo zo
      ·exact two (x:=varM f.vs.length) (y:=varM (f.vs.length+1)) zo zo
theorem frN_w (ss:List RS):∀i n,(((frN ss i).cs.getD n ([],[])).1.length:Int)≤gI (wts ss i) n∧(((frN ss i).cs.getD n ([],[])).2.length:Int)≤gI (wts ss i) n
 | 0,n=>by simp [frN,wts,gI]
 | i+1,n=>by
   have ih:=frN_w ss i;show((((frN ss i).cs++[_]).getD n ([],[])).1.length:Int)≤gI (wts ss i++[_]) n∧((((frN ss i).cs++[_]).getD n ([],[])).2.length:Int)≤gI (wts ss i++[_]) n;rw [gI_app,Zpl];have hl:=Zhy ss i;by_cases h1:n < i
   ·rw [Zyk h1,Zyu,Zzr zo,←Zyu];exact ih n
   ·rw [Zyj h1];by_cases h2:n=i
    ·rw [Zyk h2,Zyu,Zzv zo,hl,h2,ZCp];exact nxt_w (Zq2 ss i) ih i _
    ·rw [Zyj h2,Zyu,Zz1 (by simp;omega)];simp
theorem vs_le (ss:List RS):∀i,(frN ss i).vs.length≤3*i
 | 0=>by simp [frN]
 | i+1=>by
   show((frN ss i).vs++((frN ss i).nxt i (ss.getD i RS.zero)).1).length≤_;rw [Zza];have:=vs_le ss i;have:=Zr5 (frN ss i) i (ss.getD i RS.zero);omega
def dgS (S:Nat→Bool) (m:List Int):Nat→Int
 | 0=>0
 | n+1=>dgS S m n+if S n then gI m n else 0
theorem Zxu (S:Nat→Bool) (a b:List Int):∀n,dgS S (mulM a b) n=dgS S a n+dgS S b n
 | 0=>rfl
 | n+1=>by
   show dgS S (mulM a b) n+_=(dgS S a n+_)+(dgS S b n+_);rw [Zxu S a b n,show gI (mulM a b) n=gI a n+gI b n from Zhn _ rfl a b n];split<;>omega
def DP (S:Nat→Bool) (V:Nat) (d:Int) (p:Po):Prop:=∀t∈p,t.2.length≤V∧dgS S t.2 V≤d
theorem DP.mono {S:Nat→Bool} {V:Nat} {d e:Int} {p:Po} (h:DP S V d p) (hd:d≤e):DP S V e p:=λt ht=>⟨(h t ht).1,by have:=(h t ht).2;omega⟩
theorem DP.add {S:Nat→Bool} {V:Nat} {d:Int} {p q:Po} (h:DP S V d p) (g:DP S V d q):DP S V d (addM p q):=λt ht=>by
 rcases Zqs ht with h1 | h1
 ·obtain⟨u,hu,e⟩:=List.mem_map.1 h1;rw [←e];exact h u hu
 ·obtain⟨u,hu,e⟩:=List.mem_map.1 h1;rw [←e];exact g u hu
theorem DP.neg {S:Nat→Bool} {V:Nat} {d:Int} {p:Po} (h:DP S V d p):DP S V d (Zb0 (-1) p):=λt ht=>by
 obtain⟨u,hu,rfl⟩:=List.mem_map.1 ht;exact h u hu
theorem DP.sub {S:Nat→Bool} {V:Nat} {d:Int} {p q:Po} (h:DP S V d p) (g:DP S V d q):DP S V d (subM p q):=h.add g.neg
theorem DP.mul {S:Nat→Bool} {V:Nat} {d e:Int} {p q:Po} (h:DP S V d p) (g:DP S V e q):DP S V (d+e) (mlM p q):=by
 have key:∀(q out:Po),DP S V e q→DP S V (d+e) out→DP S V (d+e) (q.foldl (λout t=>addP ltM out (Zbi mulM p t)) out):=by
  intro q
  induction q with
  | nil=>exact λout _ h2=>h2
  | cons t q ih =>
    intro out h1 h2;rw [ZC9];refine ih _ (λu hu=>h1 u (.tail _ hu)) (h2.add λu hu=>?_);obtain⟨s,hs,rfl⟩:=List.mem_map.1 hu;obtain⟨a1,a2⟩:=h s hs;obtain⟨b1,b2⟩:=h1 t (.head _);exact⟨by show(mulM s.2 t.2).length≤V;rw [Zie];omega,by show dgS S (mulM s.2 t.2) V≤_;rw [Zxu];omega⟩
 exact key q [] g λt ht=>by cases ht
section
attribute [local go_sem] underlying3 underlying4 underlying125 underlying9 underlying53 underlying41 underlying28 underlying26 underlying24 underlying78 underlying46 underlying49 underlying275 underlying60 underlying203 underlying59 underlying62 underlying157 underlying280 sz3 by3 z3 szB zB Zbw zErr Zbp Zbu zStr Za8 zRat Zba zInt Za9 zNat Za6 Za7 Zcd Zcf zFig Zby zSlI Zce zSlS Zfq Zfz zVar Zel zSlV Zb7 Zcc Zdc Zem zSlC Zbq Zcp Zcr Zcw Zek Zcq Zej underlying63 Zlf zSlP underlying80 underlying47 szL byL zL Zb2 Zb4 Zdh Zdi zSlF
end
end Go.Proofs.YtjbjejmmnbdbiaaGreat
