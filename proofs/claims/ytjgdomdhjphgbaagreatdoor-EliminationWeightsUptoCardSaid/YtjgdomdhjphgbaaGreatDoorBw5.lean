/- Contracts of the functions that the law reaches, and the rules by which they are walked. They say what a call hands back for every input within the bounds that each names; no other condition. -/
import Derived.Test.YtjgdomdhjphgbaaGreatDoorBw4
set_option linter.unusedSimpArgs false
set_option linter.unusedVariables false
set_option maxRecDepth 20000
set_option maxHeartbeats 16000000
namespace Go.Proofs.YtjgdomdhjphgbaaGreatDoor
open Go Go.RowKit Go.Pg Go.Pol
def tS (ss:List ByteArray) (p:List Qt) (s0:ByteArray):Nat→ByteArray
 | 0=>s0
 | i+1=>(if (tS ss p s0 i).size=0 then tS ss p s0 i else tS ss p s0 i++⟨#[42]⟩)++(p.getD i Qt.zero).txt ss
def chkP (n:Int):List Qt→Int
 | []=>0
 | q :: l=>if Qt.chk q n 64=0 then chkP n l else Qt.chk q n 64
def absR (a:Rat):Rat:=if a.num < 0 then -a else a
def tTxt (ss:List ByteArray) (t:Rat × List Qt):ByteArray:=tS ss t.2 (if t.2.length≠0∧absR t.1=1 then ⟨#[]⟩ else decQ (absR t.1)) t.2.length
def eS (ss:List ByteArray) (l:QTs):Nat→ByteArray
 | 0=>⟨#[]⟩
 | i+1=>(if i=0 then (if (l.getD i (0,[])).1.num < 0 then ⟨#[45]⟩ else ⟨#[]⟩) else eS ss l i++(if (l.getD i (0,[])).1.num < 0 then ⟨#[32,45,32]⟩ else ⟨#[32,43,32]⟩))++tTxt ss (l.getD i (0,[]))
def chkE (n:Int):QTs→Int
 | []=>0
 | t :: l=>if chkP n t.2=0 then chkE n l else chkP n t.2
def eTxt (ss:List ByteArray) (l:QTs):ByteArray:=if l.length=0 then ⟨#[48]⟩ else eS ss l l.length
theorem Zsv {n:Int}:∀{p:List Qt},(∀j (h:j < p.length),Qt.chk p[j] n 64=0)→chkP n p=0
 | [],_=>rfl
 | q :: l,h=>by
   have h0:Qt.chk q n 64=0:=h 0 (by simp);unfold chkP;rw [if_pos h0];exact Zsv λj hj=>h (j+1) (by simpa using hj)
theorem Zyf {n:Int}:∀{p:List Qt} {i:Nat} (hi:i < p.length),(∀j (h:j < p.length),j < i→Qt.chk p[j] n 64=0)→Qt.chk p[i] n 64≠0→chkP n p=Qt.chk p[i] n 64
 | q :: l,0,_,_,h2=>by
   have h2:Qt.chk q n 64≠0:=h2;unfold chkP;rw [if_neg h2];rfl
 | q :: l,i+1,hi,h,h2=>by
   have h0:Qt.chk q n 64=0:=h 0 (by simp) (by omega);unfold chkP;rw [if_pos h0];exact Zyf (by simpa using hi) (λj hj hji=>h (j+1) (by simpa using hj) (by omega)) h2
theorem Zsw {n:Int}:∀{l:QTs},(∀j (h:j < l.length),chkP n l[j].2=0)→chkE n l=0
 | [],_=>rfl
 | q :: l,h=>by
   have h0:chkP n q.2=0:=h 0 (by simp);unfold chkE;rw [if_pos h0];exact Zsw λj hj=>h (j+1) (by simpa using hj)
theorem Zyg {n:Int}:∀{l:QTs} {i:Nat} (hi:i < l.length),(∀j (h:j < l.length),j < i→chkP n l[j].2=0)→chkP n l[i].2≠0→chkE n l=chkP n l[i].2
 | q :: l,0,_,_,h2=>by
   have h2:chkP n q.2≠0:=h2;unfold chkE;rw [if_neg h2];rfl
 | q :: l,i+1,hi,h,h2=>by
   have h0:chkP n q.2=0:=h 0 (by simp) (by omega);unfold chkE;rw [if_pos h0];exact Zyg (by simpa using hi) (λj hj hji=>h (j+1) (by simpa using hj) (by omega)) h2
theorem txt_pos (q:Qt) (ss:List ByteArray):0 < (q.txt ss).size:=by
 unfold Qt.txt;split<;>simp only [ByteArray.size_append]<;>(have:(⟨#[41]⟩:ByteArray).size=1:=rfl;omega)
theorem txt_size (q:Qt) (ss:List ByteArray) (hs:∀s∈ss,s.size≤1000) (ha:q.a < 64):(q.txt ss).size≤4000:=by
 have h1:=Zfw hs q.a.toNat;have h2:=Zfw hs q.b.toNat;have h3:=Zfw hs q.c.toNat;have z:=Zfp q.a.toNat;have zl:(toL q.a.toNat).length≤1:=Zaf.2 (by omega);have s1:(⟨#[83,40]⟩:ByteArray).size=2:=rfl;have s2:(⟨#[80,40]⟩:ByteArray).size=2:=rfl;have s3:(⟨#[44,32]⟩:ByteArray).size=2:=rfl;have s4:(⟨#[41]⟩:ByteArray).size=1:=rfl;have s5:(⟨#[116,40]⟩:ByteArray).size=2:=rfl;unfold Qt.txt;split
 ·simp only [ByteArray.size_append];omega
 ·split<;>simp only [ByteArray.size_append]<;>omega
theorem Zyd {q:Qt} {n:Int} (ss:List ByteArray) (hs:∀s∈ss,s.size≤1000) (h:Qt.chk q n 64=0):(q.txt ss).size≤4000:=by
 unfold Qt.txt;by_cases hk:q.k=3
 ·have ha:q.a < 64:=by
   rcases Zye (k:=q.k) (a:=q.a) (b:=q.b) (c:=q.c) h with h1 | h1
   ·exact h1.2.2.1
   ·exact absurd hk h1.1
  exact txt_size q ss hs ha
 ·have h1:=Zfw hs q.a.toNat;have h2:=Zfw hs q.b.toNat;have h3:=Zfw hs q.c.toNat;have s1:(⟨#[83,40]⟩:ByteArray).size=2:=rfl;have s2:(⟨#[80,40]⟩:ByteArray).size=2:=rfl;have s3:(⟨#[44,32]⟩:ByteArray).size=2:=rfl;have s4:(⟨#[41]⟩:ByteArray).size=1:=rfl;rw [if_neg hk];split<;>simp only [ByteArray.size_append]<;>omega
theorem tS_pos (ss:List ByteArray) (p:List Qt) (s0:ByteArray) (i:Nat) (h:0 < i):0 < (tS ss p s0 i).size:=by
 obtain⟨j,rfl⟩:∃j,i=j+1:=⟨i - 1,by omega⟩;unfold tS;rw [ByteArray.size_append];have:=txt_pos (p.getD j Qt.zero) ss;omega
theorem Zu0 {ss:List ByteArray} {p:List Qt} {s0:ByteArray} {n:Int} (hs:∀s∈ss,s.size≤1000) {i:Nat} (hi:i≤p.length) (h:∀j (h:j < p.length),j < i→Qt.chk p[j] n 64=0):(tS ss p s0 i).size≤s0.size+i*4001:=by
 induction i with
 | zero=>unfold tS;omega
 | succ i ih =>
   have h1:=ih (by omega) λj hj hji=>h j hj (by omega);have h2:=Zyd ss hs (h i (by omega) (by omega));have e:p.getD i Qt.zero=p[i]:=by rw [List.getD_eq_getElem?_getD,List.getElem?_eq_getElem (by omega)];rfl
   unfold tS;rw [ByteArray.size_append,e];have s1:(⟨#[42]⟩:ByteArray).size=1:=rfl;split
   ·omega
   ·rw [ByteArray.size_append];omega
theorem Zpi {q:Rat} {k:Nat} (h:Sz q k):(decQ q).size≤10*k+4:=by
 have h1:=h.1;have h2:=h.2;have z1:=Zph q.num;have z2:=Zfp q.den;have h47:(Zgd [47]).size=1:=Zee _;unfold decQ;split
 ·omega
 ·rw [ByteArray.size_append,ByteArray.size_append];omega
theorem Zns {q:Rat} {k:Nat} (h:Sz q k):Sz (absR q) k:=by
 unfold absR;split
 ·exact⟨by rw [show(-q).num=-q.num from rfl,Int.natAbs_neg];exact h.1,h.2⟩
 ·exact h
theorem Zyz (q:Rat):ratQ (absR q)=.agg [.v (.bool false),lim (toL q.num.natAbs),lim (toL q.den)]:=by
 unfold absR;split
 ·rename_i h;unfold ratQ;rw [show(-q).num=-q.num from rfl,show(-q).den=q.den from rfl,Int.natAbs_neg,decide_eq_false (by omega)]
 ·rename_i h;unfold ratQ;rw [decide_eq_false h]
end Go.Proofs.YtjgdomdhjphgbaaGreatDoor
namespace Go.Proofs.YtjgdomdhjphgbaaGreatDoor
open Go Go.RowKit Go.Pg
attribute [-bool_to_prop] Bool.and_eq_decide Bool.or_eq_decide Bool.decide_beq_decide decide_eq_decide
attribute [local go_sem] Tryz.underlying3 Tryz.underlying2 Tryz.underlying160 Tryz.underlying120 Tryz.underlying4 Tryz.underlying34 Tryz.underlying53 Tryz.underlying49 Tryz.underlying51 sz3 by3 z3 szL byL zL Zcf zErr Zax zRat Za2 zNat Za3 zInt szB zB Bool.and_self
theorem ratEqual (a b:Rat) {j k:Nat} (ha:Sz a j) (hb:Sz b k) (hj:j≤1000000) (hk:k≤1000000):Pure Tryz.prog 92 [ratQ a,ratQ b] (.v (.bool (decide (a=b)))):=by
 have c:=ratCmp a b ha hb (by omega) (by omega)
 have e:(cmpQ a b == 0)=decide (a=b):=by
  rw [Bool.eq_iff_iff,beq_iff_eq,decide_eq_true_eq];unfold cmpQ;constructor
  ·intro h;split at h
   ·omega
   ·split at h
    ·omega
    ·rename_i h1 h2;exact Rat.le_antisymm (Rat.not_lt.1 h2) (Rat.not_lt.1 h1)
  ·rintro rfl
   simp
 rw [←e];generalize cmpQ a b=s at *;refine Zaa (tok:=0) Tryz.func92 rfl Tryz.ntmps92 Tryz.results92 Tryz.call92 (by rfl) (by simp) ?_;(focus (refine wkvp w_t (w_1 c) ?_;(repeat' first|exact w_t|apply w_l);all_goals intros));simp (disch:=omega) only [go_sem]
end Go.Proofs.YtjgdomdhjphgbaaGreatDoor
namespace Go.Proofs.YtjgdomdhjphgbaaGreatDoor
open Go Go.RowKit Go.Pg Go.Pol
attribute [-bool_to_prop] Bool.and_eq_decide Bool.or_eq_decide Bool.decide_beq_decide decide_eq_decide
attribute [local go_sem] Tryz.underlying3 Tryz.underlying4 Tryz.underlying160 Tryz.underlying49 Tryz.underlying51 Tryz.underlying53 Tryz.underlying27 Tryz.underlying54 Tryz.underlying56 Tryz.underlying30 Tryz.underlying31 sz3 by3 z3 szB zB Zax zRat Za3 zInt Za2 zNat Zag Zaq Zah Bool.and_self Zal Zbh zSlQ szQT byQT zQT Zbj zSlT szQP zQP Tryz.underlying9 Tryz.underlying145 Tryz.underlying107 Tryz.underlying143 Zn0 Zi3 Znt Zn1 Zbq zStr zSum zMap Tryz.underlying34 Tryz.underlying44 List.append_eq
theorem ratNegN (a:Rat) {k:Nat} (h:Sz a k) (hk:k≤1000000) (h0:a.num < 0):Pure Tryz.prog 90 [ratQ a] (.agg [.v (.bool false),lim (toL a.num.natAbs),lim (toL a.den)]):=by
 have cp:=Zfy a h (by omega);have h1:=h.1;have h2:=h.2;have cr:=Zef false a.num.natAbs a.den (by omega) (by omega) a.den_nz
 have e:mkRat (zI false a.num.natAbs) a.den=-a:=by
  rw [show zI false a.num.natAbs=-a.num from by simp only [zI];simp;omega,←Rat.neg_mkRat,Rat.mkRat_self]
 have e2:absR a=-a:=by unfold absR;rw [if_pos h0]
 rw [e,←e2,Zyz] at cr;have e3:ratQ a=.agg [.v (.bool true),lim (toL a.num.natAbs),lim (toL a.den)]:=by unfold ratQ;rw [decide_eq_true h0]
 have e4:intZ a.num=.agg [.v (.bool true),lim (toL a.num.natAbs)]:=by unfold intZ intA;rw [decide_eq_true h0]
 have e5:intA false a.num.natAbs=.agg [.v (.bool false),lim (toL a.num.natAbs)]:=rfl;rw [e3,e4] at cp;rw [e5] at cr;rw [e3];clear e e2 e3 e4 e5;refine Zaa (tok:=0) Tryz.func90 rfl Tryz.ntmps90 Tryz.results90 Tryz.call90 (by rfl) (by simp) ?_;(focus (refine wkvp w_t (w_2 cp cr) ?_;(repeat' first|exact w_t|apply w_l);all_goals intros));simp (disch:=omega) only [go_sem]
theorem Zgq {α:Type} {l:List α} {i:Nat} {d:α} (h:i < l.length):l.getD i d=l[i]:=by
 rw [List.getD_eq_getElem?_getD,List.getElem?_eq_getElem h];rfl
theorem exTerm (a:Rat) (p:List Qt) (ss:List ByteArray) (hl:ss.length≤1000000000) (hs:∀s∈ss,s.size≤1000) (hp:p.length≤1000) {k:Nat} (ha:Sz a k) (hk:k≤1000000) :
 Pure Tryz.prog 40 [qtA (a,p),.sl 1 (ss.map strA)] (if chkP ss.length p=0 then .tup [strA (tTxt ss (a,p)),iv 0] else .tup [strA ⟨#[]⟩,iv (chkP ss.length p)]):=by
 have cs:=Zeo a ha (by omega);have cn:=ratNegN a ha hk;have cx:=ratText (absR a) (Zns ha) hk;have c1:Pure Tryz.prog 47 [iv 1] (ratQ 1):=Ztf 1 (by omega);have ce:=ratEqual (absR a) 1 (Zns ha) (k:=1) ⟨by show(toL 1).length≤1;rw [Zc8];omega,by show(toL 1).length≤1;rw [Zc8];omega⟩ hk (by omega);have hz:=Zpi (Zns ha);have hpl:(p.map Qt.av).length=p.length:=List.length_map ..;have hq:∀i (h:i < p.length),(p.map Qt.av).getD i .u=Qt.av p[i]:=λi h=>Zap Qt.av h;have hx:tTxt ss (a,p)=tS ss p (if p.length≠0∧absR a=1 then ⟨#[]⟩ else decQ (absR a)) p.length:=rfl;have e0:decide (a.num.sign < 0)=decide (a.num < 0):=by rw [decide_eq_decide];exact Int.sign_neg_iff
 rw [Zyz] at cx ce;rw [hx,show qtA (a,p)=.agg [.v (.bool (decide (a.num < 0))),lim (toL a.num.natAbs),lim (toL a.den),.sl 4 (p.map Qt.av)] from rfl];have hne:(ratQ a)=.agg [.v (.bool (decide (a.num < 0))),lim (toL a.num.natAbs),lim (toL a.den)]:=rfl;rw [hne] at cs cn;have hng:decide (a.num < 0)=true→a.num < 0:=of_decide_eq_true;have cn:=λh=>cn (hng h);generalize decide (a.num < 0)=sg at *;clear hng;generalize toL a.num.natAbs=An at *;generalize toL a.den=Ad at *;generalize hS:a.num.sign=sn at *;generalize decQ (absR a)=D at *;clear hS hx hne;have hemp:(⟨#[]⟩:ByteArray).size=0:=rfl;generalize hPA:p.map Qt.av=PA at *
 generalize hX:decide (absR a=1)=x at *;have hb:p.length=0→p=[]:=List.length_eq_zero_iff.1;have q1:∀c,chkP ss.length p=c→chkP ss.length p=c:=λ_ h=>h;have cq:∀i (h:i < p.length),Pure Tryz.prog 93 [Qt.av p[i],.sl 1 (ss.map strA)] (if Qt.chk p[i] ss.length 64=0 then .tup [strA (p[i].txt ss),iv 0] else .tup [strA ⟨#[]⟩,iv (Qt.chk p[i] ss.length 64)]):=λi h=>quText p[i].k p[i].a p[i].b p[i].c ss hl hs;generalize ss.map strA=N at *;generalize hR:(if chkP ss.length p=0 then AV.tup [strA (tS ss p (if p.length≠0∧absR a=1 then ⟨#[]⟩ else D) p.length),iv 0] else .tup [strA ⟨#[]⟩,iv (chkP ss.length p)])=R at *
 refine Zaa (tok:=0) Tryz.func40 rfl Tryz.ntmps40 Tryz.results40 Tryz.call40 (by rfl) (by simp) ?_;(focus (refine wkvd w_t (w_1 cs) w_t ?_;(repeat' first|exact w_t|apply w_l);all_goals intros));refine r_cgX (λe m=>e 1=.sl 1 N∧(∃g2,e 2=.pbox 2 g2 0∧m 2=some (.box g2 56 [.v (.bool sg),lim An,lim Ad,.sl 4 PA] false))∧∃g6,e 6=.pbox 6 g6 0∧m 6=some (.box g6 53 [.v (.bool false),lim An,lim Ad] false)) ?_ ?_
 ·rw [e0]
  cases sg with
  | true =>
    have cn:=cn rfl;refine c_t ?_;(focus (refine wkad w_t (w_1 cn) w_t ?_;(repeat' first|exact w_t|apply w_l);all_goals intros));exact⟨rfl,by exact gC,⟨_,by exact gC,by exact gC⟩,_,by exact gC,by exact gC⟩
  | false =>
    refine c_f ?_;(focus (refine wkad w_t w_t w_t ?_;(repeat' first|exact w_t|apply w_l);all_goals intros));exact⟨rfl,by exact gC,⟨_,by exact gC,by exact gC⟩,_,by exact gC,by exact gC⟩
 ·rintro e m ⟨e1,⟨g2,e2,m2⟩,g6,e6,m6⟩
  by_cases hp0:p.length=0
  ·obtain rfl:=hb hp0;have hR:AV.tup [strA D,iv 0]=R:=hR;have hpl:PA.length=0:=hpl;rw [←hR];(focus (refine wkax (w_7 e1 e2 m2 e6 m6 hpl @Int.natCast_zero) (w_1 cx) (w_1 (w_d 5 [] [] [])) w_t w_t w_t (w_r 1) ?_;(repeat' first|exact w_t|apply w_l);all_goals intros));all_goals exact gL
  ·have hpp:0 < p.length:=Nat.pos_of_ne_zero hp0
   have hsx:(if p.length≠0∧absR a=1 then ⟨#[]⟩ else D:ByteArray)=if x=true then ⟨#[]⟩ else D:=by
    by_cases h1:absR a=1
    ·rw [if_pos ⟨hp0,h1⟩,if_pos (by rw [←hX];exact decide_eq_true h1)]
    ·rw [if_neg (λh=>h1 h.2),if_neg (by rw [←hX,decide_eq_false h1];decide)]
   rw [hsx] at hR;clear hsx;clear hX hb;(focus (refine wkvd (w_6 e1 e2 m2 e6 m6 hpl) (w_3 cx c1 ce) (w_1 (w_d 5 [(6,ratQ 1),(7,.v (.bool x))] [] [])) ?_;(repeat' first|exact w_t|apply w_l);all_goals intros));refine r_cgX (λe m=>e 1=.sl 1 N∧(e 2=.pbox 2 g2 0∧m 2=some (.box g2 56 [.v (.bool sg),lim An,lim Ad,.sl 4 PA] false))∧e 7=strA (if x=true then ⟨#[]⟩ else D)) ?_ ?_
   ·cases x with
    | true =>
      refine c_t ?_;(focus (refine wkad (w_3 e1 e2 m2) w_t w_t ?_;(repeat' first|exact w_t|apply w_l);all_goals intros));exact⟨rfl,by exact gW e1,⟨by exact gW e2,by exact gW m2⟩,by exact gC⟩
    | false =>
      refine c_f ?_;exact⟨rfl,by exact gW e1,⟨by exact gW e2,by exact gW m2⟩,by exact gC⟩
   ·have hz2:(if x=true then ⟨#[]⟩ else D:ByteArray).size≤10*k+4:=by split;(rw [hemp];omega);exact hz
    clear hz cs cn c1 ce e0 cx;generalize (if x=true then ⟨#[]⟩ else D:ByteArray)=s0 at *;clear e1 e2 m2 e6 m6
    rintro e m ⟨e1,⟨e2,m2⟩,e7⟩
    (focus (refine wkad (w_5 e1 e2 m2 e7 hpl) w_t w_t ?_;(repeat' first|exact w_t|apply w_l);all_goals intros));refine Zac (ι:=Nat) (λi e m=>i≤p.length∧(e 1=.sl 1 N∧e 31=.sl 4 PA∧e 32=iv p.length∧e 33=iv i)∧e 7=strA (tS ss p s0 i)∧∀j (h:j < p.length),j < i→Qt.chk p[j] ss.length 64=0) (λi=>p.length - i) 0 (by rfl) ?_ ?_
    ·rintro i e m ⟨hi,⟨e1,e31,e32,e33⟩,e7,hc⟩
     by_cases hlt:i < p.length
     ·have cqi:=cq i hlt;have hqi:=hq i hlt;have hsz:=Zu0 (s0:=s0) hs (by omega) hc;by_cases hch:Qt.chk p[i] ss.length 64=0
      ·rw [if_pos hch] at cqi;have ht:=Zyd ss hs hch;have hnx:tS ss p s0 (i+1)=(if (tS ss p s0 i).size=0 then tS ss p s0 i else tS ss p s0 i++⟨#[42]⟩)++p[i].txt ss:=by rw [←Zgq (d:=Qt.zero) hlt];rfl
       have hpo:0 < i→0 < (tS ss p s0 i).size:=tS_pos ss p s0 i;have hc2:∀j (h:j < p.length),j < i+1→Qt.chk p[j] ss.length 64=0:=λj h hj=>by
        rcases Nat.lt_or_ge j i with h1 | h1
        ·exact hc j h h1
        ·have:j=i:=by omega
         subst this;exact hch
       have h42:(⟨#[42]⟩:ByteArray).size=1:=rfl;have h43:=ByteArray.size_append (a:=tS ss p s0 i) (b:=⟨#[42]⟩);have qe:Qt.av p[i]=.agg [iv p[i].k,iv p[i].a,iv p[i].b,iv p[i].c]:=rfl;rw [qe] at cqi hqi;clear hc hch;generalize p[i].txt ss=T at *;generalize tS ss p s0 i=S at *;generalize p[i].k=qk at *;generalize p[i].a=qa at *;generalize p[i].b=qb at *;generalize p[i].c=qc at *;by_cases hS:S.size=0
       ·have hi0:decide ((0:Int) < (i:Int))=false:=decide_eq_false (by omega);have hSz:=decide_eq_true hS;rw [if_pos hS] at hnx;(focus (refine wkad (w_10 e1 e31 e32 e33 e7 hpl hqi @Zj1 hi0 hSz) (w_1 cqi) w_t ?_;(repeat' first|exact w_t|apply w_l);all_goals intros));exact⟨i+1,⟨by omega,⟨by exact gW e1,by exact gW e31,by exact gW e32,by exact gS⟩,by rw [hnx];exact gC,hc2⟩,by omega⟩
       ·have hSz:=decide_eq_false hS;rw [if_neg hS] at hnx;by_cases hi0:i=0
        ·have hi0:decide ((0:Int) < (i:Int))=false:=decide_eq_false (by omega);(focus (refine wkad (w_12 e1 e31 e32 e33 e7 hpl hqi @Zj1 hi0 hSz h42 h43) (w_1 cqi) w_t ?_;(repeat' first|exact w_t|apply w_l);all_goals intros));exact⟨i+1,⟨by omega,⟨by exact gW e1,by exact gW e31,by exact gW e32,by exact gS⟩,by rw [hnx];exact gC,hc2⟩,by omega⟩
        ·have hi0:decide ((0:Int) < (i:Int))=true:=decide_eq_true (by omega);(focus (refine wkad (w_11 e1 e31 e32 e33 e7 hpl hqi @Zj1 hi0 h42 h43) (w_1 cqi) w_t ?_;(repeat' first|exact w_t|apply w_l);all_goals intros));exact⟨i+1,⟨by omega,⟨by exact gW e1,by exact gW e31,by exact gW e32,by exact gS⟩,by rw [hnx];exact gC,hc2⟩,by omega⟩
      ·rw [if_neg hch] at cqi;have hat:=Zyf hlt hc hch;rw [hat,if_neg hch] at hR;have qe:Qt.av p[i]=.agg [iv p[i].k,iv p[i].a,iv p[i].b,iv p[i].c]:=rfl;rw [qe] at cqi hqi;generalize Qt.chk p[i] ss.length 64=ch at *;generalize p[i].k=qk at *;generalize p[i].a=qa at *;generalize p[i].b=qb at *;generalize p[i].c=qc at *;rw [←hR];(focus (refine wkad (w_7 e1 e31 e32 e33 e7 hpl hqi) (w_1 cqi) w_t ?_;(repeat' first|exact w_t|apply w_l);all_goals intros));all_goals exact gL
     ·have:i=p.length:=by omega
      subst this;rw [if_pos (Zsv λj h=>hc j h h)] at hR;rw [←hR];(focus (refine wkad (w_6 e1 e31 e32 e33 e7 hpl) w_t w_t ?_;(repeat' first|exact w_t|apply w_l);all_goals intros));all_goals exact gL
    ·exact⟨Nat.zero_le _,⟨by exact gW e1,by exact gC,by exact gW hpl,by exact gC⟩,by exact gW e7,λj h hj=>by omega⟩
section
attribute [local go_sem] Tryz.underlying3 Tryz.underlying4 Tryz.underlying160 Tryz.underlying49 Tryz.underlying51 Tryz.underlying53 Tryz.underlying27 Tryz.underlying54 Tryz.underlying56 Tryz.underlying30 Tryz.underlying31 sz3 by3 z3 szB zB Zax zRat Za3 zInt Za2 zNat Zag Zaq Zah Bool.and_self Zal Zbh zSlQ szQT byQT zQT Zbj zSlT szQP zQP Tryz.underlying9 Tryz.underlying145 Tryz.underlying107 Tryz.underlying143 Zn0 Zi3 Znt Zn1 Zbq zStr zSum zMap Tryz.underlying34 Tryz.underlying44 List.append_eq
end
theorem Zuz {ss:List ByteArray} {t:Rat × List Qt} (hs:∀s∈ss,s.size≤1000) (hp:t.2.length≤1000) {k:Nat} (ha:Sz t.1 k) (hk:k≤1000000) (h:chkP ss.length t.2=0):(tTxt ss t).size≤15000000:=by
 have hz:=Zpi (Zns ha)
 have hall:∀j (h:j < t.2.length),Qt.chk t.2[j] ss.length 64=0:=by
  generalize t.2=p at h;clear hp
  induction p with
  | nil=>intro j hj;simp at hj
  | cons q l ih =>
    unfold chkP at h;by_cases h0:Qt.chk q ss.length 64=0
    ·rw [if_pos h0] at h;intro j hj
     cases j with
     | zero=>exact h0
     | succ j=>exact ih h j (by simpa using hj)
    ·rw [if_neg h0] at h;exact absurd h h0
 have hemp:(⟨#[]⟩:ByteArray).size=0:=rfl;unfold tTxt;have h2:=Zu0 (s0:=if t.2.length≠0∧absR t.1=1 then ⟨#[]⟩ else decQ (absR t.1)) hs (Nat.le_refl t.2.length) λj h _=>hall j h
 have h3:(if t.2.length≠0∧absR t.1=1 then ⟨#[]⟩ else decQ (absR t.1):ByteArray).size≤10*k+4:=by
  split
  ·rw [hemp];omega
  ·exact hz
 omega
theorem eS_size {ss:List ByteArray} {p:QTs} {i:Nat} (hi:i≤p.length) (h:∀j (h:j < p.length),j < i→(tTxt ss p[j]).size≤15000000):(eS ss p i).size≤i*15000003:=by
 induction i with
 | zero=>exact Nat.zero_le _
 | succ i ih =>
   have h1:=ih (by omega) λj hj hji=>h j hj (by omega);have h2:=h i (by omega) (by omega);have e:p.getD i (0,[])=p[i]:=Zgq (by omega);unfold eS;rw [ByteArray.size_append,e];have s0:(⟨#[]⟩:ByteArray).size=0:=rfl;have s1:(⟨#[45]⟩:ByteArray).size=1:=rfl;have s2:(⟨#[32,45,32]⟩:ByteArray).size=3:=rfl;have s3:(⟨#[32,43,32]⟩:ByteArray).size=3:=rfl;split
   ·split<;>omega
   ·rw [ByteArray.size_append];split<;>omega
def OkT (p:QTs) (k:Nat):Prop:=∀t∈p,t.2.length≤1000∧Sz t.1 k
theorem exText (p:QTs) (ss:List ByteArray) (hl:ss.length≤1000000000) (hs:∀s∈ss,s.size≤1000) (hp:p.length≤100000) {k:Nat} (hk:k≤1000000) (ho:OkT p k) :
 Pure Tryz.prog 14 [.sl 4 (p.map qtA),.sl 1 (ss.map strA)] (if chkE ss.length p=0 then .tup [strA (eTxt ss p),iv 0] else .tup [strA ⟨#[]⟩,iv (chkE ss.length p)]):=by
 have hpl:(p.map qtA).length=p.length:=List.length_map ..;have hq:∀i (h:i < p.length),(p.map qtA).getD i .u=.agg [.v (.bool (decide (p[i].1.num < 0))),lim (toL p[i].1.num.natAbs),lim (toL p[i].1.den),.sl 4 (p[i].2.map Qt.av)]:=λi h=>Zap qtA h;have ct:∀i (h:i < p.length),Pure Tryz.prog 40 [.agg [.v (.bool (decide (p[i].1.num < 0))),lim (toL p[i].1.num.natAbs),lim (toL p[i].1.den),.sl 4 (p[i].2.map Qt.av)],.sl 1 (ss.map strA)] (if chkP ss.length p[i].2=0 then .tup [strA (tTxt ss p[i]),iv 0] else .tup [strA ⟨#[]⟩,iv (chkP ss.length p[i].2)]):=λi h=>exTerm p[i].1 p[i].2 ss hl hs (ho _ (List.getElem_mem h)).1 (ho _ (List.getElem_mem h)).2 hk
 have cs:∀i (h:i < p.length),Pure Tryz.prog 41 [.agg [.v (.bool (decide (p[i].1.num < 0))),lim (toL p[i].1.num.natAbs),lim (toL p[i].1.den)]] (iv p[i].1.num.sign):=λi h=>Zeo p[i].1 (ho _ (List.getElem_mem h)).2 (by omega);have hsz:∀i (h:i < p.length),chkP ss.length p[i].2=0→(tTxt ss p[i]).size≤15000000:=λi h h2=>Zuz hs (ho _ (List.getElem_mem h)).1 (ho _ (List.getElem_mem h)).2 hk h2;clear ho hk;generalize ss.map strA=N at *;generalize p.map qtA=P at *;generalize hR:(if chkE ss.length p=0 then AV.tup [strA (eTxt ss p),iv 0] else .tup [strA ⟨#[]⟩,iv (chkE ss.length p)])=R at *;have hemp:(⟨#[]⟩:ByteArray).size=0:=rfl
 refine Zaa (tok:=0) Tryz.func14 rfl Tryz.ntmps14 Tryz.results14 Tryz.call14 (by rfl) (by simp) ?_;by_cases hp0:p.length=0
 ·obtain rfl:=List.length_eq_zero_iff.1 hp0;have hR:AV.tup [strA ⟨#[48]⟩,iv 0]=R:=hR;have hpl:P.length=0:=hpl;rw [←hR];(focus (refine wkap (w_2 hpl @Int.natCast_zero) w_t (w_r 0) ?_;(repeat' first|exact w_t|apply w_l);all_goals intros));all_goals exact gL
 ·have hpi:¬((p.length:Nat):Int)=0:=by omega
  have eTx:eTxt ss p=eS ss p p.length:=if_neg hp0;rw [eTx] at hR;(focus (refine wkap (w_2 hpl hpi) w_t (w_r 0) ?_;(repeat' first|exact w_t|apply w_l);all_goals intros));refine Zac (ι:=Nat) (λi e m=>i≤p.length∧(e 1=.sl 1 N∧e 15=.sl 4 P∧e 16=iv p.length∧e 17=iv i)∧e 6=strA (eS ss p i)∧∀j (h:j < p.length),j < i→chkP ss.length p[j].2=0) (λi=>p.length - i) 0 (by rfl) ?_ ?_
  ·rintro i e m ⟨hi,⟨e1,e15,e16,e17⟩,e6,hc⟩
   by_cases hlt:i < p.length
   ·have cti:=ct i hlt;have csi:=cs i hlt;have hqi:=hq i hlt;have hes:=eS_size (ss:=ss) (p:=p) hi λj h hj=>hsz j h (hc j h hj);by_cases hch:chkP ss.length p[i].2=0
    ·rw [if_pos hch] at cti;have ht:=hsz i hlt hch;have hnx:eS ss p (i+1)=(if i=0 then (if p[i].1.num < 0 then ⟨#[45]⟩ else ⟨#[]⟩) else eS ss p i++(if p[i].1.num < 0 then ⟨#[32,45,32]⟩ else ⟨#[32,43,32]⟩))++tTxt ss p[i]:=by rw [←Zgq (d:=((0:Rat),([]:List Qt))) hlt];rfl
     have hc2:∀j (h:j < p.length),j < i+1→chkP ss.length p[j].2=0:=λj h hj=>by
      rcases Nat.lt_or_ge j i with h1 | h1
      ·exact hc j h h1
      ·have:j=i:=by omega
       subst this;exact hch
     have e0s:eS ss p 0=⟨#[]⟩:=rfl;have hn0:decide (p[i].1.num.sign < 0)=decide (p[i].1.num < 0):=by rw [decide_eq_decide];exact Int.sign_neg_iff
     have s45:(⟨#[45]⟩:ByteArray).size=1:=rfl;have s3:(⟨#[32,45,32]⟩:ByteArray).size=3:=rfl;have s4:(⟨#[32,43,32]⟩:ByteArray).size=3:=rfl;have z3:=ByteArray.size_append (a:=eS ss p i) (b:=⟨#[32,45,32]⟩);have z4:=ByteArray.size_append (a:=eS ss p i) (b:=⟨#[32,43,32]⟩);clear hc hch ct cs hsz hq;generalize tTxt ss p[i]=T at *;generalize p[i].2.map Qt.av=qs at *;by_cases hng:p[i].1.num < 0
     ·rw [if_pos hng,if_pos hng] at hnx;rw [decide_eq_true hng] at hn0 csi cti hqi;clear hng;generalize p[i].1.num.sign=sn at *;generalize toL p[i].1.num.natAbs=An at *;generalize toL p[i].1.den=Ad at *;by_cases hi0:i=0
      ·subst hi0;rw [if_pos rfl] at hnx;rw [e0s] at e6;have e45:(⟨#[]⟩++⟨#[45]⟩:ByteArray)=⟨#[45]⟩:=rfl;(focus (refine wkap (w_12 e1 e15 e16 e17 hpl e6 hqi hn0 e45 hemp s45 @Int.natCast_zero) (w_2 cti csi) (w_r 0) ?_;(repeat' first|exact w_t|apply w_l);all_goals intros));exact⟨0+1,⟨by omega,⟨by exact gW e1,by exact gW e15,by exact gW e16,by exact gS⟩,by rw [hnx];exact gC,hc2⟩,by omega⟩
      ·rw [if_neg hi0] at hnx;have hi1:decide ((0:Int) < (i:Int))=true:=decide_eq_true (by omega);have hi2:¬(i:Int)=0:=by omega
       (focus (refine wkap (w_12 e1 e15 e16 e17 hpl e6 hqi hn0 hi1 hi2 z3 s3) (w_2 cti csi) (w_r 0) ?_;(repeat' first|exact w_t|apply w_l);all_goals intros));exact⟨i+1,⟨by omega,⟨by exact gW e1,by exact gW e15,by exact gW e16,by exact gS⟩,by rw [hnx];exact gC,hc2⟩,by omega⟩
     ·rw [if_neg hng,if_neg hng] at hnx;rw [decide_eq_false hng] at hn0 csi cti hqi;clear hng;generalize p[i].1.num.sign=sn at *;generalize toL p[i].1.num.natAbs=An at *;generalize toL p[i].1.den=Ad at *;by_cases hi0:i=0
      ·subst hi0;rw [if_pos rfl] at hnx;rw [e0s] at e6;(focus (refine wkap (w_10 e1 e15 e16 e17 hpl e6 hqi hn0 hemp @Int.natCast_zero) (w_2 cti csi) (w_r 0) ?_;(repeat' first|exact w_t|apply w_l);all_goals intros));exact⟨0+1,⟨by omega,⟨by exact gW e1,by exact gW e15,by exact gW e16,by exact gS⟩,by rw [hnx];exact gC,hc2⟩,by omega⟩
      ·rw [if_neg hi0] at hnx;have hi1:decide ((0:Int) < (i:Int))=true:=decide_eq_true (by omega);have hi2:¬(i:Int)=0:=by omega
       (focus (refine wkap (w_12 e1 e15 e16 e17 hpl e6 hqi hn0 hi1 hi2 z4 s4) (w_2 cti csi) (w_r 0) ?_;(repeat' first|exact w_t|apply w_l);all_goals intros));exact⟨i+1,⟨by omega,⟨by exact gW e1,by exact gW e15,by exact gW e16,by exact gS⟩,by rw [hnx];exact gC,hc2⟩,by omega⟩
    ·rw [if_neg hch] at cti;have hat:=Zyg hlt hc hch;rw [hat,if_neg hch] at hR;generalize chkP ss.length p[i].2=ch at *;generalize p[i].2.map Qt.av=qs at *;generalize decide (p[i].1.num < 0)=ng at *;generalize toL p[i].1.num.natAbs=An at *;generalize toL p[i].1.den=Ad at *;rw [←hR];(focus (refine wkap (w_7 e1 e15 e16 e17 hpl e6 hqi) (w_1 cti) (w_r 0) ?_;(repeat' first|exact w_t|apply w_l);all_goals intros));all_goals exact gL
   ·have:i=p.length:=by omega
    subst this;rw [if_pos (Zsw λj h=>hc j h h)] at hR;rw [←hR];(focus (refine wkap (w_6 e1 e15 e16 e17 hpl e6) w_t (w_r 0) ?_;(repeat' first|exact w_t|apply w_l);all_goals intros));all_goals exact gL
  ·exact⟨Nat.zero_le _,⟨by exact gC,by exact gC,by exact gW hpl,by exact gC⟩,by exact gC,λj h hj=>by omega⟩
attribute [local go_sem] Tryz.underlying70 Tryz.underlying33 szFr byFr zFr Zce Zcj zSQP
theorem toL_two:toL 2=[2]:=by rw [Zej (by omega),show 2/65536=0 from rfl,Zaw]
theorem Zd4:Sz (2:Rat) 1:=⟨by show(toL 2).length≤1;rw [toL_two];decide,by show(toL 1).length≤1;rw [Zc8];omega⟩
theorem sz_m1:Sz (-1:Rat) 1:=⟨by show(toL 1).length≤1;rw [Zc8];omega,by show(toL 1).length≤1;rw [Zc8];omega⟩
end Go.Proofs.YtjgdomdhjphgbaaGreatDoor
namespace Go.Proofs.YtjgdomdhjphgbaaGreatDoor
open Go Go.RowKit Go.Pg
attribute [-bool_to_prop] Bool.and_eq_decide Bool.or_eq_decide Bool.decide_beq_decide decide_eq_decide
section
variable {N n:Nat} {cs:List AV}
end
attribute [local go_sem] Tryz.underlying3 Tryz.underlying2 Tryz.underlying160 Tryz.underlying4 Tryz.underlying34 Tryz.underlying27 Tryz.underlying54 Tryz.underlying53 Tryz.underlying49 Tryz.underlying51 sz3 by3 z3 szL byL zL Zag Zaq Zcf zErr Zax zRat Za2 zNat Za3 zInt szB zB Zah Bool.and_self
def RQ.tiny (r:RQ):Bool:=decide (r.l.length≤2) && decide (r.d.length≤2) && r.ok
def RP.tiny (p:RP):Bool:=p.x.tiny && p.y.tiny
def RP.q (p:RP):PQ:=(p.x.q,p.y.q)
def mildB (ps:List RP) (rs:List RQ):Bool:=decide (ps.length≤10) && decide (rs.length≤10) && ps.all RP.tiny && rs.all RQ.tiny
end Go.Proofs.YtjgdomdhjphgbaaGreatDoor
namespace Go.Proofs.YtjgdomdhjphgbaaGreatDoor
open Go Go.RowKit Go.Pg Go.Pol
attribute [-bool_to_prop] Bool.and_eq_decide Bool.or_eq_decide Bool.decide_beq_decide decide_eq_decide
attribute [local go_sem] Tryz.underlying3 Tryz.underlying4 Tryz.underlying160 Tryz.underlying49 Tryz.underlying51 Tryz.underlying53 Tryz.underlying27 Tryz.underlying54 Tryz.underlying56 Tryz.underlying30 Tryz.underlying31 sz3 by3 z3 szB zB Zax zRat Za3 zInt Za2 zNat Zag Zaq Zah Bool.and_self Zal Zbh zSlQ szQT byQT zQT Zbj zSlT szQP zQP
def qOkAt (q:List Qt) (i:Nat):Bool:=decide ((q.getD i Qt.zero).norm=(q.getD i Qt.zero,1)) && (decide (i=0) || decide (Qt.cmp (q.getD (i - 1) Qt.zero) (q.getD i Qt.zero)≤0))
def prodB (q:List Qt):Bool:=(List.range q.length).all (qOkAt q)
def RE.zero:RE:=⟨⟨false,[],[]⟩,[]⟩
def tOkAt (l:List RE) (i:Nat):Bool:=(l.getD i RE.zero).r.ok && (!decide ((l.getD i RE.zero).r.q=0) && (prodB (l.getD i RE.zero).q && (decide (i=0) || decide (ordQ (l.getD (i - 1) RE.zero).q (l.getD i RE.zero).q < 0))))
def rgtB (l:List RE):Bool:=(List.range l.length).all (tOkAt l)
section
attribute [local go_sem] Tryz.underlying3 Tryz.underlying4 Tryz.underlying160 Tryz.underlying49 Tryz.underlying51 Tryz.underlying53 Tryz.underlying27 Tryz.underlying54 Tryz.underlying56 Tryz.underlying30 Tryz.underlying31 sz3 by3 z3 szB zB Zax zRat Za3 zInt Za2 zNat Zag Zaq Zah Bool.and_self Zal Zbh zSlQ szQT byQT zQT Zbj zSlT szQP zQP
end
section
attribute [local go_sem] Tryz.underlying3 Tryz.underlying4 Tryz.underlying160 Tryz.underlying49 Tryz.underlying51 Tryz.underlying53 Tryz.underlying27 Tryz.underlying54 Tryz.underlying56 Tryz.underlying30 Tryz.underlying31 sz3 by3 z3 szB zB Zax zRat Za3 zInt Za2 zNat Zag Zaq Zah Bool.and_self Zal Zbh zSlQ szQT byQT zQT Zbj zSlT szQP zQP
end
attribute [local go_sem] Tryz.underlying70 Tryz.underlying33 szFr byFr zFr Zce Zcj zSQP Tryz.underlying34 Tryz.underlying44 Tryz.underlying9 Zbq zStr
theorem Zrl (p:QTs) {j n:Nat} (h:QK p j n) (hl:p.length≤1000000) (hj:j≤1000000) (hn:n≤1000000):Pure Tryz.prog 35 [qpA p,qpA p] (.v (.bool true)):=by
 have hpl:(p.map qtA).length=p.length:=List.length_map ..;have hq:∀i (h:i < p.length),(p.map qtA).getD i .u=.agg [.v (.bool (decide (p[i].1.num < 0))),lim (toL p[i].1.num.natAbs),lim (toL p[i].1.den),.sl 4 (p[i].2.map Qt.av)]:=λi h=>Zap qtA h;have ce:∀i (h:i < p.length),Pure Tryz.prog 81 [.agg [.v (.bool (decide (p[i].1.num < 0))),lim (toL p[i].1.num.natAbs),lim (toL p[i].1.den)],.agg [.v (.bool (decide (p[i].1.num < 0))),lim (toL p[i].1.num.natAbs),lim (toL p[i].1.den)]] (.v (.bool true)):=λi hi=>by
  have c:=qEqual p[i].1 p[i].1 (h _ (List.getElem_mem hi)).1 (h _ (List.getElem_mem hi)).1 hj hj;rw [decide_eq_true rfl] at c;exact c
 have co:∀i (h:i < p.length),Pure Tryz.prog 82 [.sl 4 (p[i].2.map Qt.av),.sl 4 (p[i].2.map Qt.av)] (iv 0):=λi hi=>by
  have hn:=(h _ (List.getElem_mem hi)).2;have c:=Zvd p[i].2 p[i].2 (by omega) (by omega);rw [Zbp.refl] at c;exact c
 show Pure _ _ [.sl 4 (p.map qtA),.sl 4 (p.map qtA)] _;clear h;generalize p.map qtA=P at *;refine Zaa (tok:=0) Tryz.func35 rfl Tryz.ntmps35 Tryz.results35 Tryz.call35 (by rfl) (by simp) ?_;(focus (refine wkad (w_1 hpl) w_t w_t ?_;(repeat' first|exact w_t|apply w_l);all_goals intros));refine Zac (ι:=Nat) (λi e m=>i≤p.length∧e 0=.sl 4 P∧e 1=.sl 4 P∧e 5=iv i) (λi=>p.length - i) 0 (by rfl) ?_ ?_
 ·rintro i e m ⟨hi,e0,e1,e5⟩
  by_cases hlt:i < p.length
  ·have hqi:=hq i hlt;have cei:=ce i hlt;have coi:=co i hlt;clear hq ce co;generalize p[i].2.map Qt.av=qs at *;generalize decide (p[i].1.num < 0)=ng at *;generalize toL p[i].1.num.natAbs=An at *;generalize toL p[i].1.den=Ad at *;(focus (refine wkad (w_5 e0 e1 e5 hpl hqi) (w_2 cei coi) (w_1 (w_d 6 [(10,.v (.bool true)),(23,iv 0)] [] [])) ?_;(repeat' first|exact w_t|apply w_l);all_goals intros));exact⟨i+1,⟨by omega,by exact gW e0,by exact gW e1,by exact gS⟩,by omega⟩
  ·(focus (refine wkad (w_4 e0 e1 e5 hpl) w_t w_t ?_;(repeat' first|exact w_t|apply w_l);all_goals intros));all_goals exact gL
 ·exact⟨Nat.zero_le _,by exact gC,by exact gC,by exact gC⟩
def nrmT (l:List RE):QTs:=if l.all RE.ok=true then gatM (l.map RE.t) else []
section
attribute [local go_sem] Tryz.underlying3 Tryz.underlying4 Tryz.underlying160 Tryz.underlying49 Tryz.underlying51 Tryz.underlying53 Tryz.underlying27 Tryz.underlying54 Tryz.underlying56 Tryz.underlying30 Tryz.underlying31 sz3 by3 z3 szB zB Zax zRat Za3 zInt Za2 zNat Zag Zaq Zah Bool.and_self Zal Zbh zSlQ szQT byQT zQT Zbj zSlT szQP zQP Tryz.underlying70 Tryz.underlying33 szFr byFr zFr Zce Zcj zSQP Tryz.underlying34 Tryz.underlying44 Tryz.underlying9 Zbq zStr
end
section
variable {N n:Nat} {cs:List AV}
end
def smTerm (Q:Nat) (t:RE):Bool:=decide (t.q.length≤Q) && t.r.tiny
def smallB (T Q:Nat) (l:List RE):Bool:=decide (l.length≤T) && (l.all (smTerm Q) && rgtB l)
def RE.rt (t:RE):Rat × List Qt:=(t.r.q,t.q)
def mrgQ:List Qt→List Qt→List Qt
 | a,[]=>a
 | [],y :: b=>y :: b
 | x :: a,y :: b=>if Qt.cmp x y≤0 then x :: mrgQ a (y :: b) else y :: mrgQ (x :: a) b
termination_by a b=>a.length+b.length
theorem Zmx (a b:List Qt):(mrgQ a b).Perm (a++b):=by
 fun_induction mrgQ a b with
 | case1 a=>rw [List.append_nil]
 | case2 y b=>exact .refl _
 | case3 x a y b h ih=>exact ih.cons x
 | case4 x a y b h ih=>exact(ih.cons y).trans List.perm_middle.symm
theorem mrg_asc {a b:List Qt} (ha:Asc Qt.cmp a) (hb:Asc Qt.cmp b):Asc Qt.cmp (mrgQ a b):=by
 fun_induction mrgQ a b with
 | case1 a=>exact ha
 | case2 y b=>exact hb
 | case3 x a y b h ih =>
   have ha':=List.pairwise_cons.1 ha;refine List.pairwise_cons.2 ⟨λz hz=>?_,ih ha'.2 hb⟩;rcases List.mem_append.1 ((Zmx _ _).mem_iff.1 hz) with h1 | h1
   ·exact ha'.1 z h1
   ·rcases List.mem_cons.1 h1 with rfl | h1
    ·exact h
    ·exact qtO.le_tr h ((List.pairwise_cons.1 hb).1 z h1)
 | case4 x a y b h ih =>
   have hb':=List.pairwise_cons.1 hb;have hyx:=qtO.le_total x y (by omega);refine List.pairwise_cons.2 ⟨λz hz=>?_,ih ha hb'.2⟩;rcases List.mem_append.1 ((Zmx _ _).mem_iff.1 hz) with h1 | h1
   ·rcases List.mem_cons.1 h1 with rfl | h1
    ·exact hyx
    ·exact qtO.le_tr hyx ((List.pairwise_cons.1 ha).1 z h1)
   ·exact hb'.1 z h1
theorem mrg_eq {a b:List Qt} (ha:Asc Qt.cmp a) (hb:Asc Qt.cmp b):mrgQ a b=muQ a b :=
 Zf8 qtO (mrg_asc ha hb) (Zb5 qtO.cp _) ((Zmx a b).trans (Za7 _).symm)
theorem mrg_l {a b:List Qt} {i k:Nat} (hi:i < a.length) (hk:k < b.length) (h:Qt.cmp a[i] b[k]≤0):mrgQ (a.drop i) (b.drop k)=a[i] :: mrgQ (a.drop (i+1)) (b.drop k):=by
 rw [List.drop_eq_getElem_cons hi,List.drop_eq_getElem_cons hk,mrgQ,if_pos h]
theorem mrg_r {a b:List Qt} {i k:Nat} (hk:k < b.length) (h:∀hi:i < a.length,¬Qt.cmp a[i] b[k]≤0):mrgQ (a.drop i) (b.drop k)=b[k] :: mrgQ (a.drop i) (b.drop (k+1)):=by
 rw [List.drop_eq_getElem_cons hk];by_cases hi:i < a.length
 ·rw [List.drop_eq_getElem_cons hi,mrgQ,if_neg (h hi)]
 ·rw [List.drop_eq_nil_of_le (by omega),mrgQ];cases b.drop (k+1)<;>simp [mrgQ]
theorem rxBoth (a b:List Qt) (ha:Asc Qt.cmp a) (hb:Asc Qt.cmp b) (la:a.length≤1000000) (lb:b.length≤1000000):Pure Tryz.prog 126 [qsA a,qsA b] (qsA (muQ a b)):=by
 have ham:(a.map Qt.av).length=a.length:=List.length_map ..;have hbm:(b.map Qt.av).length=b.length:=List.length_map ..;have ga:∀i (h:i < a.length),(a.map Qt.av).getD i .u=Qt.av a[i]:=λi h=>Zap Qt.av h;have gb:∀i (h:i < b.length),(b.map Qt.av).getD i .u=Qt.av b[i]:=λi h=>Zap Qt.av h;have hda:∀i,(a.map Qt.av).drop i=(a.drop i).map Qt.av:=λi=>List.map_drop.symm;rw [←mrg_eq ha hb];clear ha hb;show Pure _ _ [.sl 4 (a.map Qt.av),.sl 4 (b.map Qt.av)] (.sl 4 ((mrgQ a b).map Qt.av));generalize a.map Qt.av=A at *;generalize b.map Qt.av=B at *;refine Zaa (tok:=0) Tryz.func126 rfl Tryz.ntmps126 Tryz.results126 Tryz.call126 (by rfl) (by simp) ?_
 (focus (refine wkad (w_2 ham hbm) w_t w_t ?_;(repeat' first|exact w_t|apply w_l);all_goals intros));refine Zac (ι:=Nat × Nat) (λx e m=>(x.1≤b.length∧x.2≤a.length)∧(e 0=.sl 4 A∧e 1=.sl 4 B)∧e 7=iv x.1∧e 6=iv x.2∧∃sv out,e 5=.own 13 sv∧m 13=some (.row sv 27 4 (out.map Qt.av) 0)∧out.length≤x.1+x.2∧mrgQ a b=out++mrgQ (a.drop x.2) (b.drop x.1)) (λx=>b.length - x.1) (0,0) (by rfl) ?_ ?_
 ·rintro ⟨k,i0⟩ e m ⟨⟨hk,hi0⟩,⟨e0,e1⟩,e7,e6,sv,out,e5,m13,ho,hs⟩
  simp only at hk hi0 e7 e6 ho hs;by_cases hkl:k < b.length
  ·have gbk:=gb k hkl;(focus (refine wkad (w_4 e0 e1 e7 hbm) w_t w_t ?_;(repeat' first|exact w_t|apply w_l);all_goals intros));refine r_loopX (λe m=>(e 0=.sl 4 A∧e 1=.sl 4 B)∧e 7=iv k∧∃i sv out,i≤a.length∧e 6=iv i∧e 5=.own 13 sv∧m 13=some (.row sv 27 4 (out.map Qt.av) 0)∧out.length≤k+i∧mrgQ a b=out++b[k] :: mrgQ (a.drop i) (b.drop (k+1))) 2 ?_ ?_
   ·refine Zac (ι:=Nat) (λi e m=>i≤a.length∧(e 0=.sl 4 A∧e 1=.sl 4 B)∧e 7=iv k∧e 6=iv i∧∃sv out,e 5=.own 13 sv∧m 13=some (.row sv 27 4 (out.map Qt.av) 0)∧out.length≤k+i∧mrgQ a b=out++mrgQ (a.drop i) (b.drop k)) (λi=>a.length - i) i0 (by rfl) ?_ ?_
    ·rintro i e m ⟨hi,⟨e0,e1⟩,e7,e6,sv,out,e5,m13,ho,hs⟩
     have hol:(out.map Qt.av).length=out.length:=List.length_map ..;by_cases hil:i < a.length
     ·have gai:=ga i hil;have cc:=rqCmp a[i].k a[i].a a[i].b a[i].c b[k].k b[k].a b[k].b b[k].c;by_cases hz:Qt.cmp a[i] b[k]≤0
      ·rw [mrg_l hil hkl hz] at hs;have hmp:(out++[a[i]]).map Qt.av=out.map Qt.av++[Qt.av a[i]]:=by rw [List.map_append];rfl
       have hs2:mrgQ a b=(out++[a[i]])++mrgQ (a.drop (i+1)) (b.drop k):=by rw [hs,List.append_assoc];rfl
       clear hs;have hlo:(out++[a[i]]).length≤k+(i+1):=by rw [List.length_append,List.length_cons,List.length_nil];omega
       generalize out++[a[i]]=out' at *;clear ga gb hda;generalize a[i]=x at *;generalize b[k]=y at *;generalize hz1:Qt.cmp x y=z at *;clear hz1;generalize out.map Qt.av=O at *;obtain⟨x1,x2,x3,x4⟩:=x;obtain⟨y1,y2,y3,y4⟩:=y;simp only at *;(focus (refine wkad (w_12 e0 e1 e7 e6 e5 m13 ham hbm gai gbk hz hol) (w_1 cc) (w_1 (w_d 6 [(13,iv z)] [] [])) ?_;(repeat' first|exact w_t|apply w_l);all_goals intros));exact⟨i+1,⟨by omega,⟨by exact gW e0,by exact gW e1⟩,by exact gW e7,by exact gS,_,out',by exact gC,by rw [hmp];exact gC,hlo,hs2⟩,by omega⟩
      ·rw [mrg_r hkl (λ_=>hz)] at hs;clear ga gb hda;generalize a[i]=x at *;generalize b[k]=y at *;generalize hz1:Qt.cmp x y=z at *;clear hz1;generalize hO:out.map Qt.av=O at *;obtain⟨x1,x2,x3,x4⟩:=x;obtain⟨y1,y2,y3,y4⟩:=y;simp only at *;(focus (refine wkad (w_12 e0 e1 e7 e6 e5 m13 ham hbm gai gbk hz hol) (w_1 cc) (w_1 (w_d 6 [(13,iv z)] [] [])) ?_;(repeat' first|exact w_t|apply w_l);all_goals intros));exact⟨rfl,⟨by exact gW e0,by exact gW e1⟩,by exact gW e7,i,sv,out,hi,by exact gW e6,by exact gW e5,by rw [hO];exact gW m13,ho,hs⟩
     ·rw [mrg_r hkl (λh=>absurd h hil)] at hs;have hil':¬(i:Int) < (a.length:Int):=by omega
      (focus (refine wkad (w_8 e0 e1 e7 e6 e5 m13 ham hil') w_t (w_1 (w_d 6 [] [] [])) ?_;(repeat' first|exact w_t|apply w_l);all_goals intros));exact⟨rfl,⟨by exact gW e0,by exact gW e1⟩,by exact gW e7,i,sv,out,hi,by exact gW e6,by exact gW e5,by exact gW m13,ho,hs⟩
    ·exact⟨hi0,⟨by exact gW e0,by exact gW e1⟩,by exact gW e7,by exact gW e6,sv,out,by exact gW e5,by exact gW m13,ho,hs⟩
   ·clear e5 m13 hs ho e0 e1 e7 e6
    rintro e m ⟨⟨e0,e1⟩,e7,i,sv,out,hi,e6,e5,m13,ho,hs⟩
    have hol:(out.map Qt.av).length=out.length:=List.length_map ..;have hmp:(out++[b[k]]).map Qt.av=out.map Qt.av++[Qt.av b[k]]:=by rw [List.map_append];rfl
    have hs2:mrgQ a b=(out++[b[k]])++mrgQ (a.drop i) (b.drop (k+1)):=by rw [hs,List.append_assoc];rfl
    clear hs;have hlo:(out++[b[k]]).length≤k+1+i:=by rw [List.length_append,List.length_cons,List.length_nil];omega
    generalize out++[b[k]]=out' at *;clear ga gb hda;generalize b[k]=y at *;generalize out.map Qt.av=O at *;obtain⟨y1,y2,y3,y4⟩:=y;(focus (refine wkad (w_9 e0 e1 e7 e6 e5 m13 hbm gbk hol) w_t w_t ?_;(repeat' first|exact w_t|apply w_l);all_goals intros));exact⟨(k+1,i),⟨⟨by show k+1≤b.length;omega,hi⟩,⟨by exact gW e0,by exact gW e1⟩,by exact gS,by exact gW e6,_,out',by exact gC,by rw [hmp];exact gC,hlo,hs2⟩,by show b.length - (k+1) < b.length - k;omega⟩
  ·have hkb:k=b.length:=by omega
   subst hkb;have hol:(out.map Qt.av).length=out.length:=List.length_map ..;rw [List.drop_eq_nil_of_le (Nat.le_refl b.length),mrgQ] at hs;have hmp:(mrgQ a b).map Qt.av=out.map Qt.av++A.drop i0:=by rw [hs,List.map_append,hda]
   rw [hmp];have hdl:(A.drop i0).length=a.length - i0:=by rw [List.length_drop,ham]
   have htk:A.take a.length=A:=List.take_of_length_le (by omega);generalize out.map Qt.av=O at *;(focus (refine wkad (w_11 e0 e1 e7 e6 e5 m13 ham hbm hol hdl htk) w_t w_t ?_;(repeat' first|exact w_t|apply w_l);all_goals intros));all_goals exact gL
 ·exact⟨⟨Nat.zero_le _,Nat.zero_le _⟩,⟨by exact gC,by exact gC⟩,by exact gC,by exact gC,_,[],by exact gC,by exact gC,Nat.zero_le _,rfl⟩
theorem XB.gh {p q:QTs} {j k m n:Nat} (hp:XB p j m) (hq:XB q k n):GH (prodL muQ p q) (j+k+(j+k)) (m+n):=by
 obtain⟨a,b,D,B,c,d,e,f⟩:=hp;obtain⟨a',b',D',B',c',d',e',f'⟩:=hq;exact GH.of_nb (f.prodL f') (Nat.mul_ne_zero c c') (by rw [Nat.pow_add];exact Nat.mul_lt_mul_of_lt_of_lt d d') (by rw [Nat.pow_add];exact Nat.mul_lt_mul_of_lt_of_lt e e') (Zh2 b b')
theorem rxMul (p q:QTs) {j k m n:Nat} (hp:XB p j m) (hq:XB q k n) (hm:m≤100000) (hn:n≤100000) (hl:p.length*q.length≤100000000) (hpl:p.length≤100000000) (hql:q.length≤100000000) (hj:j≤100000) (hk:k≤100000):Pure Tryz.prog 74 [qpA p,qpA q] (qpA (mulX p q)):=by
 have hpm:(p.map qtA).length=p.length:=List.length_map ..;have hqm:(q.map qtA).length=q.length:=List.length_map ..;have gp:∀i (h:i < p.length),(p.map qtA).getD i .u=qtA p[i]:=λi h=>Zap qtA h;have gq:∀i (h:i < q.length),(q.map qtA).getD i .u=qtA q[i]:=λi h=>Zap qtA h;have kp:=hp.qk;have kq:=hq.qk;have hop:∀t∈p,okQ t.2:=hp.1.dom;have hoq:∀t∈q,okQ t.2:=hq.1.dom;have hPl:(prodL muQ p q).length=p.length*q.length:=Zh3 ..;have hstep:∀i l (h1:i < p.length) (h2:l < q.length),(prodL muQ p q).take (i*q.length+l+1)=(prodL muQ p q).take (i*q.length+l)++[(p[i].1*q[l].1,muQ p[i].2 q[l].2)]:=λi l h1 h2=>Zj0 (Zmp h1 h2)
 have cg:=Zrk _ _ hPl (hp.gh hq) hl (by omega) (by omega);have hfull:(prodL muQ p q).take (p.length*q.length)=prodL muQ p q:=List.take_of_length_le (by omega);have htl:∀c,((prodL muQ p q).take c).length≤100000000:=λc=>by rw [List.length_take];omega
 have ht0:(prodL muQ p q).take 0=[]:=List.take_zero;have cg:Pure Tryz.prog 124 [.sl 4 (((prodL muQ p q).take (p.length*q.length)).map qtA)] (.sl 4 ((mulX p q).map qtA)):=by rw [hfull];exact cg
 clear hfull hPl hp hq;generalize mulX p q=RR at *;generalize hPR:(λc=>(prodL muQ p q).take c)=PR at *;have hPR:∀c,(prodL muQ p q).take c=PR c:=λc=>by rw [←hPR]
 simp only [hPR] at hstep cg htl ht0;clear hPR;show Pure _ _ [.sl 4 (p.map qtA),.sl 4 (q.map qtA)] (.sl 4 (RR.map qtA));generalize RR.map qtA=R at *;generalize p.map qtA=A at *;generalize q.map qtA=B at *;refine Zaa (tok:=0) Tryz.func74 rfl Tryz.ntmps74 Tryz.results74 Tryz.call74 (by rfl) (by simp) ?_;(focus (refine wkad w_t w_t w_t ?_;(repeat' first|exact w_t|apply w_l);all_goals intros));refine Zeu (Frz.nilOwn (d:=5) 45 4 56 (by exact gC)) ?_;refine Zac (ι:=Nat) (λi e M=>i≤p.length∧(e 0=.sl 4 A∧e 1=.sl 4 B)∧e 6=iv i∧∃sv,e 5=.own 45 sv∧M 45=some (.row sv 56 4 ((PR (i*q.length)).map qtA) 0)) (λi=>p.length - i) 0 (by rfl) ?_ ?_
 ·rintro i e M ⟨hi,⟨e0,e1⟩,e6,sv,e5,m45⟩
  by_cases hlt:i < p.length
  ·have gpi:=gp i hlt;have kpi:=kp _ (List.getElem_mem hlt);have hsti:=λl h2=>hstep i l hlt h2;have hopi:=hop _ (List.getElem_mem hlt);have hsucc:(i+1)*q.length=i*q.length+q.length:=Nat.succ_mul ..;clear gp kp hstep hop cg ht0;generalize p[i]=u at *;generalize i*q.length=ci at *;obtain⟨u1,u2⟩:=u;simp only at kpi hsti hopi;have gpi:A.getD i .u=.agg [.v (.bool (decide (u1.num < 0))),lim (toL u1.num.natAbs),lim (toL u1.den),.sl 4 (u2.map Qt.av)]:=gpi;have cm0:=fun(v:Rat) (hv:Sz v (k+k))=>qMul u1 v kpi.1 hv (by omega) (by omega);have cm0:∀v:Rat,Sz v (k+k)→Pure Tryz.prog 77 [.agg [.v (.bool (decide (u1.num < 0))),lim (toL u1.num.natAbs),lim (toL u1.den)],ratQ v] (ratQ (u1*v)):=cm0
   have ct0:=fun(v:List Qt) (ho:okQ v) (hv:v.length≤n)=>rxBoth u2 v hopi.1 ho.1 (by have:=kpi.2;omega) (by omega);have ct0:∀v:List Qt,okQ v→v.length≤n→Pure Tryz.prog 126 [.sl 4 (u2.map Qt.av),qsA v] (qsA (muQ u2 v)):=ct0;clear kpi hopi;generalize toL u1.num.natAbs=un at *;generalize toL u1.den=ud at *;generalize decide (u1.num < 0)=us at *;generalize u2.map Qt.av=UQ at *;(focus (refine wkad (w_6 e0 e1 e5 m45 e6 hpm) w_t w_t ?_;(repeat' first|exact w_t|apply w_l);all_goals intros));refine Zac (ι:=Nat) (λl e M=>l≤q.length∧(e 0=.sl 4 A∧e 1=.sl 4 B)∧e 6=iv i∧e 7=iv l∧∃sv,e 5=.own 45 sv∧M 45=some (.row sv 56 4 ((PR (ci+l)).map qtA) 0)) (λl=>q.length - l) 0 (by rfl) ?_ ?_
   ·clear e5 m45 e0 e1 e6
    rintro l e M ⟨hl2,⟨e0,e1⟩,e6,e7,sv,e5,m45⟩
    have hol:((PR (ci+l)).map qtA).length≤100000000:=by rw [List.length_map];exact htl _
    by_cases hlq:l < q.length
    ·have gql:=gq l hlq;have kql:=kq _ (List.getElem_mem hlq);have hst:=hsti l hlq;have hoql:=hoq _ (List.getElem_mem hlq);clear gq kq hsti hoq htl;generalize q[l]=v at *;obtain⟨v1,v2⟩:=v;simp only at kql hst hoql;have gql:B.getD l .u=.agg [.v (.bool (decide (v1.num < 0))),lim (toL v1.num.natAbs),lim (toL v1.den),.sl 4 (v2.map Qt.av)]:=gql;have cm:=cm0 v1 kql.1;have ct:=ct0 v2 hoql kql.2;have cm:Pure Tryz.prog 77 [.agg [.v (.bool us),lim un,lim ud],.agg [.v (.bool (decide (v1.num < 0))),lim (toL v1.num.natAbs),lim (toL v1.den)]] (.agg [.v (.bool (decide ((u1*v1).num < 0))),lim (toL (u1*v1).num.natAbs),lim (toL (u1*v1).den)]):=cm
     have ct:Pure Tryz.prog 126 [.sl 4 UQ,.sl 4 (v2.map Qt.av)] (.sl 4 ((muQ u2 v2).map Qt.av)):=ct;have hmp:(PR (ci+(l+1))).map qtA=(PR (ci+l)).map qtA++[.agg [.v (.bool (decide ((u1*v1).num < 0))),lim (toL (u1*v1).num.natAbs),lim (toL (u1*v1).den),.sl 4 ((muQ u2 v2).map Qt.av)]]:=by rw [show ci+(l+1)=ci+l+1 from rfl,hst,List.map_append];rfl
     clear cm0 ct0 hst kql;generalize (PR (ci+l)).map qtA=O at *;generalize toL (u1*v1).num.natAbs=wn at *;generalize toL (u1*v1).den=wd at *;generalize decide ((u1*v1).num < 0)=ws at *;generalize (muQ u2 v2).map Qt.av=MQ at *;generalize toL v1.num.natAbs=vn at *;generalize toL v1.den=vd at *;generalize decide (v1.num < 0)=vs at *;generalize v2.map Qt.av=VQ at *;(focus (refine wkad (w_10 e0 e1 e6 e7 e5 m45 hpm hqm gpi gql) (w_2 cm ct) (w_1 (w_d 8 [(11,.agg [.v (.bool ws),lim wn,lim wd]),(22,.sl 4 MQ)] [25,1025] [44,45])) ?_;(repeat' first|exact w_t|apply w_l);all_goals intros));exact⟨l+1,⟨by omega,⟨by exact gW e0,by exact gW e1⟩,by exact gW e6,by exact gS,_,by exact gC,by rw [hmp];exact gC⟩,by omega⟩
    ·have hle:l=q.length:=by omega
     subst hle;rw [←hsucc] at m45;(focus (refine wkad (w_7 e0 e1 e6 e7 e5 m45 hqm) w_t w_t ?_;(repeat' first|exact w_t|apply w_l);all_goals intros));exact⟨i+1,⟨by omega,⟨by exact gW e0,by exact gW e1⟩,by exact gS,sv,by exact gW e5,by exact gW m45⟩,by omega⟩
   ·exact⟨Nat.zero_le _,⟨by exact gW e0,by exact gW e1⟩,by exact gW e6,by exact gC,sv,by exact gW e5,by exact gW m45⟩
  ·have hil:i=p.length:=by omega
   subst hil;have hol:=htl (p.length*q.length);clear hstep gp gq kp kq hop hoq htl ht0;generalize PR (p.length*q.length)=S at *;have hll:(S.map qtA).length≤100000000:=by rw [List.length_map];exact hol
   generalize S.map qtA=O at *;(focus (refine wkax (w_6 e0 e1 e6 e5 m45 hpm) w_t w_t (w_1 cg) w_t w_t (w_r 0) ?_;(repeat' first|exact w_t|apply w_l);all_goals intros));all_goals exact gL
 ·exact⟨Nat.zero_le _,⟨by exact gC,by exact gC⟩,by exact gC,_,by exact gC,by rw [Nat.zero_mul,ht0];exact gC⟩
theorem Zvb (p:QTs) (c:Rat) {j k n:Nat} (hp:QK p j n) (hc:Sz c k) (h0:c≠0) (hl:p.length≤100000000) (hj:j≤400000) (hk:k≤400000):Pure Tryz.prog 33 [qpA p,ratQ c] (qpA (Zcv c p)):=by
 have hpm:(p.map qtA).length=p.length:=List.length_map ..;have gp:∀i (h:i < p.length),(p.map qtA).getD i .u=qtA p[i]:=λi h=>Zap qtA h;have cz:=qSign c hc (by omega);have hz:¬c.num.sign=0:=by rw [Zel];exact h0
 have hstep:∀i (h:i < p.length),(Zcv c p).take (i+1)=(Zcv c p).take i++[(p[i].1*c,p[i].2)]:=λi h=>Zj0 (by unfold Zcv;rw [List.getElem?_map,List.getElem?_eq_getElem h];rfl);have hfull:Zcv c p=(Zcv c p).take p.length:=(List.take_of_length_le (by unfold Zcv;rw [List.length_map];exact Nat.le_refl _)).symm;have ht0:(Zcv c p).take 0=[]:=List.take_zero;have htl:∀i,((Zcv c p).take i).length≤100000000:=λi=>by rw [List.length_take];unfold Zcv;rw [List.length_map];omega
 rw [hfull];clear hfull;generalize hPR:(λc'=>(Zcv c p).take c')=PR at *;have hPR:∀i,(Zcv c p).take i=PR i:=λi=>by rw [←hPR]
 simp only [hPR] at hstep htl ht0 ⊢;clear hPR;have cm0:=fun(u:Rat) (hu:Sz u j)=>qMul u c hu hc (by omega) (by omega);show Pure _ _ [.sl 4 (p.map qtA),.agg [.v (.bool (decide (c.num < 0))),lim (toL c.num.natAbs),lim (toL c.den)]] (.sl 4 ((PR p.length).map qtA));have cm0:∀u:Rat,Sz u j→Pure Tryz.prog 77 [ratQ u,.agg [.v (.bool (decide (c.num < 0))),lim (toL c.num.natAbs),lim (toL c.den)]] (ratQ (u*c)):=cm0;have cz:Pure Tryz.prog 76 [.agg [.v (.bool (decide (c.num < 0))),lim (toL c.num.natAbs),lim (toL c.den)]] (iv c.num.sign):=cz;clear hc h0;generalize c.num.sign=z at *;generalize toL c.num.natAbs=cn at *
 generalize toL c.den=cd at *;generalize decide (c.num < 0)=cs at *;generalize p.map qtA=A at *;refine Zaa (tok:=0) Tryz.func33 rfl Tryz.ntmps33 Tryz.results33 Tryz.call33 (by rfl) (by simp) ?_;(focus (refine wkad w_t w_t w_t ?_;(repeat' first|exact w_t|apply w_l);all_goals intros));rename_i g3;refine Zeu (Frz.nilOwn (d:=5) 33 4 56 (by exact gC)) ?_;refine Zac (ι:=Nat) (λi e M=>i≤p.length∧e 0=.sl 4 A∧e 3=.pbox 3 g3 0∧M 3=some (.box g3 53 [.v (.bool cs),lim cn,lim cd] false)∧e 6=iv i∧∃sv,e 5=.own 33 sv∧M 33=some (.row sv 56 4 ((PR i).map qtA) 0)) (λi=>p.length - i) 0 (by rfl) ?_ ?_
 ·rintro i e M ⟨hi,e0,e3,m3,e6,sv,e5,m33⟩
  have hol:((PR i).map qtA).length≤100000000:=by rw [List.length_map];exact htl _
  by_cases hlt:i < p.length
  ·have gpi:=gp i hlt;have kpi:=hp _ (List.getElem_mem hlt);have hst:=hstep i hlt;clear gp hp hstep htl ht0;generalize p[i]=u at *;obtain⟨u1,u2⟩:=u;simp only at kpi hst;have gpi:A.getD i .u=.agg [.v (.bool (decide (u1.num < 0))),lim (toL u1.num.natAbs),lim (toL u1.den),.sl 4 (u2.map Qt.av)]:=gpi;have cm:=cm0 u1 kpi.1;have cm:Pure Tryz.prog 77 [.agg [.v (.bool (decide (u1.num < 0))),lim (toL u1.num.natAbs),lim (toL u1.den)],.agg [.v (.bool cs),lim cn,lim cd]] (.agg [.v (.bool (decide ((u1*c).num < 0))),lim (toL (u1*c).num.natAbs),lim (toL (u1*c).den)]):=cm;have hmp:(PR (i+1)).map qtA=(PR i).map qtA++[.agg [.v (.bool (decide ((u1*c).num < 0))),lim (toL (u1*c).num.natAbs),lim (toL (u1*c).den),.sl 4 (u2.map Qt.av)]]:=by rw [hst,List.map_append];rfl
   clear cm0 hst kpi;generalize (PR i).map qtA=O at *;generalize toL (u1*c).num.natAbs=wn at *;generalize toL (u1*c).den=wd at *;generalize decide ((u1*c).num < 0)=ws at *;generalize toL u1.num.natAbs=un at *;generalize toL u1.den=ud at *;generalize decide (u1.num < 0)=us at *;generalize u2.map Qt.av=UQ at *;(focus (refine wkad (w_9 e0 e3 m3 e6 e5 m33 hpm gpi hz) (w_2 cz cm) (w_1 (w_d 5 [(7,.agg [.v (.bool ws),lim wn,lim wd])] [15,1015] [32,33])) ?_;(repeat' first|exact w_t|apply w_l);all_goals intros));exact⟨i+1,⟨by omega,by exact gW e0,by exact gW e3,by exact gW m3,by exact gS,_,by exact gC,by rw [hmp];exact gC⟩,by omega⟩
  ·have hil:i=p.length:=by omega
   subst hil;clear hstep gp hp htl ht0 cm0;have hlt':¬(p.length:Int) < (p.length:Int):=by omega
   generalize (PR p.length).map qtA=O at *;(focus (refine wkad (w_8 e0 e3 m3 e6 e5 m33 hpm hlt') w_t w_t ?_;(repeat' first|exact w_t|apply w_l);all_goals intros));all_goals (all_goals (try simp (disch:=omega) only [go_sem,m33,hol,decide_eq_true,decide_eq_false,if_pos,if_neg,Int.reduceAdd,Int.reduceSub,Int.reduceToNat,Int.zero_add]));(all_goals first|done|rfl|(congr 2;first|done|omega|(rw [Bool.eq_iff_iff];simp only [bool_to_prop,Bool.false_eq_true,iff_true,true_iff,iff_false,false_iff];omega))|skip)
   all_goals exact⟨⟨rfl,rfl⟩,rfl⟩
 ·exact⟨Nat.zero_le _,by exact gC,by exact gC,by exact gC,by exact gC,_,by exact gC,by rw [ht0];exact gC⟩
attribute [local go_sem] Tryz.underlying39
theorem rxPlus (p q:QTs) {j k n:Nat} (hp:QK p j n) (hq:QK q k n) (lp:p.length≤100000000) (lq:q.length≤100000000) (hj:j≤900000) (hk:k≤900000) (hn:n≤1000000):Pure Tryz.prog 73 [qpA p,qpA q] (qpA (Zav p q)):=by
 have c:=rxJoin p q hp hq lp lq (by omega) (by omega) hn;show Pure _ _ [.sl 4 (p.map qtA),.sl 4 (q.map qtA)] (.sl 4 ((Zav p q).map qtA));have c:Pure _ _ [.sl 4 (p.map qtA),.sl 4 (q.map qtA)] (.sl 4 ((Zav p q).map qtA)):=c;generalize (Zav p q).map qtA=R at *;generalize p.map qtA=A at *;generalize q.map qtA=B at *;refine Zaa (tok:=0) Tryz.func73 rfl Tryz.ntmps73 Tryz.results73 Tryz.call73 (by rfl) (by simp) ?_;(focus (refine wkap w_t (w_1 c) (w_r 0) ?_;(repeat' first|exact w_t|apply w_l);all_goals intros));all_goals exact gL
theorem fst_of {α:Type} (F:α→Bool) (l:List α):∃n,n≤l.length∧(∀j (h:j < l.length),j < n→F l[j]=false)∧(∀h:n < l.length,F l[n]=true)∧l.any F=decide (n < l.length):=by
 induction l with
 | nil=>exact⟨0,by simp,by simp,by simp,by simp⟩
 | cons a l ih =>
   obtain⟨n,h1,h2,h3,h4⟩:=ih
   cases ha:F a with
   | true=>exact⟨0,by simp,λj h h'=>by omega,λ_=>ha,by simp [ha]⟩
   | false =>
     refine⟨n+1,by simpa using h1,λj h h'=>?_,λh=>h3 (by simpa using h),by simp [ha,h4]⟩
     cases j with
     | zero=>exact ha
     | succ j=>exact h2 j (by simpa using h) (by omega)
theorem Zwd (q:Qt):q.pts.length≤40:=by
 unfold Qt.pts;split
 ·rw [List.length_map];exact Nat.le_trans (List.length_filter_le _ _) (by simp)
 ·simp
theorem slIdxI (l:List Int) (x:Int) (hl:l.length≤1000000):∃z:Int,Pure Tryz.prog 45 [ivs l,iv x] (iv z)∧decide (0≤z)=l.any λt=>decide (x=t):=by
 have hlm:(l.map iv).length=l.length:=List.length_map ..;have hg:∀i (h:i < l.length),(l.map iv).getD i .u=iv l[i]:=λi h=>Zap iv h;obtain⟨n,h1,h2,h3,h4⟩:=fst_of (λt:Int=>decide (x=t)) l;refine⟨if n < l.length then (n:Int) else -1,?_,?_⟩
 ·show Pure _ _ [.sl 1 (l.map iv),iv x] _;generalize l.map iv=L at *;refine Zaa (tok:=0) Tryz.func45 rfl Tryz.ntmps45 Tryz.results45 Tryz.call45 (by rfl) (by simp) ?_;(focus (refine wkap (w_1 hlm) w_t (w_r 0) ?_;(repeat' first|exact w_t|apply w_l);all_goals intros));refine Zac (ι:=Nat) (λk e m=>k≤n∧e 0=.sl 1 L∧e 1=iv x∧e 7=iv l.length∧e 8=iv k) (λk=>n - k) 0 (by rfl) ?_ ?_
  ·rintro k e m ⟨hk,e0,e1,e7,e8⟩
   by_cases hlt:k < l.length
   ·have hgk:=hg k hlt;by_cases hkn:k < n
    ·have hb:=of_decide_eq_false (h2 k hlt hkn);generalize l[k]=a at *;(focus (refine wkap (w_7 e0 e1 e7 e8 hgk hlm hb) w_t (w_r 0) ?_;(repeat' first|exact w_t|apply w_l);all_goals intros));exact⟨k+1,⟨by omega,by exact gW e0,by exact gW e1,by exact gW e7,by exact gS⟩,by omega⟩
    ·have hkn:k=n:=by omega
     subst hkn;have hb:=of_decide_eq_true (h3 hlt);rw [if_pos hlt];rw [←hb] at hgk;clear hb;(focus (refine wkap (w_6 e0 e1 e7 e8 hgk hlm) w_t (w_r 0) ?_;(repeat' first|exact w_t|apply w_l);all_goals intros));all_goals exact gL
   ·rw [if_neg (by omega)];(focus (refine wkap (w_5 e0 e1 e7 e8 hlm) w_t (w_r 0) ?_;(repeat' first|exact w_t|apply w_l);all_goals intros));all_goals exact gL
  ·exact⟨Nat.zero_le _,by exact gC,by exact gC,by exact gW hlm,by exact gC⟩
 ·rw [h4,Bool.eq_iff_iff,decide_eq_true_eq,decide_eq_true_eq];split<;>omega
theorem slConI (l:List Int) (x:Int) (hl:l.length≤1000000):Pure Tryz.prog 18 [ivs l,iv x] (.v (.bool (l.any λt=>decide (x=t)))):=by
 obtain⟨z,c,hz⟩:=slIdxI l x hl;rw [←hz];show Pure _ _ [.sl 1 (l.map iv),iv x] _;have c:Pure _ _ [.sl 1 (l.map iv),iv x] _:=c;generalize l.map iv=L at *;refine Zaa (tok:=0) Tryz.func18 rfl Tryz.ntmps18 Tryz.results18 Tryz.call18 (by rfl) (by simp) ?_;(focus (refine wkap w_t (w_1 c) (w_r 0) ?_;(repeat' first|exact w_t|apply w_l);all_goals intros));all_goals exact gL
def hasQ (x:Int) (q:Qt):Bool:=q.pts.any λt=>decide (x=t)
def hasP (x:Int) (p:List Qt):Bool:=p.any (hasQ x)
def hasT (x:Int) (p:QTs):Bool:=p.any λt=>hasP x t.2
theorem Zno {α:Type} {f:α→Bool} {l:List α} {i:Nat} (h:i < l.length) (h1:(l.take i).any f=false) (h2:f l[i]=false):(l.take (i+1)).any f=false:=by
 rw [List.take_succ_eq_append_getElem h,List.any_append,h1];simp [h2]
theorem Zq3 {α:Type} {f:α→Bool} {l:List α} {i:Nat} (h:i < l.length) (h2:f l[i]=true):l.any f=true:=List.any_eq_true.2 ⟨_,List.getElem_mem h,h2⟩
theorem rxMinus (p q:QTs) {j k n:Nat} (hp:QK p j n) (hq:QK q k n) (lp:p.length≤100000000) (lq:q.length≤100000000) (hj:j≤300000) (hk:k≤300000) (hn:n≤1000000):Pure Tryz.prog 75 [qpA p,qpA q] (qpA (Zav p (sclT (-1) q))):=by
 have hs:Sz (-1:Rat) 1:=⟨by show(toL 1).length≤1;rw [Zc8];omega,by show(toL 1).length≤1;rw [Zc8];omega⟩;have c1:=Zvb q (-1) hq hs (by decide) lq (by omega) (by omega);have hq2:QK (Zcv (-1) q) (k+1) n:=λt ht=>by
  obtain⟨u,hu,rfl⟩:=List.mem_map.1 ht;exact⟨(hq u hu).1.mul hs,(hq u hu).2⟩
 have c2:=rxPlus p (Zcv (-1) q) hp hq2 lp (by unfold Zcv;rw [List.length_map];exact lq) (by omega) (by omega) hn;have he:Zcv (-1) q=sclT (-1) q:=List.map_congr_left λt _=>by rw [Rat.mul_comm]
 rw [he] at c1 c2;have c0:Pure Tryz.prog 34 [iv (-1)] (.agg [.v (.bool (decide ((-1:Rat).num < 0))),lim (toL (-1:Rat).num.natAbs),lim (toL (-1:Rat).den)]):=qOfM;have c1:Pure Tryz.prog 33 [.sl 4 (q.map qtA),.agg [.v (.bool (decide ((-1:Rat).num < 0))),lim (toL (-1:Rat).num.natAbs),lim (toL (-1:Rat).den)]] (.sl 4 ((sclT (-1) q).map qtA)):=c1;have c2:Pure Tryz.prog 73 [.sl 4 (p.map qtA),.sl 4 ((sclT (-1) q).map qtA)] (.sl 4 ((Zav p (sclT (-1) q)).map qtA)):=c2;show Pure _ _ [.sl 4 (p.map qtA),.sl 4 (q.map qtA)] (.sl 4 ((Zav p (sclT (-1) q)).map qtA));generalize (Zav p (sclT (-1) q)).map qtA=R at *
 generalize (sclT (-1) q).map qtA=C at *;generalize p.map qtA=A at *;generalize q.map qtA=B at *;generalize decide ((-1:Rat).num < 0)=b1 at *;generalize toL (-1:Rat).num.natAbs=x1 at *;generalize toL (-1:Rat).den=y1 at *;refine Zaa (tok:=0) Tryz.func75 rfl Tryz.ntmps75 Tryz.results75 Tryz.call75 (by rfl) (by simp) ?_;(focus (refine wkap w_t (w_3 c0 c1 c2) (w_r 0) ?_;(repeat' first|exact w_t|apply w_l);all_goals intros));all_goals exact gL
theorem rxHas (p:QTs) (x:Int) (hl:p.length≤1000000) (hq:∀t∈p,t.2.length≤1000000):Pure Tryz.prog 29 [.sl 4 (p.map qtA),iv x] (.v (.bool (hasT x p))):=by
 have hlm:(p.map qtA).length=p.length:=List.length_map ..;have hg:∀i (h:i < p.length),(p.map qtA).getD i .u=.agg [.v (.bool (decide (p[i].1.num < 0))),lim (toL p[i].1.num.natAbs),lim (toL p[i].1.den),.sl 4 (p[i].2.map Qt.av)]:=λi h=>Zap qtA h;have hq2:∀i (h:i < p.length),p[i].2.length≤1000000:=λi h=>hq _ (List.getElem_mem h);generalize p.map qtA=P at *;refine Zaa (tok:=0) Tryz.func29 rfl Tryz.ntmps29 Tryz.results29 Tryz.call29 (by rfl) (by simp) ?_;(focus (refine wkap w_t w_t (w_r 0) ?_;(repeat' first|exact w_t|apply w_l);all_goals intros));refine Zac (ι:=Nat) (λi e m=>i≤p.length∧(e 0=.sl 4 P∧e 1=iv x∧e 5=iv i)∧(p.take i).any (λt=>hasP x t.2)=false) (λi=>p.length - i) 0 (by rfl) ?_ ?_
 ·rintro i e m ⟨hi,⟨e0,e1,e5⟩,hc⟩
  by_cases hlt:i < p.length
  ·have hgi:=hg i hlt;have hqi:=hq2 i hlt;have hqm:(p[i].2.map Qt.av).length=p[i].2.length:=List.length_map ..;have hqe:∀b (h:b < p[i].2.length),(p[i].2.map Qt.av).getD b .u=.agg [iv p[i].2[b].k,iv p[i].2[b].a,iv p[i].2[b].b,iv p[i].2[b].c]:=λb h=>Zap Qt.av h;have hst:hasP x p[i].2=false→(p.take (i+1)).any (λt=>hasP x t.2)=false:=Zno hlt hc;have hht:hasP x p[i].2=true→hasT x p=true:=Zq3 (f:=λt:Rat × List Qt=>hasP x t.2) hlt;generalize p[i].2=w at *;generalize w.map Qt.av=qs at *;(focus (refine wkap (w_6 e0 e1 e5 hlm hgi hqm) w_t (w_r 0) ?_;(repeat' first|exact w_t|apply w_l);all_goals intros))
   refine Zac (ι:=Nat) (λb e m=>b≤w.length∧(e 0=.sl 4 P∧e 1=iv x∧e 5=iv i∧e 6=iv b)∧(w.take b).any (hasQ x)=false) (λb=>w.length - b) 0 (by rfl) ?_ ?_
   ·rintro b e m ⟨hb,⟨e0,e1,e5,e6⟩,hcb⟩
    by_cases hbl:b < w.length
    ·have hqb:=hqe b hbl;have cp:Pure Tryz.prog 66 [.agg [iv w[b].k,iv w[b].a,iv w[b].b,iv w[b].c]] (.sl 1 (w[b].pts.map iv)):=rqPoints w[b].k w[b].a w[b].b w[b].c;have hpl:=Zwd w[b];have hpm:(w[b].pts.map iv).length=w[b].pts.length:=List.length_map ..;have hpg:∀c (h:c < w[b].pts.length),(w[b].pts.map iv).getD c .u=iv w[b].pts[c]:=λc h=>Zap iv h;have hs2:hasQ x w[b]=false→(w.take (b+1)).any (hasQ x)=false:=Zno hbl hcb;have hh2:hasQ x w[b]=true→hasT x p=true:=λh=>hht (Zq3 (f:=hasQ x) hbl h);have hqd:hasQ x w[b]=w[b].pts.any λt=>decide (x=t):=rfl;rw [hqd] at hs2 hh2;clear hqd hqe hst hht
     generalize w[b]=y at *;obtain⟨y1,y2,y3,y4⟩:=y;simp only at *;generalize (Qt.pts ⟨y1,y2,y3,y4⟩)=pts at *;generalize pts.map iv=PP at *;(focus (refine wkap (w_8 e0 e1 e5 e6 hlm hgi hqm hqb) (w_1 cp) (w_r 0) ?_;(repeat' first|exact w_t|apply w_l);all_goals intros));refine Zac (ι:=Nat) (λc e m=>c≤pts.length∧(e 0=.sl 4 P∧e 1=iv x∧e 5=iv i∧e 6=iv b∧e 7=.sl 1 PP∧e 8=iv c)∧(pts.take c).any (λt=>decide (x=t))=false) (λc=>pts.length - c) 0 (by rfl) ?_ ?_
     ·rintro c e m ⟨hcl,⟨e0,e1,e5,e6,e7,e8⟩,hcc⟩
      by_cases hc3:c < pts.length
      ·have hgc:=hpg c hc3;by_cases hx:x=pts[c]
       ·rw [hh2 (Zq3 (f:=λt=>decide (x=t)) hc3 (decide_eq_true hx))];rw [←hx] at hgc;clear hh2 hs2;(focus (refine wkap (w_8 e0 e1 e5 e6 e7 e8 hpm hgc) w_t (w_r 0) ?_;(repeat' first|exact w_t|apply w_l);all_goals intros));all_goals exact gL
       ·have hs4:=Zno (f:=λt=>decide (x=t)) hc3 hcc (decide_eq_false hx);have hx2:¬pts[c]=x:=λh=>hx h.symm;clear hh2 hs2;generalize pts[c]=z at *;(focus (refine wkap (w_9 e0 e1 e5 e6 e7 e8 hpm hgc hx2) w_t (w_r 0) ?_;(repeat' first|exact w_t|apply w_l);all_goals intros));exact⟨c+1,⟨by omega,⟨by exact gW e0,by exact gW e1,by exact gW e5,by exact gW e6,by exact gW e7,by exact gS⟩,hs4⟩,by omega⟩
      ·have:c=pts.length:=by omega
       subst this;rw [List.take_length] at hcc;have hs3:=hs2 hcc;(focus (refine wkap (w_7 e0 e1 e5 e6 e7 e8 hpm) w_t (w_r 0) ?_;(repeat' first|exact w_t|apply w_l);all_goals intros));exact⟨b+1,⟨by omega,⟨by exact gW e0,by exact gW e1,by exact gW e5,by exact gS⟩,hs3⟩,by omega⟩
     ·exact⟨Nat.zero_le _,⟨by exact gW e0,by exact gW e1,by exact gW e5,by exact gW e6,by exact gC,by exact gC⟩,rfl⟩
    ·have:b=w.length:=by omega
     subst this;rw [List.take_length] at hcb;have hs3:=hst hcb;(focus (refine wkap (w_7 e0 e1 e5 e6 hlm hgi hqm) w_t (w_r 0) ?_;(repeat' first|exact w_t|apply w_l);all_goals intros));exact⟨i+1,⟨by omega,⟨by exact gW e0,by exact gW e1,by exact gS⟩,hs3⟩,by omega⟩
   ·exact⟨Nat.zero_le _,⟨by exact gW e0,by exact gW e1,by exact gW e5,by exact gC⟩,rfl⟩
  ·have:i=p.length:=by omega
   subst this;rw [List.take_length] at hc;rw [show hasT x p=false from hc];(focus (refine wkap (w_4 e0 e1 e5 hlm) w_t (w_r 0) ?_;(repeat' first|exact w_t|apply w_l);all_goals intros));all_goals exact gL
 ·exact⟨Nat.zero_le _,⟨by exact gC,by exact gC,by exact gC⟩,rfl⟩
end Go.Proofs.YtjgdomdhjphgbaaGreatDoor
namespace Go.Proofs.YtjgdomdhjphgbaaGreatDoor
section
open Go Go.RowKit Go.Pg Go.Pol
end
end Go.Proofs.YtjgdomdhjphgbaaGreatDoor
namespace Go.Proofs.YtjgdomdhjphgbaaGreatDoor
open Go Go.RowKit Go.Pg Go.Pol
attribute [-bool_to_prop] Bool.and_eq_decide Bool.or_eq_decide Bool.decide_beq_decide decide_eq_decide
attribute [local go_sem] Tryz.underlying3 Tryz.underlying4 Tryz.underlying160 Tryz.underlying49 Tryz.underlying51 Tryz.underlying53 Tryz.underlying27 Tryz.underlying54 Tryz.underlying56 Tryz.underlying30 Tryz.underlying31 sz3 by3 z3 szB zB Zax zRat Za3 zInt Za2 zNat Zag Zaq Zah Bool.and_self Zal Zbh zSlQ szQT byQT zQT Zbj zSlT szQP zQP Tryz.underlying70 Tryz.underlying33 szFr byFr zFr Zce Zcj zSQP Tryz.underlying34 Tryz.underlying44 Tryz.underlying9 Zbq zStr
theorem XB.neg {q:QTs} {k n:Nat} (h:XB q k n):XB (sclT (-1) q) k n:=by
 obtain⟨a,b,D,B,c,d,e,f⟩:=h;refine⟨⟨λt ht=>?_,List.pairwise_map.2 a.2⟩,λt ht=>?_,D,B,c,d,e,λt ht=>?_,?_⟩
 ·obtain⟨u,hu,rfl⟩:=List.mem_map.1 ht;refine⟨λh=>(a.1 u hu).1 ?_,(a.1 u hu).2⟩;have h:(-1:Rat)*u.1=0:=h;rw [Rat.neg_mul,Rat.one_mul] at h;have:=congrArg (λz:Rat=>-z) h
  simpa using this
 ·obtain⟨u,hu,rfl⟩:=List.mem_map.1 ht;exact b u hu
 ·obtain⟨u,hu,rfl⟩:=List.mem_map.1 ht;have:=f.1 u hu;show((-1:Rat)*u.1).den ∣ D;have e1:((-1:Rat)*u.1)=-u.1:=by rw [Rat.neg_mul,Rat.one_mul]
  rw [e1];exact this
 ·refine Nat.le_trans (Nat.le_of_eq ?_) f.2;unfold n1 sclT;rw [List.map_map];congr 1;refine List.map_congr_left λu _=>?_;show cl ((-1:Rat)*u.1)=cl u.1;have e1:((-1:Rat)*u.1)=-u.1:=by rw [Rat.neg_mul,Rat.one_mul]
  rw [e1];unfold cl;rw [show(-u.1).num=-u.1.num from rfl,show(-u.1).den=u.1.den from rfl,Int.natAbs_neg]
def reP (p:QTs):List RE:=p.map λt=>⟨rawQ t.1,t.2⟩
theorem sgP_ok {l:List Qt} (h:∀q∈l,q.norm=(q,1)):sgP l=1:=by
 have key:∀(l:List Qt) (s:Int),(∀q∈l,q.norm=(q,1))→l.foldl (λs q=>s*q.norm.2) s=s:=by
  intro l
  induction l with
  | nil=>intro s _;rfl
  | cons a l ih=>intro s h;rw [List.foldl_cons,h a (.head _),Int.mul_one];exact ih s λq hq=>h q (.tail _ hq)
 exact key l 1 h
theorem nsP_ok:∀{l:List Qt},(∀q∈l,q.norm=(q,1))→nsP l=l
 | [],_=>rfl
 | a :: l,h=>by
   show a.norm.1 :: nsP l=a :: l;rw [h a (.head _),nsP_ok λq hq=>h q (.tail _ hq)]
theorem putP_ok {l:List Qt} (h:okQ l):putP l=l:=by
 rw [←Zu3 (by rw [sgP_ok h.2];decide),nsP_ok h.2];exact Zf8 qtO (Zb5 qtO.cp _) h.1 (Za7 _)
theorem reP_ok {p:QTs} (h:∀t∈p,okQ t.2):(reP p).all RE.ok=true:=by
 rw [List.all_eq_true];intro t ht;obtain⟨u,hu,rfl⟩:=List.mem_map.1 ht;show((rawQ u.1).ok && u.2.all Qt.ok)=true;rw [Zv1,Bool.true_and,List.all_eq_true];exact λq hq=>Zip ((h u hu).2 q hq)
theorem reP_t:∀{p:QTs},(∀t∈p,okQ t.2)→(reP p).map RE.t=p
 | [],_=>rfl
 | u :: p,h=>by
   show RE.t ⟨rawQ u.1,u.2⟩ :: (reP p).map RE.t=u :: p;rw [reP_t λt ht=>h t (.tail _ ht)];show((rawQ u.1).q*(sgP u.2:Rat),putP u.2) :: p=u :: p;rw [rawQ_q,sgP_ok (h u (.head _)).2,putP_ok (h u (.head _)),show((1:Int):Rat)=1 from rfl,Rat.mul_one]
theorem nrm_re {p:QTs} (h:∀t∈p,okQ t.2):nrmR (reP p)=qpA (gatM p):=by rw [nrm_ok (reP_ok h),reP_t h]
theorem Zqx (φ:List Qt→Rat) (s:Rat):∀p:QTs,evl φ (sclT s p)=s*evl φ p
 | []=>by show(0:Rat)=s*0;rw [Rat.mul_zero]
 | t :: p=>by
   show s*t.1*φ t.2+evl φ (sclT s p)=s*(t.1*φ t.2+evl φ p);rw [Zqx φ s p];grind
theorem EX.neg {p:QTs} (h:EX p):EX (sclT (-1) p):=by
 refine⟨λt ht=>?_,List.pairwise_map.2 h.2⟩;obtain⟨u,hu,rfl⟩:=List.mem_map.1 ht;refine⟨λh0=>(h.1 u hu).1 ?_,(h.1 u hu).2⟩;have h0:(-1:Rat)*u.1=0:=h0
 grind
end Go.Proofs.YtjgdomdhjphgbaaGreatDoor
namespace Go.Proofs.YtjgdomdhjphgbaaGreatDoor
open Go Go.RowKit Go.Pg Go.Pol
def tmQ (q:Qt) (l:List Qt):Nat:=(l.filter λx=>decide (x=q)).length
def woQ (q:Qt) (l:List Qt):List Qt:=l.filter λx=>decide (x≠q)
def woL (q:Qt) (a:QTs) (k:Nat):QTs:=(a.filter λt=>decide (tmQ q t.2=k)).map λt=>(t.1,woQ q t.2)
def moQ (q:Qt) (a:QTs):Nat:=a.foldl (λn t=>max n (tmQ q t.2)) 0
theorem tm_wo (q:Qt):∀l:List Qt,tmQ q l+(woQ q l).length=l.length
 | []=>rfl
 | a :: l=>by
   have ih:=tm_wo q l;unfold tmQ woQ at *;by_cases h:a=q
   ·rw [List.filter_cons_of_pos (by simpa using h),List.filter_cons_of_neg (by simpa using h),List.length_cons,List.length_cons];omega
   ·rw [List.filter_cons_of_neg (by simpa using h),List.filter_cons_of_pos (by simpa using h),List.length_cons,List.length_cons];omega
theorem okQ.wo {l:List Qt} (h:okQ l) (q:Qt):okQ (woQ q l):=⟨h.1.filter _,λx hx=>h.2 x (List.mem_filter.1 hx).1⟩
theorem Zkk {q:Qt} {a:QTs} {k:Nat} {u:Rat × List Qt} (h:u∈woL q a k):∃t∈a,u=(t.1,woQ q t.2):=by
 obtain⟨t,ht,rfl⟩:=List.mem_map.1 h;exact⟨t,(List.mem_filter.1 ht).1,rfl⟩
theorem wo_dom {a:QTs} (h:∀t∈a,okQ t.2) (q:Qt) (k:Nat):∀t∈woL q a k,okQ t.2:=λu hu=>by
 obtain⟨t,ht,rfl⟩:=Zkk hu;exact(h t ht).wo q
theorem Zum {a:QTs} {n:Nat} (h:∀t∈a,t.2.length≤n) (q:Qt) (k:Nat):∀t∈woL q a k,t.2.length≤n:=λu hu=>by
 obtain⟨t,ht,rfl⟩:=Zkk hu;exact Nat.le_trans (by have:=tm_wo q t.2;show(woQ q t.2).length≤_;omega) (h t ht)
theorem n1_wo (q:Qt) (k:Nat):∀a:QTs,n1 (woL q a k)≤n1 a
 | []=>Nat.le_refl _
 | t :: a=>by
   have ih:=n1_wo q k a;unfold woL at *;by_cases h:tmQ q t.2=k
   ·rw [List.filter_cons_of_pos (by simpa using h),List.map_cons,Zbl,Zbl];exact Nat.add_le_add_left ih _
   ·rw [List.filter_cons_of_neg (by simpa using h),Zbl];omega
abbrev paQ (q:Qt) (a:QTs) (k:Nat):QTs:=gatM (woL q a k)
theorem XB.part {a:QTs} {k n:Nat} (h:XB a k n) (q:Qt) (i:Nat):XB (paQ q a i) k n:=by
 obtain⟨a1,b,D,B,c,d,e,f⟩:=h;refine⟨Zhz Zbp (wo_dom a1.dom q i),Zic (Zum b q i),D,B,c,d,e,NB.sumG ⟨λt ht=>?_,Nat.le_trans (n1_wo q i a) f.2⟩⟩;obtain⟨u,hu,rfl⟩:=Zkk ht;exact f.1 u hu
abbrev pwX (d:QTs) (i:Nat):QTs:=pwG ordQ muQ [] d i
abbrev hnX (P:Nat→QTs) (a d:QTs) (m i:Nat):QTs:=hnG ordQ muQ [] P a d m i
abbrev rfX (P:Nat→QTs) (a d:QTs) (m i:Nat):QTs:=rfG ordQ muQ [] P a d m i
theorem Zuk:XB [((1:Rat),[])] 1 0:=xbC _ _ (by decide +kernel)
theorem Znu:XB [] 1 0:=xbC _ _ (by decide +kernel)
theorem XB.pw {d:QTs} {k n:Nat} (h:XB d k n):∀i,XB (pwX d i) (1+i*k) (i*n)
 | 0=>by rw [Nat.zero_mul,Nat.zero_mul];exact Zuk
 | i+1=>(XB.mul (h.pw i) h).mono (by rw [Nat.succ_mul];omega) (by rw [Nat.succ_mul];omega)
section
variable {P:Nat→QTs} {a d:QTs} {kp kb np nb LP L:Nat}
theorem XB.hn (hP:∀k,XB (P k) kp np) (ha:XB a kb nb) (hd:XB d kb nb) (m:Nat):∀i,XB (hnX P a d m i) (1+i*(kp+kb+2+i*kb)) (np+i*nb)
 | 0=>Znu.mono (by omega) (Nat.zero_le _)
 | i+1=>by
   have h1:=((XB.hn hP ha hd m i).mul ha).add ((hP (m - i)).mul (hd.pw i));refine XB.mono h1 ?_ ?_
   ·have e:(i+1)*(kp+kb+2+(i+1)*kb)=i*(kp+kb+2+i*kb)+i*kb+(kp+kb+2+(i*kb+kb)):=by grind
    rw [e];omega
   ·rw [Nat.succ_mul];exact Nat.max_le.2 ⟨by omega,by omega⟩
theorem XB.rf (hP:∀k,XB (P k) kp np) (ha:XB a kb nb) (hd:XB d kb nb) (m:Nat):∀i,i≤m+1→XB (rfX P a d m i) (1+i*(kp+3+m*kb)) (np+m*nb)
 | 0,_=>Znu.mono (by omega) (Nat.zero_le _)
 | i+1,hi=>by
   have h1:=(XB.rf hP ha hd m i (by omega)).add (((hP i).mul (ha.pw i)).mul (hd.pw (m - i)));have e1:i*kb+(m - i)*kb=m*kb:=by rw [←Nat.add_mul];congr 1;omega
   have e2:i*nb+(m - i)*nb=m*nb:=by rw [←Nat.add_mul];congr 1;omega
   refine XB.mono h1 ?_ ?_
   ·rw [Nat.succ_mul];omega
   ·exact Nat.max_le.2 ⟨by omega,by omega⟩
end
abbrev rpN (q:Qt) (a num den:QTs):QTs:=rfX (paQ q a) num den (moQ q a) (moQ q a+1)
abbrev rpD (q:Qt) (a den:QTs):QTs:=pwX den (moQ q a)
theorem Zu7 (p:QTs):sclT 1 p=p:=Zrj p
theorem mul_neg {p:QTs} (h:EX p):mulX [((-1:Rat),[])] p=sclT (-1) p :=
 Zne (D:=okQ) Zbp (Zmy rgQ ⟨λt ht=>by rw [List.mem_singleton.1 ht];exact⟨by decide +kernel,rgQ.de⟩,List.pairwise_singleton _ _⟩ h) h.neg λφ=>by
  rw [Zqy Zbp,Zqx];show(-1:Rat)*evl (λk=>φ (muQ [] k)) p+0=_;rw [Rat.add_zero];congr 1
  have key:∀p:QTs,(∀t∈p,okQ t.2)→evl (λk=>φ (muQ [] k)) p=evl φ p:=by
   intro p
   induction p with
   | nil=>intro _;rfl
   | cons t p ih =>
     intro h;show t.1*φ (muQ [] t.2)+_=t.1*φ t.2+_;rw [ih λu hu=>h u (.tail _ hu),rgQ.comm,rgQ.one _ (h t (.head _))]
  exact key p h.dom
end Go.Proofs.YtjgdomdhjphgbaaGreatDoor
namespace Go.Proofs.YtjgdomdhjphgbaaGreatDoor
open Go Go.RowKit Go.Pg Go.Pol
attribute [-bool_to_prop] Bool.and_eq_decide Bool.or_eq_decide Bool.decide_beq_decide decide_eq_decide
attribute [local go_sem] Tryz.underlying3 Tryz.underlying4 Tryz.underlying160 Tryz.underlying49 Tryz.underlying51 Tryz.underlying53 Tryz.underlying27 Tryz.underlying54 Tryz.underlying56 Tryz.underlying30 Tryz.underlying31 sz3 by3 z3 szB zB Zax zRat Za3 zInt Za2 zNat Zag Zaq Zah Bool.and_self Zal Zbh zSlQ szQT byQT zQT Zbj zSlT szQP zQP Tryz.underlying70 Tryz.underlying33 szFr byFr zFr Zce Zcj zSQP
theorem cst_ok (a:Rat):nrmR (cstE a)=qpA (if a=0 then [] else [(a,[])]):=by
 have h:=nrm_re (p:=[(a,[])]) (λt ht=>by rw [List.mem_singleton.1 ht];exact rgQ.de)
 rwa [Zm8] at h
end Go.Proofs.YtjgdomdhjphgbaaGreatDoor
namespace Go.Pg
open Go Go.RowKit
section
variable {P:Program} {c:Cx} {n:Nat}
theorem at_lt {l s:List Oper} {j:Nat} (h:j < l.length):(l++s).toArray[j]?=l.toArray[j]?:=by
 rw [List.getElem?_toArray,List.getElem?_toArray,List.getElem?_append_left h]
theorem at_suf {l s:List Oper} (k:Nat):(l++s).toArray[l.length+k]?=s[k]?:=by
 rw [List.getElem?_toArray,List.getElem?_append_right (Nat.le_add_right _ _),Nat.add_sub_cancel_left]
def LastK (P:Program) (n:Nat) (o:Oper) (K:St→Prop) (st:St):Prop:=(∃c a w imm,Rel c n st a w imm)→∃st',Frz n st st'∧Zbm P 0 [o] [o] (λst1=>∃st2,Frz n st1 st2∧K st2) st'
def Zk6 (P:Program) (n:Nat):List Oper→(St→Prop)→St→Prop
 | [],K=>K
 | o :: s,K=>LastK P n o (Zk6 P n s K)
def Zxe (n:Nat) (l s:List Oper):Bool :=
 s.all (λo=>Zep n o && o.guard.isNone) && l.all (λx=>x.guard.isNone) &&
 ((List.range (l.length+s.length)).all λj=>match (l++s).toArray[j]? with
   | some x=>x.after.toList.all λe=>!Region.binds .any e || decide (e.on < j)
   | none=>true) && (List.range s.length).all λk=>(List.range (l.length+k)).all λj=>Zk8 (l++s).toArray (l.length+s.length) j (l.length+k)
structure LastOk (n:Nat) (l s:List Oper):Prop where
 fits:∀o∈s,Zep n o=true
 g:∀o∈s,o.guard=none
 gl:∀x∈l,x.guard=none
 dj:∀j x,(l++s).toArray[j]?=some x→∀e∈x.after,Region.binds .any e=true→e.on < j
 r:∀k,k < s.length→∀j,j < l.length+k→Zk8 (l++s).toArray (l.length+s.length) j (l.length+k)=true
theorem Zqr {l s:List Oper} (h:Zxe n l s=true):LastOk n l s:=by
 unfold Zxe at h;simp only [Bool.and_eq_true,List.all_eq_true,Option.isNone_iff_eq_none,List.mem_range] at h;obtain⟨⟨⟨h1,h3⟩,h5⟩,h6⟩:=h;refine⟨λo ho=>(h1 o ho).1,λo ho=>(h1 o ho).2,h3,λj x hx e he hb=>?_,h6⟩
 have hj:j < l.length+s.length:=by
  rw [List.getElem?_toArray] at hx;have:=(List.getElem?_eq_some_iff.1 hx).1
  rwa [List.length_append] at this
 have:=h5 j hj;rw [hx] at this;simp only [List.all_eq_true,Bool.or_eq_true,Bool.not_eq_true',decide_eq_true_eq,Array.mem_toList_iff] at this;exact(this e he).resolve_left (by simp [hb])
theorem wpOp_app {l s:List Oper} (ho:LastOk n l s) {Q:Exit→Act→World→Prop} {i:Nat} (hi:i < l.length) {K:Act→World→Prop} {a:Act} {w:World} (h:wpOp P l.toArray Q i K a w):wpOp P (l++s).toArray Q i K a w:=by
 unfold wpOp at h ⊢;rw [at_lt hi];have hx:l.toArray[i]?=some l[i]:=by rw [List.getElem?_toArray,List.getElem?_eq_getElem hi]
 rw [hx] at h ⊢;have hg:=ho.gl l[i] (List.getElem_mem hi);simp only [Region.wanted,hg] at h ⊢;exact h
theorem Zul {ops:Array Oper} {Q:Exit→Act→World→Prop} {listed:Array Bool} {a:Act} {w:World} (h:Region.ready .any ops listed=[]) (hq:Q .normal a w):∀f,wpAny P .any ops Q f listed a w
 | 0=>⟨h,hq⟩
 | f+1=>⟨λ_=>hq,λi hi=>by rw [h] at hi;cases hi⟩
theorem Zg9 {listed:Array Bool} {j:Nat} (h:j < listed.size):listed.getD j false=listed.getD j true:=by
 simp [h]
theorem Zv0 {l s:List Oper} {listed:Array Bool} {i:Nat} (hi:i∈Region.ready .any l.toArray listed):i∈Region.ready .any (l++s).toArray listed:=by
 obtain⟨h0,x,hx,hd⟩:=mem_ready.1 hi
 have hil:i < l.length:=by
  rw [List.getElem?_toArray] at hx;exact(List.getElem?_eq_some_iff.1 hx).1
 exact mem_ready.2 ⟨h0,x,by rw [at_lt hil];exact hx,hd⟩
theorem Zrt {l s:List Oper} (ho:LastOk n l s) {listed:Array Bool} (hsz:listed.size=l.length+s.length):∀j,j < l.length→listed.getD j true=false→∃i,i∈Region.ready .any l.toArray listed:=by
 intro j
 induction j using Nat.strongRecOn with
 | _ j ih =>
   intro hj hb;have hx:l.toArray[j]?=some l[j]:=by rw [List.getElem?_toArray,List.getElem?_eq_getElem hj]
   by_cases hd:∀e∈l[j].after,Region.binds .any e=true→listed.getD e.on false=true
   ·exact⟨j,mem_ready.2 ⟨hb,l[j],hx,hd⟩⟩
   ·obtain⟨e,he⟩:=Classical.not_forall.1 hd;obtain⟨he,h1⟩:=Classical.not_imp.1 he;obtain⟨hbd,h1⟩:=Classical.not_imp.1 h1;have hlt:=ho.dj j l[j] (by rw [at_lt hj];exact hx) e he hbd;refine ih e.on hlt (by omega) ?_;rw [←Zg9 (by omega)];simpa using h1
theorem lastGo {l s:List Oper} (ho:LastOk n l s) {Q:AE→St→Prop}:∀(r:List Oper) (k:Nat),s.drop k=r→∀(f:Nat) (listed:Array Bool) (st:St) (a:Act) (w:World) (imm:Imm),Rel c n st a w imm→listed.size=l.length+s.length→(∀j,j < l.length+k→listed.getD j true=true)→(∀j,l.length+k≤j→j < l.length+s.length→listed.getD j true=false) →
 Zk6 P n r (Q .normal) st→wpAny P .any (l++s).toArray (post c n Q) (f+r.length) listed a w:=by
 intro r
 induction r with
 | nil =>
   intro k hk f listed st a w imm h hsz hall hno hK
   have hks:s.length≤k:=by
    rcases Nat.lt_or_ge k s.length with h1 | h1
    ·have:=congrArg List.length hk;rw [List.length_drop,List.length_nil] at this;omega
    ·exact h1
   refine Zul (List.eq_nil_iff_forall_not_mem.2 λi hi=>?_) ⟨.normal,st,imm,rfl,hK,h⟩ _;obtain⟨h0,x,hx,_⟩:=mem_ready.1 hi;rw [List.getElem?_toArray] at hx;have:=(List.getElem?_eq_some_iff.1 hx).1;rw [List.length_append] at this;rw [hall i (by omega)] at h0;cases h0
 | cons o r ih =>
   intro k hk f listed st a w imm h hsz hall hno hK
   have hks:k < s.length:=by
    rcases Nat.lt_or_ge k s.length with h1 | h1
    ·exact h1
    ·rw [List.drop_eq_nil_of_le h1] at hk;cases hk
   have hok:s[k]?=some o:=by
    have h1:=List.drop_eq_getElem_cons hks;rw [hk] at h1;rw [List.getElem?_eq_getElem hks,(List.cons.inj h1).1]
   have hr':s.drop (k+1)=r:=by
    have h1:=List.drop_eq_getElem_cons hks;rw [hk] at h1;exact(List.cons.inj h1).2.symm
   have hom:o∈s:=List.mem_of_getElem? hok;have hat:(l++s).toArray[l.length+k]?=some o:=by rw [at_suf];exact hok
   have hrdy:l.length+k∈Region.ready .any (l++s).toArray listed:=mem_ready.2 ⟨hno _ (Nat.le_refl _) (by omega),o,hat,λe he hb=>by
    have:=ho.dj _ _ hat e he hb;rw [Zg9 (by omega)];exact hall _ this⟩
   refine⟨λh0=>(by rw [h0] at hrdy;cases hrdy),λi hi=>?_⟩;obtain⟨h0,x,hx,hd⟩:=mem_ready.1 hi
   have hil:i < l.length+s.length:=by
    rw [List.getElem?_toArray] at hx;have:=(List.getElem?_eq_some_iff.1 hx).1
    rwa [List.length_append] at this
   have hiL:i=l.length+k:=by
    rcases Nat.lt_trichotomy i (l.length+k) with h1 | h1 | h1
    ·rw [hall i h1] at h0;cases h0
    ·exact h1
    ·exfalso;obtain⟨m,rfl⟩:∃m,i=l.length+m:=⟨i - l.length,by omega⟩;have hrm:=ho.r m (by omega) (l.length+k) (by omega);have key:=fun(hc:Closed (l++s).toArray (Array.replicate (l.length+s.length) false))=>hc
     have hcl:Closed (l++s).toArray listed:=by
      intro j o' ho' hj e he hb
      have hj2:j < l.length+k:=by
       rcases Nat.lt_or_ge j (l.length+k) with h2 | h2
       ·exact h2
       ·have hjs:j < l.length+s.length:=by
         rw [List.getElem?_toArray] at ho';have:=(List.getElem?_eq_some_iff.1 ho').1
         rwa [List.length_append] at this
        have h3:=hno j h2 hjs;rw [Zg9 (by omega),h3] at hj;cases hj
      have h4:=ho.dj j o' ho' e he hb;rw [Zg9 (by omega)];exact hall _ (by omega)
     have:=Ze1 hcl (l.length+s.length) (l.length+m) x hx hd hrm;rw [Zg9 (by omega),hno _ (Nat.le_refl _) (by omega)] at this;cases this
   subst hiL;obtain⟨st',hF,hK⟩:=hK ⟨c,a,w,imm,h⟩;obtain⟨imm',hr⟩:=hF c a w imm h;have hg:=ho.g o hom;have hfit:=ho.fits o hom
   have hK:aRes P (0+o.dst.getD 0) o.dst (Zai P st' o.op) (λst1=>∃st2,Frz n st1 st2∧Zk6 P n r (Q .normal) st2) st':=by
    obtain⟨d,op,t,pos,af,g⟩:=o;simp only at hg;subst hg;exact hK
   have hdst:∀d,o.dst=some d→d < n:=by
    intro d hdd;rw [Zep,hdd] at hfit
    simpa using hfit
   unfold wpOp;rw [hat];simp only [Region.wanted,hg];refine .inl (Oper.wp_mono (λa1 w1 hg=>?_) (Zdp hr hdst hK));obtain⟨st1,imm1,⟨st2,hF2,hk2⟩,hr1⟩:=hg;obtain⟨imm2,hr2⟩:=hF2 c a1 w1 imm1 hr1;refine ih (k+1) hr' f _ st2 a1 w1 imm2 hr2 (by simpa using hsz) (λj hj=>?_) (λj h1 h2=>?_) hk2
   ·rcases Nat.lt_or_ge j (l.length+k) with h1 | h1
    ·rw [getD_set_ne true (by omega)];exact hall j h1
    ·have:j=l.length+k:=by omega
     subst this;have:l.length+k < listed.size:=by omega
     simp [this]
   ·rw [getD_set_ne true (by omega)];exact hno j (by omega) h2
theorem Zq5 {l s:List Oper} (ho:LastOk n l s) (hf:l.all (Zep n)=true) {rs:Nat→AV} {bar:List Nat} {Q:AE→St→Prop} :
 ∀(f:Nat) (σs:Mem) (listed:Array Bool) (st:St) (a:Act) (w:World) (imm:Imm),Rel c n st a w imm→Part σs st.mem→listed.size=l.length+s.length→(∀j,l.length≤j→j < l.length+s.length→listed.getD j true=false)→Closed (l++s).toArray listed →
 aAny P 0 l rs bar σs f listed (Zk6 P n s (Q .normal)) st→wpAny P .any (l++s).toArray (post c n Q) (f+s.length) listed a w:=by
 intro f
 induction f with
 | zero =>
   intro σs listed st a w imm h hp hsz hL hc hK;exact lastGo ho s 0 rfl 0 _ st a w imm h hsz (λj hj=>by
    refine Classical.byContradiction λhb=>?_;obtain⟨i,hi⟩:=Zrt ho hsz j (by omega) (by simpa using hb);rw [hK.1] at hi;cases hi) hL hK.2
 | succ f ih =>
   intro σs listed st a w imm h hp hsz hL hc hK;by_cases hall:∀j,j < l.length→listed.getD j true=true
   ·refine lastGo ho s 0 rfl (f+1) _ st a w imm h hsz hall hL (hK.1 ?_);refine List.eq_nil_iff_forall_not_mem.2 λi hi=>?_;obtain⟨h0,x,hx,_⟩:=mem_ready.1 hi
    have hil:i < l.length:=by
     rw [List.getElem?_toArray] at hx;exact(List.getElem?_eq_some_iff.1 hx).1
    rw [hall i hil] at h0;cases h0
   ·obtain⟨j,hj⟩:=Classical.not_forall.1 hall;obtain⟨hj,hb⟩:=Classical.not_imp.1 hj;have hb:listed.getD j true=false:=by simpa using hb
    rw [Nat.add_right_comm];refine⟨λh0=>?_,λi hi=>?_⟩
    ·exfalso;obtain⟨i,hi⟩:=Zrt ho hsz j hj hb;have:=Zv0 (s:=s) hi;rw [h0] at this;cases this
    ·obtain⟨h0,x,hx,hd⟩:=mem_ready.1 hi
     have hil:i < l.length:=by
      rcases Nat.lt_or_ge i l.length with h1 | h1
      ·exact h1
      ·exfalso;obtain⟨m,rfl⟩:∃m,i=l.length+m:=⟨i - l.length,by omega⟩
       have hms:m < s.length:=by
        rw [List.getElem?_toArray] at hx;have:=(List.getElem?_eq_some_iff.1 hx).1;rw [List.length_append] at this;omega
       have:=Ze1 hc (l.length+s.length) (l.length+m) x hx hd (ho.r m hms j (by omega));rw [Zg9 (by omega)] at this;rw [this] at hb;cases hb
     have hi':i∈Region.ready .any l.toArray listed:=mem_ready.2 ⟨h0,x,by rw [←at_lt hil];exact hx,hd⟩;refine wpOp_app ho hil (wpOp_mono (λa' w' hg=>?_) (Zjx hf h hp (hK.2 i hi')));obtain⟨st',imm',⟨hk,hs'⟩,hr⟩:=hg;exact ih _ _ st' a' w' imm' hr hs' (by simpa using hsz) (λj h1 h2=>by rw [getD_set_ne true (by omega)];exact hL j h1 h2) (hc.set hi) hk
theorem Zp8 {id:Nat} {Q:AE→St→Prop} {st:St} {ops l s:List Oper} (j:Nat) (rs:Nat→AV) (bar cut:List Nat) (hs1:ops.take j=l) (hs2:ops.drop j=s) (hm:P.follows .mixedOrders=true) (hf:l.all (Zep n)=true) (hok:Zxe n l s=true)
 (hlex:Zo2 l.toArray bar l.length 0 (Array.replicate (l.length+s.length) false)=true) {N:Nat} (hN:l.length=N) (h:Zbt P 0 l rs bar (cutM cut st.mem) N 0 (Zk6 P n s (Q .normal)) st):Za8 P 0 n (.region id ops.toArray true) Q st:=by
 have hops:l++s=ops:=by rw [←hs1,←hs2];exact List.take_append_drop ..
 subst hN;rw [←hops];intro c a w imm hr;refine wp_region_any hm ?_;have kd:Keeps w imm w.drew imm:=λad h=>⟨h,rfl⟩;have hgd:w.grownBy w.drew none:=⟨rfl,rfl,rfl,Nat.le_refl _,λ_ _ _=>rfl⟩;have hdr:Rel c n st a w.drew imm:=⟨λt=>kd.rs (hr.env t),hr.size,hr.defers,⟨⟨λk e hk=>(hr.mem.ok.ent k e hk).keep hgd (by cases e.blk<;>simp) (λ_ h=>h) (λ_ _=>rfl) (λ_ h=>.inl h),hr.mem.ok.apart,hr.mem.ok.lt,hr.mem.ok.spot⟩,hr.mem.below.drew,hr.mem.lt,hr.mem.old,hr.mem.new,hr.mem.cells⟩⟩
 have hcl:∀ops:Array Oper,Closed ops (Array.replicate (l.length+s.length) false):=by
  intro ops j o ho hj;exfalso;by_cases hjl:j < l.length+s.length<;>simp [Array.getElem?_replicate,hjl] at hj
 have h1:=Zqq (K:=Zk6 P n s (Q .normal)) l.length 0 (cutM cut st.mem) _ st (hcl _) hlex h;have h2:=Zq5 (c:=c) (Q:=Q) (Zqr hok) hf l.length (cutM cut st.mem) _ st a w.drew imm hdr (λt e ht=>by unfold cutM at ht;split at ht;cases ht;exact ht) (by simp) (λj h1 h2=>by simp [h2]) (hcl _) h1
 simpa using h2
end
theorem upd_ne {α:Type} {f:Nat→α} {k n:Nat} {v:α} (h:n≠k):upd f k v n=f n:=by rw [Zaj,if_neg h]
section
variable {n:Nat} {e:Nat→AV} {m:Mem}
theorem own_one {d k:Nat} {sv:Value} (he:e d=.own k sv) (h:∃c a w imm,Rel c n ⟨e,m⟩ a w imm):sv.oneCell'=true:=by
 obtain⟨c,a,w,imm,h⟩:=h;have ht:=h.env d;rw [show(St.mk e m).env d=_ from he] at ht;exact ht.own_one
end
end Go.Pg
namespace Go.Proofs.YtjgdomdhjphgbaaGreatDoor
open Go Go.RowKit Go.Pg Go.Pol
attribute [-bool_to_prop] Bool.and_eq_decide Bool.or_eq_decide Bool.decide_beq_decide decide_eq_decide
attribute [local go_sem] Tryz.underlying3 Tryz.underlying4 Tryz.underlying160 Tryz.underlying49 Tryz.underlying51 Tryz.underlying53 Tryz.underlying27 Tryz.underlying54 Tryz.underlying56 Tryz.underlying30 Tryz.underlying31 sz3 by3 z3 szB zB Zax zRat Za3 zInt Za2 zNat Zag Zaq Zah Bool.and_self Zal Zbh zSlQ szQT byQT zQT Zbj zSlT szQP zQP Tryz.underlying70 Tryz.underlying33 szFr byFr zFr Zce Zcj zSQP
structure PtM (m:Mem) (sv:Value) (S:Nat→Value) (L:Nat→List AV) (len:Nat):Prop where
 top:m 12=some (.row sv 31 1 ((List.range len).map λj=>.own (2000+j) (S j)) 0)
 el:∀j,j < len→m (2000+j)=some (.row (S j) 56 4 (L j) 0)
theorem PtM.upd {m:Mem} {sv:Value} {S:Nat→Value} {L:Nat→List AV} {len k:Nat} {x:Option Ent} (h:PtM m sv S L len) (hk:k≠12) (hk2:k < 2000):PtM (upd m k x) sv S L len :=
 ⟨by rw [upd_ne (Ne.symm hk)];exact h.top,λj hj=>by rw [upd_ne (by omega)];exact h.el j hj⟩
end Go.Proofs.YtjgdomdhjphgbaaGreatDoor
namespace Go.Proofs.YtjgdomdhjphgbaaGreatDoor
open Go Go.RowKit Go.Pg Go.Pol
structure XN (p:QTs) (D B n:Nat):Prop where
 ex:EX p
 q:∀t∈p,t.2.length≤n
 nb:NB D B p
theorem XN.mono {p:QTs} {D B n E C m:Nat} (h:XN p D B n) (hd:D ∣ E) (hb:B≤C) (hn:n≤m):XN p E C m:=⟨h.ex,λt ht=>Nat.le_trans (h.q t ht) hn,h.nb.mono hd hb⟩
theorem XN.mul {p q:QTs} {D B n E C m:Nat} (h:XN p D B n) (g:XN q E C m):XN (mulX p q) (D*E) (B*C) (n+m) :=
 ⟨Zmy rgQ h.ex g.ex,Zic (Zh2 h.q g.q),(h.nb.prodL g.nb).sumG⟩
theorem XN.add {p q:QTs} {D B n C m:Nat} (h:XN p D B n) (g:XN q D C m):XN (Zav p q) D (B+C) (max n m):=by
 refine⟨Zk3 Zbp h.ex g.ex,λt ht=>?_,h.nb.addP g.nb⟩;rcases Zgn ht with h1 | h1 | ⟨s,hs,u,hu,rfl⟩
 ·have:=h.q t h1;omega
 ·have:=g.q t h1;omega
 ·have:=h.q s hs;show s.2.length≤_;omega
theorem XN.xb {p:QTs} {D B n k:Nat} (h:XN p D B n) (h0:D≠0) (hd:D < 65536 ^ k) (hb:B < 65536 ^ k):XB p k n:=⟨h.ex,h.q,D,B,h0,hd,hb,h.nb⟩
theorem XN.nil (D:Nat):XN [] D 0 0:=⟨Znu.1,λt ht=>(by cases ht),NB.nil D 0⟩
theorem XN.one:XN [((1:Rat),[])] 1 1 0:=⟨Zuk.1,λt ht=>by rw [List.mem_singleton.1 ht];exact Nat.le_refl _,λt ht=>by rw [List.mem_singleton.1 ht];decide +kernel,by decide +kernel⟩
theorem XN.pw {d:QTs} {E C n:Nat} (h:XN d E C n):∀i,XN (pwX d i) (E ^ i) (C ^ i) (i*n)
 | 0=>by rw [Nat.pow_zero,Nat.pow_zero,Nat.zero_mul];exact XN.one
 | i+1=>by rw [Nat.pow_succ,Nat.pow_succ,Nat.succ_mul];exact(h.pw i).mul h
theorem XN.part {a:QTs} {D B n:Nat} (h:XN a D B n) (q:Qt) (k:Nat):XN (paQ q a k) D B n :=
 ⟨Zhz Zbp (wo_dom h.ex.dom q k),Zic (Zum h.q q k),NB.sumG ⟨λt ht=>by obtain⟨u,hu,rfl⟩:=Zkk ht;exact h.nb.1 u hu,Nat.le_trans (n1_wo q k a) h.nb.2⟩⟩
section
variable {P:Nat→QTs} {a d:QTs} {D B E C np nb:Nat}
theorem XN.hn (hP:∀k,XN (P k) D B np) (ha:XN a E C nb) (hd:XN d E C nb) (hC:1≤C) (m:Nat):∀i,XN (hnX P a d m i) (D*E ^ i) (i*(B*C ^ i)) (np+i*nb)
 | 0=>by rw [Nat.zero_mul,Nat.zero_mul];exact(XN.nil _).mono (Nat.dvd_refl _) (Nat.le_refl _) (Nat.zero_le _)
 | i+1=>by
   have h1:=(XN.hn hP ha hd hC m i).mul ha;have h2:=(hP (m - i)).mul (hd.pw i);have e1:D*E ^ (i+1)=D*E ^ i*E:=by rw [Nat.pow_succ,Nat.mul_assoc]
   have e2:(i+1)*(B*C ^ (i+1))=i*(B*C ^ i)*C+B*C ^ i*C:=by rw [Nat.pow_succ];grind
   have h3:=XN.add h1 (h2.mono (E:=D*E ^ i*E) (Nat.dvd_mul_right _ _) (Nat.le_refl _) (Nat.le_refl _));rw [e1,e2];exact h3.mono (Nat.dvd_refl _) (Nat.add_le_add_left (Nat.le_mul_of_pos_right _ hC) _) (by rw [Nat.succ_mul];exact Nat.max_le.2 ⟨by omega,by omega⟩)
theorem XN.rf (hP:∀k,XN (P k) D B np) (ha:XN a E C nb) (hd:XN d E C nb) (m:Nat):∀i,i≤m+1→XN (rfX P a d m i) (D*E ^ m) (i*(B*C ^ m)) (np+m*nb)
 | 0,_=>by rw [Nat.zero_mul];exact(XN.nil _).mono (Nat.dvd_refl _) (Nat.le_refl _) (Nat.zero_le _)
 | i+1,hi=>by
   have h1:=XN.rf hP ha hd m i (by omega);have h2:=((hP i).mul (ha.pw i)).mul (hd.pw (m - i));have e1:D*E ^ i*E ^ (m - i)=D*E ^ m:=by rw [Nat.mul_assoc,←Nat.pow_add];congr 2;omega
   have e2:B*C ^ i*C ^ (m - i)=B*C ^ m:=by rw [Nat.mul_assoc,←Nat.pow_add];congr 2;omega
   have e3:np+i*nb+(m - i)*nb=np+m*nb:=by rw [Nat.add_assoc,←Nat.add_mul];congr 2;omega
   rw [e1,e2,e3] at h2;have h3:=h1.add h2;rw [Nat.succ_mul];exact h3.mono (Nat.dvd_refl _) (Nat.le_refl _) (by omega)
end
theorem two_xn {a d:QTs} {k n:Nat} (ha:XB a k n) (hd:XB d k n):∃E C,E≠0∧1≤C∧E < 65536 ^ (2*k)∧C < 65536 ^ k∧XN a E C n∧XN d E C n:=by
 obtain⟨a1,b1,D1,B1,c1,d1,e1,f1⟩:=ha;obtain⟨a2,b2,D2,B2,c2,d2,e2,f2⟩:=hd;have hk:k≠0:=λh=>by rw [h,Nat.pow_zero] at d1;omega
 have hp:65536≤65536 ^ k:=Nat.le_self_pow hk _;refine⟨D1*D2,max 1 (max B1 B2),Nat.mul_ne_zero c1 c2,by omega,?_,by omega,⟨a1,b1,f1.mono (Nat.dvd_mul_right ..) (by omega)⟩,⟨a2,b2,f2.mono (Nat.dvd_mul_left ..) (by omega)⟩⟩;rw [Nat.two_mul,Nat.pow_add];exact Nat.mul_lt_mul_of_lt_of_lt d1 d2
theorem Zwg {E k:Nat} (h:E < 65536 ^ k) (i:Nat):E ^ i≤65536 ^ (i*k):=by
 rw [Nat.mul_comm,Nat.pow_mul];exact Nat.pow_le_pow_left (Nat.le_of_lt h) i
theorem lim_num {B C k j i m:Nat} (hB:B < 65536 ^ k) (hC:C < 65536 ^ j) (hi:i≤65536):i*(B*C ^ m) < 65536 ^ (k+1+m*(2*j)):=by
 have h1:C ^ m≤65536 ^ (m*(2*j)):=Nat.le_trans (Zwg hC m) (Nat.pow_le_pow_right (by decide) (Nat.mul_le_mul_left _ (by omega)));have h0:0 < 65536 ^ (m*(2*j)):=Nat.pow_pos (by decide);have h2:B*C ^ m < 65536 ^ k*65536 ^ (m*(2*j)):=Nat.lt_of_le_of_lt (Nat.mul_le_mul_left _ h1) (Nat.mul_lt_mul_of_pos_right hB h0);have e:65536 ^ (k+1+m*(2*j))=65536*(65536 ^ k*65536 ^ (m*(2*j))):=by rw [Nat.pow_add,Nat.pow_succ];grind
 rw [e];rcases Nat.eq_zero_or_pos i with rfl | h3
 ·rw [Nat.zero_mul];exact Nat.mul_pos (by decide) (Nat.mul_pos (Nat.pow_pos (by decide)) h0)
 ·exact Nat.lt_of_lt_of_le ((Nat.mul_lt_mul_left h3).2 h2) (Nat.mul_le_mul_right _ hi)
theorem lim_den {D E k j m:Nat} (hD:D < 65536 ^ k) (hE:E < 65536 ^ (2*j)):D*E ^ m < 65536 ^ (k+1+m*(2*j)):=by
 have h1:E ^ m≤65536 ^ (m*(2*j)):=Zwg hE m;have h0:0 < 65536 ^ (m*(2*j)):=Nat.pow_pos (by decide);have h2:D*E ^ m < 65536 ^ k*65536 ^ (m*(2*j)):=Nat.lt_of_le_of_lt (Nat.mul_le_mul_left _ h1) (Nat.mul_lt_mul_of_pos_right hD h0);rw [←Nat.pow_add] at h2;exact Nat.lt_of_lt_of_le h2 (Nat.pow_le_pow_right (by decide) (by omega))
theorem rf_xb {a num den:QTs} {ka kb na nb:Nat} (ha:XB a ka na) (hu:XB num kb nb) (hd:XB den kb nb) (q:Qt) (m i:Nat) (hm:m < 65536) (hi:i≤m+1):XB (rfX (paQ q a) num den m i) (ka+1+m*(2*kb)) (na+m*nb):=by
 obtain⟨E,C,e0,c0,e1,c1,g1,g2⟩:=two_xn hu hd;obtain⟨a1,b1,D,B,d0,d1,d2,d3⟩:=ha;have g:XN a D B na:=⟨a1,b1,d3⟩;exact(XN.rf (λk=>g.part q k) g1 g2 m i hi).xb (Nat.mul_ne_zero d0 (Nat.ne_of_gt (Nat.pow_pos (Nat.pos_of_ne_zero e0)))) (lim_den d1 e1) (lim_num d2 c1 (by omega))
end Go.Proofs.YtjgdomdhjphgbaaGreatDoor
namespace Go.Proofs.YtjgdomdhjphgbaaGreatDoor
open Go Go.RowKit Go.Pg Go.Pol
attribute [-bool_to_prop] Bool.and_eq_decide Bool.or_eq_decide Bool.decide_beq_decide decide_eq_decide
attribute [local go_sem] Tryz.underlying3 Tryz.underlying4 Tryz.underlying160 Tryz.underlying49 Tryz.underlying51 Tryz.underlying53 Tryz.underlying27 Tryz.underlying54 Tryz.underlying56 Tryz.underlying30 Tryz.underlying31 sz3 by3 z3 szB zB Zax zRat Za3 zInt Za2 zNat Zag Zaq Zah Bool.and_self Zal Zbh zSlQ szQT byQT zQT Zbj zSlT szQP zQP Tryz.underlying70 Tryz.underlying33 szFr byFr zFr Zce Zcj zSQP
theorem XB.scl {p:QTs} {k n:Nat} (h:XB p k n) {s:Int} (hs:s=-1∨s=1):XB (sclT (s:Rat) p) k n:=by
 rcases hs with rfl | rfl
 ·exact h.neg
 ·show XB (sclT 1 p) k n;rw [Zu7];exact h
theorem Zu9 (c:Rat) (p:QTs):Zcv c p=sclT c p:=by
 unfold Zcv sclT;exact List.map_congr_left λt _=>by rw [Rat.mul_comm]
theorem Zfi:szOf Tryz.prog 72=some 3:=by kernel_rfl
theorem Zfr:Zhj Tryz.prog 72=some 72:=by kernel_rfl
theorem zCmb:Za0 Tryz.prog 72=some (.agg #[.slice none 0 0,.slice none 0 0,.slice none 0 0]):=by kernel_rfl
theorem Zfg:szOf Tryz.prog 103=some 1:=by kernel_rfl
theorem szFn:szOf Tryz.prog 101=some 1:=by kernel_rfl
theorem zFn:Za0 Tryz.prog 101=some .nilFunc:=by kernel_rfl
theorem zSch:Za0 Tryz.prog 103=some (.agg #[.nilFunc]):=by kernel_rfl
theorem Zfh:szOf Tryz.prog 68=some 4:=by kernel_rfl
theorem zPlc:Za0 Tryz.prog 68=some (.agg #[.int .i64 0,.int .i64 0,.int .i64 0,.bool false]):=by kernel_rfl
theorem Zc5:szOf Tryz.prog 40=some 1:=by kernel_rfl
theorem Zff:Za0 Tryz.prog 40=some (.slice none 0 0):=by kernel_rfl
attribute [local go_sem] Tryz.underlying34 Tryz.underlying44 Tryz.underlying9 Zbq zStr
abbrev cQ (a:Rat):List AV:=[.v (.bool (decide (a.num < 0))),lim (toL a.num.natAbs),lim (toL a.den)]
def pV (ps:List PQ) (rs:List Rat) (t:Rat × List Qt):Nat→Rat
 | 0=>t.1
 | i+1=>pV ps rs t i*Qt.val (t.2.getD i Qt.zero) ps rs
def eV (ps:List PQ) (rs:List Rat) (l:QTs):Nat→Rat
 | 0=>0
 | i+1=>eV ps rs l i+pV ps rs (l.getD i (0,[])) (l.getD i (0,[])).2.length
def chQ (n m:Int):List Qt→Int
 | []=>0
 | q :: l=>if Qt.chk q n m=0 then chQ n m l else Qt.chk q n m
def chE (n m:Int):QTs→Int
 | []=>0
 | t :: l=>if chQ n m t.2=0 then chE n m l else chQ n m t.2
abbrev cQ0:List AV:=[.v (.bool false),.v (.slice none 0 0),.v (.slice none 0 0)]
section
attribute [local go_sem] Tryz.underlying3 Tryz.underlying4 Tryz.underlying160 Tryz.underlying49 Tryz.underlying51 Tryz.underlying53 Tryz.underlying27 Tryz.underlying54 Tryz.underlying56 Tryz.underlying30 Tryz.underlying31 sz3 by3 z3 szB zB Zax zRat Za3 zInt Za2 zNat Zag Zaq Zah Bool.and_self Zal Zbh zSlQ szQT byQT zQT Zbj zSlT szQP zQP Tryz.underlying70 Tryz.underlying33 szFr byFr zFr Zce Zcj zSQP Tryz.underlying34 Tryz.underlying44 Tryz.underlying9 Zbq zStr
end
end Go.Proofs.YtjgdomdhjphgbaaGreatDoor
namespace Go.Proofs.YtjgdomdhjphgbaaGreatDoor
open Go Go.RowKit Go.Pg
attribute [-bool_to_prop] Bool.and_eq_decide Bool.or_eq_decide Bool.decide_beq_decide decide_eq_decide
attribute [local go_sem] Tryz.underlying3 Tryz.underlying2 Tryz.underlying120 Tryz.underlying160 Tryz.underlying4 Tryz.underlying34 Tryz.underlying27 Tryz.underlying54 Tryz.underlying53 Tryz.underlying49 Tryz.underlying51 sz3 by3 z3 szL byL zL Zag Zaq Zcf zErr Zax zRat Za2 zNat Za3 zInt szB zB Zah Bool.and_self
theorem Zly (A B C:PQ):Ze7 A B A C=- Ze7 B A B C:=by unfold Ze7;grind
theorem Zfq (A B C:PQ):Ze7 A B A C=Ze7 B C B A:=by unfold Ze7;grind
theorem dot_swap (A B C:PQ):dotP B A B C=dotP B C B A:=by unfold dotP;grind
theorem Ztq {k a b c:Int} {ps:List PQ} {rs:List Rat} (h:Qt.chk ⟨k,a,b,c⟩ ps.length rs.length=0) (hl:ps.length≤40) :
 (Qt.norm ⟨k,a,b,c⟩=(Qt.zero,0)∧Qt.val ⟨k,a,b,c⟩ ps rs=0) ∨
 (∃(k1 a1 b1 c1 s:Int),Qt.norm ⟨k,a,b,c⟩=(⟨k1,a1,b1,c1⟩,s)∧(s=1∨s=-1)∧Qt.norm ⟨k1,a1,b1,c1⟩=(⟨k1,a1,b1,c1⟩,1)∧Qt.chk ⟨k1,a1,b1,c1⟩ ps.length rs.length=0∧Qt.val ⟨k,a,b,c⟩ ps rs=Qt.val ⟨k1,a1,b1,c1⟩ ps rs*(s:Rat)):=by
 have hh:=chk_val h
 have hok:Qt.ok ⟨k,a,b,c⟩=true:=by
  unfold Qt.chk at h;split at h
  ·assumption
  ·omega
 rcases hh with⟨rfl,h1,h2,h3⟩ | ⟨h0,h1,h2,h3,h4⟩
 ·have hn:Qt.norm ⟨3,a,b,c⟩=(⟨3,a,b,c⟩,1):=by
   unfold Qt.norm;rw [if_pos hok];rfl
  refine .inr ⟨3,a,b,c,1,hn,.inl rfl,hn,h,?_⟩;rw [show((1:Int):Rat)=1 from rfl,Rat.mul_one]
 ·have okN:∀k x y z:Int,(k=1∨k=2)→(0≤x∧x < ps.length)→(0≤y∧y < ps.length)→(0≤z∧z < ps.length)→Qt.ok ⟨k,x,y,z⟩=true:=by
   intro k x y z hk hx hy hz;unfold Qt.ok;rw [decide_eq_true_eq];simp only;omega
  have chN:∀k x y z:Int,(k=1∨k=2)→(0≤x∧x < ps.length)→(0≤y∧y < ps.length)→(0≤z∧z < ps.length)→Qt.chk ⟨k,x,y,z⟩ ps.length rs.length=0:=by
   intro k x y z hk hx hy hz;unfold Qt.chk;rw [if_pos (okN k x y z hk hx hy hz)];simp only;rw [if_neg (by omega),if_neg (by omega)]
  rcases h1 with rfl | rfl
  ·have v1:∀x y z:Int,Qt.val ⟨1,x,y,z⟩ ps rs=Ze7 (ps.getD x.toNat (0,0)) (ps.getD y.toNat (0,0)) (ps.getD x.toNat (0,0)) (ps.getD z.toNat (0,0)):=λx y z=>by unfold Qt.val;rfl
   have nN:∀x y z:Int,(0≤x∧x < ps.length)→(0≤y∧y < ps.length)→(0≤z∧z < ps.length)→Qt.norm ⟨1,x,y,z⟩=Zdy x y z:=by
    intro x y z hx hy hz;unfold Qt.norm;rw [if_pos (okN 1 x y z (.inl rfl) hx hy hz)];rfl
   have nS:∀x y z:Int,x < y→y < z→Zdy x y z=(⟨1,x,y,z⟩,1):=by
    intro x y z hxy hyz;unfold Zdy;rw [if_neg (by omega),if_pos hxy,if_pos hyz]
   rw [nN a b c h2 h3 h4,v1];have one:∀x:Rat,x=x*((1:Int):Rat):=λx=>by rw [show((1:Int):Rat)=1 from rfl,Rat.mul_one]
   have neg:∀x:Rat,-x=x*((-1:Int):Rat):=λx=>by rw [show((-1:Int):Rat)=-1 from rfl];grind
   by_cases he:a=b∨b=c∨a=c
   ·refine .inl ⟨by unfold Zdy;rw [if_pos he],?_⟩;rcases he with rfl | rfl | rfl
    ·unfold Ze7;grind
    ·unfold Ze7;grind
    ·unfold Ze7;grind
   ·have fin:∀(x y z:Int) (s:Int),Zdy a b c=(⟨1,x,y,z⟩,s)→x < y→y < z→(0≤x∧x < ps.length)→(0≤y∧y < ps.length)→(0≤z∧z < ps.length)→(s=1∨s=-1) →
     Ze7 (ps.getD a.toNat (0,0)) (ps.getD b.toNat (0,0)) (ps.getD a.toNat (0,0)) (ps.getD c.toNat (0,0))=Qt.val ⟨1,x,y,z⟩ ps rs*(s:Rat) →
     ∃(k1 a1 b1 c1 s:Int),Zdy a b c=(⟨k1,a1,b1,c1⟩,s)∧(s=1∨s=-1)∧Qt.norm ⟨k1,a1,b1,c1⟩=(⟨k1,a1,b1,c1⟩,1)∧Qt.chk ⟨k1,a1,b1,c1⟩ ps.length rs.length=0∧Ze7 (ps.getD a.toNat (0,0)) (ps.getD b.toNat (0,0)) (ps.getD a.toNat (0,0)) (ps.getD c.toNat (0,0))=Qt.val ⟨k1,a1,b1,c1⟩ ps rs*(s:Rat) :=
     λx y z s e hxy hyz hx hy hz hs hv=>⟨1,x,y,z,s,e,hs,by rw [nN x y z hx hy hz,nS x y z hxy hyz],chN 1 x y z (.inl rfl) hx hy hz,hv⟩
    right;by_cases h5:a < b
    ·by_cases h6:b < c
     ·exact fin a b c 1 (by unfold Zdy;rw [if_neg he,if_pos h5,if_pos h6]) h5 h6 h2 h3 h4 (.inl rfl) (by rw [v1];exact one _)
     ·by_cases h7:a < c
      ·exact fin a c b (-1) (by unfold Zdy;rw [if_neg he,if_pos h5,if_neg h6,if_pos h7]) h7 (by omega) h2 h4 h3 (.inr rfl) (by rw [v1,←neg,Zfq,Zly,Zfq (ps.getD a.toNat (0,0))])
      ·exact fin c a b 1 (by unfold Zdy;rw [if_neg he,if_pos h5,if_neg h6,if_neg h7]) (by omega) h5 h4 h2 h3 (.inl rfl) (by rw [v1,←one,Zfq,Zfq])
    ·by_cases h6:a < c
     ·exact fin b a c (-1) (by unfold Zdy;rw [if_neg he,if_neg h5,if_pos h6]) (by omega) h6 h3 h2 h4 (.inr rfl) (by rw [v1,←neg];exact Zly _ _ _)
     ·by_cases h7:b < c
      ·exact fin b c a 1 (by unfold Zdy;rw [if_neg he,if_neg h5,if_neg h6,if_pos h7]) h7 (by omega) h3 h4 h2 (.inl rfl) (by rw [v1,←one];exact Zfq _ _ _)
      ·exact fin c b a (-1) (by unfold Zdy;rw [if_neg he,if_neg h5,if_neg h6,if_neg h7]) (by omega) (by omega) h4 h3 h2 (.inr rfl) (by rw [v1,←neg];unfold Ze7;grind)
  ·have v2:∀x y z:Int,Qt.val ⟨2,x,y,z⟩ ps rs=2*dotP (ps.getD y.toNat (0,0)) (ps.getD x.toNat (0,0)) (ps.getD y.toNat (0,0)) (ps.getD z.toNat (0,0)):=λx y z=>by unfold Qt.val;rfl
   have nN:∀x y z:Int,(0≤x∧x < ps.length)→(0≤y∧y < ps.length)→(0≤z∧z < ps.length)→Qt.norm ⟨2,x,y,z⟩=Zev x y z:=by
    intro x y z hx hy hz;unfold Qt.norm;rw [if_pos (okN 2 x y z (.inr rfl) hx hy hz)];rfl
   have one:∀x:Rat,x=x*((1:Int):Rat):=λx=>by rw [show((1:Int):Rat)=1 from rfl,Rat.mul_one]
   rw [nN a b c h2 h3 h4,v2];by_cases he:a=b∨b=c
   ·refine .inl ⟨by unfold Zev;rw [if_pos he],?_⟩;rcases he with rfl | rfl
    ·unfold dotP;grind
    ·unfold dotP;grind
   ·right;by_cases h5:a=c∧b < a
    ·obtain⟨rfl,h6⟩:=h5;refine⟨2,b,a,b,1,by unfold Zev;rw [if_neg he,if_pos ⟨rfl,h6⟩],.inl rfl,?_,chN 2 b a b (.inr rfl) h3 h2 h3,?_⟩
     ·rw [nN b a b h3 h2 h3];unfold Zev;rw [if_neg (by omega),if_neg (by omega),if_neg (by omega)]
     ·rw [v2,←one];unfold dotP;grind
    ·by_cases h6:c < a
     ·refine⟨2,c,b,a,1,by unfold Zev;rw [if_neg he,if_neg h5,if_pos h6],.inl rfl,?_,chN 2 c b a (.inr rfl) h4 h3 h2,?_⟩
      ·rw [nN c b a h4 h3 h2];unfold Zev;rw [if_neg (by omega),if_neg (by omega),if_neg (by omega)]
      ·rw [v2,←one,dot_swap]
     ·refine⟨2,a,b,c,1,by unfold Zev;rw [if_neg he,if_neg h5,if_neg h6],.inl rfl,?_,chN 2 a b c (.inr rfl) h2 h3 h4,?_⟩
      ·rw [nN a b c h2 h3 h4];unfold Zev;rw [if_neg he,if_neg h5,if_neg h6]
      ·rw [v2,←one]
def sumV (ps:List PQ) (l:List Qt):Rat:=l.foldl (λs q=>s+Qt.val q ps []) 0
end Go.Proofs.YtjgdomdhjphgbaaGreatDoor
namespace Go.Proofs.YtjgdomdhjphgbaaGreatDoor
open Go Go.RowKit Go.Pg Go.Pol
section
variable {ps:List PQ} {rs:List Rat}
def vlQ (ps:List PQ) (rs:List Rat):List Qt→Rat
 | []=>1
 | q :: l=>Qt.val q ps rs*vlQ ps rs l
def pwr (x:Rat):Nat→Rat
 | 0=>1
 | n+1=>pwr x n*x
def swX (W:Nat→Rat) (x:Rat):Nat→Rat
 | 0=>0
 | i+1=>swX W x i+W i*pwr x i
end
def alQ (C:Qt→Prop) (l:QTs):Prop:=∀t∈l,∀q∈t.2,C q
section
variable {C:Qt→Prop}
theorem alQ.join {p q:QTs} (hp:alQ C p) (hq:alQ C q):alQ C (Zav p q):=λt ht=>by
 obtain⟨s,hs,e⟩:=Zh7 ht;rw [e];rcases List.mem_append.1 hs with h | h
 ·exact hp s h
 ·exact hq s h
theorem alQ.gat {l:QTs} (h:alQ C l):alQ C (gatM l):=by
 rw [←Zql];intro t ht;exact Znr (P:=λx=>∀q∈x,C q) l [] (λt ht=>by cases ht) h t (List.mem_filter.1 ((Za7 _).mem_iff.1 ht)).1
theorem alQ.mul {p q:QTs} (hp:alQ C p) (hq:alQ C q):alQ C (mulX p q):=alQ.gat λu hu=>by
 obtain⟨s,hs,t,ht,rfl⟩:=Zfj hu;intro x hx;rcases List.mem_append.1 ((Za7 _).mem_iff.1 hx) with h | h
 ·exact hp s hs x h
 ·exact hq t ht x h
theorem alQ.pw {d:QTs} (h:alQ C d):∀i,alQ C (pwX d i)
 | 0=>λt ht x hx=>by
   rw [List.mem_singleton.1 ht] at hx;cases hx
 | i+1=>(h.pw i).mul h
theorem alQ.part {a:QTs} (h:alQ C a) (q:Qt) (k:Nat):alQ C (paQ q a k):=alQ.gat λu hu x hx=>by
 obtain⟨t,ht,rfl⟩:=Zkk hu;exact h t ht x (List.mem_filter.1 hx).1
theorem alQ.scl {p:QTs} (h:alQ C p) (s:Rat):alQ C (sclT s p):=λu hu=>by
 obtain⟨t,ht,rfl⟩:=List.mem_map.1 hu;exact h t ht
theorem alQ.rf {P:Nat→QTs} {a d:QTs} (hP:∀k,alQ C (P k)) (ha:alQ C a) (hd:alQ C d) (m:Nat):∀i,alQ C (rfX P a d m i)
 | 0=>λt ht=>by cases ht
 | i+1=>(alQ.rf hP ha hd m i).join (((hP i).mul (ha.pw i)).mul (hd.pw (m - i)))
end
def cstT (u:Rat):QTs:=if u=0 then [] else [(u,[])]
theorem cstT_xb {u:Rat} {k:Nat} (h:Sz u k):XB (cstT u) (k+1) 0:=by
 have hd:=Zaf.1 h.2;have hn:=Zaf.1 h.1;have hk:65536 ^ k < 65536 ^ (k+1):=Nat.pow_lt_pow_right (by omega) (by omega);unfold cstT;split
 ·exact Znu.mono (by omega) (Nat.le_refl _)
 ·rename_i h0;refine⟨⟨λt ht=>by rw [List.mem_singleton.1 ht];exact⟨h0,rgQ.de⟩,List.pairwise_singleton _ _⟩,λt ht=>by rw [List.mem_singleton.1 ht];exact Nat.le_refl _,u.den,u.num.natAbs,u.den_nz,by omega,by omega,λt ht=>by rw [List.mem_singleton.1 ht];exact Nat.dvd_refl _,?_⟩;rw [Zbl];exact cl_le.2 (Nat.le_mul_of_pos_right _ (Nat.pos_of_ne_zero u.den_nz))
theorem Zf6 (u:Rat):(cstT u).length≤1:=by unfold cstT;split<;>simp
theorem Zyc {C:Qt→Prop} (u:Rat):alQ C (cstT u):=by
 unfold cstT;split
 ·exact λt ht=>by cases ht
 ·exact λt ht x hx=>by rw [List.mem_singleton.1 ht] at hx;cases hx
theorem Zqh {q:Qt} (h:q.ok=true) (hs:q.norm.2≠0):q.norm.1.norm=(q.norm.1,1):=by
 obtain⟨k,a,b,c⟩:=q
 have hk:(k=3∧0≤a∧a < 64∧b=0∧c=0)∨((k=1∨k=2)∧(0≤a∧a < 40)∧(0≤b∧b < 40)∧(0≤c∧c < 40)):=by
  unfold Qt.ok at h;simpa using h
 have hc:Qt.chk ⟨k,a,b,c⟩ (List.replicate 40 ((0:Rat),(0:Rat))).length (List.replicate 64 (0:Rat)).length=0:=by
  rw [List.length_replicate,List.length_replicate];unfold Qt.chk;rw [if_pos h];simp only;rcases hk with⟨rfl,h1,h2,_⟩ | ⟨h0,h1,h2,h3⟩
  ·rw [if_pos rfl,if_neg (by omega)]
  ·rw [if_neg (by omega),if_neg (by omega)]
 rcases Ztq (ps:=List.replicate 40 ((0:Rat),(0:Rat))) (rs:=List.replicate 64 (0:Rat)) hc (by rw [List.length_replicate];exact Nat.le_refl _) with⟨hn,_⟩ | ⟨k1,a1,b1,e1,s,hn,_,hn2,_,_⟩
 ·rw [hn] at hs;exact absurd rfl hs
 ·rw [hn];exact hn2
structure XL (p:QTs) (k n l:Nat):Prop where
 x:XB p k n
 l:p.length≤l
theorem XL.mono {p:QTs} {k n l j m i:Nat} (h:XL p k n l) (hk:k≤j) (hn:n≤m) (hl:l≤i):XL p j m i:=⟨h.x.mono hk hn,Nat.le_trans h.l hl⟩
theorem XL.mul {p q:QTs} {k n l j m i:Nat} (h:XL p k n l) (g:XL q j m i):XL (mulX p q) (k+j) (n+m) (l*i):=⟨h.x.mul g.x,Nat.le_trans (Ziq p q) (Nat.mul_le_mul h.l g.l)⟩
theorem XL.add {p q:QTs} {k n l j m i:Nat} (h:XL p k n l) (g:XL q j m i):XL (Zav p q) (k+j+1) (max n m) (l+i):=⟨h.x.add g.x,Nat.le_trans (Zhe p q) (Nat.add_le_add h.l g.l)⟩
abbrev subX (p q:QTs):QTs:=Zav p (sclT (-1) q)
theorem XL.neg {q:QTs} {j m i:Nat} (g:XL q j m i):XL (sclT (-1) q) j m i:=⟨g.x.neg,by rw [Zcz];exact g.l⟩
theorem XL.sub {p q:QTs} {k n l j m i:Nat} (h:XL p k n l) (g:XL q j m i):XL (subX p q) (k+j+1) (max n m) (l+i):=h.add g.neg
theorem XL.nil:XL [] 1 0 0:=⟨Znu,Nat.le_refl _⟩
def ofX (q:Qt):QTs:=if q.norm.2=0 then [] else [((q.norm.2:Rat),[q.norm.1])]
theorem of_ok {q:Qt} (h:q.ok=true):nrmR (ofE q)=qpA (ofX q):=by
 rw [nrm_ok (by show(RE.ok ⟨rawQ 1,[q]⟩ && true)=true;rw [Bool.and_true];show((rawQ 1).ok && [q].all Qt.ok)=true;rw [Zv1,Bool.true_and,List.all_cons,h];rfl)];congr 2;show gatM [RE.t ⟨rawQ 1,[q]⟩]=ofX q;have hs:sgP [q]=q.norm.2:=by show 1*q.norm.2=_;rw [Int.one_mul]
 have ht:RE.t ⟨rawQ 1,[q]⟩=((q.norm.2:Rat),putP [q]):=by
  show((rawQ 1).q*(sgP [q]:Rat),putP [q])=_;rw [rawQ_q,hs,Rat.one_mul]
 rw [ht,Zm8];unfold ofX;by_cases h0:q.norm.2=0
 ·rw [if_pos h0,if_pos (by show(q.norm.2:Rat)=0;rw [h0];rfl)]
 ·have h1:¬(q.norm.2:Rat)=0:=by
   rcases Zhs q with h2 | h2 | h2
   ·rw [h2];decide +kernel
   ·exact absurd h2 h0
   ·rw [h2];decide +kernel
  rw [if_neg h0,if_neg h1];have hp:=putP_y [] (q:=q) h0;rw [List.nil_append] at hp;rw [hp];rfl
theorem Zba {q:Qt} (h:q.ok=true):XL (ofX q) 1 1 1:=by
 unfold ofX;split
 ·exact XL.nil.mono (Nat.le_refl _) (by omega) (by omega)
 ·rename_i h0;have hn:=Zqh h h0
  have hs:(q.norm.2:Rat)≠0∧(q.norm.2:Rat).den ∣ 1∧cl (q.norm.2:Rat)≤65535:=by
   rcases Zhs q with h2 | h2 | h2
   ·rw [h2];decide +kernel
   ·exact absurd h2 h0
   ·rw [h2];decide +kernel
  refine⟨⟨⟨λt ht=>?_,List.pairwise_singleton _ _⟩,λt ht=>by rw [List.mem_singleton.1 ht];exact Nat.le_refl _,1,65535,by decide,by decide,by decide,λt ht=>by rw [List.mem_singleton.1 ht];exact hs.2.1,?_⟩,Nat.le_refl _⟩
  ·rw [List.mem_singleton.1 ht];exact⟨hs.1,List.pairwise_singleton _ _,λx hx=>by rw [List.mem_singleton.1 hx];exact hn⟩
  ·rw [Zbl];exact hs.2.2
theorem Zcc {u:Rat} {k:Nat} (h:Sz u k):XL (cstT u) (k+1) 0 1:=⟨cstT_xb h,Zf6 u⟩
theorem Zng {c:Rat} {p:QTs} (h:EX p):mulX (cstT c) p=if c=0 then [] else sclT c p:=by
 unfold cstT;split
 ·exact mlG_nil p
 ·rename_i h0;refine Zne (D:=okQ) Zbp (Zmy rgQ ⟨λt ht=>by rw [List.mem_singleton.1 ht];exact⟨h0,rgQ.de⟩,List.pairwise_singleton _ _⟩ h) ⟨λt ht=>?_,List.pairwise_map.2 h.2⟩ λφ=>?_
  ·obtain⟨u,hu,rfl⟩:=List.mem_map.1 ht;exact⟨λh1=>(Rat.mul_eq_zero.1 h1).elim h0 (h.1 u hu).1,(h.1 u hu).2⟩
  ·rw [Zqy Zbp,Zqx];show c*evl (λk=>φ (muQ [] k)) p+0=_;rw [Rat.add_zero];congr 1
   have key:∀p:QTs,(∀t∈p,okQ t.2)→evl (λk=>φ (muQ [] k)) p=evl φ p:=by
    intro p
    induction p with
    | nil=>intro _;rfl
    | cons t p ih =>
      intro h;show t.1*φ (muQ [] t.2)+_=t.1*φ t.2+_;rw [ih λu hu=>h u (.tail _ hu),rgQ.comm,rgQ.one _ (h t (.head _))]
   exact key p h.dom
structure Cb where
 ps:List Int
 ab:List QTs
 be:QTs
abbrev aX (a b c:Int):QTs:=ofX ⟨1,a,b,c⟩
abbrev pX (a b c:Int):QTs:=ofX ⟨2,a,b,c⟩
abbrev nX (n:Rat):QTs:=cstT n
abbrev twX (p:QTs):QTs:=mulX (nX 2) p
def prC (a b:Int) (part below:QTs):Cb:=⟨[a,b],[subX below part,part],below⟩
def ctW (p q r:Int):QTs:=mulX (pX q r q) (pX q p r)
def cbOf (k:Int) (a:List Int) (r:Rat) (t:Int):Option Cb :=
 if k=2 then some (prC (gI a 0) (gI a 1) (nX r) (nX 1))
 else if k=3 then some ⟨a,[nX 1,nX (-1),nX 1],nX 1⟩
 else if k=5 then some (prC (gI a 0) (gI a 1) (ofX ⟨3,t,0,0⟩) (nX 1))
 else if k=9 then some (prC (gI a 0) (gI a 1) (aX (gI a 0) (gI a 2) (gI a 3)) (subX (aX (gI a 0) (gI a 2) (gI a 3)) (aX (gI a 1) (gI a 2) (gI a 3))))
 else if k=7 then some (prC (gI a 1) (gI a 2) (pX (gI a 0) (gI a 1) (gI a 2)) (pX (gI a 2) (gI a 1) (gI a 2)))
 else if k=8 then some ⟨[gI a 1,gI a 2,gI a 0],[twX (subX (pX (gI a 2) (gI a 1) (gI a 2)) (pX (gI a 0) (gI a 1) (gI a 2))),twX (pX (gI a 0) (gI a 1) (gI a 2)),subX [] (pX (gI a 2) (gI a 1) (gI a 2))],pX (gI a 2) (gI a 1) (gI a 2)⟩
 else if k=10 then some (prC (gI a 0) (gI a 1) (twX (pX (gI a 2) (gI a 0) (gI a 1))) (pX (gI a 1) (gI a 0) (gI a 1)))
 else if k=11 then some ⟨a,[ctW (gI a 0) (gI a 1) (gI a 2),ctW (gI a 1) (gI a 2) (gI a 0),ctW (gI a 2) (gI a 0) (gI a 1)],Zav (Zav (ctW (gI a 0) (gI a 1) (gI a 2)) (ctW (gI a 1) (gI a 2) (gI a 0))) (ctW (gI a 2) (gI a 0) (gI a 1))⟩
 else none
structure CbOk (c:Cb) (n:Int):Prop where
 len:c.ab.length=c.ps.length
 few:c.ps.length≤3
 ab:∀w∈c.ab,XL w 10 2 4
 be:XL c.be 10 2 4
 ps:∀x∈c.ps,0≤x∧x < n
theorem Zak {k a b c:Int} (hk:k=1∨k=2) (ha:0≤a∧a < 40) (hb:0≤b∧b < 40) (hc:0≤c∧c < 40):Qt.ok ⟨k,a,b,c⟩=true:=by
 unfold Qt.ok;rw [decide_eq_true_eq];exact .inr ⟨hk,ha,hb,hc⟩
theorem Zji {k t:Int} {a:List Int} {r:Rat} {n:Int} {c:Cb} (h:cbOf k a r t=some c) (hr:Sz r 2) (ha:∀i,i < a.length→0≤gI a i∧gI a i < n) (hn:n≤40) (ht:0≤t∧t < 64)
 (hl:(k=3→a.length=3)∧(k=11→a.length=3)∧(k=2∨k=5→2≤a.length)∧(k=7∨k=8∨k=10→3≤a.length)∧(k=9→4≤a.length)):CbOk c n:=by
 obtain⟨l3,l11,l2,l7,l9⟩:=hl;have g:∀i,i < a.length→0≤gI a i∧gI a i < 40:=λi hi=>by have:=ha i hi;omega
 have pA:∀i j m,i < a.length→j < a.length→m < a.length→XL (aX (gI a i) (gI a j) (gI a m)) 1 1 1:=λi j m h1 h2 h3=>Zba (Zak (.inl rfl) (g i h1) (g j h2) (g m h3));have pP:∀i j m,i < a.length→j < a.length→m < a.length→XL (pX (gI a i) (gI a j) (gI a m)) 1 1 1:=λi j m h1 h2 h3=>Zba (Zak (.inr rfl) (g i h1) (g j h2) (g m h3));have c1:XL (nX 1) 2 0 1:=Zcc Zi2;have c2:XL (nX 2) 2 0 1:=Zcc Zd4;have cm:XL (nX (-1)) 2 0 1:=Zcc sz_m1;have cr:XL (nX r) 3 0 1:=Zcc hr
 have pr:∀{x y:Int} {p b:QTs} {j m i j' m' i':Nat},XL p j m i→XL b j' m' i'→j+j'+1≤10→m≤2→m'≤2→i+i'≤4→(0≤x∧x < n)→(0≤y∧y < n)→CbOk (prC x y p b) n:=by
  intro x y p b j m i j' m' i' hp hb h1 h2 h3 h4 hx hy;refine⟨rfl,by show 2≤3;decide,λw hw=>?_,hb.mono (by omega) h3 (by omega),λz hz=>?_⟩
  ·rcases List.mem_cons.1 hw with rfl | hw
   ·exact(hb.sub hp).mono (by omega) (by omega) (by omega)
   ·rw [List.mem_singleton.1 hw];exact hp.mono (by omega) h2 (by omega)
  ·rcases List.mem_cons.1 hz with rfl | hz
   ·exact hx
   ·rw [List.mem_singleton.1 hz];exact hy
 have hmem:∀x∈a,0≤x∧x < n:=λx hx=>by
  obtain⟨i,hi,rfl⟩:=List.getElem_of_mem hx;have:=ha i hi
  rwa [Zex hi] at this
 have tri:∀{x y z:QTs} {w:QTs},XL x 10 2 4→XL y 10 2 4→XL z 10 2 4→w∈[x,y,z]→XL w 10 2 4:=by
  intro x y z w hx hy hz hw;rcases List.mem_cons.1 hw with rfl | hw
  ·exact hx
  ·rcases List.mem_cons.1 hw with rfl | hw
   ·exact hy
   ·rw [List.mem_singleton.1 hw];exact hz
 unfold cbOf at h;split at h
 ·rename_i hk;cases h;have:=l2 (.inl hk);exact pr cr c1 (by decide) (by decide) (by decide) (by decide) (ha 0 (by omega)) (ha 1 (by omega))
 split at h
 ·rename_i hk;cases h;have:=l3 hk;exact⟨this.symm,by show a.length≤3;omega,λw hw=>tri (c1.mono (by decide) (by decide) (by decide)) (cm.mono (by decide) (by decide) (by decide)) (c1.mono (by decide) (by decide) (by decide)) hw,c1.mono (by decide) (by decide) (by decide),hmem⟩
 split at h
 ·rename_i hk;cases h;have:=l2 (.inr hk);have ho:XL (ofX ⟨3,t,0,0⟩) 1 1 1:=Zba (by unfold Qt.ok;rw [decide_eq_true_eq];exact .inl ⟨rfl,ht.1,ht.2,rfl,rfl⟩);exact pr ho c1 (by decide) (by decide) (by decide) (by decide) (ha 0 (by omega)) (ha 1 (by omega))
 split at h
 ·rename_i hk;cases h;have:=l9 hk;have p1:=pA 0 2 3 (by omega) (by omega) (by omega);have p2:=pA 1 2 3 (by omega) (by omega) (by omega);exact pr p1 (p1.sub p2) (by decide) (by decide) (by decide) (by decide) (ha 0 (by omega)) (ha 1 (by omega))
 split at h
 ·rename_i hk;cases h;have:=l7 (.inl hk);exact pr (pP 0 1 2 (by omega) (by omega) (by omega)) (pP 2 1 2 (by omega) (by omega) (by omega)) (by decide) (by decide) (by decide) (by decide) (ha 1 (by omega)) (ha 2 (by omega))
 split at h
 ·rename_i hk;cases h;have:=l7 (.inr (.inl hk));have p1:=pP 0 1 2 (by omega) (by omega) (by omega);have p2:=pP 2 1 2 (by omega) (by omega) (by omega);refine⟨rfl,by show 3≤3;decide,λw hw=>tri ((c2.mul (p2.sub p1)).mono (by decide) (by decide) (by decide)) ((c2.mul p1).mono (by decide) (by decide) (by decide)) ((XL.nil.sub p2).mono (by decide) (by decide) (by decide)) hw,p2.mono (by decide) (by decide) (by decide),λx hx=>?_⟩;rcases List.mem_cons.1 hx with rfl | hx
  ·exact ha 1 (by omega)
  ·rcases List.mem_cons.1 hx with rfl | hx
   ·exact ha 2 (by omega)
   ·rw [List.mem_singleton.1 hx];exact ha 0 (by omega)
 split at h
 ·rename_i hk;cases h;have:=l7 (.inr (.inr hk));exact pr (c2.mul (pP 2 0 1 (by omega) (by omega) (by omega))) (pP 1 0 1 (by omega) (by omega) (by omega)) (by decide) (by decide) (by decide) (by decide) (ha 0 (by omega)) (ha 1 (by omega))
 split at h
 ·rename_i hk;cases h;have:=l11 hk;have w1:=(pP 1 2 1 (by omega) (by omega) (by omega)).mul (pP 1 0 2 (by omega) (by omega) (by omega));have w2:=(pP 2 0 2 (by omega) (by omega) (by omega)).mul (pP 2 1 0 (by omega) (by omega) (by omega));have w3:=(pP 0 1 0 (by omega) (by omega) (by omega)).mul (pP 0 2 1 (by omega) (by omega) (by omega));exact⟨this.symm,by show a.length≤3;omega,λw hw=>tri (w1.mono (by decide) (by decide) (by decide)) (w2.mono (by decide) (by decide) (by decide)) (w3.mono (by decide) (by decide) (by decide)) hw,((w1.add w2).add w3).mono (by decide) (by decide) (by decide),hmem⟩
 ·cases h
structure Pl where
 k:Int
 q:Int
 r:Int
 mid:Bool
def plOf (n:Qt) (x:Int):Pl :=
 if n.k=1 then (if n.a=x then ⟨n.k,n.b,n.c,false⟩ else if n.b=x then ⟨n.k,n.c,n.a,false⟩ else ⟨n.k,n.a,n.b,false⟩)
 else if n.a=x∧n.c=x then ⟨n.k,n.b,n.b,true⟩
 else if n.b=x then ⟨n.k,n.a,n.c,true⟩
 else if n.a=x then ⟨n.k,n.b,n.c,false⟩
 else ⟨n.k,n.b,n.a,false⟩
def Pl.at (p:Pl) (x:Int):QTs:=if p.k=1 then aX x p.q p.r else if p.mid=true then pX p.q x p.r else pX x p.q p.r
def afS (c:Cb) (p:Pl):Nat→QTs
 | 0=>[]
 | i+1=>Zav (afS c p i) (mulX (c.ab.getD i []) (p.at (gI c.ps i)))
def prT (c:Cb) (i j:Nat):QTs:=mulX (mulX (c.ab.getD i []) (c.ab.getD j [])) (pX (gI c.ps i) (gI c.ps j) (gI c.ps i))
def in2 (c:Cb) (i:Nat) (acc:QTs):Nat→QTs
 | 0=>acc
 | d+1=>subX (in2 c i acc d) (prT c i (i+1+d))
def out2 (c:Cb) (n:Nat) (acc:QTs):Nat→QTs
 | 0=>acc
 | i+1=>in2 c i (out2 c n acc i) (n - (i+1))
def afN (c:Cb) (p:Pl):QTs:=if p.mid=true then out2 c c.ps.length (mulX c.be (afS c p c.ps.length)) c.ps.length else afS c p c.ps.length
def afD (c:Cb) (p:Pl):QTs:=if p.mid=true then mulX c.be c.be else c.be
structure PlOk (p:Pl) (n:Int):Prop where
 q:0≤p.q∧p.q < n
 r:0≤p.r∧p.r < n
theorem pl_ok {q:Qt} {x n:Int} (ha:0≤q.a∧q.a < n) (hb:0≤q.b∧q.b < n) (hc:0≤q.c∧q.c < n):PlOk (plOf q x) n:=by
 unfold plOf;split
 ·split
  ·exact⟨hb,hc⟩
  ·split
   ·exact⟨hc,ha⟩
   ·exact⟨ha,hb⟩
 ·split
  ·exact⟨hb,hb⟩
  ·split
   ·exact⟨ha,hc⟩
   ·split
    ·exact⟨hb,hc⟩
    ·exact⟨hb,ha⟩
theorem Zhk {c:Cb} {n:Int} (h:CbOk c n) {i:Nat} (hi:i < c.ps.length):XL (c.ab.getD i []) 10 2 4:=by
 rw [Zgq (show i < c.ab.length by rw [h.len];exact hi)];exact h.ab _ (List.getElem_mem _)
theorem Zdw {c:Cb} {n:Int} (h:CbOk c n) {i:Nat} (hi:i < c.ps.length):0≤gI c.ps i∧gI c.ps i < n:=by
 rw [Zex hi];exact h.ps _ (List.getElem_mem _)
theorem Zuf {p:Pl} {x n:Int} (h:PlOk p n) (hx:0≤x∧x < n) (hn:n≤40):XL (p.at x) 1 1 1:=by
 have:=h.q;have:=h.r;unfold Pl.at;split
 ·exact Zba (Zak (.inl rfl) (by omega) (by omega) (by omega))
 ·split
  ·exact Zba (Zak (.inr rfl) (by omega) (by omega) (by omega))
  ·exact Zba (Zak (.inr rfl) (by omega) (by omega) (by omega))
theorem Zk2 {c:Cb} {p:Pl} {n:Int} (hc:CbOk c n) (hp:PlOk p n) (hn:n≤40):∀i,i≤c.ps.length→XL (afS c p i) (1+12*i) 3 (4*i)
 | 0,_=>XL.nil.mono (by omega) (by omega) (by omega)
 | i+1,hi=>((Zk2 hc hp hn i (by omega)).add ((Zhk hc (show i < _ by omega)).mul (Zuf hp (Zdw hc (by omega)) hn))).mono (by omega) (by omega) (by omega)
theorem Zwe {c:Cb} {n:Int} (hc:CbOk c n) (hn:n≤40) {i j:Nat} (hi:i < c.ps.length) (hj:j < c.ps.length):XL (prT c i j) 21 5 16:=by
 have h1:=Zdw hc hi;have h2:=Zdw hc hj;exact(((Zhk hc hi).mul (Zhk hc hj)).mul (Zba (Zak (.inr rfl) (by omega) (by omega) (by omega)))).mono (by omega) (by omega) (by omega)
theorem Zsi {c:Cb} {n:Int} (hc:CbOk c n) (hn:n≤40) {i:Nat} {acc:QTs} {k l:Nat} (ha:XL acc k 5 l):∀d,i+d < c.ps.length→XL (in2 c i acc d) (k+22*d) 5 (l+16*d)
 | 0,_=>ha.mono (by omega) (by omega) (by omega)
 | d+1,h=>((Zsi hc hn ha d (by omega)).sub (Zwe hc hn (show i < _ by omega) (show i+1+d < _ by omega))).mono (by omega) (by omega) (by omega)
theorem Zmr {c:Cb} {n:Int} (hc:CbOk c n) (hn:n≤40) {acc:QTs} {k l:Nat} (ha:XL acc k 5 l):∀i,i≤c.ps.length→XL (out2 c c.ps.length acc i) (k+66*i) 5 (l+48*i)
 | 0,_=>ha.mono (by omega) (by omega) (by omega)
 | i+1,h=>by
   have h3:=hc.few;have h1:=Zsi hc hn (Zmr hc hn ha i (by omega)) (c.ps.length - (i+1)) (i:=i) (by omega);exact h1.mono (by omega) (Nat.le_refl _) (by omega)
theorem Zyv {c:Cb} {p:Pl} {n:Int} (hc:CbOk c n) (hp:PlOk p n) (hn:n≤40):XL (mulX c.be (afS c p c.ps.length)) 47 5 48:=by
 have h3:=hc.few;have h1:=hc.be.mul (Zk2 hc hp hn c.ps.length (Nat.le_refl _));exact h1.mono (by omega) (by omega) (by omega)
theorem Zyu {c:Cb} {p:Pl} {n:Int} (hc:CbOk c n) (hp:PlOk p n) (hn:n≤40):XL (afN c p) 245 5 192:=by
 have h3:=hc.few;unfold afN;split
 ·exact(Zmr hc hn (Zyv hc hp hn) c.ps.length (Nat.le_refl _)).mono (by omega) (Nat.le_refl _) (by omega)
 ·exact(Zk2 hc hp hn c.ps.length (Nat.le_refl _)).mono (by omega) (by omega) (by omega)
theorem afD_xl {c:Cb} {p:Pl} {n:Int} (hc:CbOk c n):XL (afD c p) 20 4 16:=by
 unfold afD;split
 ·exact(hc.be.mul hc.be).mono (by omega) (by omega) (by omega)
 ·exact hc.be.mono (by omega) (by omega) (by omega)
abbrev hfX (p:QTs):QTs:=mulX (nX (1/2)) p
def tuX (s a b:Int) (p:Pl):QTs :=
 if p.k=1 then Zav (aX s p.q p.r) (hfX (subX (pX p.r p.q b) (pX p.r p.q a)))
 else if p.mid=true then Zav (pX p.q s p.r) (subX (pX a b a) (twX (subX (Zav (aX a b p.q) (aX a b p.r)) (twX (aX a b s)))))
 else Zav (pX s p.q p.r) (twX (subX (aX a b p.r) (aX a b p.q)))
def tuR (s a b:Int) (p:Pl):QTs :=
 if p.k=1 then Zav (aX s p.q p.r) (sclT (1/2) (subX (pX p.r p.q b) (pX p.r p.q a)))
 else if p.mid=true then Zav (subX (pX p.q s p.r) (sclT 2 (subX (Zav (aX a b p.q) (aX a b p.r)) (sclT 2 (aX a b s))))) (pX a b a)
 else Zav (pX s p.q p.r) (sclT 2 (subX (aX a b p.r) (aX a b p.q)))
theorem Zm7 {p:QTs} (h:EX p):hfX p=sclT (1/2) p:=by
 show mulX (cstT (1/2)) p=_;rw [Zng h,if_neg (by decide +kernel)]
theorem Zi1 {p:QTs} (h:EX p):twX p=sclT 2 p:=by
 show mulX (cstT 2) p=_;rw [Zng h,if_neg (by decide +kernel)]
theorem EX.sub {p q:QTs} (hp:EX p) (hq:EX q):EX (subX p q):=Zk3 Zbp hp hq.neg
theorem EX.add {p q:QTs} (hp:EX p) (hq:EX q):EX (Zav p q):=Zk3 Zbp hp hq
theorem EX.scl {p:QTs} (hp:EX p) {c:Rat} (h0:c≠0):EX (sclT c p):=by
 refine⟨λt ht=>?_,List.pairwise_map.2 hp.2⟩;obtain⟨u,hu,rfl⟩:=List.mem_map.1 ht;exact⟨λh1=>(Rat.mul_eq_zero.1 h1).elim h0 (hp.1 u hu).1,(hp.1 u hu).2⟩
theorem tu_eq {s a b n:Int} {p:Pl} (hp:PlOk p n) (hn:n≤40) (hs:0≤s∧s < n) (ha:0≤a∧a < n) (hb:0≤b∧b < n):tuX s a b p=tuR s a b p:=by
 have hq:=hp.q;have hr:=hp.r;have eA:∀x y z:Int,(0≤x∧x < n)→(0≤y∧y < n)→(0≤z∧z < n)→EX (aX x y z):=λx y z h1 h2 h3=>(Zba (Zak (.inl rfl) (by omega) (by omega) (by omega))).x.1;have eP:∀x y z:Int,(0≤x∧x < n)→(0≤y∧y < n)→(0≤z∧z < n)→EX (pX x y z):=λx y z h1 h2 h3=>(Zba (Zak (.inr rfl) (by omega) (by omega) (by omega))).x.1;unfold tuX tuR;split
 ·rw [Zm7 ((eP _ _ _ hr hq hb).sub (eP _ _ _ hr hq ha))]
 ·split
  ·have e1:=eA a b s ha hb hs;have e2:=(eA a b p.q ha hb hq).add (eA a b p.r ha hb hr);rw [Zi1 e1];have e3:=e2.sub (e1.scl (c:=2) (by decide));rw [Zi1 e3];have e4:=e3.scl (c:=2) (by decide);have e5:=eP a b a ha hb ha;have e6:=eP p.q s p.r hq hs hr;exact Zne (D:=okQ) Zbp (e6.add (e5.sub e4)) ((e6.sub e4).add e5) λφ=>by
    rw [Zkt Zbp,Zkt Zbp,Zkt Zbp,Zkt Zbp];generalize evl φ (sclT (-1) _)=z
    grind
  ·rw [Zi1 ((eA _ _ _ ha hb hr).sub (eA _ _ _ ha hb hq))]
theorem Zim:Sz (1/2:Rat) 1:=⟨by decide +kernel,by decide +kernel⟩
theorem tu_xl {s a b n:Int} {p:Pl} (hp:PlOk p n) (hn:n≤40) (hs:0≤s∧s < n) (ha:0≤a∧a < n) (hb:0≤b∧b < n):XL (tuX s a b p) 16 1 8:=by
 have hq:=hp.q;have hr:=hp.r;have eA:∀x y z:Int,(0≤x∧x < n)→(0≤y∧y < n)→(0≤z∧z < n)→XL (aX x y z) 1 1 1:=λx y z h1 h2 h3=>Zba (Zak (.inl rfl) (by omega) (by omega) (by omega));have eP:∀x y z:Int,(0≤x∧x < n)→(0≤y∧y < n)→(0≤z∧z < n)→XL (pX x y z) 1 1 1:=λx y z h1 h2 h3=>Zba (Zak (.inr rfl) (by omega) (by omega) (by omega));have c2:XL (nX 2) 2 0 1:=Zcc Zd4;have ch:XL (nX (1/2)) 2 0 1:=Zcc Zim;unfold tuX;split
 ·exact((eA _ _ _ hs hq hr).add (ch.mul ((eP _ _ _ hr hq hb).sub (eP _ _ _ hr hq ha)))).mono (by decide) (by decide) (by decide)
 ·split
  ·exact((eP _ _ _ hq hs hr).add ((eP _ _ _ ha hb ha).sub (c2.mul (((eA _ _ _ ha hb hq).add (eA _ _ _ ha hb hr)).sub (c2.mul (eA _ _ _ ha hb hs)))))).mono (by decide) (by decide) (by decide)
  ·exact((eP _ _ _ hs hq hr).add (c2.mul ((eA _ _ _ ha hb hr).sub (eA _ _ _ ha hb hq)))).mono (by decide) (by decide) (by decide)
section
variable {α:Type} {cmp:α→α→Int}
theorem Zw7 (o:CO cmp) (x:α):∀{l m:List α},Asc cmp l→Asc cmp m→l.length=m.length→lexL cmp l m < 0→lexL cmp (putQ cmp l x) (putQ cmp m x) < 0
 | [],[],_,_,_,h=>by exact absurd h (by simp [lexL])
 | [],_ :: _,_,_,h,_=>by simp at h
 | _ :: _,[],_,_,h,_=>by simp at h
 | a :: l,b :: m,hl,hm,hlen,h=>by
   rw [Zb3] at h;have fl:∀y z,¬cmp y z≤0→cmp z y < 0:=λy z h=>(o.flip z y).2 (by omega);by_cases hab:cmp a b=0
   ·rw [if_pos hab] at h;obtain rfl:=o.eqz _ _ hab;have ih:=Zw7 o x (List.pairwise_cons.1 hl).2 (List.pairwise_cons.1 hm).2 (by simpa using hlen) h;unfold putQ;by_cases hx:cmp a x≤0
    ·rw [if_pos hx,if_pos hx,Zb3,if_pos (o.refl a)];exact ih
    ·rw [if_neg hx,if_neg hx,Zb3,if_pos (o.refl x),Zb3,if_pos (o.refl a)];exact h
   ·rw [if_neg hab] at h;have hal:∀c∈l,cmp a c≤0:=(List.pairwise_cons.1 hl).1;unfold putQ;by_cases hx:cmp a x≤0
    ·rw [if_pos hx];by_cases hy:cmp b x≤0
     ·rw [if_pos hy,Zb3,if_neg hab];exact h
     ·rw [if_neg hy,Zb3];have hxb:=fl _ _ hy;by_cases hax:cmp a x=0
      ·rw [if_pos hax];obtain rfl:=o.eqz _ _ hax
       cases l with
       | nil =>
         show lexL cmp [a] (b :: m) < 0;rw [Zb3,if_neg hab];exact h
       | cons c l =>
         unfold putQ;by_cases hc:cmp c a≤0
         ·rw [if_pos hc,Zb3];have h1:=hal c (.head _)
          have h2:cmp a c=0:=by
           rcases Int.lt_or_eq_of_le h1 with h3 | h3
           ·have:=(o.flip a c).1 h3;omega
           ·exact h3
          obtain rfl:=o.eqz _ _ h2;rw [if_neg hab];exact h
         ·rw [if_neg hc,Zb3,if_neg hab];exact h
      ·rw [if_neg hax];omega
    ·rw [if_neg hx];have hxa:=fl _ _ hx;have hxb:=o.tr _ _ _ hxa h;have hb:¬cmp b x≤0:=by have:=(o.flip x b).1 hxb;omega
     rw [if_neg hb,Zb3,if_pos (o.refl x),Zb3,if_neg hab];exact h
theorem Zrw (x:α) (l:List α):(putQ cmp l x).length=l.length+1:=(Zgj x l).length_eq
theorem ord_put (o:CO cmp) (x:α) {l m:List α} (hl:Asc cmp l) (hm:Asc cmp m) (h:ordL cmp l m < 0):ordL cmp (putQ cmp l x) (putQ cmp m x) < 0:=by
 unfold ordL at *;rw [Zrw,Zrw];by_cases h1:l.length < m.length
 ·rw [if_pos (by omega)];decide
 ·rw [if_neg h1] at h;by_cases h2:m.length < l.length
  ·rw [if_pos h2] at h;exact absurd h (by decide)
  ·rw [if_neg h2] at h;rw [if_neg (by omega),if_neg (by omega)];exact Zw7 o x hl hm (by omega) h
end
theorem mu_put (a c:List Qt) (x:Qt):muQ a (x :: c)=putQ Qt.cmp (muQ a c) x :=
 Zf8 qtO (Zb5 qtO.cp _) (Zmn qtO.cp x (Zb5 qtO.cp _)) ((Za7 _).trans ((List.perm_middle).trans (((Za7 (a++c)).symm.cons x).trans (Zgj x _).symm)))
theorem mu_nil {a:List Qt} (h:Asc Qt.cmp a):muQ a []=a:=Zf8 qtO (Zb5 qtO.cp _) h (by show(srtQ Qt.cmp (a++[])).Perm a;rw [List.append_nil];exact Za7 _)
theorem mu_lt {a b:List Qt} (ha:Asc Qt.cmp a) (hb:Asc Qt.cmp b) (h:ordQ a b < 0):∀c,ordQ (muQ a c) (muQ b c) < 0
 | []=>by rw [mu_nil ha,mu_nil hb];exact h
 | x :: c=>by
   rw [mu_put,mu_put];exact ord_put qtO x (Zb5 qtO.cp _) (Zb5 qtO.cp _) (mu_lt ha hb h c)
theorem Zjs {κ:Type} {f:κ→Rat}:∀{l:List (Rat × κ)},(∀t∈l,f t.2=0)→evl f l=0
 | [],_=>rfl
 | t :: l,h=>by
   show t.1*f t.2+evl f l=0;rw [h t (.head _),Zjs λu hu=>h u (.tail _ hu),Rat.mul_zero,Rat.add_zero]
theorem mul_ne {p q:QTs} (hp:EX p) (hq:EX q) (h1:p≠[]) (h2:q≠[]):mulX p q≠[]:=by
 cases p with
 | nil=>exact absurd rfl h1
 | cons s p =>
   cases q with
   | nil=>exact absurd rfl h2
   | cons t q =>
     have dp:=hp.dom;have dq:=hq.dom;have op:∀u∈p,ordQ s.2 u.2 < 0:=(List.pairwise_cons.1 hp.2).1;have oq:∀u∈q,ordQ t.2 u.2 < 0:=(List.pairwise_cons.1 hq.2).1;intro h0;have ne:∀{a b:List Qt},ordQ a b < 0→b≠a:=λh e=>by rw [e,Zbp.refl] at h;omega
     have k1:∀u∈q,muQ s.2 u.2≠muQ s.2 t.2:=λu hu=>by
      rw [rgQ.comm s.2,rgQ.comm s.2];exact ne (mu_lt (dq t (.head _)).1 (dq u (.tail _ hu)).1 (oq u hu) s.2)
     have k2:∀u∈p,∀v∈t :: q,muQ u.2 v.2≠muQ s.2 t.2:=λu hu v hv=>by
      have a1:=mu_lt (dp s (.head _)).1 (dp u (.tail _ hu)).1 (op u hu) v.2;rcases List.mem_cons.1 hv with rfl | hv
      ·exact ne a1
      ·have a2:=mu_lt (dq t (.head _)).1 (dq v (.tail _ hv)).1 (oq v hv) s.2;rw [rgQ.comm t.2,rgQ.comm v.2] at a2;exact ne (Zbp.tr _ _ _ a2 a1)
     have e:=Zqy Zbp (λk:List Qt=>if k=muQ s.2 t.2 then (1:Rat) else 0) (s :: p) (t :: q) (mu:=muQ);have e0:mlG ordQ muQ (s :: p) (t :: q)=[]:=h0;rw [e0] at e
     have e1:evl (λk'=>if muQ s.2 k'=muQ s.2 t.2 then (1:Rat) else 0) (t :: q)=t.1:=by
      show t.1*(if muQ s.2 t.2=muQ s.2 t.2 then (1:Rat) else 0)+_=_;rw [if_pos rfl,Zjs λu hu=>if_neg (k1 u hu),Rat.mul_one,Rat.add_zero]
     have e2:evl (λk=>evl (λk'=>if muQ k k'=muQ s.2 t.2 then (1:Rat) else 0) (t :: q)) p=0:=Zjs λu hu=>Zjs λv hv=>if_neg (k2 u hu v hv);have e3:(0:Rat)=s.1*evl (λk'=>if muQ s.2 k'=muQ s.2 t.2 then (1:Rat) else 0) (t :: q)+evl (λk=>evl (λk'=>if muQ k k'=muQ s.2 t.2 then (1:Rat) else 0) (t :: q)) p:=e;rw [e1,e2,Rat.add_zero] at e3;rcases Rat.mul_eq_zero.1 e3.symm with h | h
     ·exact(hp.1 s (.head _)).1 h
     ·exact(hq.1 t (.head _)).1 h
abbrev noP (x:Int) (q:Qt):Prop:=hasQ x q=false
theorem Zlu {q:Qt} {x:Int} (h:hasQ x q=true):q.ok=true∧q.k≠3∧(x=q.a∨x=q.b∨x=q.c):=by
 unfold hasQ Qt.pts at h;split at h
 ·rename_i hk;obtain⟨y,hy,hxy⟩:=List.any_eq_true.1 h;obtain⟨n,hn,rfl⟩:=List.mem_map.1 hy;have hp:=(List.mem_filter.1 hn).2;have hxy:x=(n:Int):=by simpa using hxy
  unfold isP at hp;simp at hp;exact⟨hk.1,hk.2,by omega⟩
 ·simp at h
theorem Zsj {q:Qt} {x:Int} (hok:q.ok=true) (hk:q.k≠3) (h:x=q.a∨x=q.b∨x=q.c):hasQ x q=true:=by
 have hr:0≤x∧x < 40:=by
  unfold Qt.ok at hok;simp at hok;omega
 unfold hasQ Qt.pts;rw [if_pos ⟨hok,hk⟩];refine List.any_eq_true.2 ⟨x,List.mem_map.2 ⟨x.toNat,List.mem_filter.2 ⟨List.mem_range.2 (by omega),?_⟩,by omega⟩,by simp⟩;unfold isP;simp;omega
theorem Zjp {q:Qt} {x:Int} (hs:q.norm.2≠0) (h:hasQ x q.norm.1=true):x=q.a∨x=q.b∨x=q.c:=by
 obtain⟨_,_,h⟩:=Zlu h;obtain⟨k,a,b,c⟩:=q;unfold Qt.norm at h hs;simp only at h hs ⊢;split at h
 ·rename_i hk;rw [if_pos hk] at hs;split at h
  ·rename_i h1;rw [if_pos h1] at hs;unfold Zdy at h hs;split at h
   ·rename_i h2;rw [if_pos h2] at hs;exact absurd rfl hs
   ·(repeat' split at h)<;>simp only at h<;>omega
  ·rename_i h1;rw [if_neg h1] at hs;split at h
   ·rename_i h3;rw [if_pos h3] at hs;unfold Zev at h hs;split at h
    ·rename_i h2;rw [if_pos h2] at hs;exact absurd rfl hs
    ·(repeat' split at h)<;>simp only at h<;>omega
   ·exact h
 ·rename_i hk;rw [if_neg hk] at hs;exact absurd rfl hs
theorem of_no {q:Qt} {x:Int} (h:q.k=3∨(x≠q.a∧x≠q.b∧x≠q.c)):alQ (noP x) (ofX q):=by
 unfold ofX;split
 ·exact λt ht=>by cases ht
 ·rename_i hs;intro t ht r hr;rw [List.mem_singleton.1 ht] at hr;rw [List.mem_singleton.1 hr]
  cases hh:hasQ x q.norm.1 with
  | false=>exact hh
  | true =>
    exfalso;rcases h with h3 | ⟨h1,h2,h3⟩
    ·obtain⟨h4,h5,_⟩:=Zlu hh;obtain⟨k,a,b,c⟩:=q;simp only at h3;subst h3;unfold Qt.norm at h5 hs;split at h5
     ·exact h5 rfl
     ·rename_i hk;rw [if_neg hk] at hs;exact hs rfl
    ·rcases Zjp hs hh with h4 | h4 | h4
     ·exact h1 h4
     ·exact h2 h4
     ·exact h3 h4
theorem a_no {x a b c:Int} (h1:x≠a) (h2:x≠b) (h3:x≠c):alQ (noP x) (aX a b c):=of_no (.inr ⟨h1,h2,h3⟩)
theorem p_no {x a b c:Int} (h1:x≠a) (h2:x≠b) (h3:x≠c):alQ (noP x) (pX a b c):=of_no (.inr ⟨h1,h2,h3⟩)
theorem alQ.sub {C:Qt→Prop} {p q:QTs} (hp:alQ C p) (hq:alQ C q):alQ C (subX p q):=hp.join (hq.scl _)
theorem alQ.emp {C:Qt→Prop}:alQ C []:=λt ht=>by cases ht
theorem cb_no {k t:Int} {a:List Int} {r:Rat} {x:Int} {c:Cb} (h:cbOf k a r t=some c) (ha:∀i,i < a.length→x≠gI a i) (h0:x≠0∨4≤a.length)
 (hl:(k=3→a.length=3)∧(k=11→a.length=3)∧(k=2∨k=5→2≤a.length)∧(k=7∨k=8∨k=10→3≤a.length)∧(k=9→4≤a.length)) :
 (∀w∈c.ab,alQ (noP x) w)∧alQ (noP x) c.be∧∀y∈c.ps,x≠y:=by
 obtain⟨l3,l11,l2,l7,l9⟩:=hl;have hmem:∀y∈a,x≠y:=λy hy=>by
  obtain⟨i,hi,rfl⟩:=List.getElem_of_mem hy;have:=ha i hi
  rwa [Zex hi] at this
 have nn:∀u:Rat,alQ (noP x) (nX u):=λu=>Zyc u
 have pr:∀{y z:Int} {p b:QTs},alQ (noP x) p→alQ (noP x) b→x≠y→x≠z→(∀w∈(prC y z p b).ab,alQ (noP x) w)∧alQ (noP x) (prC y z p b).be∧∀y'∈(prC y z p b).ps,x≠y':=by
  intro y z p b hp hb hy hz;refine⟨λw hw=>?_,hb,λv hv=>?_⟩
  ·rcases List.mem_cons.1 hw with rfl | hw
   ·exact hb.sub hp
   ·rw [List.mem_singleton.1 hw];exact hp
  ·rcases List.mem_cons.1 hv with rfl | hv
   ·exact hy
   ·rw [List.mem_singleton.1 hv];exact hz
 have tri:∀{u v z:QTs} {w:QTs},alQ (noP x) u→alQ (noP x) v→alQ (noP x) z→w∈[u,v,z]→alQ (noP x) w:=by
  intro u v z w hx hy hz hw;rcases List.mem_cons.1 hw with rfl | hw
  ·exact hx
  ·rcases List.mem_cons.1 hw with rfl | hw
   ·exact hy
   ·rw [List.mem_singleton.1 hw];exact hz
 unfold cbOf at h;split at h
 ·rename_i hk;cases h;have:=l2 (.inl hk);exact pr (nn _) (nn _) (ha 0 (by omega)) (ha 1 (by omega))
 split at h
 ·rename_i hk;cases h;exact⟨λw hw=>tri (nn 1) (nn (-1)) (nn 1) hw,nn 1,hmem⟩
 split at h
 ·rename_i hk;cases h;have:=l2 (.inr hk);exact pr (of_no (.inl rfl)) (nn _) (ha 0 (by omega)) (ha 1 (by omega))
 split at h
 ·rename_i hk;cases h;have:=l9 hk;have p1:=a_no (ha 0 (by omega)) (ha 2 (by omega)) (ha 3 (by omega));have p2:=a_no (ha 1 (by omega)) (ha 2 (by omega)) (ha 3 (by omega));exact pr p1 (p1.sub p2) (ha 0 (by omega)) (ha 1 (by omega))
 split at h
 ·rename_i hk;cases h;have:=l7 (.inl hk);exact pr (p_no (ha 0 (by omega)) (ha 1 (by omega)) (ha 2 (by omega))) (p_no (ha 2 (by omega)) (ha 1 (by omega)) (ha 2 (by omega))) (ha 1 (by omega)) (ha 2 (by omega))
 split at h
 ·rename_i hk;cases h;have:=l7 (.inr (.inl hk));have p1:=p_no (ha 0 (by omega)) (ha 1 (by omega)) (ha 2 (by omega));have p2:=p_no (ha 2 (by omega)) (ha 1 (by omega)) (ha 2 (by omega));refine⟨λw hw=>tri ((nn _).mul (p2.sub p1)) ((nn _).mul p1) (alQ.emp.sub p2) hw,p2,λy hy=>?_⟩;rcases List.mem_cons.1 hy with rfl | hy
  ·exact ha 1 (by omega)
  ·rcases List.mem_cons.1 hy with rfl | hy
   ·exact ha 2 (by omega)
   ·rw [List.mem_singleton.1 hy];exact ha 0 (by omega)
 split at h
 ·rename_i hk;cases h;have:=l7 (.inr (.inr hk));exact pr ((nn _).mul (p_no (ha 2 (by omega)) (ha 0 (by omega)) (ha 1 (by omega)))) (p_no (ha 1 (by omega)) (ha 0 (by omega)) (ha 1 (by omega))) (ha 0 (by omega)) (ha 1 (by omega))
 split at h
 ·rename_i hk;cases h;have:=l11 hk;have g0:=ha 0 (by omega);have g1:=ha 1 (by omega);have g2:=ha 2 (by omega);have w1:=(p_no g1 g2 g1).mul (p_no g1 g0 g2);have w2:=(p_no g2 g0 g2).mul (p_no g2 g1 g0);have w3:=(p_no g0 g1 g0).mul (p_no g0 g2 g1);exact⟨λw hw=>tri w1 w2 w3 hw,(w1.join w2).join w3,hmem⟩
 ·cases h
theorem pl_no {n:Qt} {x:Int} (hn:n.norm=(n,1)) (hx:hasQ x n=true):x≠(plOf n x).q∧x≠(plOf n x).r∧(plOf n x).k=n.k:=by
 obtain⟨_,hk,hx⟩:=Zlu hx;have hok:=Zip hn;obtain⟨k,a,b,c⟩:=n;simp only at hk hx
 have h1:k=1∨k=2:=by
  unfold Qt.ok at hok;simp at hok;omega
 unfold Qt.norm at hn;rw [if_pos hok] at hn;simp only at hn;unfold plOf;simp only;rcases h1 with rfl | rfl
 ·rw [if_pos rfl] at hn
  have h3:a≠b∧b≠c∧a≠c:=by
   unfold Zdy at hn;split at hn
   ·simp [Qt.zero] at hn
   ·omega
  rw [if_pos rfl];split
  ·exact⟨by show x≠b;omega,by show x≠c;omega,rfl⟩
  ·split
   ·exact⟨by show x≠c;omega,by show x≠a;omega,rfl⟩
   ·exact⟨by show x≠a;omega,by show x≠b;omega,rfl⟩
 ·rw [if_neg (by decide),if_pos rfl] at hn
  have h3:a≠b∧b≠c:=by
   unfold Zev at hn;split at hn
   ·simp [Qt.zero] at hn
   ·omega
  rw [if_neg (by decide)];split
  ·exact⟨by show x≠b;omega,by show x≠b;omega,rfl⟩
  ·split
   ·exact⟨by show x≠a;omega,by show x≠c;omega,rfl⟩
   ·split
    ·exact⟨by show x≠b;omega,by show x≠c;omega,rfl⟩
    ·exact⟨by show x≠b;omega,by show x≠a;omega,rfl⟩
theorem at_no {p:Pl} {x y:Int} (h1:x≠p.q) (h2:x≠p.r) (h3:x≠y):alQ (noP x) (p.at y):=by
 unfold Pl.at;split
 ·exact a_no h3 h1 h2
 ·split
  ·exact p_no h1 h3 h2
  ·exact p_no h3 h1 h2
section
variable {c:Cb} {p:Pl} {x:Int}
theorem ab_no (ha:∀w∈c.ab,alQ (noP x) w) (i:Nat):alQ (noP x) (c.ab.getD i []):=by
 by_cases h:i < c.ab.length
 ·rw [Zgq h];exact ha _ (List.getElem_mem h)
 ·rw [List.getD_eq_getElem?_getD,List.getElem?_eq_none (by omega)];exact alQ.emp
theorem Zyt (ha:∀w∈c.ab,alQ (noP x) w) (hp:∀y∈c.ps,x≠y) (h1:x≠p.q) (h2:x≠p.r):∀i,i≤c.ps.length→alQ (noP x) (afS c p i)
 | 0,_=>alQ.emp
 | i+1,hi=>(Zyt ha hp h1 h2 i (by omega)).join ((ab_no ha i).mul (at_no h1 h2 (by rw [Zex (show i < c.ps.length by omega)];exact hp _ (List.getElem_mem _))))
theorem prT_no (ha:∀w∈c.ab,alQ (noP x) w) (hp:∀y∈c.ps,x≠y) {i j:Nat} (hi:i < c.ps.length) (hj:j < c.ps.length):alQ (noP x) (prT c i j):=by
 have g:∀{i:Nat},i < c.ps.length→x≠gI c.ps i:=λh=>by rw [Zex h];exact hp _ (List.getElem_mem _)
 exact((ab_no ha i).mul (ab_no ha j)).mul (p_no (g hi) (g hj) (g hi))
theorem in2_no (ha:∀w∈c.ab,alQ (noP x) w) (hp:∀y∈c.ps,x≠y) {i:Nat} {acc:QTs} (hc:alQ (noP x) acc):∀d,i+d < c.ps.length→alQ (noP x) (in2 c i acc d)
 | 0,_=>hc
 | d+1,h=>(in2_no ha hp hc d (by omega)).sub (prT_no ha hp (by omega) (by omega))
theorem Zwp (ha:∀w∈c.ab,alQ (noP x) w) (hp:∀y∈c.ps,x≠y) {acc:QTs} (hc:alQ (noP x) acc):∀i,i≤c.ps.length→alQ (noP x) (out2 c c.ps.length acc i)
 | 0,_=>hc
 | i+1,h=>in2_no ha hp (Zwp ha hp hc i (by omega)) _ (by omega)
theorem afN_no (ha:∀w∈c.ab,alQ (noP x) w) (hb:alQ (noP x) c.be) (hp:∀y∈c.ps,x≠y) (h1:x≠p.q) (h2:x≠p.r):alQ (noP x) (afN c p):=by
 unfold afN;split
 ·exact Zwp ha hp (hb.mul (Zyt ha hp h1 h2 _ (Nat.le_refl _))) _ (Nat.le_refl _)
 ·exact Zyt ha hp h1 h2 _ (Nat.le_refl _)
theorem afD_no (hb:alQ (noP x) c.be):alQ (noP x) (afD c p):=by
 unfold afD;split
 ·exact hb.mul hb
 ·exact hb
theorem afD_ne (he:EX c.be) (h0:c.be≠[]):afD c p≠[]:=by
 unfold afD;split
 ·exact mul_ne he he h0 h0
 ·exact h0
theorem tu_no {s a b:Int} (h1:x≠p.q) (h2:x≠p.r) (hs:x≠s) (ha:x≠a) (hb:x≠b):alQ (noP x) (tuX s a b p):=by
 have nn:∀u:Rat,alQ (noP x) (nX u):=λu=>Zyc u;unfold tuX;split
 ·exact(a_no hs h1 h2).join ((nn _).mul ((p_no h2 h1 hb).sub (p_no h2 h1 ha)))
 ·split
  ·exact(p_no h1 hs h2).join ((p_no ha hb ha).sub ((nn _).mul (((a_no ha hb h1).join (a_no ha hb h2)).sub ((nn _).mul (a_no ha hb hs)))))
  ·exact(p_no hs h1 h2).join ((nn _).mul ((a_no ha hb h2).sub (a_no ha hb h1)))
end
theorem snoc_ind {α:Type} {P:List α→Prop} (h0:P []) (h1:∀l a,P l→P (l++[a])):∀l,P l:=λl=>by
 have h:∀l:List α,P l.reverse:=λl=>by
  induction l with
  | nil=>exact h0
  | cons a l ih=>rw [List.reverse_cons];exact h1 _ _ ih
 have g:=h l.reverse
 rwa [List.reverse_reverse] at g
def hvS (x:Int) (s:List Qt × List Qt) (q:Qt):List Qt × List Qt:=(s.1++[q],if tmQ q s.1=0∧hasQ x q=true then s.2++[q] else s.2)
def hvP (x:Int) (l:List Qt):List Qt:=(l.foldl (hvS x) ([],[])).2
def hvR (x:Int) (o:List Qt) (q:Qt):List Qt:=if hasQ x q=true∧tmQ q o=0 then putQ Qt.cmp o q else o
def hvL (x:Int) (l:List Qt):List Qt:=l.foldl (hvR x) []
def flQ (p:QTs):List Qt:=p.flatMap λt=>t.2
def rsX (p q:QTs):Nat→QTs
 | 0=>p
 | n+1=>mulX (rsX p q n) q
abbrev XX:=QTs × QTs
def elS (q:Qt) (b x:XX):XX:=(mulX (rpN q x.1 b.1 b.2) (pwX b.2 (moQ q x.2 - moQ q x.1)),mulX (rpN q x.2 b.1 b.2) (pwX b.2 (moQ q x.1 - moQ q x.2)))
def elF (lem:Qt→Int × XX):List Qt→XX→Int × XX
 | [],x=>(0,x)
 | q :: l,x =>
   if (lem q).1≠0 then ((lem q).1,([],[]))
   else if 4000 < (elS q (lem q).2 x).1.length∨4000 < (elS q (lem q).2 x).2.length then (4,([],[]))
   else elF lem l (elS q (lem q).2 x)
def elT (r:Int × XX):Int × XX :=
 if r.1≠0 then (r.1,([],[]))
 else if r.2.2=[] then (3,([],[]))
 else if r.2.1=[] then (0,([],[((1:Rat),[])]))
 else (0,r.2)
def cntX (x:Int) (c:Nat) (p:QTs):Prop:=∀t∈p,(t.2.filter λq=>hasQ x q).length≤c
section
variable {x:Int} {c d:Nat} {p q:QTs}
theorem cntX.mono (h:cntX x c p) (hc:c≤d):cntX x d p:=λt ht=>Nat.le_trans (h t ht) hc
theorem cntX.join (hp:cntX x c p) (hq:cntX x c q):cntX x c (Zav p q):=λt ht=>by
 obtain⟨s,hs,e⟩:=Zh7 ht;rw [e];rcases List.mem_append.1 hs with h | h
 ·exact hp s h
 ·exact hq s h
theorem cntX.gat {l:QTs} (h:cntX x c l):cntX x c (gatM l):=by
 rw [←Zql];intro t ht;exact Znr (P:=λy=>(y.filter λq=>hasQ x q).length≤c) l [] (λt ht=>by cases ht) h t (List.mem_filter.1 ((Za7 _).mem_iff.1 ht)).1
theorem cntX.mul (hp:cntX x c p) (hq:cntX x d q):cntX x (c+d) (mulX p q):=cntX.gat λu hu=>by
 obtain⟨s,hs,t,ht,rfl⟩:=Zfj hu;show((muQ s.2 t.2).filter _).length≤_;rw [((Za7 (cmp:=Qt.cmp) (s.2++t.2)).filter _).length_eq,List.filter_append,List.length_append];exact Nat.add_le_add (hp s hs) (hq t ht)
theorem cntX.part {a:QTs} (h:cntX x c a) (q:Qt) (k:Nat):cntX x c (paQ q a k):=cntX.gat λu hu=>by
 obtain⟨t,ht,rfl⟩:=Zkk hu;refine Nat.le_trans ?_ (h t ht);show((woQ q t.2).filter _).length≤_;exact((List.filter_sublist (p:=λx=>decide (x≠q)) (l:=t.2)).filter _).length_le
theorem Zst (h:alQ (noP x) p):cntX x 0 p:=λt ht=>by
 rw [List.filter_eq_nil_iff.2 λq hq=>by rw [h t ht q hq];decide];exact Nat.le_refl _
theorem cntX.rf {P:Nat→QTs} {a d:QTs} (hP:∀k,cntX x c (P k)) (ha:alQ (noP x) a) (hd:alQ (noP x) d) (m:Nat):∀i,cntX x c (rfX P a d m i)
 | 0=>λt ht=>by cases ht
 | i+1=>(cntX.rf hP ha hd m i).join (((hP i).mul (Zst (ha.pw i))).mul (Zst (hd.pw (m - i))))
theorem tm_cnt {q:Qt} (hq:hasQ x q=true) (l:List Qt):tmQ q l≤(l.filter λq=>hasQ x q).length:=by
 unfold tmQ
 induction l with
 | nil=>exact Nat.le_refl _
 | cons a l ih =>
   by_cases h:a=q
   ·subst h;rw [List.filter_cons_of_pos (by simp),List.filter_cons_of_pos (by simpa using hq),List.length_cons,List.length_cons];omega
   ·rw [List.filter_cons_of_neg (by simpa using h),List.filter_cons];split
    ·rw [List.length_cons];omega
    ·exact ih
theorem mo_cnt {q:Qt} (hq:hasQ x q=true) {a:QTs} (h:cntX x c a):moQ q a≤c:=by
 have key:∀(a:QTs) (n:Nat),n≤c→(∀t∈a,tmQ q t.2≤c)→a.foldl (λn t=>max n (tmQ q t.2)) n≤c:=by
  intro a
  induction a with
  | nil=>intro n hn _;exact hn
  | cons t a ih=>intro n hn h;exact ih _ (Nat.max_le.2 ⟨hn,h t (.head _)⟩) λu hu=>h u (.tail _ hu)
 exact key a 0 (Nat.zero_le _) λt ht=>Nat.le_trans (tm_cnt hq t.2) (h t ht)
end
theorem Zwk {C:Qt→Prop} {a:QTs} (h:alQ C a) (q:Qt) (k:Nat):alQ (λu=>C u∧u≠q) (paQ q a k):=alQ.gat λu hu x hx=>by
 obtain⟨t,ht,rfl⟩:=Zkk hu;have g:=List.mem_filter.1 hx;exact⟨h t ht x g.1,by simpa using g.2⟩
theorem alQ.imp {C D:Qt→Prop} {p:QTs} (h:alQ C p) (g:∀q,C q→D q):alQ D p:=λt ht q hq=>g q (h t ht q hq)
theorem el_al {C:Qt→Prop} {x:Int} {q:Qt} {b y:XX} (h1:alQ C y.1) (h2:alQ C y.2) (hb:alQ (noP x) b.1) (hd:alQ (noP x) b.2) :
 alQ (λu=>C u∧u≠q∨noP x u) (elS q b y).1∧alQ (λu=>C u∧u≠q∨noP x u) (elS q b y).2:=by
 have g1:=hb.imp (D:=λu=>C u∧u≠q∨noP x u) λu h=>.inr h;have g2:=hd.imp (D:=λu=>C u∧u≠q∨noP x u) λu h=>.inr h;exact⟨(alQ.rf (λk=>(Zwk h1 q k).imp λu h=>.inl h) g1 g2 _ _).mul (g2.pw _),(alQ.rf (λk=>(Zwk h2 q k).imp λu h=>.inl h) g1 g2 _ _).mul (g2.pw _)⟩
theorem el_cnt {c:Nat} {x:Int} {q:Qt} {b y:XX} (h1:cntX x c y.1) (h2:cntX x c y.2) (hb:alQ (noP x) b.1) (hd:alQ (noP x) b.2):cntX x c (elS q b y).1∧cntX x c (elS q b y).2 :=
 ⟨(cntX.rf (λk=>h1.part q k) hb hd _ _).mul (Zst (hd.pw _)),(cntX.rf (λk=>h2.part q k) hb hd _ _).mul (Zst (hd.pw _))⟩
theorem el_xb {x:Int} {q:Qt} {b y:XX} {k n kb nb:Nat} (h1:XB y.1 k n) (h2:XB y.2 k n) (hb:XB b.1 kb nb) (hd:XB b.2 kb nb) (m1:moQ q y.1≤2) (m2:moQ q y.2≤2) :
 XB (elS q b y).1 (k+2+6*kb) (n+4*nb)∧XB (elS q b y).2 (k+2+6*kb) (n+4*nb):=by
 have key:∀{p:QTs} {i:Nat},XB p k n→moQ q p≤2→i≤2→XB (mulX (rpN q p b.1 b.2) (pwX b.2 i)) (k+2+6*kb) (n+4*nb):=by
  intro p i hp hm hi;have g:=(rf_xb hp hb hd q (moQ q p) (moQ q p+1) (by omega) (Nat.le_refl _)).mul (hd.pw i);have e1:moQ q p*(2*kb)≤2*(2*kb):=Nat.mul_le_mul_right _ hm;have e2:moQ q p*nb≤2*nb:=Nat.mul_le_mul_right _ hm;have e3:i*kb≤2*kb:=Nat.mul_le_mul_right _ hi;have e4:i*nb≤2*nb:=Nat.mul_le_mul_right _ hi;exact g.mono (by omega) (by omega)
 exact⟨key h1 m1 (by omega),key h2 m2 (by omega)⟩
theorem Zio (q:Qt):(ofX q).length≤1:=by unfold ofX;split<;>simp
theorem Zd1 (p q:QTs):(subX p q).length≤p.length+q.length:=Nat.le_trans (Zhe _ _) (by rw [Zcz];exact Nat.le_refl _)
theorem Zov {p q:QTs} {i j:Nat} (hp:p.length≤i) (hq:q.length≤j):(mulX p q).length≤i*j:=Nat.le_trans (Ziq p q) (Nat.mul_le_mul hp hq)
theorem Zrd {p:QTs} {i:Nat} (h:p.length≤i):(twX p).length≤i:=by have:=Zov (Zf6 2) h;rwa [Nat.one_mul] at this
theorem at_len (p:Pl) (x:Int):(p.at x).length≤1:=by
 unfold Pl.at;split
 ·exact Zio _
 ·split<;>exact Zio _
def CbL (c:Cb):Prop :=
 c.be.length≤3∧((∃u v,c.ab=[u,v]∧c.ps.length=2∧u.length+v.length≤4∧c.be.length*(u.length+v.length)+u.length*v.length≤12) ∨
  (∃u v w,c.ab=[u,v,w]∧c.ps.length=3∧u.length+v.length+w.length≤4∧c.be.length*(u.length+v.length+w.length)+u.length*v.length+u.length*w.length+v.length*w.length≤12))
theorem cl2 {ps:List Int} {u v b:QTs} {i j m:Nat} (hp:ps.length=2) (hu:u.length≤i) (hv:v.length≤j) (hb:b.length≤m) (h1:m≤3) (h2:i+j≤4) (h3:m*(i+j)+i*j≤12):CbL ⟨ps,[u,v],b⟩:=by
 refine⟨Nat.le_trans hb h1,.inl ⟨u,v,rfl,hp,by omega,?_⟩⟩;exact Nat.le_trans (Nat.add_le_add (Nat.mul_le_mul hb (Nat.add_le_add hu hv)) (Nat.mul_le_mul hu hv)) h3
theorem cl3 {ps:List Int} {u v w b:QTs} {i j k m:Nat} (hp:ps.length=3) (hu:u.length≤i) (hv:v.length≤j) (hw:w.length≤k) (hb:b.length≤m) (h1:m≤3) (h2:i+j+k≤4) (h3:m*(i+j+k)+i*j+i*k+j*k≤12):CbL ⟨ps,[u,v,w],b⟩:=by
 refine⟨Nat.le_trans hb h1,.inr ⟨u,v,w,rfl,hp,by omega,?_⟩⟩;exact Nat.le_trans (Nat.add_le_add (Nat.add_le_add (Nat.add_le_add (Nat.mul_le_mul hb (Nat.add_le_add (Nat.add_le_add hu hv) hw)) (Nat.mul_le_mul hu hv)) (Nat.mul_le_mul hu hw)) (Nat.mul_le_mul hv hw)) h3
theorem Zyk {k t:Int} {a:List Int} {r:Rat} {c:Cb} (h:cbOf k a r t=some c) (h3:k=3∨k=11→a.length=3):CbL c:=by
 have o:=Zio;have n1:∀u,(nX u).length≤1:=λu=>Zf6 u;have ct:∀p q r,(ctW p q r).length≤1:=λp q r=>Zov (o _) (o _);unfold cbOf at h;split at h
 ·cases h;exact cl2 (i:=2) (j:=1) (m:=1) rfl (Nat.le_trans (Zd1 _ _) (Nat.add_le_add (n1 _) (n1 _))) (n1 _) (n1 _) (by decide) (by decide) (by decide)
 split at h
 ·rename_i hk;cases h;exact cl3 (i:=1) (j:=1) (k:=1) (m:=1) (h3 (.inl hk)) (n1 _) (n1 _) (n1 _) (n1 _) (by decide) (by decide) (by decide)
 split at h
 ·cases h;exact cl2 (i:=2) (j:=1) (m:=1) rfl (Nat.le_trans (Zd1 _ _) (Nat.add_le_add (n1 _) (o _))) (o _) (n1 _) (by decide) (by decide) (by decide)
 split at h
 ·cases h;have hs:=Nat.le_trans (Zd1 (aX (gI a 0) (gI a 2) (gI a 3)) (aX (gI a 1) (gI a 2) (gI a 3))) (Nat.add_le_add (o _) (o _));exact cl2 (i:=3) (j:=1) (m:=2) rfl (Nat.le_trans (Zd1 _ _) (Nat.add_le_add hs (o _))) (o _) hs (by decide) (by decide) (by decide)
 split at h
 ·cases h;exact cl2 (i:=2) (j:=1) (m:=1) rfl (Nat.le_trans (Zd1 _ _) (Nat.add_le_add (o _) (o _))) (o _) (o _) (by decide) (by decide) (by decide)
 split at h
 ·cases h;exact cl3 (i:=2) (j:=1) (k:=1) (m:=1) rfl (Zrd (Nat.le_trans (Zd1 _ _) (Nat.add_le_add (o _) (o _)))) (Zrd (o _)) (Nat.le_trans (Zd1 _ _) (Nat.add_le_add (Nat.le_refl 0) (o _))) (o _) (by decide) (by decide) (by decide)
 split at h
 ·cases h;exact cl2 (i:=2) (j:=1) (m:=1) rfl (Nat.le_trans (Zd1 _ _) (Nat.add_le_add (o _) (Zrd (o _)))) (Zrd (o _)) (o _) (by decide) (by decide) (by decide)
 split at h
 ·rename_i hk;cases h;exact cl3 (i:=1) (j:=1) (k:=1) (m:=3) (h3 (.inr hk)) (ct _ _ _) (ct _ _ _) (ct _ _ _) (Nat.le_trans (Zhe _ _) (Nat.add_le_add (Nat.le_trans (Zhe _ _) (Nat.add_le_add (ct _ _ _) (ct _ _ _))) (ct _ _ _))) (by decide) (by decide) (by decide)
 ·cases h
theorem Zfe (c:Cb) (p:Pl) (i:Nat):(afS c p (i+1)).length≤(afS c p i).length+(c.ab.getD i []).length :=
 Nat.le_trans (Zhe _ _) (Nat.add_le_add_left (by have:=Zov (Nat.le_refl (c.ab.getD i []).length) (at_len p (gI c.ps i));rwa [Nat.mul_one] at this) _)
theorem Zmq (c:Cb) (i j:Nat):(prT c i j).length≤(c.ab.getD i []).length*(c.ab.getD j []).length:=by
 have:=Zov (Ziq (c.ab.getD i []) (c.ab.getD j [])) (Zio ⟨2,gI c.ps i,gI c.ps j,gI c.ps i⟩)
 rwa [Nat.mul_one] at this
theorem af_len {c:Cb} (p:Pl) (h:CbL c):(afN c p).length≤12∧(afD c p).length≤9:=by
 obtain⟨hb,h⟩:=h;refine⟨?_,?_⟩
 ·rcases h with⟨u,v,e,hp,h1,h2⟩ | ⟨u,v,w,e,hp,h1,h2⟩
  ·have s1:=Zfe c p 0;have s2:=Zfe c p 1;rw [e] at s1 s2;have s0:(afS c p 0).length=0:=rfl;have s1:(afS c p 1).length≤(afS c p 0).length+u.length:=s1;have s2:(afS c p 2).length≤(afS c p 1).length+v.length:=s2;unfold afN;rw [hp];split
   ·have t1:=Zmq c 0 1;rw [e] at t1;have t1:(prT c 0 1).length≤u.length*v.length:=t1;have m1:(mulX c.be (afS c p 2)).length≤c.be.length*(u.length+v.length):=Nat.le_trans (Ziq _ _) (Nat.mul_le_mul_left _ (by omega));have g:=Zd1 (mulX c.be (afS c p 2)) (prT c 0 1);show(subX (mulX c.be (afS c p 2)) (prT c 0 1)).length≤12;omega
   ·omega
  ·have s1:=Zfe c p 0;have s2:=Zfe c p 1;have s3:=Zfe c p 2;rw [e] at s1 s2 s3;have s0:(afS c p 0).length=0:=rfl;have s1:(afS c p 1).length≤(afS c p 0).length+u.length:=s1;have s2:(afS c p 2).length≤(afS c p 1).length+v.length:=s2;have s3:(afS c p 3).length≤(afS c p 2).length+w.length:=s3;unfold afN;rw [hp];split
   ·have t1:=Zmq c 0 1;have t2:=Zmq c 0 2;have t3:=Zmq c 1 2;rw [e] at t1 t2 t3;have t1:(prT c 0 1).length≤u.length*v.length:=t1;have t2:(prT c 0 2).length≤u.length*w.length:=t2;have t3:(prT c 1 2).length≤v.length*w.length:=t3;have m1:(mulX c.be (afS c p 3)).length≤c.be.length*(u.length+v.length+w.length):=Nat.le_trans (Ziq _ _) (Nat.mul_le_mul_left _ (by omega));have g1:=Zd1 (mulX c.be (afS c p 3)) (prT c 0 1);have g2:=Zd1 (subX (mulX c.be (afS c p 3)) (prT c 0 1)) (prT c 0 2);have g3:=Zd1 (subX (subX (mulX c.be (afS c p 3)) (prT c 0 1)) (prT c 0 2)) (prT c 1 2);show(subX (subX (subX (mulX c.be (afS c p 3)) (prT c 0 1)) (prT c 0 2)) (prT c 1 2)).length≤12
    omega
   ·omega
 ·unfold afD;split
  ·exact Nat.le_trans (Zov hb hb) (by decide)
  ·omega
def lmX (k:Int) (a:List Int) (r:Rat) (t x:Int) (q:Qt):Int × XX :=
 if q.norm.2=0∨hasQ x q.norm.1=false then (0,(ofX q,[((1:Rat),[])]))
 else if k=4 then (0,(sclT (q.norm.2:Rat) (tuX (gI a 0) (gI a 1) (gI a 2) (plOf q.norm.1 x)),[((1:Rat),[])]))
 else match cbOf k a r t with
  | none=>(8,([],[]))
  | some c=>if c.be=[] then (3,([],[])) else (0,(sclT (q.norm.2:Rat) (afN c (plOf q.norm.1 x)),afD c (plOf q.norm.1 x)))
structure LmOk (x:Int) (b:XX):Prop where
 xn:XB b.1 245 5
 xd:XB b.2 245 5
 ln:b.1.length≤12
 ld:b.2.length≤12
 nn:alQ (noP x) b.1
 nd:alQ (noP x) b.2
 ne:b.2≠[]
structure StA (k t x n:Int) (a:List Int) (r:Rat):Prop where
 n40:n≤40
 sz:Sz r 2
 rg:∀i,i < a.length→0≤gI a i∧gI a i < n
 lt:∀i,i < a.length→gI a i < x
 tr:0≤t∧t < 64
 l:(k=3→a.length=3)∧(k=11→a.length=3)∧(k=2∨k=5→2≤a.length)∧(k=7∨k=8∨k=10→3≤a.length)∧(k=9→4≤a.length)
 l4:k=4→a.length=3
theorem Zmv {q:Qt} {n:Int} (hs:q.norm.2≠0) (h:0≤q.norm.1.a∧q.norm.1.a < n∧0≤q.norm.1.b∧q.norm.1.b < n∧0≤q.norm.1.c∧q.norm.1.c < n) (x:Int):PlOk (plOf q.norm.1 x) n:=pl_ok ⟨h.1,h.2.1⟩ ⟨h.2.2.1,h.2.2.2.1⟩ ⟨h.2.2.2.2.1,h.2.2.2.2.2⟩
theorem alQ.sg {C:Qt→Prop} {p:QTs} (h:alQ C p) (s:Int):alQ C (sclT (s:Rat) p):=h.scl _
theorem xb_sg {p:QTs} {k n:Nat} (h:XB p k n) {s:Int} (hs:s=-1∨s=1):XB (sclT (s:Rat) p) k n:=by
 rcases hs with rfl | rfl
 ·exact h.neg
 ·show XB (sclT 1 p) k n;rw [Zu7];exact h
theorem one_no (x:Int):alQ (noP x) [((1:Rat),[])]:=λt ht q hq=>by rw [List.mem_singleton.1 ht] at hq;cases hq
theorem lm_ok {k t x n:Int} {a:List Int} {r:Rat} {q:Qt} (hs:StA k t x n a r) (hq:q.ok=true)
 (hp:q.norm.2≠0→hasQ x q.norm.1=true→0≤q.norm.1.a∧q.norm.1.a < n∧0≤q.norm.1.b∧q.norm.1.b < n∧0≤q.norm.1.c∧q.norm.1.c < n) (h0:(lmX k a r t x q).1=0):LmOk x (lmX k a r t x q).2:=by
 have one:XB [((1:Rat),[])] 245 5:=Zuk.mono (by decide) (by decide);unfold lmX at *;split
 ·rename_i h;have ho:=Zba hq;refine⟨ho.x.mono (by decide) (by decide),one,Nat.le_trans (Zio q) (by decide),by show 1≤12;decide,?_,one_no x,by simp⟩;unfold ofX;split
  ·exact alQ.emp
  ·rename_i h1;rcases h with h | h
   ·exact absurd h h1
   ·intro u hu v hv;rw [List.mem_singleton.1 hu] at hv;rw [List.mem_singleton.1 hv];exact h
 ·rename_i h;rw [if_neg h] at h0;have h1:q.norm.2≠0:=λg=>h (.inl g)
  have h2:hasQ x q.norm.1=true:=by
   cases g:hasQ x q.norm.1 with
   | true=>rfl
   | false=>exact absurd (.inr g) h
  have hsg:q.norm.2=-1∨q.norm.2=1:=by
   rcases Zhs q with g | g | g
   ·exact .inl g
   ·exact absurd g h1
   ·exact .inr g
  have hpl:=Zmv h1 (hp h1 h2) x;obtain⟨n1,n2,_⟩:=pl_no (Zqh hq h1) h2;have hxa:∀i,i < a.length→x≠gI a i:=λi hi=>by have:=hs.lt i hi;omega
  split
  ·rename_i hk;have l4:=hs.l4 hk;have g:=tu_xl hpl hs.n40 (hs.rg 0 (by omega)) (hs.rg 1 (by omega)) (hs.rg 2 (by omega));refine⟨xb_sg (g.x.mono (by decide) (by decide)) hsg,one,by show(sclT _ _).length≤_;rw [Zcz];exact Nat.le_trans g.l (by decide),by show 1≤12;decide,(tu_no n1 n2 (hxa 0 (by omega)) (hxa 1 (by omega)) (hxa 2 (by omega))).sg _,one_no x,by simp⟩
  ·rename_i hk;rw [if_neg hk] at h0
   cases hc:cbOf k a r t with
   | none=>rw [hc] at h0;exact absurd (show(8:Int)=0 from h0) (by decide)
   | some c =>
     rw [hc] at h0;simp only at h0 ⊢;by_cases hb:c.be=[]
     ·rw [if_pos hb] at h0;exact absurd h0 (by decide)
     ·rw [if_neg hb];have ok:=Zji hc hs.sz hs.rg hs.n40 hs.tr hs.l
      have hx0:x≠0∨4≤a.length:=by
       have hl:0 < a.length:=by
        rcases Nat.eq_zero_or_pos a.length with g | g
        ·obtain⟨l3,l11,l2,l7,l9⟩:=hs.l;exfalso;unfold cbOf at hc;split at hc
         ·have:=l2 (.inl ‹_›);omega
         split at hc
         ·have:=l3 ‹_›;omega
         split at hc
         ·have:=l2 (.inr ‹_›);omega
         split at hc
         ·have:=l9 ‹_›;omega
         split at hc
         ·have:=l7 (.inl ‹_›);omega
         split at hc
         ·have:=l7 (.inr (.inl ‹_›));omega
         split at hc
         ·have:=l7 (.inr (.inr ‹_›));omega
         split at hc
         ·have:=l11 ‹_›;omega
         ·cases hc
        ·exact g
       have:=hs.lt 0 hl;have:=hs.rg 0 hl;exact .inl (by omega)
      obtain⟨c1,c2,c3⟩:=cb_no hc hxa hx0 hs.l;have hl:=af_len (plOf q.norm.1 x) (Zyk hc (λg=>by rcases g with g | g;exact hs.l.1 g;exact hs.l.2.1 g));have an:=Zyu ok hpl hs.n40;have ad:=afD_xl (p:=plOf q.norm.1 x) ok;exact⟨xb_sg (an.x.mono (by decide) (by decide)) hsg,ad.x.mono (by decide) (by decide),by show(sclT _ _).length≤_;rw [Zcz];exact hl.1,Nat.le_trans hl.2 (by decide),(afN_no c1 c2 c3 n1 n2).sg _,afD_no c2,afD_ne ok.be.x.1 hb⟩
structure EI (x:Int) (l:List Qt) (K N:Nat) (y:XX):Prop where
 x1:XB y.1 K N
 x2:XB y.2 K N
 l1:y.1.length≤4000
 l2:y.2.length≤4000
 c1:cntX x 2 y.1
 c2:cntX x 2 y.2
 a1:alQ (λu=>hasQ x u=true→u∈l) y.1
 a2:alQ (λu=>hasQ x u=true→u∈l) y.2
theorem EI.mo {x:Int} {l:List Qt} {K N:Nat} {y:XX} (h:EI x l K N y) {q:Qt} (hq:hasQ x q=true):moQ q y.1≤2∧moQ q y.2≤2:=⟨mo_cnt hq h.c1,mo_cnt hq h.c2⟩
theorem EI.step {x:Int} {l:List Qt} {K N:Nat} {y b:XX} {q:Qt} (h:EI x (q :: l) K N y) (hq:hasQ x q=true) (hb:LmOk x b) (l1:(elS q b y).1.length≤4000) (l2:(elS q b y).2.length≤4000) :
 EI x l (K+1472) (N+20) (elS q b y):=by
 obtain⟨m1,m2⟩:=h.mo hq;obtain⟨e1,e2⟩:=el_xb (x:=x) h.x1 h.x2 hb.xn hb.xd m1 m2;obtain⟨c1,c2⟩:=el_cnt (q:=q) h.c1 h.c2 hb.nn hb.nd;obtain⟨a1,a2⟩:=el_al (q:=q) h.a1 h.a2 hb.nn hb.nd
 have key:∀u,((hasQ x u=true→u∈q :: l)∧u≠q∨noP x u)→hasQ x u=true→u∈l:=by
  intro u hu hx;rcases hu with⟨h1,h2⟩ | h1
  ·rcases List.mem_cons.1 (h1 hx) with h3 | h3
   ·exact absurd h3 h2
   ·exact h3
  ·rw [h1] at hx;exact absurd hx (by decide)
 exact⟨e1.mono (by omega) (by omega),e2.mono (by omega) (by omega),l1,l2,c1,c2,a1.imp key,a2.imp key⟩
theorem EI.fin {x:Int} {K N:Nat} {y:XX} (h:EI x [] K N y):alQ (noP x) y.1∧alQ (noP x) y.2:=by
 have key:∀u,(hasQ x u=true→u∈([]:List Qt))→noP x u:=λu hu=>by
  cases g:hasQ x u with
  | false=>exact g
  | true=>cases hu g
 exact⟨h.a1.imp key,h.a2.imp key⟩
def vwX (n:Qt) (x:Int):Int × Int × Bool :=
 if n.k=2∧n.a=n.c then (n.a+n.b - x,n.a+n.b - x,true)
 else if x=n.b then (if n.k=1 then (n.c,n.a,false) else (n.a,n.c,true))
 else if x=n.a then (n.b,n.c,false)
 else if n.k=1 then (n.a,n.b,false) else (n.b,n.a,false)
theorem vw_pl {n:Qt} {x:Int} (hn:n.norm=(n,1)) (hx:hasQ x n=true):vwX n x=((plOf n x).q,(plOf n x).r,(plOf n x).mid):=by
 obtain⟨_,hk,hy⟩:=Zlu hx;clear hx;have hok:=Zip hn;obtain⟨k,a,b,c⟩:=n;simp only at hk hy
 have h1:k=1∨k=2:=by
  unfold Qt.ok at hok;simp at hok;omega
 unfold Qt.norm at hn;rw [if_pos hok] at hn;simp only at hn;unfold plOf vwX;simp only;rcases h1 with rfl | rfl
 ·rw [if_pos rfl] at hn
  have h3:a≠b∧b≠c∧a≠c:=by
   unfold Zdy at hn;split at hn
   ·simp [Qt.zero] at hn
   ·omega
  rw [if_neg (by omega),if_pos rfl,if_pos rfl,if_pos rfl];rcases hy with rfl | rfl | rfl
  ·rw [if_neg h3.1,if_pos rfl,if_pos rfl]
  ·rw [if_pos rfl,if_neg h3.1,if_pos rfl]
  ·rw [if_neg (λh=>h3.2.1 h.symm),if_neg (λh=>h3.2.2 h.symm),if_neg h3.2.2,if_neg h3.2.1]
 ·rw [if_neg (by decide),if_pos rfl] at hn
  have h3:a≠b∧b≠c:=by
   unfold Zev at hn;split at hn
   ·simp [Qt.zero] at hn
   ·omega
  rw [if_neg (show ¬(2:Int)=1 by decide),if_neg (show ¬(2:Int)=1 by decide),if_neg (show ¬(2:Int)=1 by decide)];by_cases hac:a=c
  ·subst hac;rw [if_pos ⟨rfl,rfl⟩];rcases hy with rfl | rfl | rfl
   ·rw [if_pos ⟨rfl,rfl⟩];simp only [Prod.mk.injEq,and_true];omega
   ·rw [if_neg (λh=>h3.1 h.1),if_pos rfl];simp only [Prod.mk.injEq,and_true];omega
   ·rw [if_pos ⟨rfl,rfl⟩];simp only [Prod.mk.injEq,and_true];omega
  ·rw [if_neg (λh=>hac h.2)];rcases hy with rfl | rfl | rfl
   ·rw [if_neg h3.1,if_pos rfl,if_neg (λh=>hac h.2.symm),if_neg (λh=>h3.1 h.symm),if_pos rfl]
   ·rw [if_pos rfl,if_neg (λh=>h3.1 h.1),if_pos rfl]
   ·rw [if_neg (λh=>h3.2 h.symm),if_neg (λh=>hac h.symm),if_neg (λh=>hac h.1),if_neg h3.2,if_neg hac]
def prS (s:Int × Int) (k:Int):Int × Int:=if k=1 then (s.1+min s.2 2,s.2+1) else if k=5∨k=6 then (s.1+1,s.2) else s
def prN (ks:List Int):Int × Int:=ks.foldl prS (0,0)
theorem Zry (ks:List Int) (k:Int):prN (ks++[k])=prS (prN ks) k:=by unfold prN;rw [List.foldl_append];rfl
theorem prN_bd:∀ks:List Int,0≤(prN ks).1∧(prN ks).1≤2*ks.length∧0≤(prN ks).2∧(prN ks).2≤ks.length:=by
 refine snoc_ind ⟨by decide,by decide,by decide,by decide⟩ λl a ih=>?_;rw [Zry,List.length_append];have h1:([a]:List Int).length=1:=rfl;unfold prS;obtain⟨i1,i2,i3,i4⟩:=ih;split
 ·refine⟨?_,?_,?_,?_⟩<;>simp only<;>omega
 ·split
  ·refine⟨?_,?_,?_,?_⟩<;>simp only<;>omega
  ·refine⟨?_,?_,?_,?_⟩<;>omega
def wtX (k:Int) (a:List Int) (r:Rat) (t:Int):Int × List Int × List XX :=
 match cbOf k a r t with
 | none=>(8,[],[])
 | some c=>if c.be=[] then (3,[],[]) else (0,c.ps,c.ab.map λw=>(w,c.be))
end Go.Proofs.YtjgdomdhjphgbaaGreatDoor
namespace Go.Proofs.YtjgdomdhjphgbaaGreatDoor
open Go Go.RowKit Go.Pg Go.Pol
attribute [-bool_to_prop] Bool.and_eq_decide Bool.or_eq_decide Bool.decide_beq_decide decide_eq_decide
attribute [local go_sem] Tryz.underlying3 Tryz.underlying4 Tryz.underlying160 Tryz.underlying49 Tryz.underlying51 Tryz.underlying53 Tryz.underlying27 Tryz.underlying54 Tryz.underlying56 Tryz.underlying30 Tryz.underlying31 sz3 by3 z3 szB zB Zax zRat Za3 zInt Za2 zNat Zag Zaq Zah Bool.and_self Zal Zbh zSlQ szQT byQT zQT Zbj zSlT szQP zQP Tryz.underlying70 Tryz.underlying33 szFr byFr zFr Zce Zcj zSQP Tryz.underlying9 Tryz.underlying39 Tryz.underlying34 Tryz.underlying65 Tryz.underlying22 Tryz.underlying25 Tryz.underlying87 Tryz.underlying23 Zcf zErr Zbq Zct zStr szL byL zL Zca Zcb Zdq Zdv zFig Zdu zSlI Zdt zSlS Zcl Zco Zd7 Zd8 zSlF Tryz.underlying72 Tryz.underlying103 Tryz.underlying68 Tryz.underlying40 Zfi Zfr zCmb Zfg zSch Zfh zPlc Zc5 Zff
theorem Zrx {ss:List RS} {k:Nat} (h:k < ss.length):prN ((ss.take (k+1)).map RS.k)=prS (prN ((ss.take k).map RS.k)) ss[k].k:=by
 rw [List.take_succ_eq_append_getElem h,List.map_append];exact Zry _ _
theorem Zwf (ss:List RS) {k n:Nat} (hk:ss.length≤n):0≤(prN ((ss.take k).map RS.k)).1∧(prN ((ss.take k).map RS.k)).1≤2*n∧0≤(prN ((ss.take k).map RS.k)).2∧(prN ((ss.take k).map RS.k)).2≤n:=by
 have h:=prN_bd ((ss.take k).map RS.k);rw [List.length_map,List.length_take] at h;omega
theorem prS_1 {s:Int × Int} {k:Int} (h:k=1):prS s k=(s.1+min s.2 2,s.2+1):=by unfold prS;rw [if_pos h]
theorem prS_5 {s:Int × Int} {k:Int} (h1:¬k=1) (h:k=5∨k=6):prS s k=(s.1+1,s.2):=by unfold prS;rw [if_neg h1,if_pos h]
theorem prS_0 {s:Int × Int} {k:Int} (h1:¬k=1) (h:¬(k=5∨k=6)):prS s k=s:=by unfold prS;rw [if_neg h1,if_neg h]
theorem elParam (ss:List RS) (gs:List RG) (i:Nat) (hi:i≤ss.length) (hl:ss.length≤100):Pure Tryz.prog 164 [figA ss gs,iv i] (iv (prN ((ss.take i).map RS.k)).1):=by
 have hg:∀k (h:k < ss.length),k < i→((ss.map RS.av).take i).getD k .u=.agg [iv ss[k].k,strA ss[k].nm,ivs ss[k].ar,.v (.bool ss[k].r.s),lim ss[k].r.l,lim ss[k].r.d]:=λk h hk=>by
  rw [List.getD_eq_getElem?_getD,List.getElem?_take_of_lt hk,←List.getD_eq_getElem?_getD];exact Zap RS.av h
 have hlm:((ss.map RS.av).take i).length=i:=by rw [List.length_take,List.length_map];omega
 have hll:(ss.map RS.av).length=ss.length:=List.length_map ..;have hb:∀k,0≤(prN ((ss.take k).map RS.k)).1∧(prN ((ss.take k).map RS.k)).1≤200∧0≤(prN ((ss.take k).map RS.k)).2∧(prN ((ss.take k).map RS.k)).2≤100:=λk=>Zwf ss hl;have hs:∀k (h:k < ss.length),prN ((ss.take (k+1)).map RS.k)=prS (prN ((ss.take k).map RS.k)) ss[k].k:=λk h=>Zrx h;show Pure _ _ [.agg [.sl 6 (ss.map RS.av),.sl 5 (gs.map RG.av)],iv i] _;generalize hMT:(ss.map RS.av).take i=MT at *;generalize ss.map RS.av=M at *;generalize gs.map RG.av=G at *;refine Zaa (tok:=0) Tryz.func164 rfl Tryz.ntmps164 Tryz.results164 Tryz.call164 (by rfl) (by simp) ?_
 (focus (refine wkap (w_4 hll hi hMT hlm) w_t (w_r 0) ?_;(repeat' first|exact w_t|apply w_l);all_goals intros));refine Zac (ι:=Nat) (λk e m=>k≤i∧(e 5=iv (prN ((ss.take k).map RS.k)).1∧e 6=iv (prN ((ss.take k).map RS.k)).2)∧e 12=.sl 6 MT∧e 13=iv i∧e 14=iv k) (λk=>i - k) 0 (by rfl) ?_ ?_
 ·rintro k e m ⟨hk,⟨e5,e6⟩,e12,e13,e14⟩
  by_cases hlt:k < i
  ·have hgk:=hg k (by omega) hlt;have ps:=hs k (by omega);have hbk:=hb k;have hlk:k < ss.length:=by omega
   clear hg hs hb;generalize ss[k]=s at *;obtain⟨kk,nm,ar,⟨rb,rl,rd⟩⟩:=s;simp only at hgk ps;generalize prN ((ss.take k).map RS.k)=pr at *;obtain⟨p1,p2⟩:=pr;simp only at *;have hgk:MT.getD k .u=.agg [iv kk,strA nm,.sl 1 (ar.map iv),.v (.bool rb),lim rl,lim rd]:=hgk;generalize ar.map iv=AR at *;have hmi:(if (2:Int) < p2 then (2:Int) else p2)=min p2 2:=by omega
   have hmj:p2+1 - 1=p2:=by omega
   by_cases h1:kk=1
   ·rw [prS_1 h1] at ps;(focus (refine wkap (w_10 e5 e6 e12 e13 e14 hlm hgk h1 hmj hmi) w_t (w_r 0) ?_;(repeat' first|exact w_t|apply w_l);all_goals intros));exact⟨k+1,⟨by omega,⟨by rw [ps];exact gW hmi,by rw [ps];exact gC⟩,by exact gW e12,by exact gW e13,by exact gS⟩,by omega⟩
   ·by_cases h5:kk=5∨kk=6
    ·rw [prS_5 h1 h5] at ps;rcases h5 with h5 | h5
     ·(focus (refine wkap (w_9 e5 e6 e12 e13 e14 hlm hgk h1 h5) w_t (w_r 0) ?_;(repeat' first|exact w_t|apply w_l);all_goals intros));exact⟨k+1,⟨by omega,⟨by rw [ps];exact gW e5,by rw [ps];exact gW e6⟩,by exact gW e12,by exact gW e13,by exact gS⟩,by omega⟩
     ·(focus (refine wkap (w_9 e5 e6 e12 e13 e14 hlm hgk h1 h5) w_t (w_r 0) ?_;(repeat' first|exact w_t|apply w_l);all_goals intros));exact⟨k+1,⟨by omega,⟨by rw [ps];exact gW e5,by rw [ps];exact gW e6⟩,by exact gW e12,by exact gW e13,by exact gS⟩,by omega⟩
    ·rw [prS_0 h1 h5] at ps;have h6:¬kk=6:=λh=>h5 (.inr h);have h5:¬kk=5:=λh=>h5 (.inl h);(focus (refine wkap (w_10 e5 e6 e12 e13 e14 hlm hgk h1 h5 h6) w_t (w_r 0) ?_;(repeat' first|exact w_t|apply w_l);all_goals intros));exact⟨k+1,⟨by omega,⟨by rw [ps];exact gW e5,by rw [ps];exact gW e6⟩,by exact gW e12,by exact gW e13,by exact gS⟩,by omega⟩
  ·have:k=i:=by omega
   subst this;generalize (prN ((ss.take k).map RS.k)).1=z at *;(focus (refine wkap (w_6 e5 e6 e12 e13 e14 hlm) w_t (w_r 0) ?_;(repeat' first|exact w_t|apply w_l);all_goals intros));all_goals exact gL
 ·exact⟨Nat.zero_le _,⟨by exact gC,by exact gC⟩,by(simp (disch:=omega) only [go_sem,hMT]<;>repeat' first|rfl|refine⟨?_,?_⟩),by exact gW hlm,by exact gC⟩
theorem rlParam (ss:List RS) (gs:List RG) (i:Nat) (hi:i≤ss.length) (hl:ss.length≤100):Pure Tryz.prog 84 [figA ss gs,iv i] (iv (prN ((ss.take i).map RS.k)).1):=by
 have hg:∀k (h:k < ss.length),k < i→(ss.map RS.av).getD k .u=.agg [iv ss[k].k,strA ss[k].nm,ivs ss[k].ar,.v (.bool ss[k].r.s),lim ss[k].r.l,lim ss[k].r.d]:=λk h _=>Zap RS.av h;have hll:(ss.map RS.av).length=ss.length:=List.length_map ..;have hb:∀k,0≤(prN ((ss.take k).map RS.k)).1∧(prN ((ss.take k).map RS.k)).1≤200∧0≤(prN ((ss.take k).map RS.k)).2∧(prN ((ss.take k).map RS.k)).2≤100:=λk=>Zwf ss hl;have hs:∀k (h:k < ss.length),prN ((ss.take (k+1)).map RS.k)=prS (prN ((ss.take k).map RS.k)) ss[k].k:=λk h=>Zrx h;show Pure _ _ [.agg [.sl 6 (ss.map RS.av),.sl 5 (gs.map RG.av)],iv i] _;generalize ss.map RS.av=M at *
 generalize gs.map RG.av=G at *;refine Zaa (tok:=0) Tryz.func84 rfl Tryz.ntmps84 Tryz.results84 Tryz.call84 (by rfl) (by simp) ?_;(focus (refine wkap w_t w_t (w_r 0) ?_;(repeat' first|exact w_t|apply w_l);all_goals intros));rename_i g2;refine Zac (ι:=Nat) (λk e m=>k≤i∧(e 1=iv i∧e 5=iv (prN ((ss.take k).map RS.k)).1∧e 6=iv (prN ((ss.take k).map RS.k)).2)∧(e 2=.pbox 2 g2 0∧m 2=some (.box g2 25 [.sl 6 M,.sl 5 G] false))∧e 7=iv k) (λk=>i - k) 0 (by rfl) ?_ ?_
 ·rintro k e m ⟨hk,⟨e1,e5,e6⟩,⟨e2,m2⟩,e7⟩
  by_cases hlt:k < i
  ·have hgk:=hg k (by omega) hlt;have ps:=hs k (by omega);have hbk:=hb k;have hlk:k < ss.length:=by omega
   clear hg hs hb;generalize ss[k]=s at *;obtain⟨kk,nm,ar,⟨rb,rl,rd⟩⟩:=s;simp only at hgk ps;generalize prN ((ss.take k).map RS.k)=pr at *;obtain⟨p1,p2⟩:=pr;simp only at *;have hgk:M.getD k .u=.agg [iv kk,strA nm,.sl 1 (ar.map iv),.v (.bool rb),lim rl,lim rd]:=hgk;generalize ar.map iv=AR at *;have hmi:(if (2:Int) < p2 then (2:Int) else p2)=min p2 2:=by omega
   have hmj:p2+1 - 1=p2:=by omega
   by_cases h1:kk=1
   ·rw [prS_1 h1] at ps;(focus (refine wkap (w_11 e1 e5 e6 e2 m2 e7 hll hgk h1 hmj hmi) w_t (w_r 0) ?_;(repeat' first|exact w_t|apply w_l);all_goals intros));exact⟨k+1,⟨by omega,⟨by exact gW e1,by rw [ps];exact gW hmi,by rw [ps];exact gC⟩,⟨by exact gW e2,by exact gW m2⟩,by exact gS⟩,by omega⟩
   ·by_cases h5:kk=5∨kk=6
    ·rw [prS_5 h1 h5] at ps;rcases h5 with h5 | h5
     ·(focus (refine wkap (w_10 e1 e5 e6 e2 m2 e7 hll hgk h1 h5) w_t (w_r 0) ?_;(repeat' first|exact w_t|apply w_l);all_goals intros));exact⟨k+1,⟨by omega,⟨by exact gW e1,by rw [ps];exact gW e5,by rw [ps];exact gW e6⟩,⟨by exact gW e2,by exact gW m2⟩,by exact gS⟩,by omega⟩
     ·(focus (refine wkap (w_10 e1 e5 e6 e2 m2 e7 hll hgk h1 h5) w_t (w_r 0) ?_;(repeat' first|exact w_t|apply w_l);all_goals intros));exact⟨k+1,⟨by omega,⟨by exact gW e1,by rw [ps];exact gW e5,by rw [ps];exact gW e6⟩,⟨by exact gW e2,by exact gW m2⟩,by exact gS⟩,by omega⟩
    ·rw [prS_0 h1 h5] at ps;have h6:¬kk=6:=λh=>h5 (.inr h);have h5:¬kk=5:=λh=>h5 (.inl h);(focus (refine wkap (w_11 e1 e5 e6 e2 m2 e7 hll hgk h1 h5 h6) w_t (w_r 0) ?_;(repeat' first|exact w_t|apply w_l);all_goals intros));exact⟨k+1,⟨by omega,⟨by exact gW e1,by rw [ps];exact gW e5,by rw [ps];exact gW e6⟩,⟨by exact gW e2,by exact gW m2⟩,by exact gS⟩,by omega⟩
  ·have:k=i:=by omega
   subst this;generalize (prN ((ss.take k).map RS.k)).1=z at *;(focus (refine wkap (w_7 e1 e5 e6 e2 m2 e7 hll) w_t (w_r 0) ?_;(repeat' first|exact w_t|apply w_l);all_goals intros));all_goals exact gL
 ·exact⟨Nat.zero_le _,⟨by exact gC,by exact gC,by exact gC⟩,⟨by exact gC,by exact gC⟩,by exact gC⟩
theorem rxSame (p d:QTs) {j k n m:Nat} (hp:QK p j n) (hd:QK d k m) (lp:p.length≤1000000) (ld:d.length≤1000000) (hj:j≤1000000) (hk:k≤1000000) (hn:n≤1000000) (hm:m≤1000000) :
 Pure Tryz.prog 9 [.agg [qpA p,qpA d],.agg [qpA p,qpA d]] (.v (.bool true)):=by
 have c1:Pure Tryz.prog 35 [.sl 4 (p.map qtA),.sl 4 (p.map qtA)] (.v (.bool true)):=Zrl p hp lp hj hn;have c2:Pure Tryz.prog 35 [.sl 4 (d.map qtA),.sl 4 (d.map qtA)] (.v (.bool true)):=Zrl d hd ld hk hm;show Pure _ _ [.agg [.sl 4 (p.map qtA),.sl 4 (d.map qtA)],.agg [.sl 4 (p.map qtA),.sl 4 (d.map qtA)]] _;generalize p.map qtA=A at *;generalize d.map qtA=D at *;refine Zaa (tok:=0) Tryz.func9 rfl Tryz.ntmps9 Tryz.results9 Tryz.call9 (by rfl) (by simp) ?_;(focus (refine wkap w_t (w_2 c1 c2) (w_r 0) ?_;(repeat' first|exact w_t|apply w_l);all_goals intros));all_goals exact gL
abbrev XS (p:QTs):Prop:=XL p 400 6 400
theorem Zhn {p q:QTs} (hp:XS p) (hq:XS q) (h12:p.length*q.length≤12):Pure Tryz.prog 25 [qpA p,qpA q] (qpA (mulX p q)):=by
 have:=Zxc;have:=Zxb;have:=hp.l;have:=hq.l;exact exMulT p q hp.x hq.x (by omega) (by omega) (by omega) (by omega) (by omega) (by omega)
theorem Zi9 {p q:QTs} (hp:XS p) (hq:XS q):Pure Tryz.prog 52 [qpA p,qpA q] (qpA (Zav p q)):=by
 have:=hp.l;have:=hq.l;exact exPlus p q hp.x.qk hq.x.qk hp.x.nz hq.x.nz (by omega) (by omega) (by omega) (by omega) (by omega)
theorem Zie {p q:QTs} (hp:XS p) (hq:XS q):Pure Tryz.prog 50 [qpA p,qpA q] (qpA (subX p q)):=by
 have:=hp.l;have:=hq.l;exact exMinus p q hp.x.qk hq.x.qk hp.x.nz hq.x.nz (by omega) (by omega) (by omega) (by omega) (by omega)
theorem Zgi {p q:QTs} (hp:XS p) (hq:XS q):Pure Tryz.prog 74 [qpA p,qpA q] (qpA (mulX p q)):=by
 have h:=Nat.mul_le_mul hp.l hq.l;have:=hp.l;have:=hq.l;exact rxMul p q hp.x hq.x (by omega) (by omega) (by omega) (by omega) (by omega) (by omega) (by omega)
theorem Zj6 {p q:QTs} (hp:XS p) (hq:XS q):Pure Tryz.prog 73 [qpA p,qpA q] (qpA (Zav p q)):=by
 have:=hp.l;have:=hq.l;exact rxPlus p q hp.x.qk hq.x.qk (by omega) (by omega) (by omega) (by omega) (by omega)
theorem Zi4 {p q:QTs} (hp:XS p) (hq:XS q):Pure Tryz.prog 75 [qpA p,qpA q] (qpA (subX p q)):=by
 have:=hp.l;have:=hq.l;exact rxMinus p q hp.x.qk hq.x.qk (by omega) (by omega) (by omega) (by omega) (by omega)
theorem Zn8 {p:QTs} (hp:XS p) {s:Rat} (hs:Sz s 2) (h0:s≠0):Pure Tryz.prog 33 [qpA p,ratQ s] (qpA (sclT s p)):=by
 have:=hp.l;have c:=Zvb p s hp.x.qk hs h0 (by omega) (by omega) (by omega)
 rwa [Zu9] at c
theorem exOfS {q:Qt} (h:q.ok=true):Pure Tryz.prog 19 [q.av] (qpA (ofX q)):=by
 have c:=exOf q
 rwa [of_ok h] at c
theorem Zve {q:Qt} (h:q.ok=true):Pure Tryz.prog 30 [q.av] (qpA (ofX q)):=by
 have c:=rxOf q
 rwa [of_ok h] at c
theorem cst_qp (u:Rat):nrmR (cstE u)=qpA (cstT u):=cst_ok u
theorem Zpd {u:Rat} (h:Sz u 2):Pure Tryz.prog 48 [ratQ u] (qpA (cstT u)):=by
 have c:=exConst u h (by omega)
 rwa [cst_qp] at c
theorem Zrm {u:Rat} (h:Sz u 2):Pure Tryz.prog 68 [ratQ u] (qpA (cstT u)):=by
 have c:=rxConst u h (by omega)
 rwa [cst_qp] at c
theorem Zvc {p d:QTs} (hp:XS p) (hd:XS d):Pure Tryz.prog 9 [.agg [qpA p,qpA d],.agg [qpA p,qpA d]] (.v (.bool true)):=by
 have:=hp.l;have:=hd.l;exact rxSame p d hp.x.qk hd.x.qk (by omega) (by omega) (by omega) (by omega) (by omega) (by omega)
theorem rxHasS {p:QTs} (hp:XS p) (x:Int):Pure Tryz.prog 29 [qpA p,iv x] (.v (.bool (hasT x p))):=by
 have:=hp.l;exact rxHas p x (by omega) λt ht=>Nat.le_trans (hp.x.2.1 t ht) (by omega)
theorem xs_of {q:Qt} (h:q.ok=true):XS (ofX q):=(Zba h).mono (by decide) (by decide) (by decide)
theorem Zq6 {u:Rat} (h:Sz u 2):XS (nX u):=(Zcc h).mono (by decide) (by decide) (by decide)
theorem XL.xs {p:QTs} {k n l:Nat} (h:XL p k n l) (hk:k≤400) (hn:n≤6) (hl:l≤400):XS p:=h.mono hk hn hl
abbrev Cb.av (c:Cb):AV:=.agg [ivs c.ps,.sl 1 (c.ab.map qpA),qpA c.be]
theorem Zf7 {P:Program} {σs:Mem} {all:List Oper} {op:Op} {ty:TypeId} {pos:String} {af:Array Edge} {r:Res} {K:St→Prop} {e:Nat→AV} {m:Mem} (h:Zai P ⟨e,m⟩ op=r) (hkp:Za1 σs r) (hk:aRes P 0 none r K ⟨e,m⟩):Zey P 0 σs all true false ⟨none,op,ty,pos,af,none⟩ K ⟨e,m⟩:=by
 refine⟨?_,λ_=>⟨rfl,by rw [h];exact hkp,λh=>by cases h⟩⟩;unfold Zfo;rw [Zdb,h,Option.getD_none];exact hk
abbrev Pl.av (p:Pl):AV:=.agg [iv p.k,iv p.q,iv p.r,.v (.bool p.mid)]
theorem elPlaced (k a b c x:Int):Pure Tryz.prog 22 [.agg [iv k,iv a,iv b,iv c],iv x] (Pl.av (plOf ⟨k,a,b,c⟩ x)):=by
 unfold plOf;simp only
 repeat' split
 ·refine Zaa (tok:=0) Tryz.func22 rfl Tryz.ntmps22 Tryz.results22 Tryz.call22 (by rfl) (by simp) ?_;(focus (refine wkad w_t w_t (w_1 (w_d 4 [] [5,7,1005,1007] [5])) ?_;(repeat' first|exact w_t|apply w_l);all_goals intros));refine Zf7 (by simp (disch:=omega) only [go_sem];rfl) (by simp (disch:=omega) [Za1,cutM,go_sem]) ?_;(focus (refine wkad w_t w_t w_t ?_;(repeat' first|exact w_t|apply w_l);all_goals intros));refine Zf7 (by simp (disch:=omega) only [go_sem];rfl) (by simp (disch:=omega) [Za1,cutM,go_sem]) ?_;(focus (refine wkad w_t w_t w_t ?_;(repeat' first|exact w_t|apply w_l);all_goals intros))
  all_goals exact gL
 ·refine Zaa (tok:=0) Tryz.func22 rfl Tryz.ntmps22 Tryz.results22 Tryz.call22 (by rfl) (by simp) ?_;(focus (refine wkad w_t w_t (w_1 (w_d 6 [] [5,7,1005,1007] [5])) ?_;(repeat' first|exact w_t|apply w_l);all_goals intros));refine Zf7 (by simp (disch:=omega) only [go_sem];rfl) (by simp (disch:=omega) [Za1,cutM,go_sem]) ?_;(focus (refine wkad w_t w_t w_t ?_;(repeat' first|exact w_t|apply w_l);all_goals intros));refine Zf7 (by simp (disch:=omega) only [go_sem];rfl) (by simp (disch:=omega) [Za1,cutM,go_sem]) ?_;(focus (refine wkad w_t w_t w_t ?_;(repeat' first|exact w_t|apply w_l);all_goals intros))
  all_goals exact gL
 ·refine Zaa (tok:=0) Tryz.func22 rfl Tryz.ntmps22 Tryz.results22 Tryz.call22 (by rfl) (by simp) ?_;(focus (refine wkad w_t w_t (w_1 (w_d 8 [] [5,7,1005,1007] [5])) ?_;(repeat' first|exact w_t|apply w_l);all_goals intros));refine Zf7 (by simp (disch:=omega) only [go_sem];rfl) (by simp (disch:=omega) [Za1,cutM,go_sem]) ?_;(focus (refine wkad w_t w_t w_t ?_;(repeat' first|exact w_t|apply w_l);all_goals intros));refine Zf7 (by simp (disch:=omega) only [go_sem];rfl) (by simp (disch:=omega) [Za1,cutM,go_sem]) ?_;(focus (refine wkad w_t w_t w_t ?_;(repeat' first|exact w_t|apply w_l);all_goals intros))
  all_goals exact gL
 ·refine Zaa (tok:=0) Tryz.func22 rfl Tryz.ntmps22 Tryz.results22 Tryz.call22 (by rfl) (by simp) ?_;(focus (refine wkad w_t w_t (w_1 (w_d 10 [] [5,7,9,1005,1007,1009] [5])) ?_;(repeat' first|exact w_t|apply w_l);all_goals intros));refine Zf7 (by simp (disch:=omega) only [go_sem];rfl) (by simp (disch:=omega) [Za1,cutM,go_sem]) ?_;(focus (refine wkad w_t w_t w_t ?_;(repeat' first|exact w_t|apply w_l);all_goals intros));refine Zf7 (by simp (disch:=omega) only [go_sem];rfl) (by simp (disch:=omega) [Za1,cutM,go_sem]) ?_;(focus (refine wkad w_t w_t w_t ?_;(repeat' first|exact w_t|apply w_l);all_goals intros))
  refine Zf7 (by simp (disch:=omega) only [go_sem];rfl) (by simp (disch:=omega) [Za1,cutM,go_sem]) ?_;(focus (refine wkad w_t w_t w_t ?_;(repeat' first|exact w_t|apply w_l);all_goals intros));all_goals exact gL
 ·rename_i h1 h2 h3;by_cases ha:a=x
  ·subst ha;have hc:¬c=a:=λh=>h2 ⟨rfl,h⟩;refine Zaa (tok:=0) Tryz.func22 rfl Tryz.ntmps22 Tryz.results22 Tryz.call22 (by rfl) (by simp) ?_;(focus (refine wkad (w_3 h1 h3 hc) w_t (w_1 (w_d 12 [] [5,7,9,1005,1007,1009] [5])) ?_;(repeat' first|exact w_t|apply w_l);all_goals intros));refine Zf7 (by simp (disch:=omega) only [go_sem];rfl) (by simp (disch:=omega) [Za1,cutM,go_sem]) ?_;(focus (refine wkad w_t w_t w_t ?_;(repeat' first|exact w_t|apply w_l);all_goals intros));refine Zf7 (by simp (disch:=omega) only [go_sem];rfl) (by simp (disch:=omega) [Za1,cutM,go_sem]) ?_;(focus (refine wkad w_t w_t w_t ?_;(repeat' first|exact w_t|apply w_l);all_goals intros))
   refine Zf7 (by simp (disch:=omega) only [go_sem];rfl) (by simp (disch:=omega) [Za1,cutM,go_sem]) ?_;(focus (refine wkad w_t w_t w_t ?_;(repeat' first|exact w_t|apply w_l);all_goals intros));all_goals exact gL
  ·refine Zaa (tok:=0) Tryz.func22 rfl Tryz.ntmps22 Tryz.results22 Tryz.call22 (by rfl) (by simp) ?_;(focus (refine wkad (w_3 h1 h3 ha) w_t (w_1 (w_d 12 [] [5,7,9,1005,1007,1009] [5])) ?_;(repeat' first|exact w_t|apply w_l);all_goals intros));refine Zf7 (by simp (disch:=omega) only [go_sem];rfl) (by simp (disch:=omega) [Za1,cutM,go_sem]) ?_;(focus (refine wkad w_t w_t w_t ?_;(repeat' first|exact w_t|apply w_l);all_goals intros));refine Zf7 (by simp (disch:=omega) only [go_sem];rfl) (by simp (disch:=omega) [Za1,cutM,go_sem]) ?_;(focus (refine wkad w_t w_t w_t ?_;(repeat' first|exact w_t|apply w_l);all_goals intros))
   refine Zf7 (by simp (disch:=omega) only [go_sem];rfl) (by simp (disch:=omega) [Za1,cutM,go_sem]) ?_;(focus (refine wkad w_t w_t w_t ?_;(repeat' first|exact w_t|apply w_l);all_goals intros));all_goals exact gL
 ·refine Zaa (tok:=0) Tryz.func22 rfl Tryz.ntmps22 Tryz.results22 Tryz.call22 (by rfl) (by simp) ?_;(focus (refine wkad w_t w_t (w_1 (w_d 14 [] [5,7,1005,1007] [5])) ?_;(repeat' first|exact w_t|apply w_l);all_goals intros));refine Zf7 (by simp (disch:=omega) only [go_sem];rfl) (by simp (disch:=omega) [Za1,cutM,go_sem]) ?_;(focus (refine wkad w_t w_t w_t ?_;(repeat' first|exact w_t|apply w_l);all_goals intros));refine Zf7 (by simp (disch:=omega) only [go_sem];rfl) (by simp (disch:=omega) [Za1,cutM,go_sem]) ?_;(focus (refine wkad w_t w_t w_t ?_;(repeat' first|exact w_t|apply w_l);all_goals intros))
  all_goals exact gL
 ·refine Zaa (tok:=0) Tryz.func22 rfl Tryz.ntmps22 Tryz.results22 Tryz.call22 (by rfl) (by simp) ?_;(focus (refine wkad w_t w_t (w_1 (w_d 2 [] [5,7,1005,1007] [5])) ?_;(repeat' first|exact w_t|apply w_l);all_goals intros));refine Zf7 (by simp (disch:=omega) only [go_sem];rfl) (by simp (disch:=omega) [Za1,cutM,go_sem]) ?_;(focus (refine wkad w_t w_t w_t ?_;(repeat' first|exact w_t|apply w_l);all_goals intros));refine Zf7 (by simp (disch:=omega) only [go_sem];rfl) (by simp (disch:=omega) [Za1,cutM,go_sem]) ?_;(focus (refine wkad w_t w_t w_t ?_;(repeat' first|exact w_t|apply w_l);all_goals intros))
  all_goals exact gL
theorem XL.s {p:QTs} {k n l:Nat} (h:XL p k n l) (hk:k≤400:=by decide) (hn:n≤6:=by decide) (hl:l≤400:=by decide):XS p:=h.mono hk hn hl
theorem Zjb (a b c:Int) (h:Qt.ok ⟨1,a,b,c⟩=true):Pure Tryz.prog 53 [iv a,iv b,iv c] (.sl 4 ((ofX ⟨1,a,b,c⟩).map qtA)):=by
 have c1:Pure Tryz.prog 19 [.agg [iv 1,iv a,iv b,iv c]] (.sl 4 ((ofX ⟨1,a,b,c⟩).map qtA)):=exOfS h;show Pure _ _ [iv a,iv b,iv c] (.sl 4 ((ofX ⟨1,a,b,c⟩).map qtA));generalize (ofX ⟨1,a,b,c⟩).map qtA=G at *;refine Zaa (tok:=0) Tryz.func53 rfl Tryz.ntmps53 Tryz.results53 Tryz.call53 (by rfl) (by simp) ?_;(focus (refine wkap w_t (w_1 c1) (w_r 0) ?_;(repeat' first|exact w_t|apply w_l);all_goals intros));all_goals exact gL
theorem Zdl (a b c:Int) (h:Qt.ok ⟨2,a,b,c⟩=true):Pure Tryz.prog 51 [iv a,iv b,iv c] (.sl 4 ((ofX ⟨2,a,b,c⟩).map qtA)):=by
 have c1:Pure Tryz.prog 19 [.agg [iv 2,iv a,iv b,iv c]] (.sl 4 ((ofX ⟨2,a,b,c⟩).map qtA)):=exOfS h;show Pure _ _ [iv a,iv b,iv c] (.sl 4 ((ofX ⟨2,a,b,c⟩).map qtA));generalize (ofX ⟨2,a,b,c⟩).map qtA=G at *;refine Zaa (tok:=0) Tryz.func51 rfl Tryz.ntmps51 Tryz.results51 Tryz.call51 (by rfl) (by simp) ?_;(focus (refine wkap w_t (w_1 c1) (w_r 0) ?_;(repeat' first|exact w_t|apply w_l);all_goals intros));all_goals exact gL
theorem Zh1 (a b c:Int) (h:Qt.ok ⟨1,a,b,c⟩=true):Pure Tryz.prog 72 [iv a,iv b,iv c] (.sl 4 ((ofX ⟨1,a,b,c⟩).map qtA)):=by
 have c1:Pure Tryz.prog 30 [.agg [iv 1,iv a,iv b,iv c]] (.sl 4 ((ofX ⟨1,a,b,c⟩).map qtA)):=Zve h;show Pure _ _ [iv a,iv b,iv c] (.sl 4 ((ofX ⟨1,a,b,c⟩).map qtA));generalize (ofX ⟨1,a,b,c⟩).map qtA=G at *;refine Zaa (tok:=0) Tryz.func72 rfl Tryz.ntmps72 Tryz.results72 Tryz.call72 (by rfl) (by simp) ?_;(focus (refine wkap w_t (w_1 c1) (w_r 0) ?_;(repeat' first|exact w_t|apply w_l);all_goals intros));all_goals exact gL
theorem Zc7 (a b c:Int) (h:Qt.ok ⟨2,a,b,c⟩=true):Pure Tryz.prog 71 [iv a,iv b,iv c] (.sl 4 ((ofX ⟨2,a,b,c⟩).map qtA)):=by
 have c1:Pure Tryz.prog 30 [.agg [iv 2,iv a,iv b,iv c]] (.sl 4 ((ofX ⟨2,a,b,c⟩).map qtA)):=Zve h;show Pure _ _ [iv a,iv b,iv c] (.sl 4 ((ofX ⟨2,a,b,c⟩).map qtA));generalize (ofX ⟨2,a,b,c⟩).map qtA=G at *;refine Zaa (tok:=0) Tryz.func71 rfl Tryz.ntmps71 Tryz.results71 Tryz.call71 (by rfl) (by simp) ?_;(focus (refine wkap w_t (w_1 c1) (w_r 0) ?_;(repeat' first|exact w_t|apply w_l);all_goals intros));all_goals exact gL
theorem Zx2 (z:Int) (b:Bool) (n d:List Nat) (G:List AV) (c1:Pure Tryz.prog 47 [iv z] (.agg [.v (.bool b),lim n,lim d])) (c2:Pure Tryz.prog 48 [.agg [.v (.bool b),lim n,lim d]] (.sl 4 G)):Pure Tryz.prog 20 [iv z] (.sl 4 G):=by
 refine Zaa (tok:=0) Tryz.func20 rfl Tryz.ntmps20 Tryz.results20 Tryz.call20 (by rfl) (by simp) ?_;(focus (refine wkap w_t (w_2 c1 c2) (w_r 0) ?_;(repeat' first|exact w_t|apply w_l);all_goals intros));all_goals exact gL
theorem Zif:Pure Tryz.prog 20 [iv 1] (qpA (nX 1)):=Zx2 1 _ _ _ _ (Zv3 (z:=1) (.inr (.inr rfl))) (Zpd (Zi2.mono (by decide)))
theorem elNumM:Pure Tryz.prog 20 [iv (-1)] (qpA (nX (-1))):=Zx2 (-1) _ _ _ _ (Zv3 (z:=-1) (.inl rfl)) (Zpd (sz_m1.mono (by decide)))
theorem elNum2:Pure Tryz.prog 20 [iv 2] (qpA (nX 2)):=Zx2 2 _ _ _ _ (Ztf 2 (by omega)) (Zpd (Zd4.mono (by decide)))
theorem Zvw (z:Int) (b:Bool) (n d:List Nat) (G:List AV) (c1:Pure Tryz.prog 34 [iv z] (.agg [.v (.bool b),lim n,lim d])) (c2:Pure Tryz.prog 68 [.agg [.v (.bool b),lim n,lim d]] (.sl 4 G)):Pure Tryz.prog 31 [iv z] (.sl 4 G):=by
 refine Zaa (tok:=0) Tryz.func31 rfl Tryz.ntmps31 Tryz.results31 Tryz.call31 (by rfl) (by simp) ?_;(focus (refine wkap w_t (w_2 c1 c2) (w_r 0) ?_;(repeat' first|exact w_t|apply w_l);all_goals intros));all_goals exact gL
theorem Zf9:Pure Tryz.prog 31 [iv 1] (qpA (nX 1)):=Zvw 1 _ _ _ _ (qOfS (z:=1) (.inr (.inr rfl))) (Zrm (Zi2.mono (by decide)))
theorem rlNumM:Pure Tryz.prog 31 [iv (-1)] (qpA (nX (-1))):=Zvw (-1) _ _ _ _ (qOfS (z:=-1) (.inl rfl)) (Zrm (sz_m1.mono (by decide)))
theorem rlNum2:Pure Tryz.prog 31 [iv 2] (qpA (nX 2)):=Zvw 2 _ _ _ _ (qOf 2 (by omega)) (Zrm (Zd4.mono (by decide)))
theorem elHalfV (b:Bool) (n d:List Nat) (A C G:List AV) (c1:Pure Tryz.prog 101 [iv 1,iv 2] (.agg [.v (.bool b),lim n,lim d])) (c2:Pure Tryz.prog 48 [.agg [.v (.bool b),lim n,lim d]] (.sl 4 C)) (c3:Pure Tryz.prog 25 [.sl 4 C,.sl 4 A] (.sl 4 G)):Pure Tryz.prog 49 [.sl 4 A] (.sl 4 G):=by
 refine Zaa (tok:=0) Tryz.func49 rfl Tryz.ntmps49 Tryz.results49 Tryz.call49 (by rfl) (by simp) ?_;(focus (refine wkap w_t (w_3 c1 c2 c3) (w_r 0) ?_;(repeat' first|exact w_t|apply w_l);all_goals intros));all_goals exact gL
theorem elHalf (p:QTs) (hp:XS p) (hl:p.length≤12):Pure Tryz.prog 49 [qpA p] (qpA (hfX p)) :=
 elHalfV _ _ _ _ _ _ (by have h:=ratFrac 1 2 (by omega) (by omega) (by omega);rwa [show mkRat ((1:Nat):Int) 2=(1/2:Rat) from by decide +kernel] at h) (Zpd (Zim.mono (by decide))) (Zhn (Zq6 (Zim.mono (by decide))) hp (Nat.le_trans (Nat.mul_le_mul (Zf6 _) hl) (by decide)))
theorem elTwiceV (A C G:List AV) (c1:Pure Tryz.prog 20 [iv 2] (.sl 4 C)) (c3:Pure Tryz.prog 25 [.sl 4 C,.sl 4 A] (.sl 4 G)):Pure Tryz.prog 54 [.sl 4 A] (.sl 4 G):=by
 refine Zaa (tok:=0) Tryz.func54 rfl Tryz.ntmps54 Tryz.results54 Tryz.call54 (by rfl) (by simp) ?_;(focus (refine wkap w_t (w_2 c1 c3) (w_r 0) ?_;(repeat' first|exact w_t|apply w_l);all_goals intros));all_goals exact gL
theorem elTwice (p:QTs) (hp:XS p) (hl:p.length≤12):Pure Tryz.prog 54 [qpA p] (qpA (twX p)) :=
 elTwiceV _ _ _ elNum2 (Zhn (Zq6 (Zd4.mono (by decide))) hp (Nat.le_trans (Nat.mul_le_mul (Zf6 _) hl) (by decide)))
theorem Zt0 {p:QTs} {k n l:Nat} (x:XL p k n l) (h:l≤12:=by decide) (hk:k≤400:=by decide) (hn:n≤6:=by decide):Pure Tryz.prog 54 [qpA p] (qpA (twX p)):=elTwice p (x.mono hk hn (by omega)) (Nat.le_trans x.l h)
theorem elHfX {p:QTs} {k n l:Nat} (x:XL p k n l) (h:l≤12:=by decide) (hk:k≤400:=by decide) (hn:n≤6:=by decide):Pure Tryz.prog 49 [qpA p] (qpA (hfX p)):=elHalf p (x.mono hk hn (by omega)) (Nat.le_trans x.l h)
theorem Zxp {p q:QTs} {k n l j m i:Nat} (x:XL p k n l) (y:XL q j m i) (h:l*i≤12:=by decide) (hk:k≤400:=by decide) (hn:n≤6:=by decide) (hl:l≤400:=by decide) (hj:j≤400:=by decide) (hm:m≤6:=by decide) (hi:i≤400:=by decide):Pure Tryz.prog 25 [qpA p,qpA q] (qpA (mulX p q)):=Zhn (x.mono hk hn hl) (y.mono hj hm hi) (Nat.le_trans (Nat.mul_le_mul x.l y.l) h)
theorem Zkv (a b:Int) (p q:QTs) (hp:XS p) (hq:XS q):Pure Tryz.prog 163 [iv a,iv b,.sl 4 (p.map qtA),.sl 4 (q.map qtA)] (.agg [.sl 1 [iv a,iv b],.sl 1 [.sl 4 ((subX q p).map qtA),.sl 4 (p.map qtA)],.sl 4 (q.map qtA)]):=by
 have c1:Pure Tryz.prog 50 [.sl 4 (q.map qtA),.sl 4 (p.map qtA)] (.sl 4 ((subX q p).map qtA)):=Zie hq hp;generalize (subX q p).map qtA=G at *;generalize p.map qtA=A at *;generalize q.map qtA=B at *;refine Zaa (tok:=0) Tryz.func163 rfl Tryz.ntmps163 Tryz.results163 Tryz.call163 (by rfl) (by simp) ?_;(focus (refine wkap w_t (w_1 c1) (w_r 0) ?_;(repeat' first|exact w_t|apply w_l);all_goals intros));all_goals exact gL
theorem Zin (p q:QTs) (hp:XS p) (hq:XS q):Pure Tryz.prog 83 [.sl 4 (p.map qtA),.sl 4 (q.map qtA)] (.sl 1 [.sl 4 ((subX q p).map qtA),.sl 4 (p.map qtA)]):=by
 have c1:Pure Tryz.prog 75 [.sl 4 (q.map qtA),.sl 4 (p.map qtA)] (.sl 4 ((subX q p).map qtA)):=Zi4 hq hp;generalize (subX q p).map qtA=G at *;generalize p.map qtA=A at *;generalize q.map qtA=B at *;refine Zaa (tok:=0) Tryz.func83 rfl Tryz.ntmps83 Tryz.results83 Tryz.call83 (by rfl) (by simp) ?_;(focus (refine wkap w_t (w_1 c1) (w_r 0) ?_;(repeat' first|exact w_t|apply w_l);all_goals intros));all_goals exact gL
theorem elAt (k q r x:Int) (m:Bool) (h:(k=1→Qt.ok ⟨1,x,q,r⟩=true)∧(k≠1→m=true→Qt.ok ⟨2,q,x,r⟩=true)∧(k≠1→m=false→Qt.ok ⟨2,x,q,r⟩=true)) :
 Pure Tryz.prog 55 [.agg [iv k,iv q,iv r,.v (.bool m)],iv x] (.sl 4 ((Pl.at ⟨k,q,r,m⟩ x).map qtA)):=by
 unfold Pl.at;simp only;split
 ·rename_i hk;have c1:=Zjb x q r (h.1 hk);generalize (ofX ⟨1,x,q,r⟩).map qtA=G at *;refine Zaa (tok:=0) Tryz.func55 rfl Tryz.ntmps55 Tryz.results55 Tryz.call55 (by rfl) (by simp) ?_;(focus (refine wkap w_t (w_1 c1) (w_r 0) ?_;(repeat' first|exact w_t|apply w_l);all_goals intros));all_goals exact gL
 ·split
  ·rename_i hk hm;subst hm;have c1:=Zdl q x r (h.2.1 hk rfl);generalize (ofX ⟨2,q,x,r⟩).map qtA=G at *;refine Zaa (tok:=0) Tryz.func55 rfl Tryz.ntmps55 Tryz.results55 Tryz.call55 (by rfl) (by simp) ?_;(focus (refine wkap w_t (w_1 c1) (w_r 0) ?_;(repeat' first|exact w_t|apply w_l);all_goals intros));all_goals exact gL
  ·rename_i hk hm;obtain rfl:m=false:=by simpa using hm
   have c1:=Zdl x q r (h.2.2 hk rfl);generalize (ofX ⟨2,x,q,r⟩).map qtA=G at *;refine Zaa (tok:=0) Tryz.func55 rfl Tryz.ntmps55 Tryz.results55 Tryz.call55 (by rfl) (by simp) ?_;(focus (refine wkap w_t (w_1 c1) (w_r 0) ?_;(repeat' first|exact w_t|apply w_l);all_goals intros));all_goals exact gL
theorem rlView (k a b c x:Int) (ha:0≤a∧a < 100) (hb:0≤b∧b < 100) (hx:0≤x∧x < 100):Pure Tryz.prog 69 [.agg [iv k,iv a,iv b,iv c],iv x] (.tup [iv (vwX ⟨k,a,b,c⟩ x).1,iv (vwX ⟨k,a,b,c⟩ x).2.1,.v (.bool (vwX ⟨k,a,b,c⟩ x).2.2)]):=by
 unfold vwX;simp only
 repeat' split
 all_goals
  refine Zaa (tok:=0) Tryz.func69 rfl Tryz.ntmps69 Tryz.results69 Tryz.call69 (by rfl) (by simp) ?_;(focus (refine wkad w_t w_t w_t ?_;(repeat' first|exact w_t|apply w_l);all_goals intros));all_goals exact gL
theorem Zt6 (M GG:List AV) (i:Nat) (a0 a1:Int) (V0 V1 V2:List AV) (k:Int) (nm A0:AV) (rb:Bool) (rn rd:List Nat) (hl:i < M.length) (hs:M.getD i .u=.agg [iv k,nm,A0,.v (.bool rb),lim rn,lim rd]) (c1:Pure Tryz.prog 48 [.agg [.v (.bool rb),lim rn,lim rd]] (.sl 4 V0)) (c2:Pure Tryz.prog 20 [iv 1] (.sl 4 V1)) (c3:Pure Tryz.prog 163 [iv a0,iv a1,.sl 4 V0,.sl 4 V1] (.agg [.sl 1 [iv a0,iv a1],.sl 1 [.sl 4 V2,.sl 4 V0],.sl 4 V1])):Pure Tryz.prog 105 [.agg [.sl 6 M,.sl 5 GG],iv i,.sl 1 [iv a0,iv a1]] (.agg [.sl 1 [iv a0,iv a1],.sl 1 [.sl 4 V2,.sl 4 V0],.sl 4 V1]):=by
 refine Zaa (tok:=0) Tryz.func105 rfl Tryz.ntmps105 Tryz.results105 Tryz.call105 (by rfl) (by simp) ?_;(focus (refine wkad (w_2 hl hs) (w_3 c1 c2 c3) (w_1 (w_d 1 [(12,.sl 4 V0),(13,.sl 4 V1),(14,.agg [.sl 1 [iv a0,iv a1],.sl 1 [.sl 4 V2,.sl 4 V0],.sl 4 V1])] [] [6])) ?_;(repeat' first|exact w_t|apply w_l);all_goals intros));all_goals exact gL
theorem Zx3 (M GG:List AV) (i:Nat) (a0 a1:Int) (k:Int) (nm A0:AV) (r:Rat) (hl:i < M.length) (hs:M.getD i .u=.agg [iv k,nm,A0,.v (.bool (decide (r.num < 0))),lim (toL r.num.natAbs),lim (toL r.den)]) (hr:Sz r 2) (h0:0≤a0∧a0 < 40) (h1:0≤a1∧a1 < 40):Pure Tryz.prog 105 [.agg [.sl 6 M,.sl 5 GG],iv i,.sl 1 [iv a0,iv a1]] (.agg [.sl 1 [iv a0,iv a1],.sl 1 [qpA (subX (nX 1) (nX r)),qpA (nX r)],qpA (nX 1)]):=by
 have x0:=Zcc hr;have x1:=Zcc Zi2;exact Zt6 M GG i a0 a1 _ _ _ k nm A0 _ _ _ hl hs (Zpd hr) (Zif) (Zkv _ _ _ _ (x0.s) (x1.s))
theorem Zt4 (M GG:List AV) (i:Nat) (a0 a1 a2:Int) (V0 V1:List AV) (c1:Pure Tryz.prog 20 [iv 1] (.sl 4 V0)) (c2:Pure Tryz.prog 20 [iv (-1)] (.sl 4 V1)):Pure Tryz.prog 106 [.agg [.sl 6 M,.sl 5 GG],iv i,.sl 1 [iv a0,iv a1,iv a2]] (.agg [.sl 1 [iv a0,iv a1,iv a2],.sl 1 [.sl 4 V0,.sl 4 V1,.sl 4 V0],.sl 4 V0]):=by
 refine Zaa (tok:=0) Tryz.func106 rfl Tryz.ntmps106 Tryz.results106 Tryz.call106 (by rfl) (by simp) ?_;(focus (refine wkap w_t (w_2 c1 c2) (w_r 0) ?_;(repeat' first|exact w_t|apply w_l);all_goals intros));all_goals exact gL
theorem Zxz (M GG:List AV) (i:Nat) (a0 a1 a2:Int) (h0:0≤a0∧a0 < 40) (h1:0≤a1∧a1 < 40) (h2:0≤a2∧a2 < 40):Pure Tryz.prog 106 [.agg [.sl 6 M,.sl 5 GG],iv i,.sl 1 [iv a0,iv a1,iv a2]] (.agg [.sl 1 [iv a0,iv a1,iv a2],.sl 1 [qpA (nX 1),qpA (nX (-1)),qpA (nX 1)],qpA (nX 1)]):=by
 exact Zt4 M GG i a0 a1 a2 _ _ (Zif) (elNumM)
theorem Zx1 (M GG:List AV) (i:Nat) (a0 a1:Int) (V0 V1 V2:List AV) (t:Int) (c1:Pure Tryz.prog 164 [.agg [.sl 6 M,.sl 5 GG],iv i] (iv t)) (c2:Pure Tryz.prog 19 [.agg [iv 3,iv t,iv 0,iv 0]] (.sl 4 V0)) (c3:Pure Tryz.prog 20 [iv 1] (.sl 4 V1)) (c4:Pure Tryz.prog 163 [iv a0,iv a1,.sl 4 V0,.sl 4 V1] (.agg [.sl 1 [iv a0,iv a1],.sl 1 [.sl 4 V2,.sl 4 V0],.sl 4 V1])):Pure Tryz.prog 107 [.agg [.sl 6 M,.sl 5 GG],iv i,.sl 1 [iv a0,iv a1]] (.agg [.sl 1 [iv a0,iv a1],.sl 1 [.sl 4 V2,.sl 4 V0],.sl 4 V1]):=by
 refine Zaa (tok:=0) Tryz.func107 rfl Tryz.ntmps107 Tryz.results107 Tryz.call107 (by rfl) (by simp) ?_;(focus (refine wkad w_t (w_4 c1 c2 c3 c4) (w_1 (w_d 2 [(7,.sl 4 V1),(8,.agg [.sl 1 [iv a0,iv a1],.sl 1 [.sl 4 V2,.sl 4 V0],.sl 4 V1])] [] [6])) ?_;(repeat' first|exact w_t|apply w_l);all_goals intros));all_goals exact gL
theorem elOnLine (M GG:List AV) (i:Nat) (a0 a1:Int) (t:Int) (hT:Qt.ok ⟨3,t,0,0⟩=true) (cp:Pure Tryz.prog 164 [.agg [.sl 6 M,.sl 5 GG],iv i] (iv t)) (h0:0≤a0∧a0 < 40) (h1:0≤a1∧a1 < 40):Pure Tryz.prog 107 [.agg [.sl 6 M,.sl 5 GG],iv i,.sl 1 [iv a0,iv a1]] (.agg [.sl 1 [iv a0,iv a1],.sl 1 [qpA (subX (nX 1) (ofX ⟨3,t,0,0⟩)),qpA (ofX ⟨3,t,0,0⟩)],qpA (nX 1)]):=by
 have x0:=Zba hT;have x1:=Zcc Zi2;exact Zx1 M GG i a0 a1 _ _ _ t (cp) (exOfS hT) (Zif) (Zkv _ _ _ _ (x0.s) (x1.s))
theorem elMetV (M GG:List AV) (i:Nat) (a0 a1 a2 a3:Int) (V0 V1 V2 V3:List AV) (c1:Pure Tryz.prog 53 [iv a0,iv a2,iv a3] (.sl 4 V0)) (c2:Pure Tryz.prog 53 [iv a1,iv a2,iv a3] (.sl 4 V1)) (c3:Pure Tryz.prog 50 [.sl 4 V0,.sl 4 V1] (.sl 4 V2)) (c4:Pure Tryz.prog 163 [iv a0,iv a1,.sl 4 V0,.sl 4 V2] (.agg [.sl 1 [iv a0,iv a1],.sl 1 [.sl 4 V3,.sl 4 V0],.sl 4 V2])):Pure Tryz.prog 108 [.agg [.sl 6 M,.sl 5 GG],iv i,.sl 1 [iv a0,iv a1,iv a2,iv a3]] (.agg [.sl 1 [iv a0,iv a1],.sl 1 [.sl 4 V3,.sl 4 V0],.sl 4 V2]):=by
 refine Zaa (tok:=0) Tryz.func108 rfl Tryz.ntmps108 Tryz.results108 Tryz.call108 (by rfl) (by simp) ?_;(focus (refine wkad w_t (w_4 c1 c2 c3 c4) (w_2 (w_d 1 [(9,.sl 4 V0)] [] []) (w_d 2 [(17,.sl 4 V1),(18,.sl 4 V2),(19,.agg [.sl 1 [iv a0,iv a1],.sl 1 [.sl 4 V3,.sl 4 V0],.sl 4 V2])] [] [6])) ?_;(repeat' first|exact w_t|apply w_l);all_goals intros));all_goals exact gL
theorem elMet (M GG:List AV) (i:Nat) (a0 a1 a2 a3:Int) (h0:0≤a0∧a0 < 40) (h1:0≤a1∧a1 < 40) (h2:0≤a2∧a2 < 40) (h3:0≤a3∧a3 < 40):Pure Tryz.prog 108 [.agg [.sl 6 M,.sl 5 GG],iv i,.sl 1 [iv a0,iv a1,iv a2,iv a3]] (.agg [.sl 1 [iv a0,iv a1],.sl 1 [qpA (subX (subX (aX a0 a2 a3) (aX a1 a2 a3)) (aX a0 a2 a3)),qpA (aX a0 a2 a3)],qpA (subX (aX a0 a2 a3) (aX a1 a2 a3))]):=by
 have x0:=Zba (Zak (.inl rfl) h0 h2 h3);have x1:=Zba (Zak (.inl rfl) h1 h2 h3);have x2:=x0.sub x1;exact elMetV M GG i a0 a1 a2 a3 _ _ _ _ (Zjb _ _ _ (Zak (.inl rfl) h0 h2 h3)) (Zjb _ _ _ (Zak (.inl rfl) h1 h2 h3)) (Zie (x0.s) (x1.s)) (Zkv _ _ _ _ (x0.s) (x2.s))
theorem elFootV (M GG:List AV) (i:Nat) (a0 a1 a2:Int) (V0 V1 V2:List AV) (c1:Pure Tryz.prog 51 [iv a0,iv a1,iv a2] (.sl 4 V0)) (c2:Pure Tryz.prog 51 [iv a2,iv a1,iv a2] (.sl 4 V1)) (c3:Pure Tryz.prog 163 [iv a1,iv a2,.sl 4 V0,.sl 4 V1] (.agg [.sl 1 [iv a1,iv a2],.sl 1 [.sl 4 V2,.sl 4 V0],.sl 4 V1])):Pure Tryz.prog 109 [.agg [.sl 6 M,.sl 5 GG],iv i,.sl 1 [iv a0,iv a1,iv a2]] (.agg [.sl 1 [iv a1,iv a2],.sl 1 [.sl 4 V2,.sl 4 V0],.sl 4 V1]):=by
 refine Zaa (tok:=0) Tryz.func109 rfl Tryz.ntmps109 Tryz.results109 Tryz.call109 (by rfl) (by simp) ?_;(focus (refine wkad w_t (w_3 c1 c2 c3) (w_1 (w_d 1 [(15,.sl 4 V0),(25,.sl 4 V1),(26,.agg [.sl 1 [iv a1,iv a2],.sl 1 [.sl 4 V2,.sl 4 V0],.sl 4 V1])] [] [6])) ?_;(repeat' first|exact w_t|apply w_l);all_goals intros));all_goals exact gL
theorem elFoot (M GG:List AV) (i:Nat) (a0 a1 a2:Int) (h0:0≤a0∧a0 < 40) (h1:0≤a1∧a1 < 40) (h2:0≤a2∧a2 < 40):Pure Tryz.prog 109 [.agg [.sl 6 M,.sl 5 GG],iv i,.sl 1 [iv a0,iv a1,iv a2]] (.agg [.sl 1 [iv a1,iv a2],.sl 1 [qpA (subX (pX a2 a1 a2) (pX a0 a1 a2)),qpA (pX a0 a1 a2)],qpA (pX a2 a1 a2)]):=by
 have x0:=Zba (Zak (.inr rfl) h0 h1 h2);have x1:=Zba (Zak (.inr rfl) h2 h1 h2);exact elFootV M GG i a0 a1 a2 _ _ _ (Zdl _ _ _ (Zak (.inr rfl) h0 h1 h2)) (Zdl _ _ _ (Zak (.inr rfl) h2 h1 h2)) (Zkv _ _ _ _ (x0.s) (x1.s))
theorem elOtherV (M GG:List AV) (i:Nat) (a0 a1 a2:Int) (V0 V1 V2 V3:List AV) (c1:Pure Tryz.prog 51 [iv a2,iv a0,iv a1] (.sl 4 V0)) (c2:Pure Tryz.prog 54 [.sl 4 V0] (.sl 4 V1)) (c3:Pure Tryz.prog 51 [iv a1,iv a0,iv a1] (.sl 4 V2)) (c4:Pure Tryz.prog 163 [iv a0,iv a1,.sl 4 V1,.sl 4 V2] (.agg [.sl 1 [iv a0,iv a1],.sl 1 [.sl 4 V3,.sl 4 V1],.sl 4 V2])):Pure Tryz.prog 111 [.agg [.sl 6 M,.sl 5 GG],iv i,.sl 1 [iv a0,iv a1,iv a2]] (.agg [.sl 1 [iv a0,iv a1],.sl 1 [.sl 4 V3,.sl 4 V1],.sl 4 V2]):=by
 refine Zaa (tok:=0) Tryz.func111 rfl Tryz.ntmps111 Tryz.results111 Tryz.call111 (by rfl) (by simp) ?_;(focus (refine wkad w_t (w_4 c1 c2 c3 c4) (w_1 (w_d 1 [(15,.sl 4 V0),(16,.sl 4 V1),(26,.sl 4 V2),(27,.agg [.sl 1 [iv a0,iv a1],.sl 1 [.sl 4 V3,.sl 4 V1],.sl 4 V2])] [] [6])) ?_;(repeat' first|exact w_t|apply w_l);all_goals intros));all_goals exact gL
theorem elOther (M GG:List AV) (i:Nat) (a0 a1 a2:Int) (h0:0≤a0∧a0 < 40) (h1:0≤a1∧a1 < 40) (h2:0≤a2∧a2 < 40):Pure Tryz.prog 111 [.agg [.sl 6 M,.sl 5 GG],iv i,.sl 1 [iv a0,iv a1,iv a2]] (.agg [.sl 1 [iv a0,iv a1],.sl 1 [qpA (subX (pX a1 a0 a1) (twX (pX a2 a0 a1))),qpA (twX (pX a2 a0 a1))],qpA (pX a1 a0 a1)]):=by
 have x0:=Zba (Zak (.inr rfl) h2 h0 h1);have x1:=(Zcc Zd4).mul x0;have x2:=Zba (Zak (.inr rfl) h1 h0 h1);exact elOtherV M GG i a0 a1 a2 _ _ _ _ (Zdl _ _ _ (Zak (.inr rfl) h2 h0 h1)) (Zt0 x0) (Zdl _ _ _ (Zak (.inr rfl) h1 h0 h1)) (Zkv _ _ _ _ (x1.s) (x2.s))
attribute [local go_sem] Tryz.underlying101 szFn zFn
theorem elSch2:Pure Tryz.prog 56 [iv 2] (.tup [.agg [.fn 105 []],.v (.bool true)]):=by
 refine Zaa (tok:=0) Tryz.func56 rfl Tryz.ntmps56 Tryz.results56 Tryz.call56 (by rfl) (by simp) ?_;(focus (refine wkap w_t w_t (w_r 0) ?_;(repeat' first|exact w_t|apply w_l);all_goals intros));all_goals exact gL
theorem elSch3:Pure Tryz.prog 56 [iv 3] (.tup [.agg [.fn 106 []],.v (.bool true)]):=by
 refine Zaa (tok:=0) Tryz.func56 rfl Tryz.ntmps56 Tryz.results56 Tryz.call56 (by rfl) (by simp) ?_;(focus (refine wkap w_t w_t (w_r 0) ?_;(repeat' first|exact w_t|apply w_l);all_goals intros));all_goals exact gL
theorem elSch5:Pure Tryz.prog 56 [iv 5] (.tup [.agg [.fn 107 []],.v (.bool true)]):=by
 refine Zaa (tok:=0) Tryz.func56 rfl Tryz.ntmps56 Tryz.results56 Tryz.call56 (by rfl) (by simp) ?_;(focus (refine wkap w_t w_t (w_r 0) ?_;(repeat' first|exact w_t|apply w_l);all_goals intros));all_goals exact gL
theorem elSch9:Pure Tryz.prog 56 [iv 9] (.tup [.agg [.fn 108 []],.v (.bool true)]):=by
 refine Zaa (tok:=0) Tryz.func56 rfl Tryz.ntmps56 Tryz.results56 Tryz.call56 (by rfl) (by simp) ?_;(focus (refine wkap w_t w_t (w_r 0) ?_;(repeat' first|exact w_t|apply w_l);all_goals intros));all_goals exact gL
theorem elSch7:Pure Tryz.prog 56 [iv 7] (.tup [.agg [.fn 109 []],.v (.bool true)]):=by
 refine Zaa (tok:=0) Tryz.func56 rfl Tryz.ntmps56 Tryz.results56 Tryz.call56 (by rfl) (by simp) ?_;(focus (refine wkap w_t w_t (w_r 0) ?_;(repeat' first|exact w_t|apply w_l);all_goals intros));all_goals exact gL
theorem elSch8:Pure Tryz.prog 56 [iv 8] (.tup [.agg [.fn 110 []],.v (.bool true)]):=by
 refine Zaa (tok:=0) Tryz.func56 rfl Tryz.ntmps56 Tryz.results56 Tryz.call56 (by rfl) (by simp) ?_;(focus (refine wkap w_t w_t (w_r 0) ?_;(repeat' first|exact w_t|apply w_l);all_goals intros));all_goals exact gL
theorem elSch10:Pure Tryz.prog 56 [iv 10] (.tup [.agg [.fn 111 []],.v (.bool true)]):=by
 refine Zaa (tok:=0) Tryz.func56 rfl Tryz.ntmps56 Tryz.results56 Tryz.call56 (by rfl) (by simp) ?_;(focus (refine wkap w_t w_t (w_r 0) ?_;(repeat' first|exact w_t|apply w_l);all_goals intros));all_goals exact gL
theorem elSch11:Pure Tryz.prog 56 [iv 11] (.tup [.agg [.fn 112 []],.v (.bool true)]):=by
 refine Zaa (tok:=0) Tryz.func56 rfl Tryz.ntmps56 Tryz.results56 Tryz.call56 (by rfl) (by simp) ?_;(focus (refine wkap w_t w_t (w_r 0) ?_;(repeat' first|exact w_t|apply w_l);all_goals intros));all_goals exact gL
theorem elSch0 (k:Int) (hk:¬k=2∧¬k=3∧¬k=5∧¬k=9∧¬k=7∧¬k=8∧¬k=10∧¬k=11):Pure Tryz.prog 56 [iv k] (.tup [.agg [.v .nilFunc],.v (.bool false)]):=by
 obtain⟨k2,k3,k5,k9,k7,k8,k10,k11⟩:=hk;refine Zaa (tok:=0) Tryz.func56 rfl Tryz.ntmps56 Tryz.results56 Tryz.call56 (by rfl) (by simp) ?_;(focus (refine wkap (w_8 k2 k3 k5 k9 k7 k8 k10 k11) w_t (w_r 0) ?_;(repeat' first|exact w_t|apply w_l);all_goals intros));all_goals exact gL
theorem Zgh (a b:Int) (l:List Int) (hl:l.length≤1000000):Pure Tryz.prog 57 [.sl 1 (iv a :: iv b :: l.map iv)] (.sl 1 (iv a :: iv b :: l.map iv)):=by
 have hl:(l.map iv).length≤1000000:=by rw [List.length_map];exact hl
 generalize l.map iv=L at *;refine Zaa (tok:=0) Tryz.func57 rfl Tryz.ntmps57 Tryz.results57 Tryz.call57 (by rfl) (by simp) ?_;(focus (refine wkap (w_1 hl) w_t (w_r 0) ?_;(repeat' first|exact w_t|apply w_l);all_goals intros));all_goals exact gL
theorem elComb0 (M G:List AV) (i:Nat) (k:Int) (nm:AV) (A0:List AV) (rb rn rd:AV) (hi:i < M.length) (hs:M.getD i .u=.agg [iv k,nm,.sl 1 A0,rb,rn,rd]) (c0:Pure Tryz.prog 56 [iv k] (.tup [.agg [.v .nilFunc],.v (.bool false)])) :
 Pure Tryz.prog 23 [.agg [.sl 6 M,.sl 5 G],iv i] (.tup [.agg [.v (.slice none 0 0),.v (.slice none 0 0),.v (.slice none 0 0)],iv 8]):=by
 refine Zaa (tok:=0) Tryz.func23 rfl Tryz.ntmps23 Tryz.results23 Tryz.call23 (by rfl) (by simp) ?_;(focus (refine wkad (w_2 hi hs) (w_1 c0) w_t ?_;(repeat' first|exact w_t|apply w_l);all_goals intros));all_goals exact gL
theorem elComb1 (M G:List AV) (i:Nat) (k:Int) (nm:AV) (A0:List AV) (rb rn rd:AV) (f:Nat) (ps ab be:List AV) (hi:i < M.length) (hs:M.getD i .u=.agg [iv k,nm,.sl 1 A0,rb,rn,rd]) (c0:Pure Tryz.prog 56 [iv k] (.tup [.agg [.fn f []],.v (.bool true)]))
 (c1:Pure Tryz.prog 57 [.sl 1 A0] (.sl 1 A0)) (c2:Pure Tryz.prog f [.agg [.sl 6 M,.sl 5 G],iv i,.sl 1 A0] (.agg [.sl 1 ps,.sl 1 ab,.sl 4 be])) (hb:be.length≤100) :
 Pure Tryz.prog 23 [.agg [.sl 6 M,.sl 5 G],iv i] (if be.length=0 then .tup [.agg [.v (.slice none 0 0),.v (.slice none 0 0),.v (.slice none 0 0)],iv 3] else .tup [.agg [.sl 1 ps,.sl 1 ab,.sl 4 be],iv 0]):=by
 by_cases h0:be.length=0
 ·rw [if_pos h0];refine Zaa (tok:=0) Tryz.func23 rfl Tryz.ntmps23 Tryz.results23 Tryz.call23 (by rfl) (by simp) ?_;(focus (refine wkad (w_3 hi hs h0) (w_3 c0 c1 c2) (w_1 (w_d 4 [(10,.sl 1 A0),(11,.agg [.sl 1 ps,.sl 1 ab,.sl 4 be])] [] [])) ?_;(repeat' first|exact w_t|apply w_l);all_goals intros));all_goals exact gL
 ·rw [if_neg h0];refine Zaa (tok:=0) Tryz.func23 rfl Tryz.ntmps23 Tryz.results23 Tryz.call23 (by rfl) (by simp) ?_;(focus (refine wkad (w_3 hi hs h0) (w_3 c0 c1 c2) (w_1 (w_d 4 [(10,.sl 1 A0),(11,.agg [.sl 1 ps,.sl 1 ab,.sl 4 be])] [] [])) ?_;(repeat' first|exact w_t|apply w_l);all_goals intros));all_goals exact gL
theorem Zpm {R:AV→Mem→Prop} {b r:AV} {m σ':Mem} (d t d' t':Nat) (hd:d < 1000) (hd':d' < 1000) (hdd:d≠d') (htt:t≠t') (hs:Sub b r) (hR:R r σ') (ht:m d=σ' t) (ht':m d'=σ' t') (hm:∀k,k≠t→k≠t'→σ' k≠none→m (k+1000)=σ' k):Back R b m:=by
 refine⟨r,σ',λk=>if k=t then d else if k=t' then d' else k+1000,hs,hR,λk e h=>?_,λk k' _ _ h=>?_⟩
 ·by_cases h1:k=t
  ·subst h1;simp only [if_true];rw [ht,h]
  ·by_cases h2:k=t'
   ·subst h2;simp only [if_neg h1,if_true];rw [ht',h]
   ·simp only [if_neg h1,if_neg h2];rw [hm k h1 h2 (by rw [h];simp),h]
 ·simp only at h;split at h<;>split at h<;>(try split at h)<;>(try split at h)<;>omega
theorem Zr1 {P:Program} {t d:Nat} {f:FuncId} {args:List AV} {e:Nat→AV} {m:Mem} {K:St→Prop} {x:Value→Value→AV} {m':Value→Value→Mem} (c:ACall P f args m λr σ'=>∃s1 s2,r=x s1 s2∧σ'=m' s1 s2) (h:∀s1 s2,K ⟨upd e d (x s1 s2),m' s1 s2⟩):aRes P t (some d) (.call f args) K ⟨e,m⟩ :=
 c.mono λr σ' ⟨s1,s2,h1,h2⟩=>by subst h1;subst h2;exact h s1 s2
theorem Zkm {P:Program} {n:Nat} {K:St→Prop} {st:St} (h:K st):Zk6 P n [] K st:=h
theorem sub3 {a b c a' b' c':AV} (h1:Sub a a') (h2:Sub b b') (h3:Sub c c'):Sub (.agg [a,b,c]) (.agg [a',b',c']):=Sub.agg _ _ rfl λj x y hx hy=>by
 match j with
 | 0=>cases hx;cases hy;exact h1
 | 1=>cases hx;cases hy;exact h2
 | 2=>cases hx;cases hy;exact h3
 | j+3=>cases hx
theorem Zx0 (σ:Mem) (K1 K2:Nat) (h12:K1≠K2) (a b:Int) (A B S:List AV) (c1:Pure Tryz.prog 50 [.sl 4 B,.sl 4 A] (.sl 4 S)):ACall Tryz.prog 163 [iv a,iv b,.sl 4 A,.sl 4 B] σ λr σ'=>∃s1 s2,r=.agg [.own K1 s1,.own K2 s2,.sl 4 B]∧σ'=upd (upd σ K1 (some (.row s1 3 1 [iv a,iv b] 0))) K2 (some (.row s2 31 1 [.sl 4 S,.sl 4 A] 0)):=by
 refine Zda Tryz.func163 rfl Tryz.ntmps163 Tryz.results163 Tryz.call163 (by rfl) (by simp) (.cons (Sub.refl _) (.cons (Sub.refl _) (.cons (Sub.refl _) (.cons (Sub.refl _) .nil)))) ?_;have hL:∀k,lent σ (k+1000)=σ k:=λk=>by unfold lent;rw [if_neg (by omega),Nat.add_sub_cancel]
 generalize lent σ=m0 at *;(focus (refine wkap w_t (w_1 c1) (w_r 0) ?_;(repeat' first|exact w_t|apply w_l);all_goals intros));all_goals simp (disch:=omega) only [go_sem]
 rename_i s1 s2;refine Zpm (r:=.agg [.own K1 s1,.own K2 s2,.sl 4 B]) 11 K1 16 K2 (by omega) (by omega) (by omega) h12 (sub3 (Sub.own _ _ _) (Sub.own _ _ _) (Sub.refl _)) ⟨s1,s2,rfl,rfl⟩ ?_ ?_ ?_
 ·simp (disch:=omega) only [Zaj,if_pos,if_neg,if_true]
 ·simp (disch:=omega) only [Zaj,if_pos,if_neg,if_true]
 ·intro k h1 h2 _;simp (disch:=omega) only [Zaj,if_pos,if_neg];exact hL k
theorem elFootAV (σ:Mem) (K1 K2:Nat) (h12:K1≠K2) (M GG:List AV) (i:Nat) (a0 a1 a2:Int) (V0 V1 S:List AV) (c1:Pure Tryz.prog 51 [iv a0,iv a1,iv a2] (.sl 4 V0)) (c2:Pure Tryz.prog 51 [iv a2,iv a1,iv a2] (.sl 4 V1)) (c3:Pure Tryz.prog 50 [.sl 4 V1,.sl 4 V0] (.sl 4 S)):ACall Tryz.prog 109 [.agg [.sl 6 M,.sl 5 GG],iv i,.sl 1 [iv a0,iv a1,iv a2]] σ λr σ'=>∃s1 s2,r=.agg [.own K1 s1,.own K2 s2,.sl 4 V1]∧σ'=upd (upd σ K1 (some (.row s1 3 1 [iv a1,iv a2] 0))) K2 (some (.row s2 31 1 [.sl 4 S,.sl 4 V0] 0)):=by
 refine Zda Tryz.func109 rfl Tryz.ntmps109 Tryz.results109 Tryz.call109 (by rfl) (by simp) (.cons (Sub.refl _) (.cons (Sub.refl _) (.cons (Sub.refl _) .nil))) ?_;have hL:∀k,lent σ (k+1000)=σ k:=λk=>by unfold lent;rw [if_neg (by omega),Nat.add_sub_cancel]
 generalize lent σ=m0 at *
 (repeat' (first|(fail)|(with_reducible first|refine stp ?_|apply gx1|apply gx2|apply gx3|apply gx4|apply gx5|apply gx6|apply gx7|apply gy8|apply gz2|apply gz3)|(with_reducible refine Zbb ?_;intro _)|((with_reducible refine gE ?_);(try simp (disch:=omega) only [go_sem,decide_eq_true,decide_eq_false,if_pos,if_neg,Int.reduceAdd,Int.reduceSub,Int.reduceToNat,Int.zero_add])<;>first|rfl|omega)|with_reducible refine Zab (by decide) ?_|((with_reducible apply gy1);iterate 3 focus rfl)|((with_reducible apply gy2);iterate 3 focus rfl)|((with_reducible apply gy3);iterate 2 focus rfl)|((with_reducible apply gy4);iterate 1 focus rfl)|((with_reducible apply gy5);iterate 4 focus rfl)|((with_reducible apply gy5c);iterate 4 focus rfl)|((with_reducible apply gy6);iterate 4 focus rfl)|((with_reducible apply Zb8);iterate 3 focus rfl)|((with_reducible apply Zb6);iterate 1 focus rfl)|((with_reducible apply gy7);iterate 1 focus rfl)|((with_reducible apply gy9);(focus ((with_reducible refine gE ?_);(try simp (disch:=omega) only [go_sem,decide_eq_true,decide_eq_false,if_pos,if_neg,Int.reduceAdd,Int.reduceSub,Int.reduceToNat,Int.zero_add])<;>rfl)))|((with_reducible apply gz1);(focus first|rfl|(simp (disch:=omega) only [go_sem,decide_eq_true,decide_eq_false,if_pos,if_neg,Int.reduceAdd,Int.reduceSub,Int.reduceToNat,Int.zero_add];done)))|((with_reducible apply Zan (id:=99) (Zbi []) [] []);(focus kernel_rfl);(focus rfl);(focus kernel_rfl);(focus (simp only [List.length_cons,List.length_nil,Nat.reduceAdd];rfl)))|((with_reducible first|apply Zay|apply Za5|apply Zaz);all_goals (intro hc;(try simp only [bool_to_prop] at hc);try (exfalso;omega)))))
 refine Zp8 26 (Zbi [(15,.sl 4 V0),(25,.sl 4 V1)]) [] [] (by simp only [List.take_succ_cons,List.take_zero];rfl) (by simp only [List.drop_succ_cons,List.drop_zero];rfl) (by kernel_rfl) (by rfl) (by kernel_rfl) (by kernel_rfl) (by simp only [List.length_cons,List.length_nil,Nat.reduceAdd];rfl) ?_
 (repeat' (first|(fail)|(with_reducible first|refine stp ?_|apply gx1|apply gx2|apply gx3|apply gx4|apply gx5|apply gx6|apply gx7|apply gy8|apply gz2|apply gz3|refine gw0 (c1) ?_ ?_|refine gw3 (c1) ?_ ?_ ?_|refine gw0 (c2) ?_ ?_|refine gw3 (c2) ?_ ?_ ?_)|(with_reducible refine Zbb ?_;intro _)|((with_reducible refine gE ?_);(try simp (disch:=omega) only [go_sem,decide_eq_true,decide_eq_false,if_pos,if_neg,Int.reduceAdd,Int.reduceSub,Int.reduceToNat,Int.zero_add])<;>first|rfl|omega)|with_reducible refine Zab (by decide) ?_|((with_reducible apply gy1);iterate 3 focus rfl)|((with_reducible apply gy2);iterate 3 focus rfl)|((with_reducible apply gy3);iterate 2 focus rfl)|((with_reducible apply gy4);iterate 1 focus rfl)|((with_reducible apply gy5);iterate 4 focus rfl)|((with_reducible apply gy5c);iterate 4 focus rfl)|((with_reducible apply gy6);iterate 4 focus rfl)|((with_reducible apply Zb8);iterate 3 focus rfl)|((with_reducible apply Zb6);iterate 1 focus rfl)|((with_reducible apply gy7);iterate 1 focus rfl)|((with_reducible apply gy9);(focus ((with_reducible refine gE ?_);(try simp (disch:=omega) only [go_sem,decide_eq_true,decide_eq_false,if_pos,if_neg,Int.reduceAdd,Int.reduceSub,Int.reduceToNat,Int.zero_add])<;>rfl)))|((with_reducible apply gz1);(focus first|rfl|(simp (disch:=omega) only [go_sem,decide_eq_true,decide_eq_false,if_pos,if_neg,Int.reduceAdd,Int.reduceSub,Int.reduceToNat,Int.zero_add];done)))|((with_reducible apply Zan (id:=99) (Zbi []) [] []);(focus kernel_rfl);(focus rfl);(focus kernel_rfl);(focus (simp only [List.length_cons,List.length_nil,Nat.reduceAdd];rfl)))|((with_reducible first|apply Zay|apply Za5|apply Zaz);all_goals (intro hc;(try simp only [bool_to_prop] at hc);try (exfalso;omega)))))
 intro _;refine⟨_,Frz.refl _ _,?_⟩
 (repeat' (first|(fail)|(with_reducible first|refine stp ?_|apply gx1|apply gx2|apply gx3|apply gx4|apply gx5|apply gx6|apply gx7|apply gy8|apply gz2|apply gz3)|(with_reducible refine Zbb ?_;intro _)|((with_reducible refine gE ?_);(try simp (disch:=omega) only [go_sem,decide_eq_true,decide_eq_false,if_pos,if_neg,Int.reduceAdd,Int.reduceSub,Int.reduceToNat,Int.zero_add])<;>first|rfl|omega)|with_reducible refine Zab (by decide) ?_|((with_reducible apply gy1);iterate 3 focus rfl)|((with_reducible apply gy2);iterate 3 focus rfl)|((with_reducible apply gy3);iterate 2 focus rfl)|((with_reducible apply gy4);iterate 1 focus rfl)|((with_reducible apply gy5);iterate 4 focus rfl)|((with_reducible apply gy5c);iterate 4 focus rfl)|((with_reducible apply gy6);iterate 4 focus rfl)|((with_reducible apply Zb8);iterate 3 focus rfl)|((with_reducible apply Zb6);iterate 1 focus rfl)|((with_reducible apply gy7);iterate 1 focus rfl)|((with_reducible apply gy9);(focus ((with_reducible refine gE ?_);(try simp (disch:=omega) only [go_sem,decide_eq_true,decide_eq_false,if_pos,if_neg,Int.reduceAdd,Int.reduceSub,Int.reduceToNat,Int.zero_add])<;>rfl)))|((with_reducible apply gz1);(focus first|rfl|(simp (disch:=omega) only [go_sem,decide_eq_true,decide_eq_false,if_pos,if_neg,Int.reduceAdd,Int.reduceSub,Int.reduceToNat,Int.zero_add];done)))|((with_reducible apply Zan (id:=99) (Zbi []) [] []);(focus kernel_rfl);(focus rfl);(focus kernel_rfl);(focus (simp only [List.length_cons,List.length_nil,Nat.reduceAdd];rfl)))|((with_reducible first|apply Zay|apply Za5|apply Zaz);all_goals (intro hc;(try simp only [bool_to_prop] at hc);try (exfalso;omega)))))
 refine Zr1 (Zx0 _ 177 178 (by omega) a1 a2 V0 V1 S c3) ?_;intro s1 s2
 (repeat' (first|(fail)|(with_reducible first|refine stp ?_|apply gx1|apply gx2|apply gx3|apply gx4|apply gx5|apply gx6|apply gx7|apply gy8|apply gz2|apply gz3)|(with_reducible refine Zbb ?_;intro _)|((with_reducible refine gE ?_);(try simp (disch:=omega) only [go_sem,decide_eq_true,decide_eq_false,if_pos,if_neg,Int.reduceAdd,Int.reduceSub,Int.reduceToNat,Int.zero_add])<;>first|rfl|omega)|with_reducible refine Zab (by decide) ?_|((with_reducible apply gy1);iterate 3 focus rfl)|((with_reducible apply gy2);iterate 3 focus rfl)|((with_reducible apply gy3);iterate 2 focus rfl)|((with_reducible apply gy4);iterate 1 focus rfl)|((with_reducible apply gy5);iterate 4 focus rfl)|((with_reducible apply gy5c);iterate 4 focus rfl)|((with_reducible apply gy6);iterate 4 focus rfl)|((with_reducible apply Zb8);iterate 3 focus rfl)|((with_reducible apply Zb6);iterate 1 focus rfl)|((with_reducible apply gy7);iterate 1 focus rfl)|((with_reducible apply gy9);(focus ((with_reducible refine gE ?_);(try simp (disch:=omega) only [go_sem,decide_eq_true,decide_eq_false,if_pos,if_neg,Int.reduceAdd,Int.reduceSub,Int.reduceToNat,Int.zero_add])<;>rfl)))|((with_reducible apply gz1);(focus first|rfl|(simp (disch:=omega) only [go_sem,decide_eq_true,decide_eq_false,if_pos,if_neg,Int.reduceAdd,Int.reduceSub,Int.reduceToNat,Int.zero_add];done)))|((with_reducible apply Zan (id:=99) (Zbi []) [] []);(focus kernel_rfl);(focus rfl);(focus kernel_rfl);(focus (simp only [List.length_cons,List.length_nil,Nat.reduceAdd];rfl)))|((with_reducible first|apply Zay|apply Za5|apply Zaz);all_goals (intro hc;(try simp only [bool_to_prop] at hc);try (exfalso;omega)))))
 refine⟨_,Frz.refl _ _,?_⟩;intro _;refine⟨_,Frz.refl _ _,?_⟩
 (repeat' (first|(fail)|(with_reducible first|refine stp ?_|apply gx1|apply gx2|apply gx3|apply gx4|apply gx5|apply gx6|apply gx7|apply gy8|apply gz2|apply gz3)|(with_reducible refine Zbb ?_;intro _)|((with_reducible refine gE ?_);(try simp (disch:=omega) only [go_sem,decide_eq_true,decide_eq_false,if_pos,if_neg,Int.reduceAdd,Int.reduceSub,Int.reduceToNat,Int.zero_add])<;>first|rfl|omega)|with_reducible refine Zab (by decide) ?_|((with_reducible apply gy1);iterate 3 focus rfl)|((with_reducible apply gy2);iterate 3 focus rfl)|((with_reducible apply gy3);iterate 2 focus rfl)|((with_reducible apply gy4);iterate 1 focus rfl)|((with_reducible apply gy5);iterate 4 focus rfl)|((with_reducible apply gy5c);iterate 4 focus rfl)|((with_reducible apply gy6);iterate 4 focus rfl)|((with_reducible apply Zb8);iterate 3 focus rfl)|((with_reducible apply Zb6);iterate 1 focus rfl)|((with_reducible apply gy7);iterate 1 focus rfl)|((with_reducible apply gy9);(focus ((with_reducible refine gE ?_);(try simp (disch:=omega) only [go_sem,decide_eq_true,decide_eq_false,if_pos,if_neg,Int.reduceAdd,Int.reduceSub,Int.reduceToNat,Int.zero_add])<;>rfl)))|((with_reducible apply gz1);(focus first|rfl|(simp (disch:=omega) only [go_sem,decide_eq_true,decide_eq_false,if_pos,if_neg,Int.reduceAdd,Int.reduceSub,Int.reduceToNat,Int.zero_add];done)))|((with_reducible apply Zan (id:=99) (Zbi []) [] []);(focus kernel_rfl);(focus rfl);(focus kernel_rfl);(focus (simp only [List.length_cons,List.length_nil,Nat.reduceAdd];rfl)))|((with_reducible first|apply Zay|apply Za5|apply Zaz);all_goals (intro hc;(try simp only [bool_to_prop] at hc);try (exfalso;omega)))))
 refine⟨_,Frz.refl _ _,?_⟩;refine Zkm ?_
 (repeat' (first|(fail)|(with_reducible first|refine stp ?_|apply gx1|apply gx2|apply gx3|apply gx4|apply gx5|apply gx6|apply gx7|apply gy8|apply gz2|apply gz3)|(with_reducible refine Zbb ?_;intro _)|((with_reducible refine gE ?_);(try simp (disch:=omega) only [go_sem,decide_eq_true,decide_eq_false,if_pos,if_neg,Int.reduceAdd,Int.reduceSub,Int.reduceToNat,Int.zero_add])<;>first|rfl|omega)|with_reducible refine Zab (by decide) ?_|((with_reducible apply gy1);iterate 3 focus rfl)|((with_reducible apply gy2);iterate 3 focus rfl)|((with_reducible apply gy3);iterate 2 focus rfl)|((with_reducible apply gy4);iterate 1 focus rfl)|((with_reducible apply gy5);iterate 4 focus rfl)|((with_reducible apply gy5c);iterate 4 focus rfl)|((with_reducible apply gy6);iterate 4 focus rfl)|((with_reducible apply Zb8);iterate 3 focus rfl)|((with_reducible apply Zb6);iterate 1 focus rfl)|((with_reducible apply gy7);iterate 1 focus rfl)|((with_reducible apply gy9);(focus ((with_reducible refine gE ?_);(try simp (disch:=omega) only [go_sem,decide_eq_true,decide_eq_false,if_pos,if_neg,Int.reduceAdd,Int.reduceSub,Int.reduceToNat,Int.zero_add])<;>rfl)))|((with_reducible apply gz1);(focus first|rfl|(simp (disch:=omega) only [go_sem,decide_eq_true,decide_eq_false,if_pos,if_neg,Int.reduceAdd,Int.reduceSub,Int.reduceToNat,Int.zero_add];done)))|((with_reducible apply Zan (id:=99) (Zbi []) [] []);(focus kernel_rfl);(focus rfl);(focus kernel_rfl);(focus (simp only [List.length_cons,List.length_nil,Nat.reduceAdd];rfl)))|((with_reducible first|apply Zay|apply Za5|apply Zaz);all_goals (intro hc;(try simp only [bool_to_prop] at hc);try (exfalso;omega)))))
 all_goals simp (disch:=omega) only [go_sem]
 refine Zpm (r:=.agg [.own K1 s1,.own K2 s2,.sl 4 V1]) 177 K1 178 K2 (by omega) (by omega) (by omega) h12 (sub3 (Sub.own _ _ _) (Sub.own _ _ _) (Sub.refl _)) ⟨s1,s2,rfl,rfl⟩ ?_ ?_ ?_
 ·simp (disch:=omega) only [Zaj,if_pos,if_neg,if_true]
 ·simp (disch:=omega) only [Zaj,if_pos,if_neg,if_true]
 ·intro k h1 h2 _;simp (disch:=omega) only [Zaj,if_pos,if_neg];exact hL k
theorem Zq0 (M GG:List AV) (i:Nat) (a0 a1 a2:Int) (V0 V1 S T1 T2 NB:List AV) (c1:Pure Tryz.prog 51 [iv a0,iv a1,iv a2] (.sl 4 V0)) (c2:Pure Tryz.prog 51 [iv a2,iv a1,iv a2] (.sl 4 V1)) (c3:Pure Tryz.prog 50 [.sl 4 V1,.sl 4 V0] (.sl 4 S))
 (c4:Pure Tryz.prog 54 [.sl 4 S] (.sl 4 T1)) (c5:Pure Tryz.prog 54 [.sl 4 V0] (.sl 4 T2)) (c6:Pure Tryz.prog 50 [.v (.slice none 0 0),.sl 4 V1] (.sl 4 NB)) :
 Pure Tryz.prog 110 [.agg [.sl 6 M,.sl 5 GG],iv i,.sl 1 [iv a0,iv a1,iv a2]] (.agg [.sl 1 [iv a1,iv a2,iv a0],.sl 1 [.sl 4 T1,.sl 4 T2,.sl 4 NB],.sl 4 V1]):=by
 refine Zaa (tok:=0) Tryz.func110 rfl Tryz.ntmps110 Tryz.results110 Tryz.call110 (by rfl) (by simp) ?_
 (repeat' (first|(fail)|(with_reducible first|refine stp ?_|apply gx1|apply gx2|apply gx3|apply gx4|apply gx5|apply gx6|apply gx7|apply gy8|apply gz2|apply gz3)|(with_reducible refine Zbb ?_;intro _)|((with_reducible refine gE ?_);(try simp (disch:=omega) only [go_sem,decide_eq_true,decide_eq_false,if_pos,if_neg,Int.reduceAdd,Int.reduceSub,Int.reduceToNat,Int.zero_add])<;>first|rfl|omega)|with_reducible refine Zab (by decide) ?_|((with_reducible apply gy1);iterate 3 focus rfl)|((with_reducible apply gy2);iterate 3 focus rfl)|((with_reducible apply gy3);iterate 2 focus rfl)|((with_reducible apply gy4);iterate 1 focus rfl)|((with_reducible apply gy5);iterate 4 focus rfl)|((with_reducible apply gy5c);iterate 4 focus rfl)|((with_reducible apply gy6);iterate 4 focus rfl)|((with_reducible apply Zb8);iterate 3 focus rfl)|((with_reducible apply Zb6);iterate 1 focus rfl)|((with_reducible apply gy7);iterate 1 focus rfl)|((with_reducible apply gy9);(focus ((with_reducible refine gE ?_);(try simp (disch:=omega) only [go_sem,decide_eq_true,decide_eq_false,if_pos,if_neg,Int.reduceAdd,Int.reduceSub,Int.reduceToNat,Int.zero_add])<;>rfl)))|((with_reducible apply gz1);(focus first|rfl|(simp (disch:=omega) only [go_sem,decide_eq_true,decide_eq_false,if_pos,if_neg,Int.reduceAdd,Int.reduceSub,Int.reduceToNat,Int.zero_add];done)))|((with_reducible apply Zan (id:=99) (Zbi []) [] []);(focus kernel_rfl);(focus rfl);(focus kernel_rfl);(focus (simp only [List.length_cons,List.length_nil,Nat.reduceAdd];rfl)))|((with_reducible first|apply Zay|apply Za5|apply Zaz);all_goals (intro hc;(try simp only [bool_to_prop] at hc);try (exfalso;omega)))))
 refine Zr1 (elFootAV _ 277 278 (by omega) M GG i a0 a1 a2 V0 V1 S c1 c2 c3) ?_;intro s1 s2
 (repeat' (first|(fail)|(with_reducible first|refine stp ?_|apply gx1|apply gx2|apply gx3|apply gx4|apply gx5|apply gx6|apply gx7|apply gy8|apply gz2|apply gz3)|(with_reducible refine Zbb ?_;intro _)|((with_reducible refine gE ?_);(try simp (disch:=omega) only [go_sem,decide_eq_true,decide_eq_false,if_pos,if_neg,Int.reduceAdd,Int.reduceSub,Int.reduceToNat,Int.zero_add])<;>first|rfl|omega)|with_reducible refine Zab (by decide) ?_|((with_reducible apply gy1);iterate 3 focus rfl)|((with_reducible apply gy2);iterate 3 focus rfl)|((with_reducible apply gy3);iterate 2 focus rfl)|((with_reducible apply gy4);iterate 1 focus rfl)|((with_reducible apply gy5);iterate 4 focus rfl)|((with_reducible apply gy5c);iterate 4 focus rfl)|((with_reducible apply gy6);iterate 4 focus rfl)|((with_reducible apply Zb8);iterate 3 focus rfl)|((with_reducible apply Zb6);iterate 1 focus rfl)|((with_reducible apply gy7);iterate 1 focus rfl)|((with_reducible apply gy9);(focus ((with_reducible refine gE ?_);(try simp (disch:=omega) only [go_sem,decide_eq_true,decide_eq_false,if_pos,if_neg,Int.reduceAdd,Int.reduceSub,Int.reduceToNat,Int.zero_add])<;>rfl)))|((with_reducible apply gz1);(focus first|rfl|(simp (disch:=omega) only [go_sem,decide_eq_true,decide_eq_false,if_pos,if_neg,Int.reduceAdd,Int.reduceSub,Int.reduceToNat,Int.zero_add];done)))|((with_reducible apply Zan (id:=99) (Zbi []) [] []);(focus kernel_rfl);(focus rfl);(focus kernel_rfl);(focus (simp only [List.length_cons,List.length_nil,Nat.reduceAdd];rfl)))|((with_reducible first|apply Zay|apply Za5|apply Zaz);all_goals (intro hc;(try simp only [bool_to_prop] at hc);try (exfalso;omega)))))
 refine Zp8 6 (Zbi []) [] [] (by simp only [List.take_succ_cons,List.take_zero];rfl) (by simp only [List.drop_succ_cons,List.drop_zero];rfl) (by kernel_rfl) (by rfl) (by kernel_rfl) (by kernel_rfl) (by simp only [List.length_cons,List.length_nil,Nat.reduceAdd];rfl) ?_
 (repeat' (first|(fail)|(with_reducible first|refine stp ?_|apply gx1|apply gx2|apply gx3|apply gx4|apply gx5|apply gx6|apply gx7|apply gy8|apply gz2|apply gz3)|(with_reducible refine Zbb ?_;intro _)|((with_reducible refine gE ?_);(try simp (disch:=omega) only [go_sem,decide_eq_true,decide_eq_false,if_pos,if_neg,Int.reduceAdd,Int.reduceSub,Int.reduceToNat,Int.zero_add])<;>first|rfl|omega)|with_reducible refine Zab (by decide) ?_|((with_reducible apply gy1);iterate 3 focus rfl)|((with_reducible apply gy2);iterate 3 focus rfl)|((with_reducible apply gy3);iterate 2 focus rfl)|((with_reducible apply gy4);iterate 1 focus rfl)|((with_reducible apply gy5);iterate 4 focus rfl)|((with_reducible apply gy5c);iterate 4 focus rfl)|((with_reducible apply gy6);iterate 4 focus rfl)|((with_reducible apply Zb8);iterate 3 focus rfl)|((with_reducible apply Zb6);iterate 1 focus rfl)|((with_reducible apply gy7);iterate 1 focus rfl)|((with_reducible apply gy9);(focus ((with_reducible refine gE ?_);(try simp (disch:=omega) only [go_sem,decide_eq_true,decide_eq_false,if_pos,if_neg,Int.reduceAdd,Int.reduceSub,Int.reduceToNat,Int.zero_add])<;>rfl)))|((with_reducible apply gz1);(focus first|rfl|(simp (disch:=omega) only [go_sem,decide_eq_true,decide_eq_false,if_pos,if_neg,Int.reduceAdd,Int.reduceSub,Int.reduceToNat,Int.zero_add];done)))|((with_reducible apply Zan (id:=99) (Zbi []) [] []);(focus kernel_rfl);(focus rfl);(focus kernel_rfl);(focus (simp only [List.length_cons,List.length_nil,Nat.reduceAdd];rfl)))|((with_reducible first|apply Zay|apply Za5|apply Zaz);all_goals (intro hc;(try simp only [bool_to_prop] at hc);try (exfalso;omega)))))
 intro _;refine⟨_,Frz.refl _ _,?_⟩
 (repeat' (first|(fail)|(with_reducible first|refine stp ?_|apply gx1|apply gx2|apply gx3|apply gx4|apply gx5|apply gx6|apply gx7|apply gy8|apply gz2|apply gz3)|(with_reducible refine Zbb ?_;intro _)|((with_reducible refine gE ?_);(try simp (disch:=omega) only [go_sem,decide_eq_true,decide_eq_false,if_pos,if_neg,Int.reduceAdd,Int.reduceSub,Int.reduceToNat,Int.zero_add])<;>first|rfl|omega)|with_reducible refine Zab (by decide) ?_|((with_reducible apply gy1);iterate 3 focus rfl)|((with_reducible apply gy2);iterate 3 focus rfl)|((with_reducible apply gy3);iterate 2 focus rfl)|((with_reducible apply gy4);iterate 1 focus rfl)|((with_reducible apply gy5);iterate 4 focus rfl)|((with_reducible apply gy5c);iterate 4 focus rfl)|((with_reducible apply gy6);iterate 4 focus rfl)|((with_reducible apply Zb8);iterate 3 focus rfl)|((with_reducible apply Zb6);iterate 1 focus rfl)|((with_reducible apply gy7);iterate 1 focus rfl)|((with_reducible apply gy9);(focus ((with_reducible refine gE ?_);(try simp (disch:=omega) only [go_sem,decide_eq_true,decide_eq_false,if_pos,if_neg,Int.reduceAdd,Int.reduceSub,Int.reduceToNat,Int.zero_add])<;>rfl)))|((with_reducible apply gz1);(focus first|rfl|(simp (disch:=omega) only [go_sem,decide_eq_true,decide_eq_false,if_pos,if_neg,Int.reduceAdd,Int.reduceSub,Int.reduceToNat,Int.zero_add];done)))|((with_reducible apply Zan (id:=99) (Zbi []) [] []);(focus kernel_rfl);(focus rfl);(focus kernel_rfl);(focus (simp only [List.length_cons,List.length_nil,Nat.reduceAdd];rfl)))|((with_reducible first|apply Zay|apply Za5|apply Zaz);all_goals (intro hc;(try simp only [bool_to_prop] at hc);try (exfalso;omega)))))
 refine⟨_,Frz.refl _ _,?_⟩;intro _;refine⟨_,Frz.refl _ _,?_⟩
 (repeat' (first|(fail)|(with_reducible first|refine stp ?_|apply gx1|apply gx2|apply gx3|apply gx4|apply gx5|apply gx6|apply gx7|apply gy8|apply gz2|apply gz3)|(with_reducible refine Zbb ?_;intro _)|((with_reducible refine gE ?_);(try simp (disch:=omega) only [go_sem,decide_eq_true,decide_eq_false,if_pos,if_neg,Int.reduceAdd,Int.reduceSub,Int.reduceToNat,Int.zero_add])<;>first|rfl|omega)|with_reducible refine Zab (by decide) ?_|((with_reducible apply gy1);iterate 3 focus rfl)|((with_reducible apply gy2);iterate 3 focus rfl)|((with_reducible apply gy3);iterate 2 focus rfl)|((with_reducible apply gy4);iterate 1 focus rfl)|((with_reducible apply gy5);iterate 4 focus rfl)|((with_reducible apply gy5c);iterate 4 focus rfl)|((with_reducible apply gy6);iterate 4 focus rfl)|((with_reducible apply Zb8);iterate 3 focus rfl)|((with_reducible apply Zb6);iterate 1 focus rfl)|((with_reducible apply gy7);iterate 1 focus rfl)|((with_reducible apply gy9);(focus ((with_reducible refine gE ?_);(try simp (disch:=omega) only [go_sem,decide_eq_true,decide_eq_false,if_pos,if_neg,Int.reduceAdd,Int.reduceSub,Int.reduceToNat,Int.zero_add])<;>rfl)))|((with_reducible apply gz1);(focus first|rfl|(simp (disch:=omega) only [go_sem,decide_eq_true,decide_eq_false,if_pos,if_neg,Int.reduceAdd,Int.reduceSub,Int.reduceToNat,Int.zero_add];done)))|((with_reducible apply Zan (id:=99) (Zbi []) [] []);(focus kernel_rfl);(focus rfl);(focus kernel_rfl);(focus (simp only [List.length_cons,List.length_nil,Nat.reduceAdd];rfl)))|((with_reducible first|apply Zay|apply Za5|apply Zaz);all_goals (intro hc;(try simp only [bool_to_prop] at hc);try (exfalso;omega)))))
 refine⟨_,Frz.refl _ _,?_⟩;intro _;refine⟨_,Frz.refl _ _,?_⟩
 (repeat' (first|(fail)|(with_reducible first|refine stp ?_|apply gx1|apply gx2|apply gx3|apply gx4|apply gx5|apply gx6|apply gx7|apply gy8|apply gz2|apply gz3)|(with_reducible refine Zbb ?_;intro _)|((with_reducible refine gE ?_);(try simp (disch:=omega) only [go_sem,decide_eq_true,decide_eq_false,if_pos,if_neg,Int.reduceAdd,Int.reduceSub,Int.reduceToNat,Int.zero_add])<;>first|rfl|omega)|with_reducible refine Zab (by decide) ?_|((with_reducible apply gy1);iterate 3 focus rfl)|((with_reducible apply gy2);iterate 3 focus rfl)|((with_reducible apply gy3);iterate 2 focus rfl)|((with_reducible apply gy4);iterate 1 focus rfl)|((with_reducible apply gy5);iterate 4 focus rfl)|((with_reducible apply gy5c);iterate 4 focus rfl)|((with_reducible apply gy6);iterate 4 focus rfl)|((with_reducible apply Zb8);iterate 3 focus rfl)|((with_reducible apply Zb6);iterate 1 focus rfl)|((with_reducible apply gy7);iterate 1 focus rfl)|((with_reducible apply gy9);(focus ((with_reducible refine gE ?_);(try simp (disch:=omega) only [go_sem,decide_eq_true,decide_eq_false,if_pos,if_neg,Int.reduceAdd,Int.reduceSub,Int.reduceToNat,Int.zero_add])<;>rfl)))|((with_reducible apply gz1);(focus first|rfl|(simp (disch:=omega) only [go_sem,decide_eq_true,decide_eq_false,if_pos,if_neg,Int.reduceAdd,Int.reduceSub,Int.reduceToNat,Int.zero_add];done)))|((with_reducible apply Zan (id:=99) (Zbi []) [] []);(focus kernel_rfl);(focus rfl);(focus kernel_rfl);(focus (simp only [List.length_cons,List.length_nil,Nat.reduceAdd];rfl)))|((with_reducible first|apply Zay|apply Za5|apply Zaz);all_goals (intro hc;(try simp only [bool_to_prop] at hc);try (exfalso;omega)))))
 refine⟨_,Frz.refl _ _,?_⟩;refine Zkm ?_
 (repeat' (first|(fail)|(with_reducible first|refine stp ?_|apply gx1|apply gx2|apply gx3|apply gx4|apply gx5|apply gx6|apply gx7|apply gy8|apply gz2|apply gz3)|(with_reducible refine Zbb ?_;intro _)|((with_reducible refine gE ?_);(try simp (disch:=omega) only [go_sem,decide_eq_true,decide_eq_false,if_pos,if_neg,Int.reduceAdd,Int.reduceSub,Int.reduceToNat,Int.zero_add])<;>first|rfl|omega)|with_reducible refine Zab (by decide) ?_|((with_reducible apply gy1);iterate 3 focus rfl)|((with_reducible apply gy2);iterate 3 focus rfl)|((with_reducible apply gy3);iterate 2 focus rfl)|((with_reducible apply gy4);iterate 1 focus rfl)|((with_reducible apply gy5);iterate 4 focus rfl)|((with_reducible apply gy5c);iterate 4 focus rfl)|((with_reducible apply gy6);iterate 4 focus rfl)|((with_reducible apply Zb8);iterate 3 focus rfl)|((with_reducible apply Zb6);iterate 1 focus rfl)|((with_reducible apply gy7);iterate 1 focus rfl)|((with_reducible apply gy9);(focus ((with_reducible refine gE ?_);(try simp (disch:=omega) only [go_sem,decide_eq_true,decide_eq_false,if_pos,if_neg,Int.reduceAdd,Int.reduceSub,Int.reduceToNat,Int.zero_add])<;>rfl)))|((with_reducible apply gz1);(focus first|rfl|(simp (disch:=omega) only [go_sem,decide_eq_true,decide_eq_false,if_pos,if_neg,Int.reduceAdd,Int.reduceSub,Int.reduceToNat,Int.zero_add];done)))|((with_reducible apply Zan (id:=99) (Zbi []) [] []);(focus kernel_rfl);(focus rfl);(focus kernel_rfl);(focus (simp only [List.length_cons,List.length_nil,Nat.reduceAdd];rfl)))|((with_reducible first|apply Zay|apply Za5|apply Zaz);all_goals (intro hc;(try simp only [bool_to_prop] at hc);try (exfalso;omega)))))
 refine Zp8 14 (Zbi [(4,.sl 4 T1),(9,.sl 4 T2),(12,.sl 4 NB)]) [] [] (by simp only [List.take_succ_cons,List.take_zero];rfl) (by simp only [List.drop_succ_cons,List.drop_zero];rfl) (by kernel_rfl) (by rfl) (by kernel_rfl) (by kernel_rfl) (by simp only [List.length_cons,List.length_nil,Nat.reduceAdd];rfl) ?_
 (repeat' (first|(fail)|(with_reducible first|refine stp ?_|apply gx1|apply gx2|apply gx3|apply gx4|apply gx5|apply gx6|apply gx7|apply gy8|apply gz2|apply gz3|refine gw0 (c4) ?_ ?_|refine gw3 (c4) ?_ ?_ ?_|refine gw0 (c5) ?_ ?_|refine gw3 (c5) ?_ ?_ ?_|refine gw0 (c6) ?_ ?_|refine gw3 (c6) ?_ ?_ ?_)|(with_reducible refine Zbb ?_;intro _)|((with_reducible refine gE ?_);(try simp (disch:=omega) only [go_sem,decide_eq_true,decide_eq_false,if_pos,if_neg,Int.reduceAdd,Int.reduceSub,Int.reduceToNat,Int.zero_add])<;>first|rfl|omega)|with_reducible refine Zab (by decide) ?_|((with_reducible apply gy1);iterate 3 focus rfl)|((with_reducible apply gy2);iterate 3 focus rfl)|((with_reducible apply gy3);iterate 2 focus rfl)|((with_reducible apply gy4);iterate 1 focus rfl)|((with_reducible apply gy5);iterate 4 focus rfl)|((with_reducible apply gy5c);iterate 4 focus rfl)|((with_reducible apply gy6);iterate 4 focus rfl)|((with_reducible apply Zb8);iterate 3 focus rfl)|((with_reducible apply Zb6);iterate 1 focus rfl)|((with_reducible apply gy7);iterate 1 focus rfl)|((with_reducible apply gy9);(focus ((with_reducible refine gE ?_);(try simp (disch:=omega) only [go_sem,decide_eq_true,decide_eq_false,if_pos,if_neg,Int.reduceAdd,Int.reduceSub,Int.reduceToNat,Int.zero_add])<;>rfl)))|((with_reducible apply gz1);(focus first|rfl|(simp (disch:=omega) only [go_sem,decide_eq_true,decide_eq_false,if_pos,if_neg,Int.reduceAdd,Int.reduceSub,Int.reduceToNat,Int.zero_add];done)))|((with_reducible apply Zan (id:=99) (Zbi []) [] []);(focus kernel_rfl);(focus rfl);(focus kernel_rfl);(focus (simp only [List.length_cons,List.length_nil,Nat.reduceAdd];rfl)))|((with_reducible first|apply Zay|apply Za5|apply Zaz);all_goals (intro hc;(try simp only [bool_to_prop] at hc);try (exfalso;omega)))))
 intro _;refine⟨_,Frz.refl _ _,?_⟩
 (repeat' (first|(fail)|(with_reducible first|refine stp ?_|apply gx1|apply gx2|apply gx3|apply gx4|apply gx5|apply gx6|apply gx7|apply gy8|apply gz2|apply gz3)|(with_reducible refine Zbb ?_;intro _)|((with_reducible refine gE ?_);(try simp (disch:=omega) only [go_sem,decide_eq_true,decide_eq_false,if_pos,if_neg,Int.reduceAdd,Int.reduceSub,Int.reduceToNat,Int.zero_add])<;>first|rfl|omega)|with_reducible refine Zab (by decide) ?_|((with_reducible apply gy1);iterate 3 focus rfl)|((with_reducible apply gy2);iterate 3 focus rfl)|((with_reducible apply gy3);iterate 2 focus rfl)|((with_reducible apply gy4);iterate 1 focus rfl)|((with_reducible apply gy5);iterate 4 focus rfl)|((with_reducible apply gy5c);iterate 4 focus rfl)|((with_reducible apply gy6);iterate 4 focus rfl)|((with_reducible apply Zb8);iterate 3 focus rfl)|((with_reducible apply Zb6);iterate 1 focus rfl)|((with_reducible apply gy7);iterate 1 focus rfl)|((with_reducible apply gy9);(focus ((with_reducible refine gE ?_);(try simp (disch:=omega) only [go_sem,decide_eq_true,decide_eq_false,if_pos,if_neg,Int.reduceAdd,Int.reduceSub,Int.reduceToNat,Int.zero_add])<;>rfl)))|((with_reducible apply gz1);(focus first|rfl|(simp (disch:=omega) only [go_sem,decide_eq_true,decide_eq_false,if_pos,if_neg,Int.reduceAdd,Int.reduceSub,Int.reduceToNat,Int.zero_add];done)))|((with_reducible apply Zan (id:=99) (Zbi []) [] []);(focus kernel_rfl);(focus rfl);(focus kernel_rfl);(focus (simp only [List.length_cons,List.length_nil,Nat.reduceAdd];rfl)))|((with_reducible first|apply Zay|apply Za5|apply Zaz);all_goals (intro hc;(try simp only [bool_to_prop] at hc);try (exfalso;omega)))))
 refine⟨_,Frz.refl _ _,?_⟩;intro _;refine⟨_,Frz.refl _ _,?_⟩
 (repeat' (first|(fail)|(with_reducible first|refine stp ?_|apply gx1|apply gx2|apply gx3|apply gx4|apply gx5|apply gx6|apply gx7|apply gy8|apply gz2|apply gz3)|(with_reducible refine Zbb ?_;intro _)|((with_reducible refine gE ?_);(try simp (disch:=omega) only [go_sem,decide_eq_true,decide_eq_false,if_pos,if_neg,Int.reduceAdd,Int.reduceSub,Int.reduceToNat,Int.zero_add])<;>first|rfl|omega)|with_reducible refine Zab (by decide) ?_|((with_reducible apply gy1);iterate 3 focus rfl)|((with_reducible apply gy2);iterate 3 focus rfl)|((with_reducible apply gy3);iterate 2 focus rfl)|((with_reducible apply gy4);iterate 1 focus rfl)|((with_reducible apply gy5);iterate 4 focus rfl)|((with_reducible apply gy5c);iterate 4 focus rfl)|((with_reducible apply gy6);iterate 4 focus rfl)|((with_reducible apply Zb8);iterate 3 focus rfl)|((with_reducible apply Zb6);iterate 1 focus rfl)|((with_reducible apply gy7);iterate 1 focus rfl)|((with_reducible apply gy9);(focus ((with_reducible refine gE ?_);(try simp (disch:=omega) only [go_sem,decide_eq_true,decide_eq_false,if_pos,if_neg,Int.reduceAdd,Int.reduceSub,Int.reduceToNat,Int.zero_add])<;>rfl)))|((with_reducible apply gz1);(focus first|rfl|(simp (disch:=omega) only [go_sem,decide_eq_true,decide_eq_false,if_pos,if_neg,Int.reduceAdd,Int.reduceSub,Int.reduceToNat,Int.zero_add];done)))|((with_reducible apply Zan (id:=99) (Zbi []) [] []);(focus kernel_rfl);(focus rfl);(focus kernel_rfl);(focus (simp only [List.length_cons,List.length_nil,Nat.reduceAdd];rfl)))|((with_reducible first|apply Zay|apply Za5|apply Zaz);all_goals (intro hc;(try simp only [bool_to_prop] at hc);try (exfalso;omega)))))
 refine⟨_,Frz.refl _ _,?_⟩;refine Zkm ?_
 (repeat' (first|(fail)|(with_reducible first|refine stp ?_|apply gx1|apply gx2|apply gx3|apply gx4|apply gx5|apply gx6|apply gx7|apply gy8|apply gz2|apply gz3)|(with_reducible refine Zbb ?_;intro _)|((with_reducible refine gE ?_);(try simp (disch:=omega) only [go_sem,decide_eq_true,decide_eq_false,if_pos,if_neg,Int.reduceAdd,Int.reduceSub,Int.reduceToNat,Int.zero_add])<;>first|rfl|omega)|with_reducible refine Zab (by decide) ?_|((with_reducible apply gy1);iterate 3 focus rfl)|((with_reducible apply gy2);iterate 3 focus rfl)|((with_reducible apply gy3);iterate 2 focus rfl)|((with_reducible apply gy4);iterate 1 focus rfl)|((with_reducible apply gy5);iterate 4 focus rfl)|((with_reducible apply gy5c);iterate 4 focus rfl)|((with_reducible apply gy6);iterate 4 focus rfl)|((with_reducible apply Zb8);iterate 3 focus rfl)|((with_reducible apply Zb6);iterate 1 focus rfl)|((with_reducible apply gy7);iterate 1 focus rfl)|((with_reducible apply gy9);(focus ((with_reducible refine gE ?_);(try simp (disch:=omega) only [go_sem,decide_eq_true,decide_eq_false,if_pos,if_neg,Int.reduceAdd,Int.reduceSub,Int.reduceToNat,Int.zero_add])<;>rfl)))|((with_reducible apply gz1);(focus first|rfl|(simp (disch:=omega) only [go_sem,decide_eq_true,decide_eq_false,if_pos,if_neg,Int.reduceAdd,Int.reduceSub,Int.reduceToNat,Int.zero_add];done)))|((with_reducible apply Zan (id:=99) (Zbi []) [] []);(focus kernel_rfl);(focus rfl);(focus kernel_rfl);(focus (simp only [List.length_cons,List.length_nil,Nat.reduceAdd];rfl)))|((with_reducible first|apply Zay|apply Za5|apply Zaz);all_goals (intro hc;(try simp only [bool_to_prop] at hc);try (exfalso;omega)))))
 all_goals exact gL
theorem Zt5 (M GG:List AV) (i:Nat) (a0 a1 a2:Int) (h0:0≤a0∧a0 < 40) (h1:0≤a1∧a1 < 40) (h2:0≤a2∧a2 < 40):Pure Tryz.prog 110 [.agg [.sl 6 M,.sl 5 GG],iv i,.sl 1 [iv a0,iv a1,iv a2]] (.agg [.sl 1 [iv a1,iv a2,iv a0],.sl 1 [qpA (twX (subX (pX a2 a1 a2) (pX a0 a1 a2))),qpA (twX (pX a0 a1 a2)),qpA (subX ([]) (pX a2 a1 a2))],qpA (pX a2 a1 a2)]):=by
 have x0:=Zba (Zak (.inr rfl) h0 h1 h2);have x1:=Zba (Zak (.inr rfl) h2 h1 h2);have x2:=x1.sub x0;exact Zq0 M GG i a0 a1 a2 _ _ _ _ _ _ (Zdl _ _ _ (Zak (.inr rfl) h0 h1 h2)) (Zdl _ _ _ (Zak (.inr rfl) h2 h1 h2)) (Zie x1.s x0.s) (Zt0 x2) (Zt0 x0) (Zg5 (Zie XL.nil.s x1.s) (.cons (.nil 4) (.cons (.refl _) .nil)))
theorem nilAdd {p:QTs} (h:XS p):Pure Tryz.prog 52 [.v (.slice none 0 0),qpA p] (qpA p):=by
 have c:=Zi9 XL.nil.s h;have e:Zav [] p=p:=by cases p<;>simp [addP]
 rw [e] at c;exact Zg5 c (.cons (.nil 4) (.cons (.refl _) .nil))
theorem Zx4 (M GG:List AV) (i:Nat) (a0 a1 a2:Int) (V0 V1 V2 V3 V4 V5 V6 V7 V8 V9 V10:List AV) (c1:Pure Tryz.prog 51 [iv a1,iv a2,iv a1] (.sl 4 V0)) (c2:Pure Tryz.prog 51 [iv a1,iv a0,iv a2] (.sl 4 V1)) (c3:Pure Tryz.prog 25 [.sl 4 V0,.sl 4 V1] (.sl 4 V2)) (c4:Pure Tryz.prog 51 [iv a2,iv a0,iv a2] (.sl 4 V3)) (c5:Pure Tryz.prog 51 [iv a2,iv a1,iv a0] (.sl 4 V4)) (c6:Pure Tryz.prog 25 [.sl 4 V3,.sl 4 V4] (.sl 4 V5)) (c7:Pure Tryz.prog 51 [iv a0,iv a1,iv a0] (.sl 4 V6)) (c8:Pure Tryz.prog 51 [iv a0,iv a2,iv a1] (.sl 4 V7)) (c9:Pure Tryz.prog 25 [.sl 4 V6,.sl 4 V7] (.sl 4 V8)) (c10:Pure Tryz.prog 52 [.v (.slice none 0 0),.sl 4 V2] (.sl 4 V2)) (c11:Pure Tryz.prog 52 [.sl 4 V2,.sl 4 V5] (.sl 4 V9)) (c12:Pure Tryz.prog 52 [.sl 4 V9,.sl 4 V8] (.sl 4 V10)):Pure Tryz.prog 112 [.agg [.sl 6 M,.sl 5 GG],iv i,.sl 1 [iv a0,iv a1,iv a2]] (.agg [.sl 1 [iv a0,iv a1,iv a2],.sl 1 [.sl 4 V2,.sl 4 V5,.sl 4 V8],.sl 4 V10]):=by
 have t1:Int.tmod 1 3=1:=rfl;have t2:Int.tmod 2 3=2:=rfl;have t3:Int.tmod 3 3=0:=rfl;have t4:Int.tmod 4 3=1:=rfl;refine Zaa (tok:=0) Tryz.func112 rfl Tryz.ntmps112 Tryz.results112 Tryz.call112 (by rfl) (by simp) ?_;(focus (refine wkax (w_4 t1 t2 t3 t4) (w_12 c1 c2 c3 c4 c5 c6 c7 c8 c9 c10 c11 c12) w_t w_t w_t w_t (w_r 4) ?_;(repeat' first|exact w_t|apply w_l);all_goals intros));all_goals exact gL
theorem elCenter (M GG:List AV) (i:Nat) (a0 a1 a2:Int) (h0:0≤a0∧a0 < 40) (h1:0≤a1∧a1 < 40) (h2:0≤a2∧a2 < 40):Pure Tryz.prog 112 [.agg [.sl 6 M,.sl 5 GG],iv i,.sl 1 [iv a0,iv a1,iv a2]] (.agg [.sl 1 [iv a0,iv a1,iv a2],.sl 1 [qpA (mulX (pX a1 a2 a1) (pX a1 a0 a2)),qpA (mulX (pX a2 a0 a2) (pX a2 a1 a0)),qpA (mulX (pX a0 a1 a0) (pX a0 a2 a1))],qpA (Zav (Zav (mulX (pX a1 a2 a1) (pX a1 a0 a2)) (mulX (pX a2 a0 a2) (pX a2 a1 a0))) (mulX (pX a0 a1 a0) (pX a0 a2 a1)))]):=by
 have x0:=Zba (Zak (.inr rfl) h1 h2 h1);have x1:=Zba (Zak (.inr rfl) h1 h0 h2);have x2:=Zba (Zak (.inr rfl) h2 h0 h2);have x3:=Zba (Zak (.inr rfl) h2 h1 h0);have x4:=Zba (Zak (.inr rfl) h0 h1 h0);have x5:=Zba (Zak (.inr rfl) h0 h2 h1);have x6:=x0.mul x1;have x7:=x2.mul x3;have x8:=x6.add x7;have x9:=x4.mul x5;exact Zx4 M GG i a0 a1 a2 _ _ _ _ _ _ _ _ _ _ _ (Zdl _ _ _ (Zak (.inr rfl) h1 h2 h1)) (Zdl _ _ _ (Zak (.inr rfl) h1 h0 h2)) (Zxp x0 x1) (Zdl _ _ _ (Zak (.inr rfl) h2 h0 h2)) (Zdl _ _ _ (Zak (.inr rfl) h2 h1 h0)) (Zxp x2 x3) (Zdl _ _ _ (Zak (.inr rfl) h0 h1 h0)) (Zdl _ _ _ (Zak (.inr rfl) h0 h2 h1)) (Zxp x4 x5) (nilAdd (x6.s)) (Zi9 (x6.s) (x7.s)) (Zi9 (x8.s) (x9.s))
theorem Zvx (a0 a1 a2:Int) (V0 V1 V2 V3 V4 V5 V6 V7 V8 V9 V10:List AV) (c1:Pure Tryz.prog 71 [iv a1,iv a2,iv a1] (.sl 4 V0)) (c2:Pure Tryz.prog 71 [iv a1,iv a0,iv a2] (.sl 4 V1)) (c3:Pure Tryz.prog 74 [.sl 4 V0,.sl 4 V1] (.sl 4 V2)) (c4:Pure Tryz.prog 71 [iv a2,iv a0,iv a2] (.sl 4 V3)) (c5:Pure Tryz.prog 71 [iv a2,iv a1,iv a0] (.sl 4 V4)) (c6:Pure Tryz.prog 74 [.sl 4 V3,.sl 4 V4] (.sl 4 V5)) (c7:Pure Tryz.prog 71 [iv a0,iv a1,iv a0] (.sl 4 V6)) (c8:Pure Tryz.prog 71 [iv a0,iv a2,iv a1] (.sl 4 V7)) (c9:Pure Tryz.prog 74 [.sl 4 V6,.sl 4 V7] (.sl 4 V8)) (c10:Pure Tryz.prog 73 [.sl 4 V2,.sl 4 V5] (.sl 4 V9)) (c11:Pure Tryz.prog 73 [.sl 4 V9,.sl 4 V8] (.sl 4 V10)):Pure Tryz.prog 85 [.sl 1 [iv a0,iv a1,iv a2]] (.tup [.sl 1 [iv a0,iv a1,iv a2],.sl 1 [.sl 4 V2,.sl 4 V5,.sl 4 V8],.sl 4 V10,iv 0]):=by
 refine Zaa (tok:=0) Tryz.func85 rfl Tryz.ntmps85 Tryz.results85 Tryz.call85 (by rfl) (by simp) ?_
 (repeat' (first|(fail)|(with_reducible first|refine stp ?_|apply gx1|apply gx2|apply gx3|apply gx4|apply gx5|apply gx6|apply gx7|apply gy8|apply gz2|apply gz3)|(with_reducible refine Zbb ?_;intro _)|((with_reducible refine gE ?_);(try simp (disch:=omega) only [go_sem])<;>first|rfl|omega)|with_reducible refine Zab (by decide) ?_|((with_reducible apply gy1);iterate 3 focus rfl)|((with_reducible apply gy2);iterate 3 focus rfl)|((with_reducible apply gy3);iterate 2 focus rfl)|((with_reducible apply gy4);iterate 1 focus rfl)|((with_reducible apply gy5);iterate 4 focus rfl)|((with_reducible apply gy5c);iterate 4 focus rfl)|((with_reducible apply gy6);iterate 4 focus rfl)|((with_reducible apply Zb8);iterate 3 focus rfl)|((with_reducible apply Zb6);iterate 1 focus rfl)|((with_reducible apply gy7);iterate 1 focus rfl)|((with_reducible apply gy9);(focus ((with_reducible refine gE ?_);(try simp (disch:=omega) only [go_sem])<;>rfl)))|((with_reducible apply gz1);(focus first|rfl|(simp (disch:=omega) only [go_sem];done)))|((with_reducible apply Zan (Zbi []) [] []);(focus kernel_rfl);(focus rfl);(focus kernel_rfl);(focus (simp only [List.length_cons,List.length_nil,Nat.reduceAdd];rfl)))))
 apply Zan (N:=65) (Zbi [(9,.sl 4 V0),(19,.sl 4 V1),(20,.sl 4 V2),(30,.sl 4 V3),(40,.sl 4 V4),(41,.sl 4 V5),(51,.sl 4 V6),(61,.sl 4 V7),(62,.sl 4 V8)]) [] []
 ·kernel_rfl
 ·rfl
 ·kernel_rfl
 ·rfl
 (focus (refine wkax w_t (w_11 c1 c2 c3 c4 c5 c6 c7 c8 c9 c10 c11) (w_1 (w_d 2 [(8,.sl 4 V9),(12,.sl 4 V10)] [] [])) w_t w_t w_t (w_r 0) ?_;(repeat' first|exact w_t|apply w_l);all_goals intros));all_goals exact gL
theorem rlCenter (a0 a1 a2:Int) (h0:0≤a0∧a0 < 40) (h1:0≤a1∧a1 < 40) (h2:0≤a2∧a2 < 40):Pure Tryz.prog 85 [.sl 1 [iv a0,iv a1,iv a2]] (.tup [.sl 1 [iv a0,iv a1,iv a2],.sl 1 [qpA (mulX (pX a1 a2 a1) (pX a1 a0 a2)),qpA (mulX (pX a2 a0 a2) (pX a2 a1 a0)),qpA (mulX (pX a0 a1 a0) (pX a0 a2 a1))],qpA (Zav (Zav (mulX (pX a1 a2 a1) (pX a1 a0 a2)) (mulX (pX a2 a0 a2) (pX a2 a1 a0))) (mulX (pX a0 a1 a0) (pX a0 a2 a1))),iv 0]):=by
 have x0:=Zba (Zak (.inr rfl) h1 h2 h1);have x1:=Zba (Zak (.inr rfl) h1 h0 h2);have x2:=Zba (Zak (.inr rfl) h2 h0 h2);have x3:=Zba (Zak (.inr rfl) h2 h1 h0);have x4:=Zba (Zak (.inr rfl) h0 h1 h0);have x5:=Zba (Zak (.inr rfl) h0 h2 h1);have x6:=x0.mul x1;have x7:=x2.mul x3;have x8:=x6.add x7;have x9:=x4.mul x5;exact Zvx a0 a1 a2 _ _ _ _ _ _ _ _ _ _ _ (Zc7 _ _ _ (Zak (.inr rfl) h1 h2 h1)) (Zc7 _ _ _ (Zak (.inr rfl) h1 h0 h2)) (Zgi (x0.s) (x1.s)) (Zc7 _ _ _ (Zak (.inr rfl) h2 h0 h2)) (Zc7 _ _ _ (Zak (.inr rfl) h2 h1 h0)) (Zgi (x2.s) (x3.s)) (Zc7 _ _ _ (Zak (.inr rfl) h0 h1 h0)) (Zc7 _ _ _ (Zak (.inr rfl) h0 h2 h1)) (Zgi (x4.s) (x5.s)) (Zj6 (x6.s) (x7.s)) (Zj6 (x8.s) (x9.s))
theorem Zvt (M GG:List AV) (i:Nat) (nm:ByteArray) (rb:Bool) (rn rd:List Nat) (a0 a1:Int) (V0 V1 V2:List AV) (hi:i < M.length) (hs:M.getD i .u=.agg [iv 2,strA nm,.sl 1 [iv a0,iv a1],.v (.bool rb),lim rn,lim rd]) (c1:Pure Tryz.prog 31 [iv 1] (.sl 4 V0)) (c2:Pure Tryz.prog 68 [.agg [.v (.bool rb),lim rn,lim rd]] (.sl 4 V1)) (c3:Pure Tryz.prog 83 [.sl 4 V1,.sl 4 V0] (.sl 1 [.sl 4 V2,.sl 4 V1])):Pure Tryz.prog 36 [.agg [.sl 6 M,.sl 5 GG],iv i] (.tup [.sl 1 [iv a0,iv a1],.sl 1 [.sl 4 V2,.sl 4 V1],.sl 4 V0,iv 0]):=by
 refine Zaa (tok:=0) Tryz.func36 rfl Tryz.ntmps36 Tryz.results36 Tryz.call36 (by rfl) (by simp) ?_;(focus (refine wkad (w_2 hi hs) (w_3 c1 c2 c3) w_t ?_;(repeat' first|exact w_t|apply w_l);all_goals intros));all_goals exact gL
theorem rlParts2 (M GG:List AV) (i:Nat) (nm:ByteArray) (r:Rat) (a0 a1:Int) (hi:i < M.length) (hs:M.getD i .u=.agg [iv 2,strA nm,.sl 1 [iv a0,iv a1],.v (.bool (decide (r.num < 0))),lim (toL r.num.natAbs),lim (toL r.den)]) (hr:Sz r 2) (h0:0≤a0∧a0 < 40) (h1:0≤a1∧a1 < 40):Pure Tryz.prog 36 [.agg [.sl 6 M,.sl 5 GG],iv i] (.tup [.sl 1 [iv a0,iv a1],.sl 1 [qpA (subX (nX 1) (nX r)),qpA (nX r)],qpA (nX 1),iv 0]):=by
 have x0:=Zcc hr;have x1:=Zcc Zi2;exact Zvt M GG i nm _ _ _ a0 a1 _ _ _ hi hs (Zf9) (Zrm hr) (Zin _ _ (x0.s) (x1.s))
theorem Zvs (M GG:List AV) (i:Nat) (nm:ByteArray) (rb:Bool) (rn rd:List Nat) (a0 a1 a2:Int) (V0 V1:List AV) (hi:i < M.length) (hs:M.getD i .u=.agg [iv 3,strA nm,.sl 1 [iv a0,iv a1,iv a2],.v (.bool rb),lim rn,lim rd]) (c1:Pure Tryz.prog 31 [iv 1] (.sl 4 V0)) (c2:Pure Tryz.prog 31 [iv (-1)] (.sl 4 V1)):Pure Tryz.prog 36 [.agg [.sl 6 M,.sl 5 GG],iv i] (.tup [.sl 1 [iv a0,iv a1,iv a2],.sl 1 [.sl 4 V0,.sl 4 V1,.sl 4 V0],.sl 4 V0,iv 0]):=by
 refine Zaa (tok:=0) Tryz.func36 rfl Tryz.ntmps36 Tryz.results36 Tryz.call36 (by rfl) (by simp) ?_;(focus (refine wkad (w_2 hi hs) (w_2 c1 c2) w_t ?_;(repeat' first|exact w_t|apply w_l);all_goals intros));all_goals exact gL
theorem rlParts3 (M GG:List AV) (i:Nat) (nm:ByteArray) (rb:Bool) (rn rd:List Nat) (a0 a1 a2:Int) (hi:i < M.length) (hs:M.getD i .u=.agg [iv 3,strA nm,.sl 1 [iv a0,iv a1,iv a2],.v (.bool rb),lim rn,lim rd]) (h0:0≤a0∧a0 < 40) (h1:0≤a1∧a1 < 40) (h2:0≤a2∧a2 < 40):Pure Tryz.prog 36 [.agg [.sl 6 M,.sl 5 GG],iv i] (.tup [.sl 1 [iv a0,iv a1,iv a2],.sl 1 [qpA (nX 1),qpA (nX (-1)),qpA (nX 1)],qpA (nX 1),iv 0]):=by
 exact Zvs M GG i nm rb rn rd a0 a1 a2 _ _ hi hs (Zf9) (rlNumM)
theorem Zvr (M GG:List AV) (i:Nat) (nm:ByteArray) (rb:Bool) (rn rd:List Nat) (a0 a1:Int) (V0 V1 V2:List AV) (hi:i < M.length) (hs:M.getD i .u=.agg [iv 5,strA nm,.sl 1 [iv a0,iv a1],.v (.bool rb),lim rn,lim rd]) (t:Int) (c1:Pure Tryz.prog 31 [iv 1] (.sl 4 V0)) (c2:Pure Tryz.prog 84 [.agg [.sl 6 M,.sl 5 GG],iv i] (iv t)) (c3:Pure Tryz.prog 30 [.agg [iv 3,iv t,iv 0,iv 0]] (.sl 4 V1)) (c4:Pure Tryz.prog 83 [.sl 4 V1,.sl 4 V0] (.sl 1 [.sl 4 V2,.sl 4 V1])):Pure Tryz.prog 36 [.agg [.sl 6 M,.sl 5 GG],iv i] (.tup [.sl 1 [iv a0,iv a1],.sl 1 [.sl 4 V2,.sl 4 V1],.sl 4 V0,iv 0]):=by
 refine Zaa (tok:=0) Tryz.func36 rfl Tryz.ntmps36 Tryz.results36 Tryz.call36 (by rfl) (by simp) ?_;(focus (refine wkad (w_2 hi hs) (w_4 c1 c2 c3 c4) w_t ?_;(repeat' first|exact w_t|apply w_l);all_goals intros));all_goals exact gL
theorem rlParts5 (M GG:List AV) (i:Nat) (nm:ByteArray) (rb:Bool) (rn rd:List Nat) (a0 a1:Int) (hi:i < M.length) (hs:M.getD i .u=.agg [iv 5,strA nm,.sl 1 [iv a0,iv a1],.v (.bool rb),lim rn,lim rd]) (t:Int) (hT:Qt.ok ⟨3,t,0,0⟩=true) (cp:Pure Tryz.prog 84 [.agg [.sl 6 M,.sl 5 GG],iv i] (iv t)) (h0:0≤a0∧a0 < 40) (h1:0≤a1∧a1 < 40):Pure Tryz.prog 36 [.agg [.sl 6 M,.sl 5 GG],iv i] (.tup [.sl 1 [iv a0,iv a1],.sl 1 [qpA (subX (nX 1) (ofX ⟨3,t,0,0⟩)),qpA (ofX ⟨3,t,0,0⟩)],qpA (nX 1),iv 0]):=by
 have x0:=Zba hT;have x1:=Zcc Zi2;exact Zvr M GG i nm rb rn rd a0 a1 _ _ _ hi hs t (Zf9) (cp) (Zve hT) (Zin _ _ (x0.s) (x1.s))
theorem Zvo (M GG:List AV) (i:Nat) (nm:ByteArray) (rb:Bool) (rn rd:List Nat) (a0 a1 a2 a3:Int) (V0 V1 V2 V3 V4:List AV) (hi:i < M.length) (hs:M.getD i .u=.agg [iv 9,strA nm,.sl 1 [iv a0,iv a1,iv a2,iv a3],.v (.bool rb),lim rn,lim rd]) (c1:Pure Tryz.prog 31 [iv 1] (.sl 4 V0)) (c2:Pure Tryz.prog 72 [iv a0,iv a2,iv a3] (.sl 4 V1)) (c3:Pure Tryz.prog 72 [iv a1,iv a2,iv a3] (.sl 4 V2)) (c4:Pure Tryz.prog 75 [.sl 4 V1,.sl 4 V2] (.sl 4 V3)) (c5:Pure Tryz.prog 83 [.sl 4 V1,.sl 4 V3] (.sl 1 [.sl 4 V4,.sl 4 V1])):Pure Tryz.prog 36 [.agg [.sl 6 M,.sl 5 GG],iv i] (.tup [.sl 1 [iv a0,iv a1],.sl 1 [.sl 4 V4,.sl 4 V1],.sl 4 V3,iv 0]):=by
 refine Zaa (tok:=0) Tryz.func36 rfl Tryz.ntmps36 Tryz.results36 Tryz.call36 (by rfl) (by simp) ?_;(focus (refine wkad (w_2 hi hs) (w_5 c1 c2 c3 c4 c5) (w_2 (w_d 12 [(9,.sl 4 V1),(19,.sl 4 V2),(20,.sl 4 V3)] [] []) (w_d 13 [(11,.sl 4 V1),(13,.sl 1 [.sl 4 V4,.sl 4 V1])] [] [])) ?_;(repeat' first|exact w_t|apply w_l);all_goals intros));all_goals exact gL
theorem rlParts9 (M GG:List AV) (i:Nat) (nm:ByteArray) (rb:Bool) (rn rd:List Nat) (a0 a1 a2 a3:Int) (hi:i < M.length) (hs:M.getD i .u=.agg [iv 9,strA nm,.sl 1 [iv a0,iv a1,iv a2,iv a3],.v (.bool rb),lim rn,lim rd]) (h0:0≤a0∧a0 < 40) (h1:0≤a1∧a1 < 40) (h2:0≤a2∧a2 < 40) (h3:0≤a3∧a3 < 40):Pure Tryz.prog 36 [.agg [.sl 6 M,.sl 5 GG],iv i] (.tup [.sl 1 [iv a0,iv a1],.sl 1 [qpA (subX (subX (aX a0 a2 a3) (aX a1 a2 a3)) (aX a0 a2 a3)),qpA (aX a0 a2 a3)],qpA (subX (aX a0 a2 a3) (aX a1 a2 a3)),iv 0]):=by
 have x0:=Zba (Zak (.inl rfl) h0 h2 h3);have x1:=Zba (Zak (.inl rfl) h1 h2 h3);have x2:=x0.sub x1;exact Zvo M GG i nm rb rn rd a0 a1 a2 a3 _ _ _ _ _ hi hs (Zf9) (Zh1 _ _ _ (Zak (.inl rfl) h0 h2 h3)) (Zh1 _ _ _ (Zak (.inl rfl) h1 h2 h3)) (Zi4 (x0.s) (x1.s)) (Zin _ _ (x0.s) (x2.s))
theorem Zvq (M GG:List AV) (i:Nat) (nm:ByteArray) (rb:Bool) (rn rd:List Nat) (a0 a1 a2:Int) (V0 V1 V2 V3:List AV) (hi:i < M.length) (hs:M.getD i .u=.agg [iv 7,strA nm,.sl 1 [iv a0,iv a1,iv a2],.v (.bool rb),lim rn,lim rd]) (c1:Pure Tryz.prog 31 [iv 1] (.sl 4 V0)) (c2:Pure Tryz.prog 71 [iv a2,iv a1,iv a2] (.sl 4 V1)) (c3:Pure Tryz.prog 71 [iv a0,iv a1,iv a2] (.sl 4 V2)) (c4:Pure Tryz.prog 83 [.sl 4 V2,.sl 4 V1] (.sl 1 [.sl 4 V3,.sl 4 V2])):Pure Tryz.prog 36 [.agg [.sl 6 M,.sl 5 GG],iv i] (.tup [.sl 1 [iv a1,iv a2],.sl 1 [.sl 4 V3,.sl 4 V2],.sl 4 V1,iv 0]):=by
 refine Zaa (tok:=0) Tryz.func36 rfl Tryz.ntmps36 Tryz.results36 Tryz.call36 (by rfl) (by simp) ?_;(focus (refine wkad (w_2 hi hs) (w_4 c1 c2 c3 c4) (w_2 (w_d 15 [(9,.sl 4 V1)] [] []) (w_d 16 [(11,.sl 4 V2),(13,.sl 1 [.sl 4 V3,.sl 4 V2])] [] [])) ?_;(repeat' first|exact w_t|apply w_l);all_goals intros));all_goals exact gL
theorem rlParts7 (M GG:List AV) (i:Nat) (nm:ByteArray) (rb:Bool) (rn rd:List Nat) (a0 a1 a2:Int) (hi:i < M.length) (hs:M.getD i .u=.agg [iv 7,strA nm,.sl 1 [iv a0,iv a1,iv a2],.v (.bool rb),lim rn,lim rd]) (h0:0≤a0∧a0 < 40) (h1:0≤a1∧a1 < 40) (h2:0≤a2∧a2 < 40):Pure Tryz.prog 36 [.agg [.sl 6 M,.sl 5 GG],iv i] (.tup [.sl 1 [iv a1,iv a2],.sl 1 [qpA (subX (pX a2 a1 a2) (pX a0 a1 a2)),qpA (pX a0 a1 a2)],qpA (pX a2 a1 a2),iv 0]):=by
 have x0:=Zba (Zak (.inr rfl) h0 h1 h2);have x1:=Zba (Zak (.inr rfl) h2 h1 h2);exact Zvq M GG i nm rb rn rd a0 a1 a2 _ _ _ _ hi hs (Zf9) (Zc7 _ _ _ (Zak (.inr rfl) h2 h1 h2)) (Zc7 _ _ _ (Zak (.inr rfl) h0 h1 h2)) (Zin _ _ (x0.s) (x1.s))
theorem Zvp (M GG:List AV) (i:Nat) (nm:ByteArray) (rb:Bool) (rn rd:List Nat) (a0 a1 a2:Int) (V0 V1 V2 V3 V4 V5 V6 V7:List AV) (hi:i < M.length) (hs:M.getD i .u=.agg [iv 8,strA nm,.sl 1 [iv a0,iv a1,iv a2],.v (.bool rb),lim rn,lim rd]) (c1:Pure Tryz.prog 31 [iv 1] (.sl 4 V0)) (c2:Pure Tryz.prog 71 [iv a2,iv a1,iv a2] (.sl 4 V1)) (c3:Pure Tryz.prog 71 [iv a0,iv a1,iv a2] (.sl 4 V2)) (c4:Pure Tryz.prog 83 [.sl 4 V2,.sl 4 V1] (.sl 1 [.sl 4 V3,.sl 4 V2])) (c5:Pure Tryz.prog 31 [iv 2] (.sl 4 V4)) (c6:Pure Tryz.prog 74 [.sl 4 V4,.sl 4 V3] (.sl 4 V5)) (c7:Pure Tryz.prog 74 [.sl 4 V4,.sl 4 V2] (.sl 4 V6)) (c8:Pure Tryz.prog 75 [.v (.slice none 0 0),.sl 4 V1] (.sl 4 V7)):Pure Tryz.prog 36 [.agg [.sl 6 M,.sl 5 GG],iv i] (.tup [.sl 1 [iv a1,iv a2,iv a0],.sl 1 [.sl 4 V5,.sl 4 V6,.sl 4 V7],.sl 4 V1,iv 0]):=by
 refine Zaa (tok:=0) Tryz.func36 rfl Tryz.ntmps36 Tryz.results36 Tryz.call36 (by rfl) (by simp) ?_;(focus (refine wkax (w_2 hi hs) (w_8 c1 c2 c3 c4 c5 c6 c7 c8) (w_3 (w_d 18 [(9,.sl 4 V1)] [] []) (w_d 19 [(9,.sl 4 V2),(11,.sl 1 [.sl 4 V3,.sl 4 V2])] [] []) (w_d 21 [(14,.sl 4 V5),(19,.sl 4 V6),(21,.sl 4 V7)] [] [])) w_t w_t w_t (w_r 0) ?_;(repeat' first|exact w_t|apply w_l);all_goals intros));all_goals exact gL
theorem rlParts8 (M GG:List AV) (i:Nat) (nm:ByteArray) (rb:Bool) (rn rd:List Nat) (a0 a1 a2:Int) (hi:i < M.length) (hs:M.getD i .u=.agg [iv 8,strA nm,.sl 1 [iv a0,iv a1,iv a2],.v (.bool rb),lim rn,lim rd]) (h0:0≤a0∧a0 < 40) (h1:0≤a1∧a1 < 40) (h2:0≤a2∧a2 < 40):Pure Tryz.prog 36 [.agg [.sl 6 M,.sl 5 GG],iv i] (.tup [.sl 1 [iv a1,iv a2,iv a0],.sl 1 [qpA (twX (subX (pX a2 a1 a2) (pX a0 a1 a2))),qpA (twX (pX a0 a1 a2)),qpA (subX ([]) (pX a2 a1 a2))],qpA (pX a2 a1 a2),iv 0]):=by
 have x0:=Zba (Zak (.inr rfl) h0 h1 h2);have x1:=Zba (Zak (.inr rfl) h2 h1 h2);have x2:=Zcc Zd4;have x3:=x1.sub x0;exact Zvp M GG i nm rb rn rd a0 a1 a2 _ _ _ _ _ _ _ _ hi hs (Zf9) (Zc7 _ _ _ (Zak (.inr rfl) h2 h1 h2)) (Zc7 _ _ _ (Zak (.inr rfl) h0 h1 h2)) (Zin _ _ (x0.s) (x1.s)) (rlNum2) (Zgi (x2.s) (x3.s)) (Zgi (x2.s) (x0.s)) (Zg5 (Zi4 (XL.nil.s) (x1.s)) (.cons (.nil 4) (.cons (.refl _) .nil)))
theorem Ztd (M GG:List AV) (i:Nat) (nm:ByteArray) (rb:Bool) (rn rd:List Nat) (a0 a1 a2:Int) (V0 V1 V2 V3 V4 V5:List AV) (hi:i < M.length) (hs:M.getD i .u=.agg [iv 10,strA nm,.sl 1 [iv a0,iv a1,iv a2],.v (.bool rb),lim rn,lim rd]) (c1:Pure Tryz.prog 31 [iv 1] (.sl 4 V0)) (c2:Pure Tryz.prog 71 [iv a1,iv a0,iv a1] (.sl 4 V1)) (c3:Pure Tryz.prog 31 [iv 2] (.sl 4 V2)) (c4:Pure Tryz.prog 71 [iv a2,iv a0,iv a1] (.sl 4 V3)) (c5:Pure Tryz.prog 74 [.sl 4 V2,.sl 4 V3] (.sl 4 V4)) (c6:Pure Tryz.prog 83 [.sl 4 V4,.sl 4 V1] (.sl 1 [.sl 4 V5,.sl 4 V4])):Pure Tryz.prog 36 [.agg [.sl 6 M,.sl 5 GG],iv i] (.tup [.sl 1 [iv a0,iv a1],.sl 1 [.sl 4 V5,.sl 4 V4],.sl 4 V1,iv 0]):=by
 refine Zaa (tok:=0) Tryz.func36 rfl Tryz.ntmps36 Tryz.results36 Tryz.call36 (by rfl) (by simp) ?_;(focus (refine wkad (w_2 hi hs) (w_6 c1 c2 c3 c4 c5 c6) (w_2 (w_d 23 [(9,.sl 4 V1)] [] []) (w_d 24 [(2,.sl 4 V2),(12,.sl 4 V3),(13,.sl 4 V4),(15,.sl 1 [.sl 4 V5,.sl 4 V4])] [] [])) ?_;(repeat' first|exact w_t|apply w_l);all_goals intros));all_goals exact gL
theorem Zvv (M GG:List AV) (i:Nat) (nm:ByteArray) (rb:Bool) (rn rd:List Nat) (a0 a1 a2:Int) (hi:i < M.length) (hs:M.getD i .u=.agg [iv 10,strA nm,.sl 1 [iv a0,iv a1,iv a2],.v (.bool rb),lim rn,lim rd]) (h0:0≤a0∧a0 < 40) (h1:0≤a1∧a1 < 40) (h2:0≤a2∧a2 < 40):Pure Tryz.prog 36 [.agg [.sl 6 M,.sl 5 GG],iv i] (.tup [.sl 1 [iv a0,iv a1],.sl 1 [qpA (subX (pX a1 a0 a1) (twX (pX a2 a0 a1))),qpA (twX (pX a2 a0 a1))],qpA (pX a1 a0 a1),iv 0]):=by
 have x0:=Zcc Zd4;have x1:=Zba (Zak (.inr rfl) h2 h0 h1);have x2:=(Zcc Zd4).mul x1;have x3:=Zba (Zak (.inr rfl) h1 h0 h1);exact Ztd M GG i nm rb rn rd a0 a1 a2 _ _ _ _ _ _ hi hs (Zf9) (Zc7 _ _ _ (Zak (.inr rfl) h1 h0 h1)) (rlNum2) (Zc7 _ _ _ (Zak (.inr rfl) h2 h0 h1)) (Zgi (x0.s) (x1.s)) (Zin _ _ (x2.s) (x3.s))
theorem Ztc (M GG:List AV) (i:Nat) (nm:ByteArray) (rb:Bool) (rn rd:List Nat) (a0 a1 a2:Int) (V0 V1 V2 V3 V4:List AV) (hi:i < M.length) (hs:M.getD i .u=.agg [iv 11,strA nm,.sl 1 [iv a0,iv a1,iv a2],.v (.bool rb),lim rn,lim rd]) (c1:Pure Tryz.prog 31 [iv 1] (.sl 4 V0)) (c2:Pure Tryz.prog 85 [.sl 1 [iv a0,iv a1,iv a2]] (.tup [.sl 1 [iv a0,iv a1,iv a2],.sl 1 [.sl 4 V1,.sl 4 V2,.sl 4 V3],.sl 4 V4,iv 0])):Pure Tryz.prog 36 [.agg [.sl 6 M,.sl 5 GG],iv i] (.tup [.sl 1 [iv a0,iv a1,iv a2],.sl 1 [.sl 4 V1,.sl 4 V2,.sl 4 V3],.sl 4 V4,iv 0]):=by
 refine Zaa (tok:=0) Tryz.func36 rfl Tryz.ntmps36 Tryz.results36 Tryz.call36 (by rfl) (by simp) ?_;(focus (refine wkad (w_2 hi hs) (w_2 c1 c2) w_t ?_;(repeat' first|exact w_t|apply w_l);all_goals intros));all_goals exact gL
theorem Zvu (M GG:List AV) (i:Nat) (nm:ByteArray) (rb:Bool) (rn rd:List Nat) (a0 a1 a2:Int) (hi:i < M.length) (hs:M.getD i .u=.agg [iv 11,strA nm,.sl 1 [iv a0,iv a1,iv a2],.v (.bool rb),lim rn,lim rd]) (h0:0≤a0∧a0 < 40) (h1:0≤a1∧a1 < 40) (h2:0≤a2∧a2 < 40):Pure Tryz.prog 36 [.agg [.sl 6 M,.sl 5 GG],iv i] (.tup [.sl 1 [iv a0,iv a1,iv a2],.sl 1 [qpA (mulX (pX a1 a2 a1) (pX a1 a0 a2)),qpA (mulX (pX a2 a0 a2) (pX a2 a1 a0)),qpA (mulX (pX a0 a1 a0) (pX a0 a2 a1))],qpA (Zav (Zav (mulX (pX a1 a2 a1) (pX a1 a0 a2)) (mulX (pX a2 a0 a2) (pX a2 a1 a0))) (mulX (pX a0 a1 a0) (pX a0 a2 a1))),iv 0]):=by
 exact Ztc M GG i nm rb rn rd a0 a1 a2 _ _ _ _ _ hi hs (Zf9) (rlCenter a0 a1 a2 h0 h1 h2)
theorem rlParts0 (M GG:List AV) (i:Nat) (k:Int) (nm:ByteArray) (A0:List AV) (rb:Bool) (rn rd:List Nat) (hi:i < M.length) (hs:M.getD i .u=.agg [iv k,strA nm,.sl 1 A0,.v (.bool rb),lim rn,lim rd]) (hk:¬k=2∧¬k=3∧¬k=5∧¬k=9∧¬k=7∧¬k=8∧¬k=10∧¬k=11):Pure Tryz.prog 36 [.agg [.sl 6 M,.sl 5 GG],iv i] (.tup [.v (.slice none 0 0),.v (.slice none 0 0),.v (.slice none 0 0),iv 8]):=by
 obtain⟨k2,k3,k5,k9,k7,k8,k10,k11⟩:=hk;have c1:=Zf9;generalize (nX 1).map qtA=V at *;refine Zaa (tok:=0) Tryz.func36 rfl Tryz.ntmps36 Tryz.results36 Tryz.call36 (by rfl) (by simp) ?_;(focus (refine wkad (w_10 hi hs k2 k3 k5 k9 k7 k8 k10 k11) (w_1 c1) w_t ?_;(repeat' first|exact w_t|apply w_l);all_goals intros));all_goals exact gL
theorem l2 {l:List Int} (h:l.length=2):∃a b,l=[a,b]:=by
 match l,h with
 | [a,b],_=>exact⟨a,b,rfl⟩
theorem l3 {l:List Int} (h:l.length=3):∃a b c,l=[a,b,c]:=by
 match l,h with
 | [a,b,c],_=>exact⟨a,b,c,rfl⟩
theorem l4 {l:List Int} (h:l.length=4):∃a b c d,l=[a,b,c,d]:=by
 match l,h with
 | [a,b,c,d],_=>exact⟨a,b,c,d,rfl⟩
abbrev tOf (ss:List RS) (i:Nat):Int:=(prN ((ss.take i).map RS.k)).1
theorem none_q {r:RQ} (h:r.none=true):Sz r.q 2:=by
 unfold RQ.none at h;simp only [Bool.and_eq_true,Bool.not_eq_true',decide_eq_true_eq] at h;obtain⟨s,l,d⟩:=r;simp only at h;obtain⟨rfl,hl,hd⟩:=h;obtain rfl:=List.length_eq_zero_iff.1 hl;obtain rfl:=List.length_eq_zero_iff.1 hd;exact⟨by decide +kernel,by decide +kernel⟩
theorem errS_r {ss:List RS} {i:Nat} (hi:i < ss.length) (h:errS ss i=0):(ss[i].k=2∧ss[i].r.ok=true)∨(ss[i].k≠2∧ss[i].r.none=true):=by
 unfold errS at h;rw [show ss.getD i RS.zero=ss[i] from by rw [List.getD_eq_getElem?_getD,List.getElem?_eq_getElem hi];rfl] at h;generalize ss[i]=s at *;simp only at h;split at h
 ·omega
 ·split at h
  ·omega
  ·split at h
   ·omega
   ·split at h
    ·omega
    ·rename_i hn;by_cases hk:s.k=2
     ·left;refine⟨hk,?_⟩
      cases hr:s.r.ok with
      | true=>rfl
      | false=>exact absurd (.inl ⟨hk,hr⟩) hn
     ·right;refine⟨hk,?_⟩
      cases hr:s.r.none with
      | true=>rfl
      | false=>exact absurd (.inr ⟨hk,hr⟩) hn
theorem st_a {ss:List RS} {i:Nat} (hi:i < ss.length) (hl:ss.length≤8) (he:errS ss i=0) (hr:ss[i].r.lm 2):StA ss[i].k (tOf ss i) i ss.length ss[i].ar ss[i].r.q:=by
 obtain⟨h1,h2,h3,h4⟩:=Zku hi he;have ht:0≤tOf ss i∧tOf ss i≤16:=by have h:=Zwf ss (k:=i) hl;exact⟨h.1,h.2.1⟩
 have hz:Sz ss[i].r.q 2:=by
  rcases errS_r hi he with⟨_,h⟩ | ⟨_,h⟩
  ·exact(RQ.ok_av hr h).2
  ·exact none_q h
 generalize ss[i]=s at *;unfold arS at h1 h2;refine⟨by omega,hz,λk hk=>by have:=h3 k hk;omega,λk hk=>(h3 k hk).2,by omega,⟨?_,?_,?_,?_,?_⟩,?_⟩<;>intro hk
 ·rw [hk] at h2;simp at h2;omega
 ·rw [hk] at h2;simp at h2;omega
 ·rcases hk with hk | hk<;>rw [hk] at h2<;>simp at h2<;>omega
 ·rcases hk with hk | hk | hk<;>rw [hk] at h2<;>simp at h2<;>omega
 ·rw [hk] at h2;simp at h2;omega
 ·rw [hk] at h2;simp at h2;omega
def cmR:Option Cb→AV
 | none=>.tup [.agg [.v (.slice none 0 0),.v (.slice none 0 0),.v (.slice none 0 0)],iv 8]
 | some c=>if c.be.length=0 then .tup [.agg [.v (.slice none 0 0),.v (.slice none 0 0),.v (.slice none 0 0)],iv 3] else .tup [c.av,iv 0]
def rpR:Option Cb→AV
 | none=>.tup [.v (.slice none 0 0),.v (.slice none 0 0),.v (.slice none 0 0),iv 8]
 | some c=>.tup [ivs c.ps,.sl 1 (c.ab.map qpA),qpA c.be,iv 0]
theorem Zyj {k t:Int} {a:List Int} {r:Rat} (hk:¬k=2∧¬k=3∧¬k=5∧¬k=9∧¬k=7∧¬k=8∧¬k=10∧¬k=11):cbOf k a r t=none:=by
 obtain⟨k2,k3,k5,k9,k7,k8,k10,k11⟩:=hk;unfold cbOf;rw [if_neg k2,if_neg k3,if_neg k5,if_neg k9,if_neg k7,if_neg k8,if_neg k10,if_neg k11]
theorem Zgs {ss:List RS} {gs:List RG} {i f:Nat} {k:Int} {nm rb rn rd:AV} {A0 A1:List AV} {c:Cb} (hi:i < ss.length) (hs:(ss.map RS.av).getD i .u=.agg [iv k,nm,.sl 1 A0,rb,rn,rd]) (c0:Pure Tryz.prog 56 [iv k] (.tup [.agg [.fn f []],.v (.bool true)]))
 (c1:Pure Tryz.prog 57 [.sl 1 A1] (.sl 1 A1)) (h01:A0=A1) (c2:Pure Tryz.prog f [figA ss gs,iv i,.sl 1 A1] c.av) (hb:c.be.length≤4):Pure Tryz.prog 23 [figA ss gs,iv i] (cmR (some c)):=by
 subst h01;have h:=elComb1 (ss.map RS.av) (gs.map RG.av) i k nm A0 rb rn rd f _ _ _ (by rw [List.length_map];exact hi) hs c0 c1 c2 (by rw [List.length_map];omega);rw [List.length_map] at h;exact h
theorem elComb (ss:List RS) (gs:List RG) (i:Nat) (hi:i < ss.length) (h8:ss.length≤8) (he:errS ss i=0) (hr:ss[i].r.lm 2):Pure Tryz.prog 23 [figA ss gs,iv i] (cmR (cbOf ss[i].k ss[i].ar ss[i].r.q (tOf ss i))):=by
 have hM:(ss.map RS.av).getD i .u=.agg [iv ss[i].k,strA ss[i].nm,ivs ss[i].ar,.v (.bool ss[i].r.s),lim ss[i].r.l,lim ss[i].r.d]:=Zap RS.av hi;have hl:i < (ss.map RS.av).length:=by rw [List.length_map];exact hi
 have hA:=st_a hi h8 he hr;obtain⟨h1,h2,h3,h4⟩:=Zku hi he;have hg:∀k,k < ss[i].ar.length→0≤gI ss[i].ar k∧gI ss[i].ar k < 40:=λk hk=>by have:=h3 k hk;omega
 have ht:=hA.tr;have cp:Pure Tryz.prog 164 [.agg [.sl 6 (ss.map RS.av),.sl 5 (gs.map RG.av)],iv i] (iv (tOf ss i)):=elParam ss gs i (by omega) (by omega);generalize tOf ss i=t at *;generalize ss[i]=s at *;obtain⟨k,nm,ar,r⟩:=s;simp only at hM hA h1 h2 h3 h4 hg hr ⊢;by_cases k2:k=2
 ·subst k2;obtain⟨a0,a1,rfl⟩:=l2 (show ar.length=2 by simp [arS] at h2;omega);have g0:0≤a0∧a0 < 40:=hg 0 (by simp);have g1:0≤a1∧a1 < 40:=hg 1 (by simp);obtain⟨hv,hz⟩:=RQ.ok_av hr (h4 rfl);have hv:AV.agg [.v (.bool r.s),lim r.l,lim r.d]=.agg [.v (.bool (decide (r.q.num < 0))),lim (toL r.q.num.natAbs),lim (toL r.q.den)]:=hv;simp only [AV.agg.injEq,List.cons.injEq,and_true] at hv;rw [hv.1,hv.2.1,hv.2.2] at hM;exact Zgs hi hM elSch2 (Zgh _ _ [] (by simp)) rfl (Zx3 _ _ i a0 a1 2 _ _ r.q hl hM hz g0 g1) (Zji (show cbOf 2 [a0,a1] r.q t=some _ from rfl) hA.sz hA.rg hA.n40 hA.tr hA.l).be.l
 by_cases k3:k=3
 ·subst k3;obtain⟨a0,a1,a2,rfl⟩:=l3 (show ar.length=3 by simp [arS] at h2;omega);have g0:0≤a0∧a0 < 40:=hg 0 (by simp);have g1:0≤a1∧a1 < 40:=hg 1 (by simp);have g2:0≤a2∧a2 < 40:=hg 2 (by simp);exact Zgs hi hM elSch3 (Zgh _ _ [a2] (by simp)) rfl (Zxz _ _ i a0 a1 a2 g0 g1 g2) (Zji (show cbOf 3 [a0,a1,a2] r.q t=some _ from rfl) hA.sz hA.rg hA.n40 hA.tr hA.l).be.l
 by_cases k5:k=5
 ·subst k5;obtain⟨a0,a1,rfl⟩:=l2 (show ar.length=2 by simp [arS] at h2;omega);have g0:0≤a0∧a0 < 40:=hg 0 (by simp);have g1:0≤a1∧a1 < 40:=hg 1 (by simp);exact Zgs hi hM elSch5 (Zgh _ _ [] (by simp)) rfl (elOnLine _ _ i a0 a1 t (show Qt.ok ⟨3,t,0,0⟩=true by unfold Qt.ok;rw [decide_eq_true_eq];exact .inl ⟨rfl,ht.1,ht.2,rfl,rfl⟩) cp g0 g1) (Zji (show cbOf 5 [a0,a1] r.q t=some _ from rfl) hA.sz hA.rg hA.n40 hA.tr hA.l).be.l
 by_cases k9:k=9
 ·subst k9;obtain⟨a0,a1,a2,a3,rfl⟩:=l4 (show ar.length=4 by simp [arS] at h2;omega);have g0:0≤a0∧a0 < 40:=hg 0 (by simp);have g1:0≤a1∧a1 < 40:=hg 1 (by simp);have g2:0≤a2∧a2 < 40:=hg 2 (by simp);have g3:0≤a3∧a3 < 40:=hg 3 (by simp);exact Zgs hi hM elSch9 (Zgh _ _ [a2,a3] (by simp)) rfl (elMet _ _ i a0 a1 a2 a3 g0 g1 g2 g3) (Zji (show cbOf 9 [a0,a1,a2,a3] r.q t=some _ from rfl) hA.sz hA.rg hA.n40 hA.tr hA.l).be.l
 by_cases k7:k=7
 ·subst k7;obtain⟨a0,a1,a2,rfl⟩:=l3 (show ar.length=3 by simp [arS] at h2;omega);have g0:0≤a0∧a0 < 40:=hg 0 (by simp);have g1:0≤a1∧a1 < 40:=hg 1 (by simp);have g2:0≤a2∧a2 < 40:=hg 2 (by simp);exact Zgs hi hM elSch7 (Zgh _ _ [a2] (by simp)) rfl (elFoot _ _ i a0 a1 a2 g0 g1 g2) (Zji (show cbOf 7 [a0,a1,a2] r.q t=some _ from rfl) hA.sz hA.rg hA.n40 hA.tr hA.l).be.l
 by_cases k8:k=8
 ·subst k8;obtain⟨a0,a1,a2,rfl⟩:=l3 (show ar.length=3 by simp [arS] at h2;omega);have g0:0≤a0∧a0 < 40:=hg 0 (by simp);have g1:0≤a1∧a1 < 40:=hg 1 (by simp);have g2:0≤a2∧a2 < 40:=hg 2 (by simp);exact Zgs hi hM elSch8 (Zgh _ _ [a2] (by simp)) rfl (Zt5 _ _ i a0 a1 a2 g0 g1 g2) (Zji (show cbOf 8 [a0,a1,a2] r.q t=some _ from rfl) hA.sz hA.rg hA.n40 hA.tr hA.l).be.l
 by_cases k10:k=10
 ·subst k10;obtain⟨a0,a1,a2,rfl⟩:=l3 (show ar.length=3 by simp [arS] at h2;omega);have g0:0≤a0∧a0 < 40:=hg 0 (by simp);have g1:0≤a1∧a1 < 40:=hg 1 (by simp);have g2:0≤a2∧a2 < 40:=hg 2 (by simp);exact Zgs hi hM elSch10 (Zgh _ _ [a2] (by simp)) rfl (elOther _ _ i a0 a1 a2 g0 g1 g2) (Zji (show cbOf 10 [a0,a1,a2] r.q t=some _ from rfl) hA.sz hA.rg hA.n40 hA.tr hA.l).be.l
 by_cases k11:k=11
 ·subst k11;obtain⟨a0,a1,a2,rfl⟩:=l3 (show ar.length=3 by simp [arS] at h2;omega);have g0:0≤a0∧a0 < 40:=hg 0 (by simp);have g1:0≤a1∧a1 < 40:=hg 1 (by simp);have g2:0≤a2∧a2 < 40:=hg 2 (by simp);exact Zgs hi hM elSch11 (Zgh _ _ [a2] (by simp)) rfl (elCenter _ _ i a0 a1 a2 g0 g1 g2) (Zji (show cbOf 11 [a0,a1,a2] r.q t=some _ from rfl) hA.sz hA.rg hA.n40 hA.tr hA.l).be.l
 rw [Zyj ⟨k2,k3,k5,k9,k7,k8,k10,k11⟩];exact elComb0 _ _ i k _ _ _ _ _ hl hM (elSch0 k ⟨k2,k3,k5,k9,k7,k8,k10,k11⟩)
theorem Zro (ss:List RS) (gs:List RG) (i:Nat) (hi:i < ss.length) (h8:ss.length≤8) (he:errS ss i=0) (hr:ss[i].r.lm 2):Pure Tryz.prog 36 [figA ss gs,iv i] (rpR (cbOf ss[i].k ss[i].ar ss[i].r.q (tOf ss i))):=by
 have hM:(ss.map RS.av).getD i .u=.agg [iv ss[i].k,strA ss[i].nm,ivs ss[i].ar,.v (.bool ss[i].r.s),lim ss[i].r.l,lim ss[i].r.d]:=Zap RS.av hi;have hl:i < (ss.map RS.av).length:=by rw [List.length_map];exact hi
 have hA:=st_a hi h8 he hr;obtain⟨h1,h2,h3,h4⟩:=Zku hi he;have hg:∀k,k < ss[i].ar.length→0≤gI ss[i].ar k∧gI ss[i].ar k < 40:=λk hk=>by have:=h3 k hk;omega
 have ht:=hA.tr;have cp:Pure Tryz.prog 84 [.agg [.sl 6 (ss.map RS.av),.sl 5 (gs.map RG.av)],iv i] (iv (tOf ss i)):=rlParam ss gs i (by omega) (by omega);generalize tOf ss i=t at *;generalize ss[i]=s at *;obtain⟨k,nm,ar,r⟩:=s;simp only at hM hA h1 h2 h3 h4 hg hr ⊢;by_cases k2:k=2
 ·subst k2;obtain⟨a0,a1,rfl⟩:=l2 (show ar.length=2 by simp [arS] at h2;omega);have g0:0≤a0∧a0 < 40:=hg 0 (by simp);have g1:0≤a1∧a1 < 40:=hg 1 (by simp);obtain⟨hv,hz⟩:=RQ.ok_av hr (h4 rfl);have hv:AV.agg [.v (.bool r.s),lim r.l,lim r.d]=.agg [.v (.bool (decide (r.q.num < 0))),lim (toL r.q.num.natAbs),lim (toL r.q.den)]:=hv;simp only [AV.agg.injEq,List.cons.injEq,and_true] at hv;rw [hv.1,hv.2.1,hv.2.2] at hM;exact rlParts2 _ _ i _ r.q a0 a1 hl hM hz g0 g1
 by_cases k3:k=3
 ·subst k3;obtain⟨a0,a1,a2,rfl⟩:=l3 (show ar.length=3 by simp [arS] at h2;omega);have g0:0≤a0∧a0 < 40:=hg 0 (by simp);have g1:0≤a1∧a1 < 40:=hg 1 (by simp);have g2:0≤a2∧a2 < 40:=hg 2 (by simp);exact rlParts3 _ _ i _ _ _ _ a0 a1 a2 hl hM g0 g1 g2
 by_cases k5:k=5
 ·subst k5;obtain⟨a0,a1,rfl⟩:=l2 (show ar.length=2 by simp [arS] at h2;omega);have g0:0≤a0∧a0 < 40:=hg 0 (by simp);have g1:0≤a1∧a1 < 40:=hg 1 (by simp);exact rlParts5 _ _ i _ _ _ _ a0 a1 hl hM t (show Qt.ok ⟨3,t,0,0⟩=true by unfold Qt.ok;rw [decide_eq_true_eq];exact .inl ⟨rfl,ht.1,ht.2,rfl,rfl⟩) cp g0 g1
 by_cases k9:k=9
 ·subst k9;obtain⟨a0,a1,a2,a3,rfl⟩:=l4 (show ar.length=4 by simp [arS] at h2;omega);have g0:0≤a0∧a0 < 40:=hg 0 (by simp);have g1:0≤a1∧a1 < 40:=hg 1 (by simp);have g2:0≤a2∧a2 < 40:=hg 2 (by simp);have g3:0≤a3∧a3 < 40:=hg 3 (by simp);exact rlParts9 _ _ i _ _ _ _ a0 a1 a2 a3 hl hM g0 g1 g2 g3
 by_cases k7:k=7
 ·subst k7;obtain⟨a0,a1,a2,rfl⟩:=l3 (show ar.length=3 by simp [arS] at h2;omega);have g0:0≤a0∧a0 < 40:=hg 0 (by simp);have g1:0≤a1∧a1 < 40:=hg 1 (by simp);have g2:0≤a2∧a2 < 40:=hg 2 (by simp);exact rlParts7 _ _ i _ _ _ _ a0 a1 a2 hl hM g0 g1 g2
 by_cases k8:k=8
 ·subst k8;obtain⟨a0,a1,a2,rfl⟩:=l3 (show ar.length=3 by simp [arS] at h2;omega);have g0:0≤a0∧a0 < 40:=hg 0 (by simp);have g1:0≤a1∧a1 < 40:=hg 1 (by simp);have g2:0≤a2∧a2 < 40:=hg 2 (by simp);exact rlParts8 _ _ i _ _ _ _ a0 a1 a2 hl hM g0 g1 g2
 by_cases k10:k=10
 ·subst k10;obtain⟨a0,a1,a2,rfl⟩:=l3 (show ar.length=3 by simp [arS] at h2;omega);have g0:0≤a0∧a0 < 40:=hg 0 (by simp);have g1:0≤a1∧a1 < 40:=hg 1 (by simp);have g2:0≤a2∧a2 < 40:=hg 2 (by simp);exact Zvv _ _ i _ _ _ _ a0 a1 a2 hl hM g0 g1 g2
 by_cases k11:k=11
 ·subst k11;obtain⟨a0,a1,a2,rfl⟩:=l3 (show ar.length=3 by simp [arS] at h2;omega);have g0:0≤a0∧a0 < 40:=hg 0 (by simp);have g1:0≤a1∧a1 < 40:=hg 1 (by simp);have g2:0≤a2∧a2 < 40:=hg 2 (by simp);exact Zvu _ _ i _ _ _ _ a0 a1 a2 hl hM g0 g1 g2
 rw [Zyj ⟨k2,k3,k5,k9,k7,k8,k10,k11⟩];exact rlParts0 _ _ i k _ _ _ _ _ hl hM ⟨k2,k3,k5,k9,k7,k8,k10,k11⟩
theorem ar2 {ar:List Int} {n:Nat} (hl:(ar.length:Int)=2) (h:∀k,k < ar.length→0≤gI ar k∧gI ar k < (n:Int)):∃a b:Nat,ar=[(a:Int),(b:Int)]∧a < n∧b < n:=by
 match ar,hl,h with
 | [x,y],_,h =>
   have h0:=h 0 (by simp);have h1:=h 1 (by simp);simp only [gI,List.getD_cons_zero,List.getD_cons_succ] at h0 h1;exact⟨x.toNat,y.toNat,by rw [Int.toNat_of_nonneg h0.1,Int.toNat_of_nonneg h1.1],by omega,by omega⟩
theorem ar3 {ar:List Int} {n:Nat} (hl:(ar.length:Int)=3) (h:∀k,k < ar.length→0≤gI ar k∧gI ar k < (n:Int)):∃a b c:Nat,ar=[(a:Int),(b:Int),(c:Int)]∧a < n∧b < n∧c < n:=by
 match ar,hl,h with
 | [x,y,z],_,h =>
   have h0:=h 0 (by simp);have h1:=h 1 (by simp);have h2:=h 2 (by simp);simp only [gI,List.getD_cons_zero,List.getD_cons_succ] at h0 h1 h2;exact⟨x.toNat,y.toNat,z.toNat,by rw [Int.toNat_of_nonneg h0.1,Int.toNat_of_nonneg h1.1,Int.toNat_of_nonneg h2.1],by omega,by omega,by omega⟩
def wOf (w:List Int) (s:RS):Int :=
 if s.k=2 then gI w (gI s.ar 0).toNat+gI w (gI s.ar 1).toNat
 else if s.k=3∨s.k=4 then gI w (gI s.ar 0).toNat+gI w (gI s.ar 1).toNat+gI w (gI s.ar 2).toNat
 else if s.k=5 then 2*gI w (gI s.ar 0).toNat+gI w (gI s.ar 1).toNat
 else 1
def wts (ss:List RS):Nat→List Int
 | 0=>[]
 | i+1=>wts ss i++[wOf (wts ss i) (ss.getD i RS.zero)]
theorem Zjy (ss:List RS):∀i,(wts ss i).length=i
 | 0=>rfl
 | i+1=>by show(wts ss i++[_]).length=i+1;rw [List.length_append,Zjy ss i];rfl
theorem gI_app (l:List Int) (x:Int) (n:Nat):gI (l++[x]) n=if n < l.length then gI l n else if n=l.length then x else 0:=by
 split
 ·rename_i h;rw [Zex (by simp;omega),Zex h,List.getElem_append_left h]
 ·split
  ·rename_i h1 h2;subst h2;rw [Zex (by simp)];simp
  ·rw [Zer (by simp;omega)]
theorem Zlc (ss:List RS):∀i n,0≤gI (wts ss i) n∧gI (wts ss i) n≤((3 ^ i:Nat):Int)
 | 0,n=>by rw [Zer (Nat.zero_le _)];omega
 | i+1,n=>by
   show 0≤gI (wts ss i++[_]) n∧gI (wts ss i++[_]) n≤_;have hp:(3 ^ (i+1):Nat)=3*3 ^ i:=by rw [Nat.pow_succ,Nat.mul_comm]
   have hq:1≤3 ^ i:=Nat.one_le_pow _ _ (by omega);rw [gI_app,hp];have h0:=Zlc ss i n;have h1:=Zlc ss i (gI (ss.getD i RS.zero).ar 0).toNat;have h2:=Zlc ss i (gI (ss.getD i RS.zero).ar 1).toNat;have h3:=Zlc ss i (gI (ss.getD i RS.zero).ar 2).toNat;unfold wOf;generalize (3 ^ i:Nat)=z at *;split
   ·omega
   ·split
    ·split
     ·omega
     ·split
      ·omega
      ·split<;>omega
    ·omega
def Zuw (ss:List RS) (gs:List RG):Bool :=
 (wts ss ss.length).all (λw=>decide (w≤8)) && gs.all λg=>!(decide (g.k=6) || decide (g.k=7)) || g.ar.all λa=>decide (gI (wts ss ss.length) a.toNat≤3)
def rat2 (r:RQ):Bool:=decide (r.l.length≤2) && decide (r.d.length≤2)
def fewB (ss:List RS) (gs:List RG):Bool :=
 decide (ss.length≤8) && (decide (gs.length≤3) && (decide (figE ss gs=0) && (Zuw ss gs && (ss.all (λs=>rat2 s.r) && gs.all λg=>rat2 g.r))))
theorem few_34 {ss:List RS} {gs:List RG} (hs:∀s∈ss,s.sm) (h:fewB ss gs=true):ss.length≤8∧figE ss gs=0∧∀s∈ss,s.r.lm 2:=by
 unfold fewB at h;simp only [Bool.and_eq_true,decide_eq_true_eq,List.all_eq_true] at h;obtain⟨h1,h2,h3,h4,h5,h6⟩:=h;refine⟨h1,h3,λs hm=>?_⟩;have:=h5 s hm;unfold rat2 at this;simp only [Bool.and_eq_true,decide_eq_true_eq] at this;obtain⟨k1,k2,k3,k4⟩:=(hs s hm).1;exact⟨k1,k2,this.1,this.2⟩
def fitS (s:RS):Bool:=!(decide (2 < s.r.l.length) || decide (2 < s.r.d.length) || decide (8 < s.ar.length))
def fitsB (ss:List RS) (gs:List RG):Bool:=ss.all fitS && (decide (nfN ss ss.length≤12) && (decide (ss.length≤42) && decide (gs.length≤10)))
theorem Zpo {α:Type} {p:α→Bool} {l:List α} {i:Nat} (h:i < l.length) (hp:p l[i]=false):l.all p=false:=by
 rw [Bool.eq_false_iff];intro ha;rw [List.all_eq_true] at ha;rw [ha _ (List.getElem_mem h)] at hp;cases hp
theorem all_of {α:Type} {p:α→Bool} {l:List α} (h:∀j (hj:j < l.length),p l[j]=true):l.all p=true:=by
 rw [List.all_eq_true];intro x hx;obtain⟨j,hj,rfl⟩:=List.mem_iff_getElem.1 hx;exact h j hj
end Go.Proofs.YtjgdomdhjphgbaaGreatDoor
