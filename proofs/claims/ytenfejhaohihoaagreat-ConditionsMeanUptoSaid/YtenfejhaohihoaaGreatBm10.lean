/- Contracts of the functions that the law reaches, and the rules by which they are walked. They say what a call hands back for every input within the bounds that each names; no other condition. -/
import Derived.Test.YtenfejhaohihoaaGreatBm9
set_option linter.unusedSimpArgs false
set_option linter.unusedVariables false
set_option maxRecDepth 20000
set_option maxHeartbeats 16000000
namespace Go.Proofs.YtenfejhaohihoaaGreat
open Go Go.RowKit Go.Pg Go.Pol Go.Proofs.Tryz
attribute [-bool_to_prop] Bool.and_eq_decide Bool.or_eq_decide Bool.decide_beq_decide decide_eq_decide
theorem r22AtRun (ss:List RS) (gs:List RG) (Vs:List Rat) (Bs:List Bool) (u nf:Nat→Nat) (hl:ss.length≤8) (her:∀i,i < ss.length→errS ss i=0) (hlm:∀s∈ss,s.r.lm 2) (hVs:∀q∈Vs,Sz q 2) (lV:Vs.length≤900) (lB:Bs.length≤900)
 (u0:u 0=0) (n0:nf 0=0) (hu:∀i (h:i < ss.length),u (i+1)=u i+useN ss[i].k (nf i)) (hnf:∀i (h:i < ss.length),nf (i+1)=if ss[i].k=1 then nf i+1 else nf i) (hn9:∀i,i≤ss.length→nf i≤900) (eV:∀i,i≤ss.length→u i≤Vs.length) (eB:∀i,i≤ss.length→twoN ss i≤Bs.length)
 (cc:Pure prog 28 [figA ss gs] (.tup [iv Vs.length,iv Bs.length,iv 0])) :
 (∃L:List PQ,L.length=ss.length∧(∀i (h:i < ss.length) (h':i < L.length),RunAt ss Vs Bs u nf (L.take i) i h L[i])∧(∀i (h':i < L.length),Hv (70*11 ^ (i+1)) L[i])∧Pure prog 8 [figA ss gs,.sl 3 (Vs.map ratQ),.sl 1 (Bs.map bvA)] (.tup [.agg [.sl 3 (Vs.map ratQ),.sl 1 (Bs.map bvA),.sl 6 (L.map PQ.av)],iv 0,iv 0])) ∨
 ∃(K:Nat) (e:Int),(0 < e∧e < 100)∧Pure prog 8 [figA ss gs,.sl 3 (Vs.map ratQ),.sl 1 (Bs.map bvA)] (.tup [Zqy,iv K,iv e]):=by
 obtain⟨L,h1,h2,h3,h4⟩:=run22 ss Vs Bs u nf hl her hlm hVs lV lB hu hnf hn9 eV eB ss.length (Zx7 _);have key:=λr hr=>r22AtV ss gs (Vs.map ratQ) (Bs.map bvA) hl (by rw [Zx9];omega) (by rw [Zx9];omega) (by rw [Zx9,Zx9];exact cc) L.length h1 (λi=>L.take i) (λi=>(Vs.drop (u i)).map ratQ) (λi=>(Bs.drop (twoN ss i)).map bvA) (λi=>(nf i:Int)) (λi=>by rw [Zx9,Zzx];omega) (λi=>by rw [Zx9,Zzx];omega) (λi hi=>by rw [Zyp];omega) (ZA0) (by simp only [u0,Zz6]) (by simp only [show twoN ss 0=0 from Nat.le_zero.1 (Zps ss 0),Zz6]) (by simp only [n0];rfl)
  (λi h=>by obtain⟨k1,k2,k3,k4⟩:=Zge h (her i h);exact⟨k2,k1,k3⟩)
  (λi h hK=>⟨L[i],Zl5 hK,(h2 i h hK).1⟩) r hr
 rcases h4 with h4 | ⟨h,e,W',C',n',he,hp⟩
 ·refine .inl ⟨L,h4,h2,h3,key _ (.inl ⟨h4,?_⟩)⟩;rw [Zy7]
 ·refine .inr ⟨L.length,e,he,key _ (.inr ⟨h,e,W',C',n',he,?_,rfl⟩)⟩;simp only [Zy7];exact hp
attribute [local go_sem] Zbt Zba Zbb Zbc Ze6 Zbl Zfq Zcn Zbf Zbi Zck Za4 Za6 Zb1 Zc1 Zaz Zbk Zdb Zdd Zcp Zcd Zcz Zbe Zbh Zcj Zcr Zcf Zcq
abbrev i8s (l:List Int):List AV:=l.map λk=>.v (.int .i8 k)
structure StV (s:RS) (i:Nat) (vs:List Vt) (x:Nat→Rat) (P:Nat→PQ):Prop where
 k2:s.k=2→∃(a b:Nat) (q:Rat),s.ar=[(a:Int),(b:Int)]∧a < i∧b < i∧s.r.av=ratQ q∧Pure prog 74 [(P a).av,(P b).av,ratQ q] (P i).av
 k3:s.k=3→∃a b c:Nat,s.ar=[(a:Int),(b:Int),(c:Int)]∧a < i∧b < i∧c < i∧Pure prog 79 [(P a).av,(P b).av,(P c).av] (P i).av
 k4:s.k=4→∃a b c:Nat,s.ar=[(a:Int),(b:Int),(c:Int)]∧a < i∧b < i∧c < i∧Pure prog 80 [(P a).av,(P b).av,(P c).av] (P i).av
 k5:s.k=5→∃a b:Nat,s.ar=[(a:Int),(b:Int)]∧a < i∧b < i∧∀j (h:j < vs.length),vs[j].2.1=(i:Int)→Pure prog 74 [(P a).av,(P b).av,ratQ (x j)] (P i).av
def valI (l:List Int) (j:Nat):Int:=if j < l.length then (gI l j).tmod 101 else j
def valX (l:List Int) (n j:Nat):Rat:=((List.range n).map λj=>((valI l j:Int):Rat)).getD j 0
theorem Zr7 (f:FS) (i:Nat) (s:RS):∀v∈(f.nxt i s).1,v.2.1=(i:Int):=by
 unfold FS.nxt;simp only
 repeat' split
 all_goals (intro v hv;simp at hv)
 all_goals (try (rcases hv with rfl | rfl | rfl<;>rfl))
 all_goals (try (rcases hv with rfl | rfl<;>rfl))
 all_goals (try (subst hv;rfl))
theorem vs_lt (ss:List RS):∀i,∀v∈(frN ss i).vs,v.2.1 < (i:Int)
 | 0,v,h=>by simp [frN] at h
 | i+1,v,h=>by
   rcases List.mem_append.1 (show v∈(frN ss i).vs++((frN ss i).nxt i (ss.getD i RS.zero)).1 from h) with h1 | h1
   ·have:=vs_lt ss i v h1;omega
   ·have:=Zr7 _ _ _ v h1;omega
theorem Zxj (ss:List RS) (i:Nat):∀d,∃l,(frN ss (i+d)).cs=(frN ss i).cs++l
 | 0=>⟨[],by rw [Zzy];rfl⟩
 | d+1=>by
   obtain⟨l,hl⟩:=Zxj ss i d;refine⟨l++[((frN ss (i+d)).nxt (i+d) (ss.getD (i+d) RS.zero)).2],?_⟩;show(frN ss (i+d)).cs++_=_;rw [hl,Zzd];rfl
theorem cs_at {ss:List RS} {i j:Nat} (hi:i≤ss.length) (hj:j < i):(frN ss ss.length).cs.getD j ([],[])=(frN ss i).cs.getD j ([],[]):=by
 obtain⟨l,hl⟩:=Zxj ss i (ss.length - i);rw [show i+(ss.length - i)=ss.length by omega] at hl;rw [hl,Zyg,Zyg,Zzp (by rw [Zeu];omega)]
theorem cs_nxt {ss:List RS} {i:Nat} (hi:i < ss.length):(frN ss ss.length).cs.getD i ([],[])=((frN ss i).nxt i ss[i]).2:=by
 rw [cs_at (show i+1≤ss.length by omega) zo,Zeg hi,Zyg,Zzq (by rw [Zeu];omega),Zeu,ZBi];rfl
theorem Zuz {a:Rat} {p:Po} (h:SrtM p):SrtM (sclM a p):=by
 unfold sclM;split
 ·exact .nil
 ·rename_i h0;exact Zca h h0
theorem Zcs {p q:Po} (hp:SrtM p) (hq:SrtM q):SrtM (subM p q):=Zb5 ordM hp (Zca hq neg1)
abbrev ptV (x:Nat→Rat) (c:Po × Po):PQ:=(evP x c.1,evP x c.2)
theorem nxt_val (x:Nat→Rat) (f:FS) (i:Nat) (s:RS) (hs:∀k,SrtM (f.at s k).1∧SrtM (f.at s k).2) (hv:f.vs.length < 64∨s.k≠5) :
 (s.k=2→ptV x (f.nxt i s).2=Zf2 (ptV x (f.at s 0)) (ptV x (f.at s 1)) s.r.q) ∧
 (s.k=3→ptV x (f.nxt i s).2=Zjc (ptV x (f.at s 0)) (ptV x (f.at s 1)) (ptV x (f.at s 2))) ∧
 (s.k=4→ptV x (f.nxt i s).2=Znm (ptV x (f.at s 0)) (ptV x (f.at s 1)) (ptV x (f.at s 2))) ∧
 (s.k=5→ptV x (f.nxt i s).2=Zf2 (ptV x (f.at s 0)) (ptV x (f.at s 1)) (x f.vs.length)):=by
 obtain⟨a1,a2⟩:=hs 0;obtain⟨b1,b2⟩:=hs 1;obtain⟨c1,c2⟩:=hs 2;refine⟨λh=>?_,λh=>?_,λh=>?_,λh=>?_⟩
 ·unfold FS.nxt Zf2 ptV;simp only [h];rw [Zx4 zd,Zx5 trivial];simp only [Zfc x a1 (Zuz (Zcs b1 a1)),Zfc x a2 (Zuz (Zcs b2 a2)),evP_scl,Zc7 x b1 a1,Zc7 x b2 a2]
 ·unfold FS.nxt Zjc ptV;simp only [h];rw [Zx4 zd,Zx4 zd,Zx5 trivial];simp only [Zfc x a1 (Zcs c1 b1),Zfc x a2 (Zcs c2 b2),Zc7 x c1 b1,Zc7 x c2 b2,ZAk]
 ·unfold FS.nxt Znm ptV;simp only [h];rw [Zx4 zd,Zx4 zd,Zx4 zd,Zx5 trivial];simp only [Zfc x a1 (Zcs b2 c2),Zfc x a2 (Zcs c1 b1),Zc7 x b2 c2,Zc7 x c1 b1,ZAk];congr 1
  grind
 ·have h64:f.vs.length < 64:=hv.resolve_right λk=>k h;unfold FS.nxt Zf2 ptV;simp only [h];rw [Zx4 zd,Zx4 zd,Zx4 zd,Zx4 zd,Zx5 trivial];simp only [Zfc x a1 (Zbr ordM mulK (Zcs b1 a1) (Zce _)),Zfc x a2 (Zbr ordM mulK (Zcs b2 a2) (Zce _)),Zh6 x (Zcs b1 a1) (Zce _),Zh6 x (Zcs b2 a2) (Zce _),Zc7 x b1 a1,Zc7 x b2 a2,Zgx x h64,Rat.mul_comm]
def Zdw (k:Int) (n:Nat) (W:List Rat) (x:PQ):List Rat :=
 if k=1 then (if n=0 then [] else if n=1 then [W.getD 0 0] else [W.getD 0 0,W.getD 1 0])
 else if k=2∨k=3∨k=4 then []
 else if k=5 then [W.getD 0 0]
 else if k=6 then [W.getD 0 0,x.1,x.2]
 else [x.1,x.2]
def vaL (ss:List RS) (Vs:List Rat) (u nf:Nat→Nat) (L:List PQ):Nat→List Rat
 | 0=>[]
 | i+1=>vaL ss Vs u nf L i++Zdw (ss.getD i ⟨0,.empty,[],⟨false,[],[]⟩⟩).k (nf i) (Vs.drop (u i)) (L.getD i (0,0))
theorem Zwb (f:FS) (i:Nat) (s:RS) (W:List Rat) (x:PQ):(f.nxt i s).1.length=(Zdw s.k f.fr W x).length:=by
 unfold FS.nxt Zdw;simp only;by_cases h1:s.k=1
 ·rw [Zx5 h1,Zx5 h1];split
  ·rfl
  ·split<;>rfl
 ·rw [Zx4 h1,Zx4 h1];by_cases h2:s.k=2
  ·rw [Zx5 h2,Zx5 (.inl h2)];rfl
  ·rw [Zx4 h2];by_cases h3:s.k=3
   ·rw [Zx5 h3,Zx5 (.inr (.inl h3))];rfl
   ·rw [Zx4 h3];by_cases h4:s.k=4
    ·rw [Zx5 h4,Zx5 (.inr (.inr h4))];rfl
    ·rw [Zx4 h4,Zx4 (show ¬(s.k=2∨s.k=3∨s.k=4) from λh=>h.elim h2 λh=>h.elim h3 h4)];by_cases h5:s.k=5
     ·rw [Zx5 h5,Zx5 h5];rfl
     ·rw [Zx4 h5,Zx4 h5];by_cases h6:s.k=6
      ·rw [Zx5 h6,Zx5 h6];rfl
      ·rw [Zx4 h6,Zx4 h6];rfl
theorem Zpr {ss:List RS} {Vs:List Rat} {u nf:Nat→Nat} {L:List PQ} (hf:∀i,i≤ss.length→nf i=(frN ss i).fr):∀i,i≤ss.length→(vaL ss Vs u nf L i).length=(frN ss i).vs.length
 | 0,_=>rfl
 | i+1,h=>by
   unfold vaL;rw [Zy0,Zpr hf i zo,hf i zo];show _=((frN ss i).vs++((frN ss i).nxt i (ss.getD i ⟨0,.empty,[],⟨false,[],[]⟩⟩)).1).length;rw [Zy0,Zwb _ _ _ (Vs.drop (u i)) (L.getD i (0,0))]
theorem Zuk {ss:List RS} {Vs:List Rat} {u nf:Nat→Nat} {L:List PQ} (i:Nat):∀d,∃l,vaL ss Vs u nf L (i+d)=vaL ss Vs u nf L i++l
 | 0=>⟨[],by rw [Zzy];rfl⟩
 | d+1=>by
   obtain⟨l,h⟩:=Zuk (ss:=ss) (Vs:=Vs) (u:=u) (nf:=nf) (L:=L) i d;refine⟨l++Zdw (ss.getD (i+d) ⟨0,.empty,[],⟨false,[],[]⟩⟩).k (nf (i+d)) (Vs.drop (u (i+d))) (L.getD (i+d) (0,0)),?_⟩;show vaL ss Vs u nf L (i+d)++_=_;rw [h,Zzd];rfl
section
attribute [local go_sem] underlying3 underlying136 underlying4 underlying184 underlying34 underlying59 underlying57 underlying55 underlying90 underlying26 underlying31 underlying98 underlying37 underlying106 underlying38 underlying40 underlying109 underlying111 underlying53 sz3 by3 z3 Zbt zErr Zba zRat Zbb zNat Zbc zInt szB zB szPt byPt zPt Ze6 Zbl Zfq Zcn Zbf Zbi Zck Za4 Za6 Zb1 Zc1 zSlC Zaz Zbk Zdb Zdd zVar Zcp zSlV underlying156 szVec byVec zVec
end
attribute [go_sem] byRq underlying49 zProb
attribute [local go_sem] Znp Zno Znq Zph Zuc Zjz Zpf Zpn Zuu Zxv
def RQ.two (q:RQ):Bool:=decide (q.l.length≤2) && (decide (q.d.length≤2) && q.ok)
def Zwp (qs:List RQ):Bool:=decide (qs.length≤12) && qs.all RQ.two
theorem rhMild (qs:List RQ) {k:Nat} (hs:∀q∈qs,q.lm k):Pure prog 6 [.sl 3 (qs.map RQ.av)] (.v (.bool (Zwp qs))):=by
 have hlm:(qs.map RQ.av).length=qs.length:=Zx9 ..;have hg:∀i (h:i < qs.length),(qs.map RQ.av).getD i .u=qs[i].av:=λi h=>Zaj RQ.av h;unfold Zwp;by_cases hl:qs.length≤12
 ·rw [Zx8 hl,Zzv];have hq:∀i (h:i < qs.length),(qs[i].l.length≤2∧qs[i].d.length≤2)→Pure prog 21 [.agg [.v (.bool qs[i].s),lim qs[i].l,lim qs[i].d]] (.v (.bool qs[i].ok)):=λi h h4=>by
   have h1:=hs _ (Zyl h);exact Zvr _ _ _ h1.1 h1.2.1 zo zo
  have hno:∀i (h:i < qs.length),qs[i].two=false→qs.all RQ.two=false:=λi h e=>by
   rw [List.all_eq_false];exact⟨qs[i],Zyl h,by rw [e];simp⟩
  have hyes:(∀i (h:i < qs.length),qs[i].two=true)→qs.all RQ.two=true:=λe=>by
   rw [ZAr];intro x hx;obtain⟨j,hj,rfl⟩:=List.mem_iff_getElem.1 hx;exact e j hj
  generalize qs.all RQ.two=v at *;generalize qs.map RQ.av=M at *;refine pI func6 rfl ntmps6 results6 call6 ?_;(focus (refine wkap (w_1 hlm) w_t (w_r 0) ?_;(repeat' first|exact w_t|apply w_l);all_goals intros));refine Zad (ι:=Nat) (λi e m=>i≤qs.length∧e 0=.sl 3 M∧e 3=iv i∧∀j (h:j < qs.length),j < i→qs[j].two=true) (λi=>qs.length - i) 0 zr ?_ ?_
  ·rintro i e m ⟨hi,e0,e3,hj⟩
   by_cases hlt:i < qs.length
   ·have hgi:=hg i hlt;have q12:=hq i hlt;have hno:=hno i hlt;have hnx:qs[i].two=true→∀j (h:j < qs.length),j < i+1→qs[j].two=true:=λh j hjj h2=>by
     by_cases e:j=i
     ·subst e;exact h
     ·exact hj j hjj zo
    clear hj hyes hg hq hs;have hfd:qs[i].two=(decide (qs[i].l.length≤2) && (decide (qs[i].d.length≤2) && qs[i].ok)):=rfl;generalize qs[i].two=f at *;generalize hpi:qs[i]=p at *;obtain⟨s1,l1,d1⟩:=p;simp only at *;generalize RQ.ok ⟨s1,l1,d1⟩=o1 at *;by_cases a1:l1.length≤2∧d1.length≤2
    ·have q1:=q12 a1;clear q12;obtain⟨a1,a2⟩:=a1;rw [Zx8 a1,Zx8 a2] at hfd
     cases o1 with
     | false =>
       rw [hno (by rw [hfd];rfl)];clear hno hnx hfd;(focus (refine wklp (w_5 e0 e3 hlm hgi @Zav) (w_1 q1) w_t (w_r 0) ?_;(repeat' first|exact w_t|apply w_l);all_goals intros))
     | true =>
       have:=hnx (by rw [hfd];rfl);clear hno hnx hfd;(focus (refine wkap (w_5 e0 e3 hlm hgi @Zav) (w_1 q1) (w_r 0) ?_;(repeat' first|exact w_t|apply w_l);all_goals intros));exact⟨i+1,⟨zo,gW e0,gS,this⟩,zo⟩
    ·rw [hno (by rw [hfd];simp only [Bool.and_eq_false_iff,ZAa];omega)];clear hno hnx hfd q12;(focus (refine wkap (w_5 e0 e3 hlm hgi @Zav) w_t (w_r 0) ?_;(repeat' first|exact w_t|apply w_l);all_goals intros));all_goals first|((all_goals (try simp (disch:=omega) only [go_sem,Zx8,Zx6,Zx5,Zx4,Int.reduceAdd,Int.reduceSub,Int.reduceToNat,Zyh]));(all_goals first|done|rfl|(congr 2;first|done|omega|(rw [Zyn];simp only [bool_to_prop,Zyj,Zyw,Zyx,Zyy,Zyz];omega))|skip))|omega
   ·rw [hyes λj h=>hj j h zo];clear hj hyes hno hg hq hs;(focus (refine wklp (w_3 e0 e3 hlm) w_t w_t (w_r 0) ?_;(repeat' first|exact w_t|apply w_l);all_goals intros))
  ·exact⟨Zyi _,gC,gC,λj h h2=>zo⟩
 ·rw [Zx6 hl,Zzb];clear hg hs;generalize qs.map RQ.av=M at *;refine pI func6 rfl ntmps6 results6 call6 ?_;(focus (refine wklp (w_1 hlm) w_t w_t (w_r 0) ?_;(repeat' first|exact w_t|apply w_l);all_goals intros))
def vaS (vs:List Vt) (V:List Rat) (P:List PQ):Nat→List Rat × Nat × Nat
 | 0=>([],0,0)
 | v+1 =>
   let r:=vaS vs V P v
   let t:=vs.getD v (0,0,0)
   if t.1=1 then (r.1++[V.getD r.2.1 0],r.2.1+1,0)
   else if r.2.2=0∨t.2.1≠(vs.getD (v - 1) (0,0,0)).2.1 then (r.1++[(P.getD t.2.1.toNat (0,0)).1],r.2.1,1)
   else (r.1++[(P.getD t.2.1.toNat (0,0)).2],r.2.1,0)
theorem Zui (vs:List Vt) (V:List Rat) (P:List PQ):∀v,(vaS vs V P v).1.length=v
 | 0=>rfl
 | v+1=>by
   have h:=Zui vs V P v;unfold vaS;simp only;split
   ·rw [Zy0,h];rfl
   ·split
    ·rw [Zy0,h];rfl
    ·rw [Zy0,h];rfl
theorem Zrb (vs:List Vt) (V:List Rat) (P:List PQ):∀v,(vaS vs V P v).2.1≤v∧(vaS vs V P v).2.2≤1∧((vaS vs V P v).2.2=1→1≤v)
 | 0=>⟨Zx7 _,Zyi _,λh=>by cases h⟩
 | v+1=>by
   have h:=Zrb vs V P v;unfold vaS;simp only;split
   ·simp only;omega
   ·split
    ·simp only;omega
    ·simp only;omega
theorem Zvn (ss:List RS) (gs:List RG) (cs:List (Po × Po)) (vs:List Vt) (V:List Rat) (B:List AV) (P:List PQ) (hv:vs.length≤70) (hn:V.length=(Zen vs vs.length).length) (hP:P.length=ss.length) (hp8:P.length≤1000)
 (hu:∀v,v < vs.length→(vs.getD v (0,0,0)).1=1→(vaS vs V P v).2.1 < V.length) (hst:∀v,v < vs.length→∃j:Nat,(vs.getD v (0,0,0)).2.1=(j:Int)∧j < P.length) :
 Pure prog 11 [.agg [.sl 6 (ss.map RS.av),.sl 5 (gs.map RG.av),.sl 2 (cs.map coA),.sl 3 (vs.map Vt.av),.v (.slice none 0 0),.v (.slice none 0 0),.v (.slice none 0 0)],.agg [.sl 3 (V.map ratQ),.sl 1 B,.sl 6 (P.map PQ.av)]] (.tup [.sl 3 ((vaS vs V P vs.length).1.map ratQ),iv 0]):=by
 have cp:Pure prog 39 [.agg [.sl 2 (cs.map coA),.sl 3 (vs.map Vt.av)]] (.sl 1 ((Zen vs vs.length).map iv)):=Zru cs vs hv;have lM:(ss.map RS.av).length=ss.length:=Zx9 ..;have lv:(vs.map Vt.av).length=vs.length:=Zx9 ..;have lV:(V.map ratQ).length=V.length:=Zx9 ..;have lP:(P.map PQ.av).length=P.length:=Zx9 ..;have lp:((Zen vs vs.length).map iv).length=V.length:=by rw [Zx9,hn]
 have hgv:∀i,i < vs.length→(vs.map Vt.av).getD i .u=Vt.av (vs.getD i (0,0,0)):=λi h=>by rw [Zaj Vt.av h,Zyg,Zyf h];rfl
 have hgV:∀i,i < V.length→(V.map ratQ).getD i .u=ratQ (V.getD i 0):=λi h=>by rw [Zaj ratQ h,Zyg,Zyf h];rfl
 have hgP:∀i,i < P.length→(P.map PQ.av).getD i .u=PQ.av (P.getD i (0,0)):=λi h=>by rw [Zaj PQ.av h,Zyg,Zyf h];rfl
 have hlr:=Zui vs V P;have hlu:=Zrb vs V P;have hnx:∀v,vaS vs V P (v+1)=(if (vs.getD v (0,0,0)).1=1 then ((vaS vs V P v).1++[V.getD (vaS vs V P v).2.1 0],(vaS vs V P v).2.1+1,0) else if (vaS vs V P v).2.2=0∨(vs.getD v (0,0,0)).2.1≠(vs.getD (v - 1) (0,0,0)).2.1 then ((vaS vs V P v).1++[(P.getD (vs.getD v (0,0,0)).2.1.toNat (0,0)).1],(vaS vs V P v).2.1,1) else ((vaS vs V P v).1++[(P.getD (vs.getD v (0,0,0)).2.1.toNat (0,0)).2],(vaS vs V P v).2.1,0)):=λv=>rfl;have h0:vaS vs V P 0=([],0,0):=rfl;generalize vaS vs V P=S at *;generalize ss.map RS.av=M at *;generalize gs.map RG.av=N at *;generalize cs.map coA=C at *
 generalize hVs:vs.map Vt.av=VS at *;generalize V.map ratQ=VV at *;generalize P.map PQ.av=PP at *;generalize (Zen vs vs.length).map iv=pp at *;clear hVs hn;refine pI func11 rfl ntmps11 results11 call11 ?_;(focus (refine wkad (w_6 lM lv lV lP lp hP) (w_1 cp) (w_1 (w_d 1 [(5,.sl 1 pp)] [] [])) ?_;(repeat' first|exact w_t|apply w_l);all_goals intros));rename_i g2 g3;refine Zf5 (Frz.nilOwn (d:=6) 37 3 59 (gC)) ?_;refine Zad (ι:=Nat) (λv e m=>v≤vs.length∧e 2=.pbox 2 g2 0∧e 3=.pbox 3 g3 0∧m 2=some (.box g2 49 [.sl 6 M,.sl 5 N,.sl 2 C,.sl 3 VS,.v (.slice none 0 0),.v (.slice none 0 0),.v (.slice none 0 0)] false)∧m 3=some (.box g3 33 [.sl 3 VV,.sl 1 B,.sl 6 PP] false)∧e 9=iv v∧e 7=iv (S v).2.1∧e 8=iv (S v).2.2∧∃sv,e 6=.own 37 sv∧m 37=some (.row sv 59 3 ((S v).1.map ratQ) 0)) (λv=>vs.length - v) 0 zr ?_ ?_
 ·rintro v e m ⟨hi,e2,e3,m2,m3,e9,e7,e8,sv,e6,m6⟩
  have hlo:=hlr v;have hlq:=hlu v;have hrm:((S v).1.map ratQ).length=v:=by rw [Zx9,hlo]
  by_cases hlt:v < vs.length
  ·have hg:=hgv v hlt;have hg1:=hgv (v - 1) zo;have hnv:=hnx v;have huv:=hu v hlt;have hgu:=λh=>hgV (S v).2.1 (huv h);obtain⟨j,hj,hjl⟩:=hst v hlt;have hgj:=hgP j hjl;rw [hj] at hnv;rw [Zzg] at hnv;clear hu hst hnx h0 hlr hlu hgv hgV hgP;generalize vs.getD v (0,0,0)=t at *;generalize vs.getD (v - 1) (0,0,0)=t' at *;obtain⟨t1,t2,t3⟩:=t;obtain⟨t4,t5,t6⟩:=t';simp only at *;subst hj;generalize P.getD j (0,0)=q at *;obtain⟨q1,q2⟩:=q;generalize hS1:S (v+1)=R' at *;generalize hS:S v=R at *;obtain⟨r1,r2,r3⟩:=R;simp only at *;by_cases h1:t1=1
   ·have hgu:=hgu h1;have hul:=huv h1;generalize V.getD r2 0=w at *;rw [Zx5 h1] at hnv;clear huv;(focus (refine wkad (w_16 e2 e3 m2 m3 e9 e7 e8 e6 m6 lv lV lP hg h1 hgu hrm) w_t w_t ?_;(repeat' first|exact w_t|apply w_l);all_goals intros));refine⟨v+1,⟨zo,gW e2,gW e3,gW m2,gW m3,gS,by rw [hS1,hnv];exact gS,by rw [hS1,hnv];exact gC,_,gW e6,?_⟩,zo⟩;rw [hS1,hnv,Zys];exact gC
   ·rw [Zx4 h1] at hnv;clear huv hgu;by_cases h2:r3=0
    ·subst h2;rw [Zx5 (.inl rfl)] at hnv;(focus (refine wkad (w_16 e2 e3 m2 m3 e9 e7 e8 e6 m6 lv lV lP hg h1 hgj hrm) w_t (w_1 (w_d 12 [] [12] [10])) ?_;(repeat' first|exact w_t|apply w_l);all_goals intros));refine⟨v+1,⟨zo,gW e2,gW e3,gW m2,gW m3,gS,by rw [hS1,hnv];exact gW e7,by rw [hS1,hnv];exact gC,_,gW e6,?_⟩,zo⟩;rw [hS1,hnv,Zys];exact gC
    ·have h3:r3=1:=zo;subst h3;have hv1:((v:Int) - 1)=((v - 1:Nat):Int):=zo;by_cases h4:(j:Int)=t5
     ·subst h4;rw [Zx4 zs] at hnv;(focus (refine wkad (w_18 e2 e3 m2 m3 e9 e7 e8 e6 m6 lv lV lP hg hg1 h1 hv1 hgj hrm) w_t (w_1 (w_d 12 [] [12] [10])) ?_;(repeat' first|exact w_t|apply w_l);all_goals intros));refine⟨v+1,⟨zo,gW e2,gW e3,gW m2,gW m3,gS,by rw [hS1,hnv];exact gW e7,by rw [hS1,hnv];exact gC,_,gW e6,?_⟩,zo⟩;rw [hS1,hnv,Zys];exact gC
     ·rw [Zx5 (.inr h4)] at hnv;(focus (refine wkad (w_19 e2 e3 m2 m3 e9 e7 e8 e6 m6 lv lV lP hg hg1 h1 h4 hv1 hgj hrm) w_t (w_1 (w_d 12 [] [12] [10])) ?_;(repeat' first|exact w_t|apply w_l);all_goals intros));refine⟨v+1,⟨zo,gW e2,gW e3,gW m2,gW m3,gS,by rw [hS1,hnv];exact gW e7,by rw [hS1,hnv];exact gC,_,gW e6,?_⟩,zo⟩;rw [hS1,hnv,Zys];exact gC
  ·obtain rfl:v=vs.length:=zo;clear hu hst hnx h0 hlr hlu hgv hgV hgP;(focus (refine wkad (w_13 e2 e3 m2 m3 e9 e7 e8 e6 m6 lv lV lP hrm) w_t w_t ?_;(repeat' first|exact w_t|apply w_l);all_goals intros));simp (disch:=omega) only [go_sem,m6,hrm]
 ·refine⟨Zyi _,gC,gC,gC,gC,gC,by rw [h0];exact gC,by rw [h0];exact gC,_,gC,?_⟩;rw [h0];exact gC
section
attribute [local go_sem] underlying3 underlying4 underlying184 underlying9 underlying67 underlying34 underlying59 underlying57 underlying55 underlying76 underlying22 underlying90 underlying26 underlying31 underlying27 sz3 by3 z3 szB zB Zbt zErr Zcd zStr Zba byRq zRat Zbc zInt Zbb zNat Zbe Zbh Zcj Zcf zSlI szPt byPt zPt Znp zSlB Zno zSlR underlying25 underlying33 Zcr zFig Zcq zSlS Znq Zph Zuc Zjz Zpf Zpn underlying49 Zuu Zxv zProb underlying40 Zaz Zbk underlying106 underlying38 Zdb Zdd zVar Zcp zSlV
end
attribute [local go_sem] Zc3 Zc9 Ze4 Zc2 Zc8 Ze3 Zde Zff Zfg Zgm Zg2 Zjy Zj0 Zek Zeq Zgk Zgj Zuv Zhq Zhw Zk3 Zj1 Zpo
def cPol (c:RC) (cs:List Pt) (vs:List Vt):Po :=
 if c.k=1 then dotM (cs.getD (gI c.ar 0).toNat ([],[])) (cs.getD (gI c.ar 1).toNat ([],[])) (cs.getD (gI c.ar 0).toNat ([],[])) (cs.getD (gI c.ar 1).toNat ([],[]))
 else if c.k=2 then Zeo (cs.getD (gI c.ar 0).toNat ([],[])) (cs.getD (gI c.ar 1).toNat ([],[])) (cs.getD (gI c.ar 0).toNat ([],[])) (cs.getD (gI c.ar 2).toNat ([],[]))
 else if c.k=3 then Zeo (cs.getD (gI c.ar 0).toNat ([],[])) (cs.getD (gI c.ar 1).toNat ([],[])) (cs.getD (gI c.ar 2).toNat ([],[])) (cs.getD (gI c.ar 3).toNat ([],[]))
 else Zhr (parM vs c.st)
theorem cpol_pb (c:RC) {cs:List Pt} (hcb:∀j,CB (cs.getD j ([],[]))) (vs:List Vt):PB (cPol c cs vs) 512 14178 16:=by
 unfold cPol;split
 ·exact((hcb _).dot (hcb _) (hcb _) (hcb _)).mono zo zo zo
 ·split
  ·exact((hcb _).cross (hcb _) (hcb _) (hcb _)).mono zo zo zo
  ·split
   ·exact((hcb _).cross (hcb _) (hcb _) (hcb _)).mono zo zo zo
   ·have h:=Zvz vs c.st;exact(Zr4.add (h.mul h)).mono zo zo zo
def Zt9 (c:RC) (ss:List RS):Prop :=
 (c.k=1∧∃x y:Nat,c.ar=[(x:Int),(y:Int)]∧x < ss.length∧y < ss.length) ∨
 (c.k=2∧∃x y z:Nat,c.ar=[(x:Int),(y:Int),(z:Int)]∧x < ss.length∧y < ss.length∧z < ss.length) ∨
 (c.k=3∧∃x y z w:Nat,c.ar=[(x:Int),(y:Int),(z:Int),(w:Int)]∧x < ss.length∧y < ss.length∧z < ss.length∧w < ss.length) ∨
 (c.k=4∧c.ar=[]∧∃(i:Nat) (h:i < ss.length),c.st=i∧ss[i].k=6)
theorem cnd_is {c:RC} {ss:List RS} (h:Zt3 c ss=true) (hal:∀i (h:i < ss.length),(ss[i].ar.length:Int)=arS ss[i].k) (hai:∀i (h:i < ss.length),∀k,k < ss[i].ar.length→0≤gI ss[i].ar k∧gI ss[i].ar k < (ss.length:Int)):Zt9 c ss:=by
 unfold Zt3 at h;simp only [Zyv,Zy1] at h;obtain⟨⟨h0,h1⟩,h2,h3⟩:=h;have hi:c.st.toNat < ss.length:=zo;rw [show ss.getD c.st.toNat RS.zero=ss[c.st.toNat] from by rw [Zyg,Zyf hi];rfl] at h2 h3;have hl:=hal _ hi;have ha:=hai _ hi;have hin:∃(i:Nat) (h:i < ss.length),c.st=i∧ss[i].k=ss[c.st.toNat].k:=⟨c.st.toNat,hi,zo,rfl⟩;generalize ss[c.st.toNat]=s at *;generalize c.st.toNat=i at *;unfold Zl8 at h3;simp only [Zyv,Zy1] at h3;obtain⟨e1,-,e3⟩:=h3;unfold cHas at h2;have h2:=of_decide_eq_true h2;have kk:s.k=6∨s.k=7∨s.k=8∨s.k=9∨s.k=10∨s.k=11∨s.k=12∨s.k=13∨s.k=14:=zo
 unfold Zt9;rcases kk with k | k | k | k | k | k | k | k | k
 ·rw [show cOf s i=⟨4,[],i⟩from by simp [cOf,k]] at e1 e3;obtain⟨j,hj,q1,q2⟩:=hin;exact .inr (.inr (.inr ⟨e1,e3,j,hj,q1,by rw [q2,k]⟩))
 ·obtain⟨x,y,z,hx,lx,ly,lz⟩:=ar3 (n:=ss.length) (by rw [hl,k];rfl) ha;rw [show cOf s i=⟨1,[(y:Int),(z:Int)],i⟩from by simp [cOf,k,hx,gI]] at e1 e3;exact .inl ⟨e1,y,z,e3,ly,lz⟩
 ·obtain⟨x,y,z,hx,lx,ly,lz⟩:=ar3 (n:=ss.length) (by rw [hl,k];rfl) ha;rw [show cOf s i=⟨1,[(y:Int),(z:Int)],i⟩from by simp [cOf,k,hx,gI]] at e1 e3;exact .inl ⟨e1,y,z,e3,ly,lz⟩
 ·obtain⟨x,y,z,w,hx,lx,ly,lz,lw⟩:=ar4 (n:=ss.length) (by rw [hl,k];rfl) ha;rw [show cOf s i=⟨3,s.ar,i⟩from by simp [cOf,k]] at e1 e3;exact .inr (.inr (.inl ⟨e1,x,y,z,w,by rw [e3,hx],lx,ly,lz,lw⟩))
 ·obtain⟨x,y,z,hx,lx,ly,lz⟩:=ar3 (n:=ss.length) (by rw [hl,k];rfl) ha;rw [show cOf s i=⟨1,[(x:Int),(y:Int)],i⟩from by simp [cOf,k,hx,gI]] at e1 e3;exact .inl ⟨e1,x,y,e3,lx,ly⟩
 ·obtain⟨x,y,z,hx,lx,ly,lz⟩:=ar3 (n:=ss.length) (by rw [hl,k];rfl) ha;rw [show cOf s i=⟨2,s.ar,i⟩from by simp [cOf,k]] at e1 e3;exact .inr (.inl ⟨e1,x,y,z,by rw [e3,hx],lx,ly,lz⟩)
 ·obtain⟨x,y,z,w,hx,lx,ly,lz,lw⟩:=ar4 (n:=ss.length) (by rw [hl,k];rfl) ha;rw [show cOf s i=⟨1,[(x:Int),(y:Int)],i⟩from by simp [cOf,k,hx,gI]] at e1 e3;exact .inl ⟨e1,x,y,e3,lx,ly⟩
 ·obtain⟨x,y,z,w,hx,lx,ly,lz,lw⟩:=ar4 (n:=ss.length) (by rw [hl,k];rfl) ha;rw [show cOf s i=⟨1,[(x:Int),(z:Int)],i⟩from by simp [cOf,k,hx,gI]] at e1 e3;exact .inl ⟨e1,x,z,e3,lx,lz⟩
 ·obtain⟨x,y,hx,lx,ly⟩:=ar2 (n:=ss.length) (by rw [hl,k];rfl) ha;rw [show cOf s i=⟨1,[(x:Int),(y:Int)],i⟩from by simp [cOf,k,hx,gI]] at e1 e3;exact .inl ⟨e1,x,y,e3,lx,ly⟩
theorem cnSlope (cs:List Pt) (vs:List Vt) (i:Int) (w:Nat) (hv:vs.length≤900) (hw:w < 900) (hf:fstN vs i vs.length=some w):Pure prog 54 [frmA cs vs,iv i] (poA (Zhr (varM w))):=by
 have hlV:(vs.map Vt.av).length=vs.length:=Zx9 ..;have hgV:∀y,y < vs.length→(vs.map Vt.av).getD y .u=Vt.av (vs.getD y (0,0,0)):=λy h=>by rw [Zaj Vt.av h,Zyg,Zyf h];rfl
 have c0:Pure prog 100 [iv 1] (ratQ 1):=ratOf 1 zo;have c1:=poConst1;have c2:=poVar w zo;have h1:=Zug w;have c3:=(hpMul h1 h1 zo zo zo zo zo zo zo zo zo).1;have c4:=(hpAdd Zr4 (h1.mul h1) zo zo zo zo zo zo).1;unfold Zhr;show Pure _ _ [.agg [.sl 2 (cs.map coA),.sl 3 (vs.map Vt.av)],iv i] _;generalize cs.map coA=C at *;generalize vs.map Vt.av=V at *;generalize addM oneM (mlM (varM w) (varM w))=r4 at *;generalize mlM (varM w) (varM w)=r3 at *;generalize varM w=r2 at *;generalize oneM=r1 at *;refine pI func54 rfl ntmps54 results54 call54 ?_;(focus (refine wkap (w_1 hlV) (w_2 c0 c1) (w_r 0) ?_;(repeat' first|exact w_t|apply w_l);all_goals intros))
 rename_i g2;refine Zad (ι:=Nat) (λy e m=>y≤vs.length∧e 1=iv i∧e 2=.pbox 2 g2 0∧m 2=some (.box g2 40 [.sl 2 C,.sl 3 V] false)∧e 5=poA r1∧e 11=.sl 3 V∧e 12=iv vs.length∧e 13=iv y∧∀j,j < y→(vs.getD j (0,0,0)).2.1≠i) (λy=>vs.length - y) 0 zr ?_ ?_
 ·rintro y e m ⟨hy,e1,e2,m2,e5,e11,e12,e13,hj⟩
  by_cases hlt:y < vs.length
  ·have hg:=hgV y hlt;by_cases hyi:(vs.getD y (0,0,0)).2.1=i
   ·have hyw:y=w:=by
     have:=Zxe hj hyi hlt;rw [hf] at this;injection this with this
     exact this.symm
    subst hyw;generalize vs.getD y (0,0,0)=v at *;obtain⟨v1,v2,v3⟩:=v;simp only at hyi;subst hyi;(focus (refine wkap (w_9 e1 e2 m2 e5 e11 e12 e13 hlV hg) (w_3 c2 c3 c4) (w_r 0) ?_;(repeat' first|exact w_t|apply w_l);all_goals intros));all_goals exact gL
   ·have hnx:∀j,j < y+1→(vs.getD j (0,0,0)).2.1≠i:=λj hjj=>by
     by_cases e:j=y
     ·rw [e];exact hyi
     ·exact hj j zo
    generalize vs.getD y (0,0,0)=v at *;obtain⟨v1,v2,v3⟩:=v;simp only at hyi;(focus (refine wkap (w_10 e1 e2 m2 e5 e11 e12 e13 hlV hg hyi) w_t (w_r 0) ?_;(repeat' first|exact w_t|apply w_l);all_goals intros));exact⟨y+1,⟨zo,gW e1,gW e2,gW m2,gW e5,gW e11,gW e12,gS,hnx⟩,zo⟩
  ·exfalso;have:=Zkr (n:=vs.length) λj hjj=>hj j zo;rw [hf] at this;cases this
 ·exact⟨Zyi _,gC,gC,gC,gC,gC,by(simp (disch:=omega) only [go_sem,hlV]<;>repeat' first|rfl|refine⟨?_,?_⟩),gC,λj h=>zo⟩
theorem cnPoly (c:RC) (ss:List RS) (gs:List RG) (cs:List Pt) (vs:List Vt) (hi:Zt9 c ss) (hlc:cs.length=ss.length) (hcb:∀j,CB (cs.getD j ([],[]))) (hv:vs.length≤900) (h6:∀(i:Nat) (h:i < ss.length),ss[i].k=6→∃w,fstN vs i vs.length=some w∧w < 900)
 (cr:Pure prog 51 [c.av,figA ss gs] (.v (.bool true))):Pure prog 17 [c.av,figA ss gs,frmA cs vs] (.tup [poA (cPol c cs vs),iv 0]):=by
 have hcl:(cs.map coA).length=cs.length:=Zx9 ..;have hgc:∀j,j < cs.length→(cs.map coA).getD j .u=coA (cs.getD j ([],[])):=λj h=>by rw [Zaj coA h,Zyg,Zyf h];rfl
 obtain⟨k,ar,st⟩:=c;unfold Zt9 at hi;simp only at hi;unfold cPol;rcases hi with⟨rfl,x,y,rfl,hx,hy⟩ | ⟨rfl,x,y,z,rfl,hx,hy,hz⟩ | ⟨rfl,x,y,z,w,rfl,hx,hy,hz,hw⟩ | ⟨rfl,rfl,i,hi,rfl,hk⟩
 ·simp only [gI,Zz0,Zz1,Zzg,Zy2,Zx5,show ¬((2:Int)=1) from by decide,show ¬((3:Int)=1) from by decide,show ¬((3:Int)=2) from by decide,Zyu];have gx:=hgc x zo;have qx:=hcb x;have gy:=hgc y zo;have qy:=hcb y;have cC:=hyDot qx qy qx qy;have hl:∀j,j < ss.length→j < cs.length:=λj h=>zo;have lx:=hl x hx;have ly:=hl y hy;clear hcb hgc h6 hl hx hy qx qy;generalize cs.getD x ([],[])=X at *;generalize cs.getD y ([],[])=Y at *;generalize dotM X Y X Y=D at *;obtain⟨x1,x2⟩:=X;obtain⟨y1,y2⟩:=Y;have gx:(cs.map coA).getD x .u=.agg [.sl 4 (x1.map tmA),.sl 4 (x2.map tmA)]:=gx
  have gy:(cs.map coA).getD y .u=.agg [.sl 4 (y1.map tmA),.sl 4 (y2.map tmA)]:=gy;have cC:Pure prog 52 [.agg [.sl 4 (x1.map tmA),.sl 4 (x2.map tmA)],.agg [.sl 4 (y1.map tmA),.sl 4 (y2.map tmA)],.agg [.sl 4 (x1.map tmA),.sl 4 (x2.map tmA)],.agg [.sl 4 (y1.map tmA),.sl 4 (y2.map tmA)]] (poA D):=cC;have cr:Pure prog 51 [.agg [iv 1,.sl 1 [iv ((x:Nat):Int),iv ((y:Nat):Int)],iv st],.agg [.sl 6 (ss.map RS.av),.sl 5 (gs.map RG.av)]] (.v (.bool true)):=cr;show Pure _ _ [.agg [iv 1,.sl 1 [iv ((x:Nat):Int),iv ((y:Nat):Int)],iv st],.agg [.sl 6 (ss.map RS.av),.sl 5 (gs.map RG.av)],.agg [.sl 2 (cs.map coA),.sl 3 (vs.map Vt.av)]] _
  generalize ss.map RS.av=M at *;generalize gs.map RG.av=N at *;generalize cs.map coA=C at *;generalize vs.map Vt.av=V at *;generalize x1.map tmA=X1 at *;generalize x2.map tmA=X2 at *;generalize y1.map tmA=Y1 at *;generalize y2.map tmA=Y2 at *;refine pI func17 rfl ntmps17 results17 call17 ?_;(focus (refine wkax (w_5 hcl gx gy lx ly) (w_2 cr cC) (w_1 (w_d 13 [(12,poA D)] [] [])) w_t w_t w_t w_y (w_r 5) ?_;(repeat' first|exact w_t|apply w_l);all_goals intros));all_goals exact gL
 ·simp only [gI,Zz0,Zz1,Zzg,Zy2,Zx5,show ¬((2:Int)=1) from by decide,show ¬((3:Int)=1) from by decide,show ¬((3:Int)=2) from by decide,Zyu];have gx:=hgc x zo;have qx:=hcb x;have gy:=hgc y zo;have qy:=hcb y;have gz:=hgc z zo;have qz:=hcb z;have cC:=Zw2 qx qy qx qz;have hl:∀j,j < ss.length→j < cs.length:=λj h=>zo;have lx:=hl x hx;have ly:=hl y hy;have lz:=hl z hz;clear hcb hgc h6 hl hx hy hz qx qy qz;generalize cs.getD x ([],[])=X at *;generalize cs.getD y ([],[])=Y at *;generalize cs.getD z ([],[])=Z at *;generalize Zeo X Y X Z=D at *
  obtain⟨x1,x2⟩:=X;obtain⟨y1,y2⟩:=Y;obtain⟨z1,z2⟩:=Z;have gx:(cs.map coA).getD x .u=.agg [.sl 4 (x1.map tmA),.sl 4 (x2.map tmA)]:=gx;have gy:(cs.map coA).getD y .u=.agg [.sl 4 (y1.map tmA),.sl 4 (y2.map tmA)]:=gy;have gz:(cs.map coA).getD z .u=.agg [.sl 4 (z1.map tmA),.sl 4 (z2.map tmA)]:=gz;have cC:Pure prog 53 [.agg [.sl 4 (x1.map tmA),.sl 4 (x2.map tmA)],.agg [.sl 4 (y1.map tmA),.sl 4 (y2.map tmA)],.agg [.sl 4 (x1.map tmA),.sl 4 (x2.map tmA)],.agg [.sl 4 (z1.map tmA),.sl 4 (z2.map tmA)]] (poA D):=cC;have cr:Pure prog 51 [.agg [iv 2,.sl 1 [iv ((x:Nat):Int),iv ((y:Nat):Int),iv ((z:Nat):Int)],iv st],.agg [.sl 6 (ss.map RS.av),.sl 5 (gs.map RG.av)]] (.v (.bool true)):=cr
  show Pure _ _ [.agg [iv 2,.sl 1 [iv ((x:Nat):Int),iv ((y:Nat):Int),iv ((z:Nat):Int)],iv st],.agg [.sl 6 (ss.map RS.av),.sl 5 (gs.map RG.av)],.agg [.sl 2 (cs.map coA),.sl 3 (vs.map Vt.av)]] _;generalize ss.map RS.av=M at *;generalize gs.map RG.av=N at *;generalize cs.map coA=C at *;generalize vs.map Vt.av=V at *;generalize x1.map tmA=X1 at *;generalize x2.map tmA=X2 at *;generalize y1.map tmA=Y1 at *;generalize y2.map tmA=Y2 at *;generalize z1.map tmA=Z1 at *;generalize z2.map tmA=Z2 at *;refine pI func17 rfl ntmps17 results17 call17 ?_;(focus (refine wkax (w_7 hcl gx gy gz lx ly lz) (w_2 cr cC) (w_1 (w_d 15 [(12,poA D)] [] [])) w_t w_t w_t w_y (w_r 5) ?_;(repeat' first|exact w_t|apply w_l);all_goals intros))
  all_goals exact gL
 ·simp only [gI,Zz0,Zz1,Zzg,Zy2,Zx5,show ¬((2:Int)=1) from by decide,show ¬((3:Int)=1) from by decide,show ¬((3:Int)=2) from by decide,Zyu];have gx:=hgc x zo;have qx:=hcb x;have gy:=hgc y zo;have qy:=hcb y;have gz:=hgc z zo;have qz:=hcb z;have gw:=hgc w zo;have qw:=hcb w;have cC:=Zw2 qx qy qz qw;have hl:∀j,j < ss.length→j < cs.length:=λj h=>zo;have lx:=hl x hx;have ly:=hl y hy;have lz:=hl z hz;have lw:=hl w hw;clear hcb hgc h6 hl hx hy hz hw qx qy qz qw;generalize cs.getD x ([],[])=X at *;generalize cs.getD y ([],[])=Y at *;generalize cs.getD z ([],[])=Z at *
  generalize cs.getD w ([],[])=Wt at *;generalize Zeo X Y Z Wt=D at *;obtain⟨x1,x2⟩:=X;obtain⟨y1,y2⟩:=Y;obtain⟨z1,z2⟩:=Z;obtain⟨w1,w2⟩:=Wt;have gx:(cs.map coA).getD x .u=.agg [.sl 4 (x1.map tmA),.sl 4 (x2.map tmA)]:=gx;have gy:(cs.map coA).getD y .u=.agg [.sl 4 (y1.map tmA),.sl 4 (y2.map tmA)]:=gy;have gz:(cs.map coA).getD z .u=.agg [.sl 4 (z1.map tmA),.sl 4 (z2.map tmA)]:=gz;have gw:(cs.map coA).getD w .u=.agg [.sl 4 (w1.map tmA),.sl 4 (w2.map tmA)]:=gw;have cC:Pure prog 53 [.agg [.sl 4 (x1.map tmA),.sl 4 (x2.map tmA)],.agg [.sl 4 (y1.map tmA),.sl 4 (y2.map tmA)],.agg [.sl 4 (z1.map tmA),.sl 4 (z2.map tmA)],.agg [.sl 4 (w1.map tmA),.sl 4 (w2.map tmA)]] (poA D):=cC
  have cr:Pure prog 51 [.agg [iv 3,.sl 1 [iv ((x:Nat):Int),iv ((y:Nat):Int),iv ((z:Nat):Int),iv ((w:Nat):Int)],iv st],.agg [.sl 6 (ss.map RS.av),.sl 5 (gs.map RG.av)]] (.v (.bool true)):=cr;show Pure _ _ [.agg [iv 3,.sl 1 [iv ((x:Nat):Int),iv ((y:Nat):Int),iv ((z:Nat):Int),iv ((w:Nat):Int)],iv st],.agg [.sl 6 (ss.map RS.av),.sl 5 (gs.map RG.av)],.agg [.sl 2 (cs.map coA),.sl 3 (vs.map Vt.av)]] _;generalize ss.map RS.av=M at *;generalize gs.map RG.av=N at *;generalize cs.map coA=C at *;generalize vs.map Vt.av=V at *;generalize x1.map tmA=X1 at *;generalize x2.map tmA=X2 at *;generalize y1.map tmA=Y1 at *
  generalize y2.map tmA=Y2 at *;generalize z1.map tmA=Z1 at *;generalize z2.map tmA=Z2 at *;generalize w1.map tmA=W1 at *;generalize w2.map tmA=W2 at *;refine pI func17 rfl ntmps17 results17 call17 ?_;(focus (refine wkax (w_9 hcl gx gy gz gw lx ly lz lw) (w_2 cr cC) (w_1 (w_d 17 [(12,poA D)] [] [])) w_t w_t w_t w_y (w_r 5) ?_;(repeat' first|exact w_t|apply w_l);all_goals intros));all_goals exact gL
 ·obtain⟨w,hf,hw⟩:=h6 i hi hk;rw [Zx4 (show ¬((4:Int)=1) from by decide),Zx4 (show ¬((4:Int)=2) from by decide),Zx4 (show ¬((4:Int)=3) from by decide),Zvy hf];have cS:=cnSlope cs vs (i:Int) w hv hw hf;clear hcb hgc h6;have cr:Pure prog 51 [.agg [iv 4,.sl 1 [],iv (i:Int)],.agg [.sl 6 (ss.map RS.av),.sl 5 (gs.map RG.av)]] (.v (.bool true)):=cr;have cS:Pure prog 54 [.agg [.sl 2 (cs.map coA),.sl 3 (vs.map Vt.av)],iv (i:Int)] (poA (Zhr (varM w))):=cS;show Pure _ _ [.agg [iv 4,.sl 1 [],iv (i:Int)],.agg [.sl 6 (ss.map RS.av),.sl 5 (gs.map RG.av)],.agg [.sl 2 (cs.map coA),.sl 3 (vs.map Vt.av)]] _
  generalize ss.map RS.av=M at *;generalize gs.map RG.av=N at *;generalize cs.map coA=C at *;generalize vs.map Vt.av=V at *;generalize Zhr (varM w)=D at *;generalize varM w=E at *;refine pI func17 rfl ntmps17 results17 call17 ?_;(focus (refine wkax (w_1 hcl) (w_2 cr cS) w_t w_t w_t w_t w_y (w_r 5) ?_;(repeat' first|exact w_t|apply w_l);all_goals intros));all_goals exact gL
end Go.Proofs.YtenfejhaohihoaaGreat
namespace Go.Proofs.YtenfejhaohihoaaGreat
open Go Go.RowKit Go.Pg Go.Pol Go.Proofs.Tryz
def NX (p:Po) (D n b e v:Nat):Prop:=NE p (D ^ n) (65536 ^ b) e v
theorem NX.mono {p:Po} {D n b e v m c f:Nat} (h:NX p D n b e v) (hn:n≤m) (hb:b≤c) (he:e≤f):NX p D m c f v:=NE.mono h (Nat.pow_dvd_pow D hn) (Zzj zd hb) he (Zx7 _)
theorem NX.nil {D n b e v:Nat}:NX [] D n b e v:=NE.nil
theorem NX.add {p q:Po} {D n b e v m c f:Nat} (h:NX p D n b e v) (g:NX q D m c f v):NX (addM p q) D (max n m) (max b c+1) (max e f) v:=by
 have h1:=h.mono (Nat.le_max_left n m) (Nat.le_max_left b c) (Zx7 e);have g1:=g.mono (Nat.le_max_right n m) (Nat.le_max_right b c) (Zx7 f);refine NE.mono (NE.add h1 g1) (ZAs _) ?_ (Zx7 _) (Zx7 _);rw [Zzi];generalize 65536 ^ max b c=x;omega
theorem NX.sub {p q:Po} {D n b e v m c f:Nat} (h:NX p D n b e v) (g:NX q D m c f v):NX (subM p q) D (max n m) (max b c+1) (max e f) v:=h.add (q:=Zaw (-1) q) (NE.neg g)
theorem NX.mul {p q:Po} {D n b e v m c f:Nat} (h:NX p D n b e v) (g:NX q D m c f v):NX (mlM p q) D (n+m) (b+c) (e+f) v:=by
 have:=NE.mul h g;rw [←Zzo,←Zzo] at this;exact this
theorem n1_len {B:Nat}:∀p:Po,(∀t∈p,cl t.1≤B)→n1 p≤p.length*B
 | [],_=>Zyi _
 | t :: p,h=>by
   have h1:=n1_len p λu hu=>h u (.tail _ hu);have h2:=h t (.head _);rw [Za3,Zyk,ZB7];omega
theorem gp_nx {n D v V:Nat} {p:Po} (h:GP n D v p) (hl:p.length≤8) (hn:n≤8) (hv:v≤V):NX p D 1 25 1 V:=by
 have hB:BB n≤65536 ^ 24:=Zzj zd zo;refine⟨h.1,λt ht=>by rw [Nat.pow_one];exact(h.2 t ht).1.1,?_,λt ht=>⟨Zye (h.2 t ht).2.1 hv,(h.2 t ht).2.2⟩⟩;have h1:=n1_len (B:=BB n) p λt ht=>cl_le.2 (h.2 t ht).1.2;have h2:p.length*BB n≤8*65536 ^ 24:=ZA2 hl hB;exact Zye h1 (Zye h2 zd)
theorem one_nx {D n v:Nat}:NX oneM D n 1 0 v:=by
 refine⟨Zr4.s,λt ht=>?_,by decide,λt ht=>?_⟩
 ·rw [Zzs] at ht;subst ht;exact Nat.one_dvd _
 ·rw [Zzs] at ht;subst ht;exact⟨Zyi _,λj=>by rw [Zb3 (Zyi _)];omega⟩
theorem var_nx {D n v w:Nat} (h:w < v):NX (varM w) D n 1 1 v:=by
 refine⟨Zce w,λt ht=>?_,?_,λt ht=>?_⟩
 ·unfold varM at ht;split at ht
  ·rw [Zzs] at ht;subst ht;exact Nat.one_dvd _
  ·cases ht
 ·unfold varM;split
  ·show cl 1+0≤65536 ^ 1;decide
  ·exact Zyi _
 ·unfold varM at ht;split at ht
  ·rw [Zzs] at ht;subst ht;refine⟨by show(Zdf w).length≤v;rw [Zej];omega,λj=>?_⟩;show gI (Zdf w) j≤_;rw [Zfb];split<;>omega
  ·cases ht
structure CX (c:Pt) (D v:Nat):Prop where
 x:NX c.1 D 1 25 1 v
 y:NX c.2 D 1 25 1 v
section
variable {a b c d x:Pt} {t:Po} {D v:Nat}
theorem CX.df (h:CX a D v) (g:CX b D v):NX (subM b.1 a.1) D 1 26 1 v∧NX (subM b.2 a.2) D 1 26 1 v:=⟨(g.x.sub h.x).mono zo zo zo,(g.y.sub h.y).mono zo zo zo⟩
theorem CX.cross (ha:CX a D v) (hb:CX b D v) (hc:CX c D v) (hd:CX d D v):NX (Zeo a b c d) D 2 53 2 v :=
 (((ha.df hb).1.mul (hc.df hd).2).sub ((ha.df hb).2.mul (hc.df hd).1)).mono zo zo zo
theorem CX.dot (ha:CX a D v) (hb:CX b D v) (hc:CX c D v) (hd:CX d D v):NX (dotM a b c d) D 2 53 2 v :=
 (((ha.df hb).1.mul (hc.df hd).1).add ((ha.df hb).2.mul (hc.df hd).2)).mono zo zo zo
theorem slope_nx (ht:NX t D 1 1 1 v):NX (Zhr t) D 2 3 2 v:=(one_nx.add (ht.mul ht) (n:=0)).mono zo zo zo
end
structure SP (c:Pt):Prop where
 x:SrtM c.1
 y:SrtM c.2
theorem CX.sp {c:Pt} {D v:Nat} (h:CX c D v):SP c:=⟨h.x.s,h.y.s⟩
section
variable {a b c d x:Pt} {t:Po} (X:Nat→Rat)
theorem Zsu (ha:SP a) (hb:SP b) (hc:SP c) (hd:SP d):evP X (Zeo a b c d)=crV (ptV X a) (ptV X b) (ptV X c) (ptV X d):=by
 have s1:=Zcs hb.x ha.x;have s2:=Zcs hb.y ha.y;have s3:=Zcs hd.x hc.x;have s4:=Zcs hd.y hc.y;unfold Zeo crV;rw [Zc7 X (Zbr ordM mulK s1 s4) (Zbr ordM mulK s2 s3),Zh6 X s1 s4,Zh6 X s2 s3,Zc7 X hb.x ha.x,Zc7 X hb.y ha.y,Zc7 X hd.x hc.x,Zc7 X hd.y hc.y]
theorem ev_dot (ha:SP a) (hb:SP b) (hc:SP c) (hd:SP d):evP X (dotM a b c d)=doV (ptV X a) (ptV X b) (ptV X c) (ptV X d):=by
 have s1:=Zcs hb.x ha.x;have s2:=Zcs hb.y ha.y;have s3:=Zcs hd.x hc.x;have s4:=Zcs hd.y hc.y;unfold dotM doV;rw [Zfc X (Zbr ordM mulK s1 s3) (Zbr ordM mulK s2 s4),Zh6 X s1 s3,Zh6 X s2 s4,Zc7 X hb.x ha.x,Zc7 X hb.y ha.y,Zc7 X hd.x hc.x,Zc7 X hd.y hc.y]
theorem ev_slope (ht:SrtM t):evP X (Zhr t)=1+evP X t*evP X t:=by
 unfold Zhr;rw [Zfc X Zr4.s (Zbr ordM mulK ht ht),Zh6 X ht ht];rw [show evP X oneM=1 from by show 1*mvN X [] 0+0=1;rw [show mvN X [] 0=1 from rfl];grind]
end
structure RunP (ss:List RS) (Vs:List Rat) (u nf:Nat→Nat) (L:List PQ):Prop where
 l8:ss.length≤8
 len:L.length=ss.length
 pt:∀i (h:i < ss.length) (h':i < L.length),PtR ss[i] (argP (L.take i) ss[i]) (Vs.drop (u i)) (nf i) L[i]
 hv:∀i (h':i < L.length),Hv (70*11 ^ (i+1)) L[i]
 vs:∀q∈Vs,Sz q 2
 u0:u 0=0
 hu:∀i (h:i < ss.length),u (i+1)=u i+useN ss[i].k (nf i)
 nf:∀i,i≤ss.length→nf i=(frN ss i).fr
 uV:∀i,i≤ss.length→u i≤Vs.length
theorem Zi5 {α:Type} {l m:List α} {d:α} {j:Nat} (h:j < l.length):(l++m).getD j d=l.getD j d:=by
 rw [Zyg,Zyg,Zzp h]
theorem Zi4 {α:Type} {l m:List α} {d:α} {j:Nat}:(l++m).getD (l.length+j) d=m.getD j d:=by
 rw [Zyg,Zyg,Zzq zo,ZCa]
theorem Zhh {α:Type} {l:List α} {d:α} {i j:Nat}:(l.drop i).getD j d=l.getD (i+j) d:=by
 rw [Zyg,Zyg,ZAi]
theorem sz_get {Vs:List Rat} (h:∀q∈Vs,Sz q 2) (j:Nat):Sz (Vs.getD j 0) 2:=by
 rw [Zyg];rcases Zyr j Vs.length with hj | hj
 ·rw [Zyf hj];exact h _ (Zyl hj)
 ·rw [Zzl hj];exact(Zci 0 zo).mono zo
theorem Zs9 {k:Int} {n:Nat} {W:List Rat} {x:PQ} {q:Rat} (h:q∈Zdw k n W x):q=W.getD 0 0∨q=W.getD 1 0∨q=x.1∨q=x.2:=by
 unfold Zdw at h
 repeat' split at h
 all_goals simp only [ZBe,List.not_mem_nil,or_false] at h
 all_goals (first | exact h.elim | (rcases h with rfl | rfl | rfl<;>simp) | (rcases h with rfl | rfl<;>simp) | (subst h;simp))
theorem Zta (k:Int) (n:Nat) (W:List Rat) (x:PQ):(Zdw k n W x).length≤3:=by
 unfold Zdw
 repeat' split
 all_goals simp
theorem va_szs {ss:List RS} {Vs:List Rat} {u nf:Nat→Nat} {L:List PQ} (R:RunP ss Vs u nf L):∀i,i≤ss.length→∃s:Nat→Nat,(∀j,j < (vaL ss Vs u nf L i).length→Sz ((vaL ss Vs u nf L i).getD j 0) (s j))∧10*sumN s (vaL ss Vs u nf L i).length≤14*11 ^ (i+1)
 | 0,_=>⟨λ_=>0,λj h=>absurd h (Nat.not_lt_zero _),by show 10*0≤_;omega⟩
 | i+1,hi=>by
   obtain⟨s,h1,h2⟩:=va_szs R i zo;have hx:=hv_sz (R.hv i (by have:=R.len;omega));have hgx:L.getD i (0,0)=L[i]'(by have:=R.len;omega):=by rw [Zyg,Zyf (by have:=R.len;omega)];rfl
   rw [←hgx] at hx;have hm:=λq=>Zs9 (k:=(ss.getD i ⟨0,.empty,[],⟨false,[],[]⟩⟩).k) (n:=nf i) (W:=Vs.drop (u i)) (x:=L.getD i (0,0)) (q:=q);have hln:=Zta (ss.getD i ⟨0,.empty,[],⟨false,[],[]⟩⟩).k (nf i) (Vs.drop (u i)) (L.getD i (0,0));have hmem:∀q∈Zdw (ss.getD i ⟨0,.empty,[],⟨false,[],[]⟩⟩).k (nf i) (Vs.drop (u i)) (L.getD i (0,0)),Sz q (70*11 ^ (i+1)/16+2):=λq hq=>by
    rcases hm q hq with rfl | rfl | rfl | rfl
    ·rw [Zhh];exact(sz_get R.vs _).mono zo
    ·rw [Zhh];exact(sz_get R.vs _).mono zo
    ·exact hx.1.mono zo
    ·exact hx.2.mono zo
   unfold vaL;generalize Zdw (ss.getD i ⟨0,.empty,[],⟨false,[],[]⟩⟩).k (nf i) (Vs.drop (u i)) (L.getD i (0,0))=T at *;generalize vaL ss Vs u nf L i=A at *;generalize hc:70*11 ^ (i+1)/16+2=c at *;refine⟨λj=>if j < A.length then s j else c,λj hj=>?_,?_⟩
   ·rw [Zy0] at hj;rcases Zyr j A.length with h | h
    ·rw [Zi5 h];show Sz _ (if j < A.length then s j else c);rw [Zx5 h];exact h1 j h
    ·show Sz _ (if j < A.length then s j else c);rw [Zx4 zo,show j=A.length+(j - A.length) by omega,Zi4];exact hmem _ (Za2 zo)
   ·rw [Zy0];have e1:=Zld (s:=λj=>if j < A.length then s j else c) (r:=s) A.length λj hj=>Zx5 hj;have e2:=Zlc (s:=λj=>if j < A.length then s j else c) (c:=c) A.length T.length λj h3 h4=>by show(if j < A.length then s j else c)≤c;rw [Zx4 zo];exact Zx7 _
    have e3:T.length*c≤3*c:=Zy5 _ hln;have e4:11 ^ (i+1+1)=11*11 ^ (i+1):=by rw [Zzi 11 (i+1),Zy9]
    have e5:11≤11 ^ (i+1):=by
     rw [Zzi];have:=Nat.one_le_pow i 11 zd;omega
    rw [e4];generalize 11 ^ (i+1)=z at *;omega
section
variable {vs:List Vt} {V:List Rat} {P:List PQ} {v:Nat}
theorem Zuj {A:List Rat} {U:Nat} {t:Int × Int} (h:vaS vs V P v=(A,U,0)) (g:vs.getD v (0,0,0)=(1,t)):vaS vs V P (v+1)=(A++[V.getD U 0],U+1,0):=by
 unfold vaS;simp only [h,g,Zy2]
theorem vaS_2 {A:List Rat} {U i:Nat} {y z:Int} (h:vaS vs V P v=(A,U,0)) (g:vs.getD v (0,0,0)=(2,(i:Int),y)) (g':vs.getD (v+1) (0,0,0)=(2,(i:Int),z)):vaS vs V P (v+2)=(A++[(P.getD i (0,0)).1,(P.getD i (0,0)).2],U,0):=by
 have h1:vaS vs V P (v+1)=(A++[(P.getD i (0,0)).1],U,1):=by
  unfold vaS;simp only [h,g];rw [Zx4 zd,Zx5 (Or.inl trivial),Zzg]
 show vaS vs V P (v+1+1)=_
 conv=>lhs;unfold vaS
 simp only [h1,g',ZB3,g];rw [Zx4 zd,Zx4 zs,Zzg,Zzd];rfl
end
theorem nxt_k (f:FS) (i:Nat) (s:RS):(f.nxt i s).1=(if s.k=1 then (if f.fr=0 then [] else if f.fr=1 then [(1,(i:Int),0)] else [(1,(i:Int),0),(1,(i:Int),1)]) else if s.k=2∨s.k=3∨s.k=4 then [] else if s.k=5 then [(1,(i:Int),0)] else if s.k=6 then [(1,(i:Int),0),(2,(i:Int),1),(2,(i:Int),2)] else [(2,(i:Int),0),(2,(i:Int),1)]):=by
 unfold FS.nxt;simp only;by_cases h1:s.k=1
 ·rw [Zx5 h1,Zx5 h1];split
  ·rfl
  ·split<;>rfl
 ·rw [Zx4 h1,Zx4 h1];by_cases h2:s.k=2
  ·rw [Zx5 h2,Zx5 (.inl h2)]
  ·rw [Zx4 h2];by_cases h3:s.k=3
   ·rw [Zx5 h3,Zx5 (.inr (.inl h3))]
   ·rw [Zx4 h3];by_cases h4:s.k=4
    ·rw [Zx5 h4,Zx5 (.inr (.inr h4))]
    ·rw [Zx4 h4,Zx4 (show ¬(s.k=2∨s.k=3∨s.k=4) from λh=>h.elim h2 λh=>h.elim h3 h4)];by_cases h5:s.k=5
     ·rw [Zx5 h5,Zx5 h5]
     ·rw [Zx4 h5,Zx4 h5];by_cases h6:s.k=6
      ·rw [Zx5 h6,Zx5 h6]
      ·rw [Zx4 h6,Zx4 h6]
theorem vs_split {ss:List RS} {i:Nat} (hi:i < ss.length):∃l,(frN ss ss.length).vs=(frN ss i).vs++(((frN ss i).nxt i ss[i]).1++l):=by
 obtain⟨l,hl⟩:=Zue ss (i+1) (ss.length - (i+1));rw [show i+1+(ss.length - (i+1))=ss.length by omega,Zeg hi] at hl;exact⟨l,by rw [hl,Zzd]⟩
theorem vs_at {ss:List RS} {i:Nat} (hi:i < ss.length) {m:Nat} (hm:m < ((frN ss i).nxt i ss[i]).1.length):(frN ss ss.length).vs.getD ((frN ss i).vs.length+m) (0,0,0)=((frN ss i).nxt i ss[i]).1.getD m (0,0,0):=by
 obtain⟨l,hl⟩:=vs_split hi;rw [hl,Zi4,Zi5 hm]
theorem va_S {ss:List RS} {Vs:List Rat} {u nf:Nat→Nat} {L:List PQ} (r0:u 0=0) (ru:∀i (h:i < ss.length),u (i+1)=u i+useN ss[i].k (nf i)) (rn:∀i,i≤ss.length→nf i=(frN ss i).fr):∀i,i≤ss.length→vaS (frN ss ss.length).vs Vs L (frN ss i).vs.length=(vaL ss Vs u nf L i,u i,0)
 | 0,_=>by rw [r0];rfl
 | i+1,hi=>by
   have hlt:i < ss.length:=zo;have ih:=va_S (Vs:=Vs) (L:=L) r0 ru rn i zo;have hf:=rn i zo;have hu:=ru i hlt;have hn:=λm=>vs_at (m:=m) hlt;have hgs:ss.getD i ⟨0,.empty,[],⟨false,[],[]⟩⟩=ss[i]:=by rw [Zyg,Zyf hlt];rfl
   have hd0:(Vs.drop (u i)).getD 0 0=Vs.getD (u i) 0:=by rw [Zhh];rfl
   have hd1:(Vs.drop (u i)).getD 1 0=Vs.getD (u i+1) 0:=Zhh;have hlen:(frN ss (i+1)).vs.length=(frN ss i).vs.length+((frN ss i).nxt i ss[i]).1.length:=by rw [Zeg hlt];exact Zy0
   show _=(vaL ss Vs u nf L i++Zdw (ss.getD i ⟨0,.empty,[],⟨false,[],[]⟩⟩).k (nf i) (Vs.drop (u i)) (L.getD i (0,0)),u (i+1),0);rw [hgs,hu,hlen];rw [nxt_k,←hf] at hn ⊢;unfold Zdw useN;rw [hd0,hd1];clear hlen hgs hu hf hd0 hd1;generalize ss[i].k=k at *;generalize nf i=n at *;generalize u i=U at *;generalize vaL ss Vs u nf L i=A at *;generalize (frN ss i).vs.length=b at *;generalize (frN ss ss.length).vs=Z at *;by_cases h1:k=1
   ·simp only [Zx5 h1] at hn ⊢;by_cases n0:n=0
    ·subst n0;simp only [Zy2,Zzy,Zym,Zzf,Nat.zero_min];exact ih
    ·simp only [Zx4 n0] at hn ⊢;by_cases n1:n=1
     ·simp only [Zx5 n1] at hn ⊢;rw [n1];exact Zuj ih (hn 0 zs)
     ·simp only [Zx4 n1] at hn ⊢;rw [show min n 2=2 by omega];have h2:=Zuj (Zuj ih (hn 0 zs)) (hn 1 zs);rw [Zzd] at h2;exact h2
   ·simp only [Zx4 h1] at hn ⊢;by_cases h2:k=2∨k=3∨k=4
    ·simp only [Zx5 h2,Zzy,Zym,Zzf];rw [Zx4 zo];exact ih
    ·simp only [Zx4 h2] at hn ⊢;by_cases h5:k=5
     ·simp only [Zx5 h5] at hn ⊢;rw [Zx5 (.inl h5)];exact Zuj ih (hn 0 zs)
     ·simp only [Zx4 h5] at hn ⊢;by_cases h6:k=6
      ·simp only [Zx5 h6] at hn ⊢;rw [Zx5 (.inr h6)];have h7:=vaS_2 (Zuj ih (hn 0 zs)) (hn 1 zs) (hn 2 zs);rw [Zzd] at h7;exact h7
      ·simp only [Zx4 h6] at hn ⊢;rw [Zx4 zo];exact vaS_2 ih (hn 0 zs) (hn 1 zs)
def vaX (ss:List RS) (Vs:List Rat) (u nf:Nat→Nat) (L:List PQ) (j:Nat):Rat:=(vaL ss Vs u nf L ss.length).getD j 0
theorem vaX_at {ss:List RS} {Vs:List Rat} {u nf:Nat→Nat} {L:List PQ} (R:RunP ss Vs u nf L) {i:Nat} (hi:i < ss.length) {m:Nat} (hm:m < (Zdw ss[i].k (nf i) (Vs.drop (u i)) (L.getD i (0,0))).length):vaX ss Vs u nf L ((frN ss i).vs.length+m)=(Zdw ss[i].k (nf i) (Vs.drop (u i)) (L.getD i (0,0))).getD m 0:=by
 have hgs:ss.getD i ⟨0,.empty,[],⟨false,[],[]⟩⟩=ss[i]:=by rw [Zyg,Zyf hi];rfl
 obtain⟨l,hl⟩:=Zuk (ss:=ss) (Vs:=Vs) (u:=u) (nf:=nf) (L:=L) (i+1) (ss.length - (i+1));rw [show i+1+(ss.length - (i+1))=ss.length by omega] at hl;unfold vaX;rw [hl,←Zpr R.nf i zo];show((vaL ss Vs u nf L i++Zdw (ss.getD i ⟨0,.empty,[],⟨false,[],[]⟩⟩).k (nf i) (Vs.drop (u i)) (L.getD i (0,0)))++l).getD _ 0=_;rw [hgs,Zzd,Zi4,Zi5 hm]
theorem argP_at {P:List PQ} {s:RS} {k:Nat} (h:k < s.ar.length):(argP P s).getD k (0,0)=P.getD (gI s.ar k).toNat (0,0):=by
 unfold argP;rw [Zyg,Zzt,Zyf h,Zdr h];rfl
theorem take_get {P:List PQ} {i j:Nat} (h:j < i):(P.take i).getD j (0,0)=P.getD j (0,0):=by
 rw [Zyg,Zyg,List.getElem?_take_of_lt h]
theorem va_pt {ss:List RS} {Vs:List Rat} {u nf:Nat→Nat} {L:List PQ} (R:RunP ss Vs u nf L) (ok:FigOk ss) (hb:∀j,j < ss.length→bigN ss j=false):∀i,i < ss.length→ptV (vaX ss Vs u nf L) ((frN ss ss.length).cs.getD i ([],[]))=L.getD i (0,0):=by
 intro i
 induction i using Nat.strongRecOn with
 | ind i ih =>
   intro hi;have so:=ok.st hi;have hal:=so.al;have hai:=so.ai;rw [Zeu] at hai;obtain⟨Di,hDi,-⟩:=ok.fi (i:=i) (Nat.le_of_lt hi) (λj hj=>hb j zo);have hgx:L.getD i (0,0)=L[i]'(by have:=R.len;omega):=by rw [Zyg,Zyf (by have:=R.len;omega)];rfl
   have hp:=R.pt i hi (by have:=R.len;omega);rw [←hgx] at hp
   have hv64:(frN ss i).vs.length+(Zdw ss[i].k (nf i) (Vs.drop (u i)) (L.getD i (0,0))).length≤64:=by
    have h1:=hb i hi;rw [Zne hi] at h1;simp only [ZAn,ZAa] at h1;have h2:=h1.1.1;rw [Zy0,Zwb _ _ _ (Vs.drop (u i)) (L.getD i (0,0)),←R.nf i zo] at h2;omega
   have hX:=λm=>vaX_at (m:=m) R hi;have hfi:∀k,k < ss[i].ar.length→ptV (vaX ss Vs u nf L) ((frN ss i).at ss[i] k)=(argP (L.take i) ss[i]).getD k (0,0):=λk hk=>by
    have h1:=hai k hk;rw [argP_at hk,take_get zo];unfold FS.at;rw [←cs_at (Nat.le_of_lt hi) zo];exact ih _ zo zo
   have hs:∀k,SrtM ((frN ss i).at ss[i] k).1∧SrtM ((frN ss i).at ss[i] k).2:=λk=>⟨(hDi.at ss[i] k).1.1.1,(hDi.at ss[i] k).1.2.1⟩;rw [cs_nxt hi];have hf:=R.nf i zo
   have hsv:(frN ss i).vs.length < 64∨ss[i].k≠5:=by
    by_cases h5:ss[i].k=5
    ·left;rw [h5] at hv64;have:(Zdw 5 (nf i) (Vs.drop (u i)) (L.getD i (0,0))).length=1:=rfl;omega
    ·exact .inr h5
   obtain⟨n2,n3,n4,n5⟩:=nxt_val (vaX ss Vs u nf L) (frN ss i) i ss[i] hs hsv;generalize L.getD i (0,0)=x at *;generalize vaX ss Vs u nf L=X at *;generalize argP (L.take i) ss[i]=A at *;clear ih hgx so hDi hs hsv;generalize hS:ss[i]=s at *;unfold PtR at hp;have ev0:evP X []=0:=rfl;by_cases k1:s.k=1
   ·rw [Zx5 k1] at hp;unfold FS.nxt;simp only;rw [Zx5 k1,←hf];rw [k1] at hX hv64;unfold Zdw at hX hv64;rw [Zx5 rfl] at hX hv64;by_cases m0:nf i=0
    ·rw [Zx5 m0] at hp ⊢;rw [hp];rfl
    ·rw [Zx4 m0] at hp hX hv64 ⊢;by_cases m1:nf i=1
     ·rw [Zx5 m1] at hp hX hv64 ⊢;have h0:=hX 0 zs;simp only [Zyk,Zym] at hv64;rw [hp];show(evP X (varM (frN ss i).vs.length),evP X [])=_;rw [Zgx X zo,ev0];exact Prod.ext h0 rfl
     ·rw [Zx4 m1] at hp hX hv64 ⊢;have h0:=hX 0 zs;have h1:=hX 1 zs;simp only [Zyk,Zym] at hv64;rw [hp];show(evP X (varM (frN ss i).vs.length),evP X (varM ((frN ss i).vs.length+1)))=_;rw [Zgx X zo,Zgx X zo];exact Prod.ext h0 h1
   rw [Zx4 k1] at hp;have hp:=hp.1;unfold StR at hp;by_cases k2:s.k=2
   ·rw [n2 k2,hfi 0 (by rw [k2] at hal;have:arS 2=2:=rfl;omega),hfi 1 (by rw [k2] at hal;have:arS 2=2:=rfl;omega)];rw [Zx5 (.inl k2),Zx5 k2] at hp;exact hp.symm
   by_cases k5:s.k=5
   ·rw [n5 k5,hfi 0 (by rw [k5] at hal;have:arS 5=2:=rfl;omega),hfi 1 (by rw [k5] at hal;have:arS 5=2:=rfl;omega)];rw [Zx5 (.inr k5),Zx4 k2] at hp;have h0:=hX 0 (by rw [k5];exact Nat.zero_lt_one);rw [k5] at h0;have h0:X (frN ss i).vs.length=(Vs.drop (u i)).getD 0 0:=h0;rw [h0];exact hp.symm
   rw [Zx4 (λh=>h.elim k2 k5)] at hp;by_cases k3:s.k=3
   ·rw [n3 k3,hfi 0 (by rw [k3] at hal;have:arS 3=3:=rfl;omega),hfi 1 (by rw [k3] at hal;have:arS 3=3:=rfl;omega),hfi 2 (by rw [k3] at hal;have:arS 3=3:=rfl;omega)];rw [Zx5 k3] at hp;unfold Zjc;rw [ZAk,ZAk];exact hp.symm
   rw [Zx4 k3] at hp;by_cases k4:s.k=4
   ·rw [n4 k4,hfi 0 (by rw [k4] at hal;have:arS 4=3:=rfl;omega),hfi 1 (by rw [k4] at hal;have:arS 4=3:=rfl;omega),hfi 2 (by rw [k4] at hal;have:arS 4=3:=rfl;omega)];rw [Zx5 k4] at hp;rw [hp];unfold Znm;rw [ZAk,ZAk];exact Prod.ext (by simp only;grind) rfl
   clear hp n2 n3 n4 n5;unfold FS.nxt;simp only;rw [Zx4 k1,Zx4 k2,Zx4 k3,Zx4 k4,Zx4 k5];unfold Zdw at hX hv64;rw [Zx4 k1,Zx4 (λh=>h.elim k2 λh=>h.elim k3 k4),Zx4 k5] at hX hv64;by_cases k6:s.k=6
   ·rw [Zx5 k6] at hX hv64 ⊢;have h0:=hX 1 zs;have h1:=hX 2 zs;simp only [Zyk,Zym] at hv64;show(evP X (varM ((frN ss i).vs.length+1)),evP X (varM ((frN ss i).vs.length+2)))=_;rw [Zgx X zo,Zgx X zo];exact Prod.ext h0 h1
   ·rw [Zx4 k6] at hX hv64 ⊢;have h0:=hX 0 zs;have h1:=hX 1 zs;simp only [Zyk,Zym] at hv64;show(evP X (varM (frN ss i).vs.length),evP X (varM ((frN ss i).vs.length+1)))=_;rw [Zgx X zo,Zgx X zo];exact Prod.ext h0 h1
def PT (Q:List Int→Prop) (p:Po):Prop:=∀t∈p,Q t.2
section
variable {Q R S:List Int→Prop} {p q:Po}
theorem PT.mono (h:PT Q p) (k:∀m,Q m→R m):PT R p:=λt ht=>k _ (h t ht)
theorem PT.nil:PT Q []:=λt ht=>by cases ht
theorem PT.add (h:PT Q p) (g:PT Q q):PT Q (addM p q):=λt ht=>by
 rcases Zms ht with h1 | h1
 ·obtain⟨u,hu,e⟩:=List.mem_map.1 h1;rw [←e];exact h u hu
 ·obtain⟨u,hu,e⟩:=List.mem_map.1 h1;rw [←e];exact g u hu
theorem PT.neg (h:PT Q p):PT Q (Zaw (-1) p):=λt ht=>by
 obtain⟨u,hu,rfl⟩:=List.mem_map.1 ht;exact h u hu
theorem PT.sub (h:PT Q p) (g:PT Q q):PT Q (subM p q):=h.add g.neg
theorem PT.scl (h:PT Q p) (a:Rat):PT Q (sclM a p):=λt ht=>by
 obtain⟨u,hu,e⟩:=List.mem_map.1 (Zwq ht);rw [←e];exact h u hu
theorem PT.mul (h:PT Q p) (g:PT R q) (k:∀a b,Q a→R b→S (mulM a b)):PT S (mlM p q):=by
 have key:∀(q out:Po),PT R q→PT S out→PT S (q.foldl (λout t=>addP ltM out (Zai mulM p t)) out):=by
  intro q
  induction q with
  | nil=>exact λout _ h2=>h2
  | cons t q ih =>
    intro out h1 h2;rw [ZCo];refine ih _ (λu hu=>h1 u (.tail _ hu)) (PT.add h2 λu hu=>?_);obtain⟨s,hs,rfl⟩:=List.mem_map.1 hu;exact k _ _ (h s hs) (h1 t (.head _))
 exact key q [] g PT.nil
end
structure MT (c:Nat→Nat) (n u τ:Nat) (a b w:Int) (m:List Int):Prop where
 t:∀j,c j=1→gI m j≤(τ:Int)
 z:∀j,j≠u→c j=0→gI m j=0
 u:gI m u=w
 a:dgS (λj=>decide (c j=2)) m n=a
 b:dgS (λj=>decide (c j=3)) m n=b
theorem MT.mul {c:Nat→Nat} {n u τ σ:Nat} {a b w a' b' w':Int} {m l:List Int} (h:MT c n u τ a b w m) (g:MT c n u σ a' b' w' l):MT c n u (τ+σ) (a+a') (b+b') (w+w') (mulM m l):=by
 have e:∀j,gI (mulM m l) j=gI m j+gI l j:=λj=>Zfo _ rfl m l j;refine⟨λj hj=>?_,λj hu hj=>?_,?_,?_,?_⟩
 ·rw [e];have:=h.t j hj;have:=g.t j hj;omega
 ·rw [e,h.z j hu hj,g.z j hu hj];rfl
 ·rw [e,h.u,g.u]
 ·rw [Zi7,h.a,g.a]
 ·rw [Zi7,h.b,g.b]
def mons (τ:Nat) (c:Nat→Nat):Nat→Nat→Nat→List (List Int)
 | 0,a,b=>if a=0∧b=0 then [[]] else []
 | n+1,a,b =>
   if c n=1 then (List.range (τ+1)).flatMap λe:Nat=>(mons τ c n a b).map (·++[(e:Int)])
   else if c n=2 then (List.range (a+1)).flatMap λe:Nat=>(mons τ c n (a - e) b).map (·++[(e:Int)])
   else if c n=3 then (List.range (b+1)).flatMap λe:Nat=>(mons τ c n a (b - e)).map (·++[(e:Int)])
   else (mons τ c n a b).map (·++[0])
def hN:Nat→Nat→Nat
 | 0,a=>if a=0 then 1 else 0
 | g+1,a=>((List.range (a+1)).map λe=>hN g (a - e)).sum
def cntC (c:Nat→Nat) (k:Nat):Nat→Nat
 | 0=>0
 | n+1=>cntC c k n+if c n=k then 1 else 0
def newC (k:Int) (fr y:Nat):List Nat :=
 if k=1 then (if fr=0 then [] else if fr=1 then [2] else [2,y]) else if k=2∨k=3∨k=4 then [] else if k=5 then [1] else if k=6 then [0,2,y] else [2,y]
def clN (ss:List RS) (y:Nat):Nat→List Nat
 | 0=>[]
 | i+1=>clN ss y i++newC (ss.getD i ⟨0,.empty,[],⟨false,[],[]⟩⟩).k (frN ss i).fr y
def CT (c:Nat→Nat) (n:Nat) (a b:Int) (m:List Int):Prop:=(∀j,c j=0→gI m j=0)∧dgS (λj=>decide (c j=2)) m n=a∧dgS (λj=>decide (c j=3)) m n=b
theorem CT.mul {c:Nat→Nat} {n:Nat} {a b a' b':Int} {m l:List Int} (h:CT c n a b m) (g:CT c n a' b' l):CT c n (a+a') (b+b') (mulM m l):=by
 refine⟨λj hj=>?_,?_,?_⟩
 ·rw [show gI (mulM m l) j=gI m j+gI l j from Zfo _ rfl m l j,h.1 j hj,g.1 j hj];rfl
 ·rw [Zi7,h.2.1,g.2.1]
 ·rw [Zi7,h.2.2,g.2.2]
theorem PT.var {Q:List Int→Prop} {v:Nat} (h:Q (Zdf v)):PT Q (varM v):=λt ht=>by
 unfold varM at ht;split at ht
 ·rw [Zzs] at ht;subst ht;exact h
 ·cases ht
def yA (y:Nat):Int:=if y=2 then 1 else 0
def yB (y:Nat):Int:=if y=3 then 1 else 0
def lnN (ss:List RS):Nat→Nat
 | 0=>0
 | i+1=>lnN ss i+if (ss.getD i ⟨0,.empty,[],⟨false,[],[]⟩⟩).k=5 then 1 else 0
def tuN (ss:List RS):Nat→Nat
 | 0=>0
 | i+1=>tuN ss i+if (ss.getD i ⟨0,.empty,[],⟨false,[],[]⟩⟩).k=4 then 1 else 0
def geB (k:Int) (fr:Nat):Bool:=!(decide (k=1∧fr=0) || decide (k=2∨k=3∨k=4∨k=5))
def geN (ss:List RS):Nat→Nat
 | 0=>0
 | i+1=>geN ss i+if geB (ss.getD i ⟨0,.empty,[],⟨false,[],[]⟩⟩).k (frN ss i).fr=true then 1 else 0
section
variable {c:Nat→Nat} {n:Nat} {ya yb:Int}
structure MC (c:Nat→Nat) (n u:Nat) (ya yb:Int) (p:Pt):Prop where
 x:PT (MT c n u 1 1 0 0) p.1
 y:PT (MT c n u 1 ya yb 0) p.2
variable {u:Nat} {a b o x:Pt}
theorem MC.df (ha:MC c n u ya yb a) (hb:MC c n u ya yb b):PT (MT c n u 1 1 0 0) (subM b.1 a.1)∧PT (MT c n u 1 ya yb 0) (subM b.2 a.2):=⟨hb.x.sub ha.x,hb.y.sub ha.y⟩
theorem MC.dot (ha:MC c n u ya yb a) (hb:MC c n u ya yb b) (ho:MC c n u ya yb o) (hx:MC c n u ya yb x):PT (λm=>MT c n u 2 2 0 0 m∨MT c n u 2 (2*ya) (2*yb) 0 m) (dotM a b o x):=by
 obtain⟨d1,d2⟩:=ha.df hb;obtain⟨e1,e2⟩:=ho.df hx;unfold dotM;refine PT.add (d1.mul e1 λm l hm hl=>.inl (hm.mul hl)) (d2.mul e2 λm l hm hl=>.inr ?_);have:=hm.mul hl;rw [Int.two_mul,Int.two_mul];exact this
end
theorem MT.new {c:Nat→Nat} {n u:Nat} (hu:c u=0):PT (MT c n u 0 0 0 1) (varM u):=PT.var ⟨λj hj=>by rw [Zfb,Zx4 (λe=>by rw [e,hu] at hj;cases hj)];exact Int.le_refl _,λj h1 h2=>by rw [Zfb,Zx4 h1],by rw [Zfb,Zx5 rfl],by rw [Zm2];simp [hu],by rw [Zm2];simp [hu]⟩
theorem MT.of {c:Nat→Nat} {n u:Nat} {a b:Int} {m:List Int} (h:CT c n a b m) (h1:∀j,gI m j≤1) (hu:c u=0):MT c n u 1 a b 0 m:=⟨λj _=>h1 j,λj _ hj=>h.1 j hj,h.1 u hu,h.2.1,h.2.2⟩
end Go.Proofs.YtenfejhaohihoaaGreat
namespace Go.Proofs.YtenfejhaohihoaaGreat
open Go Go.RowKit Go.Pg Go.Pol Go.Proofs.Tryz
attribute [-bool_to_prop] Bool.and_eq_decide Bool.or_eq_decide Bool.decide_beq_decide decide_eq_decide
def uN (ss:List RS):Nat→Nat
 | 0=>0
 | i+1=>uN ss i+useN (ss.getD i ⟨0,.empty,[],⟨false,[],[]⟩⟩).k (frN ss i).fr
theorem uN_at {ss:List RS} {i:Nat} (h:i < ss.length):uN ss (i+1)=uN ss i+useN ss[i].k (frN ss i).fr:=by
 show uN ss i+useN (ss.getD i ⟨0,.empty,[],⟨false,[],[]⟩⟩).k _=_;rw [show ss.getD i ⟨0,.empty,[],⟨false,[],[]⟩⟩=ss[i] from by rw [Zyg,Zyf h];rfl]
theorem Zun (ss:List RS) (i:Nat):∀d,uN ss i≤uN ss (i+d)
 | 0=>Zx7 _
 | d+1=>Zye (Zun ss i d) (ZB9 _ _)
theorem uN_le (ss:List RS):∀i,uN ss i≤2*i
 | 0=>Zx7 _
 | i+1=>by
   have:=uN_le ss i;show uN ss i+useN _ _≤_;have h:∀k n,useN k n≤2:=λk n=>by
    unfold useN;split
    ·omega
    ·split<;>omega
   have:=h (ss.getD i ⟨0,.empty,[],⟨false,[],[]⟩⟩).k (frN ss i).fr;omega
theorem Zus (ss:List RS) {i j:Nat} (h:i≤j):twoN ss i≤twoN ss j:=by
 unfold twoN
 have e:ss.take j=ss.take i++(ss.take j).drop i:=by
  conv=>lhs;rw [←ZAe i (ss.take j)]
  rw [List.take_take,ZAf h]
 rw [e,ZCy,Zy0];omega
theorem Zpq (vs:List Vt) (V:List Rat) (P:List PQ):∀v,(vaS vs V P v).2.1=(Zen vs v).length
 | 0=>rfl
 | v+1=>by
   have ih:=Zpq vs V P v;by_cases h:(vs.getD v (0,0,0)).1=1
   ·rw [Zml h,Zy0,←ih]
    conv=>lhs;unfold vaS
    simp only [Zx5 h];rfl
   ·rw [Zqh h,←ih]
    conv=>lhs;unfold vaS
    simp only [Zx4 h];split<;>rfl
theorem Zll (vs:List Vt) (i:Nat):∀d,(Zen vs i).length≤(Zen vs (i+d)).length
 | 0=>Zx7 _
 | d+1=>by
   refine Zye (Zll vs i d) ?_;by_cases h:(vs.getD (i+d) (0,0,0)).1=1
   ·rw [show i+(d+1)=i+d+1 from rfl,Zml h,Zy0];omega
   ·rw [show i+(d+1)=i+d+1 from rfl,Zqh h];omega
theorem Zr3 (ss:List RS):(Zen (frN ss ss.length).vs (frN ss ss.length).vs.length).length=uN ss ss.length:=by
 rw [←Zpq _ [] []];rw [va_S (u:=uN ss) (nf:=λi=>(frN ss i).fr) rfl (λi h=>uN_at h) (λi _=>rfl) ss.length (Zx7 _)]
theorem vs_ge (ss:List RS):∀i,∀v∈(frN ss i).vs,0≤v.2.1
 | 0,v,h=>by cases h
 | i+1,v,h=>by
   rcases List.mem_append.1 (show v∈(frN ss i).vs++((frN ss i).nxt i (ss.getD i RS.zero)).1 from h) with h1 | h1
   ·exact vs_ge ss i v h1
   ·have:=Zr7 _ _ _ v h1;omega
theorem at_run {ss:List RS} {gs:List RG} (hl:ss.length≤8) (ok:FigOk ss) {Vs:List Rat} {Bs:List Bool} (hVs:∀q∈Vs,Sz q 2) (lV:Vs.length=uN ss ss.length) (lB:Bs.length=twoN ss ss.length) (cc:Pure prog 28 [figA ss gs] (.tup [iv Vs.length,iv Bs.length,iv 0])) :
 (∃L:List PQ,RunP ss Vs (uN ss) (λi=>(frN ss i).fr) L∧Pure prog 8 [figA ss gs,.sl 3 (Vs.map ratQ),.sl 1 (Bs.map bvA)] (.tup [.agg [.sl 3 (Vs.map ratQ),.sl 1 (Bs.map bvA),.sl 6 (L.map PQ.av)],iv 0,iv 0])) ∨
 ∃(K:Nat) (e:Int),(0 < e∧e < 100)∧Pure prog 8 [figA ss gs,.sl 3 (Vs.map ratQ),.sl 1 (Bs.map bvA)] (.tup [Zqy,iv K,iv e]):=by
 have h1:=uN_le ss ss.length;have h2:=Zps ss ss.length;have hnf:∀i (h:i < ss.length),(frN ss (i+1)).fr=if ss[i].k=1 then (frN ss i).fr+1 else (frN ss i).fr:=λi h=>by rw [Zeg h]
 have eV:∀i,i≤ss.length→uN ss i≤Vs.length:=λi hi=>by
  have:=Zun ss i (ss.length - i);rw [show i+(ss.length - i)=ss.length by omega] at this;omega
 have r:=r22AtRun ss gs Vs Bs (uN ss) (λi=>(frN ss i).fr) hl ok.er ok.lm hVs zo zo rfl rfl (λi h=>uN_at h) hnf (λi hi=>by have:=Zo5 ss i;omega) eV (λi hi=>by rw [lB];exact Zus ss hi) cc;rcases r with⟨L,l1,l2,l3,l4⟩ | r
 ·exact .inl ⟨L,⟨hl,l1,λi h h'=>(l2 i h h').2,l3,hVs,rfl,λi h=>uN_at h,λi _=>rfl,eV⟩,l4⟩
 ·exact .inr r
section
variable {ss:List RS} {Vs:List Rat} {u nf:Nat→Nat} {L:List PQ}
end
theorem cs_cx {ss:List RS} {gs:List RG} (hl:ss.length≤8) (ok:FigOk ss) (ht:Zl4 ss gs=true):∃D,D≠0∧D < 65536 ^ 17∧∀j,CX ((frN ss ss.length).cs.getD j ([],[])) D (frN ss ss.length).vs.length:=by
 obtain⟨hb,hcb⟩:=few_cb hl ok ht;obtain⟨D,hD,-⟩:=ok.fi (Zx7 _) hb;have hn:=Zwd ss ss.length;refine⟨D,hD.D0,Zzz hD.Dl (Zzj zd zo),λj=>?_⟩;by_cases hj:j < (frN ss ss.length).cs.length
 ·obtain⟨g1,g2⟩:=hD.cs _ (Za2 (d:=(([],[]):Pt)) hj);exact⟨gp_nx g1 (hcb j).x.l zo (Zx7 _),gp_nx g2 (hcb j).y.l zo (Zx7 _)⟩
 ·rw [Zyg,Zzl zo];exact⟨.nil,.nil⟩
theorem pow3_lt {D:Nat} (h:D < 65536 ^ 17):D ^ 3 < 65536 ^ 51:=by
 rw [show(65536:Nat) ^ 51=(65536 ^ 17) ^ 3 from(Nat.pow_mul 65536 17 3)];exact Nat.pow_lt_pow_left h zd
theorem b91:65536 ^ 90 < 65536 ^ 91:=Nat.pow_lt_pow_right zd zd
theorem ev_at {ss:List RS} {Vs:List Rat} {u nf:Nat→Nat} {L:List PQ} (R:RunP ss Vs u nf L) {D:Nat} (h0:D≠0) (hD:D < 65536 ^ 17) {p:Po} (hv:(frN ss ss.length).vs.length≤64) (hp:NX p D 3 90 3 (frN ss ss.length).vs.length) {n j e:Nat} (hq:PB p n j e) (hn:n≤1000000) (hj:j≤1000000) :
 Pure prog 13 [poA p,.sl 3 ((vaL ss Vs u nf L ss.length).map ratQ)] (.tup [ratQ (evP (vaX ss Vs u nf L) p),iv 0])∧Sz (evP (vaX ss Vs u nf L) p) 19900000000:=by
 obtain⟨s,hs,hsum⟩:=va_szs R ss.length (Zx7 _);have hlen:=Zpr (ss:=ss) (Vs:=Vs) (u:=u) (nf:=nf) (L:=L) R.nf ss.length (Zx7 _);have l8:=R.l8;have h11:11 ^ (ss.length+1)≤11 ^ 9:=Zzj zd zo;rw [show(11:Nat) ^ 9=2357947691 from by decide] at h11;have hS:sumN s (frN ss ss.length).vs.length≤3301126768:=by rw [←hlen];omega
 have hx:∀j,j < (frN ss ss.length).vs.length→Sz (vaX ss Vs u nf L j) (s j):=λj hj=>hs j zo;obtain⟨h1,h2⟩:=ne_szs (p:=p) (K:=19900000000) hp hx (d:=51) (b:=91) (S:=3301126768) (Nat.ne_of_gt (ZB5 (Zz7 h0))) (pow3_lt hD) b91 hS zo;have pk:PK p 1000000 3:=λt ht=>⟨((hq.k t ht).1).mono hj,(hq.k t ht).2.1,λi=>⟨((hq.k t ht).2.2 i).1,(hp.m t ht).2 i⟩⟩;have sj:∀j,j < (vaL ss Vs u nf L ss.length).length→Sz ((vaL ss Vs u nf L ss.length).getD j 0) 3301126768:=λj hj=>(hs j hj).mono (by
  have h3:=Zpy s (j+1) ((vaL ss Vs u nf L ss.length).length - (j+1));rw [show j+1+((vaL ss Vs u nf L ss.length).length - (j+1))=(vaL ss Vs u nf L ss.length).length by omega,hlen] at h3;have h4:sumN s (j+1)=sumN s j+s j:=rfl;omega)
 have hlp:=hq.l;refine⟨rpEval p (vaL ss Vs u nf L ss.length) (k:=1000000) (x0:=3) (s:=3301126768) (K:=19900000000) pk sj zo zo zo zo zo zo (λt ht=>by rw [hlen];exact(hp.m t ht).1) h1 h2 zo,?_⟩;have:=h2 p.length (Zx7 _)
 rwa [Zy7] at this
attribute [local go_sem] Zbt Zcd Zba Zbc Zbb Zbe Zbh Zcj Zcf Znp Zno Zcr Zcq Znq Zph Zuc Zjz Zpf Zpn Zuu Zxv Zaz Zbk Zdb Zdd Zcp Zj0 Zbf Zbi Zck Zc1 Zgj Zhq Zhw Zk3 Zj1 Zpo
theorem sgn0 {q:Rat}:q.num.sign=0↔q=0:=by rw [Int.sign_eq_zero_iff_zero,Rat.num_eq_zero]
theorem eqP_dot (a b:PQ):eqP a b=decide ((doV a b a b).num.sign=0):=by
 rw [Zyn,Zy1,sgn0];unfold eqP doV;simp only [Zyv,Zy1];constructor
 ·rintro ⟨h1,h2⟩
  rw [h1,h2];grind
 ·intro h;obtain⟨h1,h2⟩:=sqs0 h;exact⟨by grind,by grind⟩
theorem parM_nx2 {vs:List Vt} {i:Int} {D:Nat}:NX (parM vs i) D 1 1 1 vs.length:=by
 unfold parM;split
 ·rename_i v h;exact var_nx (Zq0 h)
 ·exact .nil
theorem cpol_nx (c:RC) {cs:List Pt} {D:Nat} {vs:List Vt} (hcx:∀j,CX (cs.getD j ([],[])) D vs.length):NX (cPol c cs vs) D 3 90 3 vs.length:=by
 unfold cPol;split
 ·exact((hcx _).dot (hcx _) (hcx _) (hcx _)).mono zo zo zo
 ·split
  ·exact((hcx _).cross (hcx _) (hcx _) (hcx _)).mono zo zo zo
  ·split
   ·exact((hcx _).cross (hcx _) (hcx _) (hcx _)).mono zo zo zo
   ·exact(slope_nx parM_nx2).mono zo zo zo
theorem cnd_val {ss:List RS} {Vs:List Rat} {u nf:Nat→Nat} {L:List PQ} (R:RunP ss Vs u nf L) (ok:FigOk ss) (hb:∀j,j < ss.length→bigN ss j=false) (hcb:∀j,CB ((frN ss ss.length).cs.getD j ([],[]))) {c:RC} (hi:Zt9 c ss) :
 cHld c.k (ptN L (gI c.ar 0)) (ptN L (gI c.ar 1)) (ptN L (gI c.ar 2)) (ptN L (gI c.ar 3))=!decide ((evP (vaX ss Vs u nf L) (cPol c (frN ss ss.length).cs (frN ss ss.length).vs)).num.sign=0)∧cErr c.k c.ar L.length=0:=by
 have hl:=R.len;have sp:∀j,SP ((frN ss ss.length).cs.getD j ([],[])):=λj=>⟨(hcb j).x.s,(hcb j).y.s⟩;have pt:=va_pt R ok hb;have ob:∀l:List Int,(∀a∈l,0≤a∧a < (L.length:Int))→outB (L.length:Int) l=false:=λl h=>by
  unfold outB;rw [List.any_eq_false];intro a ha;have:=h a ha;simp only [Zz2,Zy1];omega
 obtain⟨k,ar,st⟩:=c;unfold Zt9 at hi;simp only at hi ⊢;unfold cPol cHld cErr ptN;rcases hi with⟨rfl,x,y,rfl,hx,hy⟩ | ⟨rfl,x,y,z,rfl,hx,hy,hz⟩ | ⟨rfl,x,y,z,w,rfl,hx,hy,hz,hw⟩ | ⟨rfl,rfl,i,hi,rfl,hk⟩
 ·simp only [gI,Zz0,Zz1,Zzg,Zy2];rw [ev_dot _ (sp x) (sp y) (sp x) (sp y),pt x hx,pt y hy,eqP_dot];refine⟨rfl,?_⟩;rw [ob _ (λa ha=>by simp only [ZBe,List.not_mem_nil,or_false] at ha;rcases ha with rfl | rfl<;>omega)];simp [cAr]
 ·simp only [gI,Zz0,Zz1,Zzg,Zy2,show ¬((2:Int)=1) from by decide,Zyu];rw [Zsu _ (sp x) (sp y) (sp x) (sp z),pt x hx,pt y hy,pt z hz];refine⟨rfl,?_⟩;rw [ob _ (λa ha=>by simp only [ZBe,List.not_mem_nil,or_false] at ha;rcases ha with rfl | rfl | rfl<;>omega)];simp [cAr]
 ·simp only [gI,Zz0,Zz1,Zzg,Zy2,show ¬((3:Int)=1) from by decide,show ¬((3:Int)=2) from by decide,Zyu];rw [Zsu _ (sp x) (sp y) (sp z) (sp w),pt x hx,pt y hy,pt z hz,pt w hw];refine⟨rfl,?_⟩;rw [ob _ (λa ha=>by simp only [ZBe,List.not_mem_nil,or_false] at ha;rcases ha with rfl | rfl | rfl | rfl<;>omega)];simp [cAr]
 ·simp only [show ¬((4:Int)=1) from by decide,show ¬((4:Int)=2) from by decide,show ¬((4:Int)=3) from by decide,Zyu];rw [ev_slope _ (Zvz _ _).s];refine⟨?_,by rw [ob [] (λa ha=>by cases ha)];decide⟩;rw [Zx6 (λh=>Zwa _ (sgn0.1 h))];rfl
theorem Zmw (ss:List RS) (gs:List RG) (V B:List AV) (f d:Bool) (h:f=false∨d=false∨¬B.length≤8) (cf:Pure prog 5 [figA ss gs] (.v (.bool f))) (cm:Pure prog 6 [.sl 3 V] (.v (.bool d))):Pure prog 4 [figA ss gs,.sl 3 V,.sl 1 B] (.v (.bool true)):=by
 have ca:=aw23;have cf:Pure prog 5 [.agg [.sl 6 (ss.map RS.av),.sl 5 (gs.map RG.av)]] (.v (.bool f)):=cf;show Pure _ _ [.agg [.sl 6 (ss.map RS.av),.sl 5 (gs.map RG.av)],_,_] _;generalize ss.map RS.av=M at *;generalize gs.map RG.av=N at *
 cases f with
 | false =>
   refine pI func4 rfl ntmps4 results4 call4 ?_;(focus (refine wkap w_t (w_2 cf ca) (w_r 0) ?_;(repeat' first|exact w_t|apply w_l);all_goals intros));all_goals exact gL
 | true =>
   cases d with
   | false =>
     refine pI func4 rfl ntmps4 results4 call4 ?_;(focus (refine wkap w_t (w_3 cf cm ca) (w_r 0) ?_;(repeat' first|exact w_t|apply w_l);all_goals intros));all_goals exact gL
   | true =>
     have hB:(8:Int) < (B.length:Int):=by
      rcases h with h | h | h
      ·cases h
      ·cases h
      ·omega
     refine pI func4 rfl ntmps4 results4 call4 ?_;(focus (refine wkap (w_1 hB) (w_3 cf cm ca) (w_r 0) ?_;(repeat' first|exact w_t|apply w_l);all_goals intros));all_goals exact gL
theorem Zmx (ss:List RS) (gs:List RG) (V B:List AV) (cs:List Pt) (vs:List Vt) (K:Nat) (z:Int) (hz:0 < z∧z < 100) (lB:B.length≤8) (cf:Pure prog 5 [figA ss gs] (.v (.bool true))) (cm:Pure prog 6 [.sl 3 V] (.v (.bool true)))
 (ct:Pure prog 8 [figA ss gs,.sl 3 V,.sl 1 B] (.tup [Zqy,iv K,iv z])) (co:Pure prog 9 [figA ss gs] (.tup [frmA cs vs,iv 0])):Pure prog 4 [figA ss gs,.sl 3 V,.sl 1 B] (.v (.bool true)):=by
 have ca:=aw23;have hB:¬(8:Int) < (B.length:Int):=zo;have h0:¬z=0:=zo;have cf:Pure prog 5 [.agg [.sl 6 (ss.map RS.av),.sl 5 (gs.map RG.av)]] (.v (.bool true)):=cf;have ct:Pure prog 8 [.agg [.sl 6 (ss.map RS.av),.sl 5 (gs.map RG.av)],.sl 3 V,.sl 1 B] (.tup [Zqy,iv K,iv z]):=ct;have co:Pure prog 9 [.agg [.sl 6 (ss.map RS.av),.sl 5 (gs.map RG.av)]] (.tup [.agg [.sl 2 (cs.map coA),.sl 3 (vs.map Vt.av)],iv 0]):=co;show Pure _ _ [.agg [.sl 6 (ss.map RS.av),.sl 5 (gs.map RG.av)],_,_] _;generalize ss.map RS.av=M at *;generalize gs.map RG.av=N at *;generalize cs.map coA=C at *;generalize vs.map Vt.av=VS at *
 refine pI func4 rfl ntmps4 results4 call4 ?_;(focus (refine wkap (w_2 hB h0) (w_5 cf cm ct co ca) (w_r 0) ?_;(repeat' first|exact w_t|apply w_l);all_goals intros));all_goals exact gL
theorem lawMean1 (ss:List RS) (gs:List RG) (V B P:List AV) (cs:List Pt) (vs:List Vt) (X:List AV) (H:List RC) (hl:ss.length≤8) (hH:H.length≤1000) (lB:B.length≤8) (cf:Pure prog 5 [figA ss gs] (.v (.bool true))) (cm:Pure prog 6 [.sl 3 V] (.v (.bool true)))
 (ct:Pure prog 8 [figA ss gs,.sl 3 V,.sl 1 B] (.tup [.agg [.sl 3 V,.sl 1 B,.sl 6 P],iv 0,iv 0])) (co:Pure prog 9 [figA ss gs] (.tup [frmA cs vs,iv 0]))
 (cv:Pure prog 11 [.agg [.sl 6 (ss.map RS.av),.sl 5 (gs.map RG.av),.sl 2 (cs.map coA),.sl 3 (vs.map Vt.av),.v (.slice none 0 0),.v (.slice none 0 0),.v (.slice none 0 0)],.agg [.sl 3 V,.sl 1 B,.sl 6 P]] (.tup [.sl 3 X,iv 0]))
 (ch:Pure prog 16 [figA ss gs] (.tup [.sl 3 (H.map RC.av),iv 0]))
 (ce:∀i (h:i < H.length),∃(p:Po) (q:Rat),Pure prog 17 [H[i].av,figA ss gs,frmA cs vs] (.tup [poA p,iv 0])∧Pure prog 13 [poA p,.sl 3 X] (.tup [ratQ q,iv 0])∧Pure prog 18 [H[i].av,.sl 6 P] (.tup [.v (.bool (!decide (q.num.sign=0))),iv 0])∧Pure prog 14 [ratQ q] (iv q.num.sign)):Pure prog 4 [figA ss gs,.sl 3 V,.sl 1 B] (.v (.bool true)):=by
 have ca:=aw23;have hB:¬(8:Int) < (B.length:Int):=zo;have lM:(ss.map RS.av).length=ss.length:=Zx9 ..;have lH:(H.map RC.av).length=H.length:=Zx9 ..;have hg:∀i (h:i < H.length),(H.map RC.av).getD i .u=RC.av H[i]:=λi h=>Zaj RC.av h;have cf:Pure prog 5 [.agg [.sl 6 (ss.map RS.av),.sl 5 (gs.map RG.av)]] (.v (.bool true)):=cf;have ct:Pure prog 8 [.agg [.sl 6 (ss.map RS.av),.sl 5 (gs.map RG.av)],.sl 3 V,.sl 1 B] (.tup [.agg [.sl 3 V,.sl 1 B,.sl 6 P],iv 0,iv 0]):=ct;have co:Pure prog 9 [.agg [.sl 6 (ss.map RS.av),.sl 5 (gs.map RG.av)]] (.tup [.agg [.sl 2 (cs.map coA),.sl 3 (vs.map Vt.av)],iv 0]):=co
 have ch:Pure prog 16 [.agg [.sl 6 (ss.map RS.av),.sl 5 (gs.map RG.av)]] (.tup [.sl 3 (H.map RC.av),iv 0]):=ch;have ce:∀i (h:i < H.length),∃(p:Po) (q:Rat),Pure prog 17 [H[i].av,.agg [.sl 6 (ss.map RS.av),.sl 5 (gs.map RG.av)],.agg [.sl 2 (cs.map coA),.sl 3 (vs.map Vt.av)]] (.tup [poA p,iv 0])∧Pure prog 13 [poA p,.sl 3 X] (.tup [ratQ q,iv 0])∧Pure prog 18 [H[i].av,.sl 6 P] (.tup [.v (.bool (!decide (q.num.sign=0))),iv 0])∧Pure prog 14 [ratQ q] (iv q.num.sign):=ce;show Pure _ _ [.agg [.sl 6 (ss.map RS.av),.sl 5 (gs.map RG.av)],_,_] _;generalize ss.map RS.av=M at *;generalize gs.map RG.av=N at *
 generalize cs.map coA=C at *;generalize vs.map Vt.av=VS at *;generalize H.map RC.av=HH at *;refine pI func4 rfl ntmps4 results4 call4 ?_;(focus (refine wkad (w_3 hB lM lH) (w_6 cf cm ct co cv ch) w_t ?_;(repeat' first|exact w_t|apply w_l);all_goals intros));rename_i g3 g7 g10;refine Zad (ι:=Nat) (λi e m=>i≤H.length∧e 3=.pbox 3 g3 0∧m 3=some (.box g3 25 [.sl 6 M,.sl 5 N] false)∧e 7=.pbox 7 g7 0∧m 7=some (.box g7 33 [.sl 3 V,.sl 1 B,.sl 6 P] false)∧e 10=.pbox 10 g10 0∧m 10=some (.box g10 40 [.sl 2 C,.sl 3 VS] false)∧e 12=.sl 3 X∧e 73=.sl 3 HH∧e 74=iv H.length∧e 75=iv i) (λi=>H.length - i) 0 zr ?_ ?_
 ·rintro i e m ⟨hi,e3,m3,e7,m7,e10,m10,e12,e73,e74,e75⟩
  by_cases hlt:i < H.length
  ·obtain⟨p,q,c1,c2,c3,c4⟩:=ce i hlt;have hgi:=hg i hlt;generalize H[i]=c at *;obtain⟨k,ar,st⟩:=c;have hgi:HH.getD i .u=.agg [iv k,.sl 1 (ar.map iv),iv st]:=hgi;have c1:Pure prog 17 [.agg [iv k,.sl 1 (ar.map iv),iv st],.agg [.sl 6 M,.sl 5 N],.agg [.sl 2 C,.sl 3 VS]] (.tup [.sl 4 (p.map tmA),iv 0]):=c1;have c2:Pure prog 13 [.sl 4 (p.map tmA),.sl 3 X] (.tup [ratQ q,iv 0]):=c2;have c3:Pure prog 18 [.agg [iv k,.sl 1 (ar.map iv),iv st],.sl 6 P] (.tup [.v (.bool (!decide (q.num.sign=0))),iv 0]):=c3;clear ce hg;generalize p.map tmA=pp at *;generalize ar.map iv=AR at *;generalize hs:q.num.sign=s at *
   by_cases h0:s=0
   ·subst h0;rw [Zx8 rfl] at c3;(focus (refine wkap (w_12 e3 m3 e7 m7 e10 m10 e12 e73 e74 e75 lH hgi) (w_4 c1 c2 c3 c4) (w_r 0) ?_;(repeat' first|exact w_t|apply w_l);all_goals intros));exact⟨i+1,⟨zo,gW e3,gW m3,gW e7,gW m7,gW e10,gW m10,gW e12,gW e73,gW e74,gS⟩,zo⟩
   ·rw [Zx6 h0] at c3;(focus (refine wkap (w_13 h0 e3 m3 e7 m7 e10 m10 e12 e73 e74 e75 lH hgi) (w_4 c1 c2 c3 c4) (w_r 0) ?_;(repeat' first|exact w_t|apply w_l);all_goals intros));exact⟨i+1,⟨zo,gW e3,gW m3,gW e7,gW m7,gW e10,gW m10,gW e12,gW e73,gW e74,gS⟩,zo⟩
  ·obtain rfl:i=H.length:=zo;(focus (refine wklp (w_11 e3 m3 e7 m7 e10 m10 e12 e73 e74 e75 lH) (w_1 ca) w_t (w_r 0) ?_;(repeat' first|exact w_t|apply w_l);all_goals intros))
 ·exact⟨Zyi _,gC,gC,gC,gC,gC,gC,gC,gC,by(simp (disch:=omega) only [go_sem,lH]<;>repeat' first|rfl|refine⟨?_,?_⟩),gC⟩
theorem mild_in {qs:List RQ} {k:Nat} (hs:∀q∈qs,q.lm k) (h:Zwp qs=true):qs.map RQ.av=(qs.map RQ.q).map ratQ∧(∀q∈qs.map RQ.q,Sz q 2)∧qs.length≤12:=by
 unfold Zwp at h;simp only [Zyv,Zy1,ZAr] at h;have key:∀q∈qs,q.av=ratQ q.q∧Sz q.q 2:=λq hq=>by
  have h2:=h.2 q hq;unfold RQ.two at h2;simp only [Zyv,Zy1] at h2;obtain⟨a,b,-,-⟩:=hs q hq;exact RQ.ok_av ⟨a,b,h2.1,h2.2.1⟩ h2.2.2
 refine⟨?_,λq hq=>?_,h.1⟩
 ·rw [List.map_map];exact ZAj λq hq=>(key q hq).1
 ·obtain⟨x,hx,rfl⟩:=List.mem_map.1 hq;exact(key x hx).2
theorem run_vals {ss:List RS} {gs:List RG} {Vs:List Rat} {L:List PQ} {B:List AV} (R:RunP ss Vs (uN ss) (λi=>(frN ss i).fr) L) (hv:(frN ss ss.length).vs.length≤64) (lV:Vs.length=uN ss ss.length) :
 Pure prog 11 [.agg [.sl 6 (ss.map RS.av),.sl 5 (gs.map RG.av),.sl 2 ((frN ss ss.length).cs.map coA),.sl 3 ((frN ss ss.length).vs.map Vt.av),.v (.slice none 0 0),.v (.slice none 0 0),.v (.slice none 0 0)],.agg [.sl 3 (Vs.map ratQ),.sl 1 B,.sl 6 (L.map PQ.av)]] (.tup [.sl 3 ((vaL ss Vs (uN ss) (λi=>(frN ss i).fr) L ss.length).map ratQ),iv 0]):=by
 have l8:=R.l8;have hl:=R.len;have hp:=Zr3 ss;have r:=Zvn ss gs (frN ss ss.length).cs (frN ss ss.length).vs Vs B L zo zo hl zo (λv hvl hk=>by
  rw [Zpq];have h1:=Zll (frN ss ss.length).vs (v+1) ((frN ss ss.length).vs.length - (v+1));rw [show v+1+((frN ss ss.length).vs.length - (v+1))=(frN ss ss.length).vs.length by omega,Zml hk,Zy0] at h1;simp only [Zyk,Zym] at h1;omega) (λv hvl=>by
  have hm:(frN ss ss.length).vs.getD v (0,0,0)∈(frN ss ss.length).vs:=Za2 hvl;have h1:=vs_ge ss ss.length _ hm;have h2:=vs_lt ss ss.length _ hm;exact⟨((frN ss ss.length).vs.getD v (0,0,0)).2.1.toNat,zo,zo⟩)
 rw [va_S (u:=uN ss) (nf:=λi=>(frN ss i).fr) rfl (λi h=>uN_at h) (λi _=>rfl) ss.length (Zx7 _)] at r;exact r
section
variable {N n:Nat} {cs:List AV}
theorem shRatL (h:Zcl prog N n 26 cs):∃rs:List RQ,cs=[.sl 3 (rs.map RQ.av)]∧rs.length≤N∧∀r∈rs,r.lm N:=by
 obtain⟨bs,rfl,hl,hq⟩:=Zdc (g:=λp:RQ=>[.v (.bool p.s),lim p.l,lim p.d]) (Q:=λp=>p.lm N) underlying26 h λm x hx=>by
  obtain⟨p,rfl,hp⟩:=shRat hx;exact⟨p,rfl,hp⟩
 refine⟨bs,?_,hl,hq⟩;rw [show prog.cellsOf 59=3 from by kernel_rfl];have:(bs.map λb:RQ=>Zdn prog 59 [.v (.bool b.s),lim b.l,lim b.d])=bs.map RQ.av:=ZAj λb _=>Zh9 underlying59 _;rw [this]
theorem shBools (h:Zcl prog N n 27 cs):∃bs:List Bool,cs=[.sl 1 (bs.map bvA)]∧bs.length≤N:=by
 obtain⟨bs,rfl,hl,hq⟩:=Zdc (g:=λb:Bool=>[.v (.bool b)]) (Q:=λ_=>True) underlying27 h λm x hx=>by
  obtain⟨b,rfl⟩:=Zlf underlying4 hx;exact⟨b,rfl,trivial⟩
 refine⟨bs,?_,hl⟩;rw [show prog.cellsOf 4=1 from by kernel_rfl];have:(bs.map λb:Bool=>Zdn prog 4 [.v (.bool b)])=bs.map bvA:=ZAj λb _=>Zgl zk _;rw [this]
end
theorem lawMean (ss:List RS) (gs:List RG) (qs:List RQ) (bs:List Bool) (h1:ss.length≤1000000000) (h2:gs.length≤1000000000) (hs:∀s∈ss,s.sm) (hg:∀g∈gs,g.sm) {k:Nat} (hq:∀q∈qs,q.lm k):Pure prog 4 [figA ss gs,.sl 3 (qs.map RQ.av),.sl 1 (bs.map bvA)] (.v (.bool true)):=by
 have cR:=rlRight ss gs h1 h2 hs hg;have lR:=Zws ss gs h1 h2 hs hg;have cf:=rlFew ss gs cR;have cm:=rhMild qs hq;have lbm:(bs.map bvA).length=bs.length:=Zx9 ..
 cases hf:fewB ss gs with
 | false =>
   rw [hf] at cf;exact Zmw ss gs _ _ false _ (.inl rfl) cf cm
 | true =>
   rw [hf] at cf
   cases hm:Zwp qs with
   | false =>
     rw [hm] at cm;exact Zmw ss gs _ _ true false (.inr (.inl rfl)) cf cm
   | true =>
     rw [hm] at cm;by_cases h8:bs.length≤8
     ·obtain⟨hl,he,ok,ht⟩:=few_in hs hf;rw [he] at cR lR;have ro:=rcFrame1 ss gs cR ok;have co:=Zsv ss gs lR ok;obtain⟨hbn,hcb⟩:=few_cb hl ok ht
      have hb:¬(List.range ss.length).any (bigN ss)=true:=by
       rw [List.any_eq_true]
       rintro ⟨j,hj,hb⟩
       rw [hbn j (List.mem_range.1 hj)] at hb;cases hb
      rw [Zx4 hb] at ro co;have hv:=Zxf hb;have hk:∀i (h:i < ss.length),(ss[i].ar.length:Int)=arS ss[i].k:=λi h=>(Zge h (ok.er i h)).2.1;have hai:∀i (h:i < ss.length),∀k,k < ss[i].ar.length→0≤gI ss[i].ar k∧gI ss[i].ar k < (ss.length:Int):=λi h k hkk=>by
       have:=(Zge h (ok.er i h)).2.2.1 k hkk;omega
      have k1:=cnOf ss gs _ _ 0 co zo (λ_=>hk);rw [Zx5 rfl] at k1;obtain⟨e1,e2,e3⟩:=mild_in hq hm;rw [e1] at cm ⊢;have cc:=r22Cho ss gs _ _ zo zo ro;rw [Zr3] at cc;have lV:(qs.map RQ.q).length=qs.length:=Zx9 ..;generalize qs.map RQ.q=Vs at *;by_cases c1:Vs.length=uN ss ss.length
      ·by_cases c2:bs.length=twoN ss ss.length
       ·rw [←c1,←c2] at cc;rcases at_run hl ok e2 c1 c2 cc with⟨L,R,ca⟩ | ⟨K,e,he,ca⟩
        ·obtain⟨D,d0,dl,hcx⟩:=cs_cx hl ok ht;have hlL:=R.len;have szL:∀p∈L,p.sz 1000000000:=λp hp=>by
          obtain⟨i,hi,rfl⟩:=List.mem_iff_getElem.1 hp;have h1:=hv_sz (R.hv i hi);have h2:11 ^ (i+1)≤11 ^ 8:=Zzj zd zo;rw [show(11:Nat) ^ 8=214358881 from by decide] at h2;exact⟨h1.1.mono zo,h1.2.mono zo⟩
         have hcl:=Zm9 ss ss.length;have hvl:=vs_le ss ss.length;have h6:∀(i:Nat) (h:i < ss.length),ss[i].k=6→∃w,fstN (frN ss ss.length).vs i (frN ss ss.length).vs.length=some w∧w < 900:=λi h hk6=>by
          obtain⟨w,h1,h2⟩:=circ_var h hk6;exact⟨w,h1,zo⟩
         refine lawMean1 ss gs _ _ _ _ _ _ (cndN ss ss.length) hl zo zo cf cm ca ro (run_vals R hv c1) k1 (λi hi=>?_);have hm:=Zyl hi;have hok:=Zxm hm;obtain⟨j,hj,-,hcj⟩:=Zm8 hm
         have har:(cndN ss ss.length)[i].ar.length≤1000:=by
          rw [hcj];refine Zxt ?_;rw [show ss.getD j RS.zero=ss[j] from by rw [Zyg,Zyf hj];rfl];have:=hk j hj;have:=Zx0 ss[j].k;omega
         have r1:=cnRight (cndN ss ss.length)[i] ss gs lR har zo hk;rw [hok] at r1;have his:=cnd_is hok hk hai;obtain⟨v1,v2⟩:=cnd_val R ok hbn hcb his;have hp:=cpol_pb (cndN ss ss.length)[i] hcb (frN ss ss.length).vs;obtain⟨ev,sz⟩:=ev_at R d0 dl hv (cpol_nx (cndN ss ss.length)[i] hcx) hp zo zo;have hh:=Zq8 (cndN ss ss.length)[i] L zo szL;unfold hRes at hh;rw [Zx4 (by rw [v2];simp),v1] at hh;exact⟨_,_,cnPoly (cndN ss ss.length)[i] ss gs _ _ his (Zeu ..) hcb zo h6 r1,ev,hh,Zqc _ sz zo⟩
        ·exact Zmx ss gs _ _ _ _ K e he zo cf cm ca ro
       ·exact Zmx ss gs _ _ _ _ 0 16 zd zo cf cm (r22At1 ss gs _ _ _ _ (.inr ⟨by rw [Zx9];exact c1,by rw [lbm];exact c2⟩) cc) ro
      ·exact Zmx ss gs _ _ _ _ 0 16 zd zo cf cm (r22At1 ss gs _ _ _ _ (.inl (by rw [Zx9];exact c1)) cc) ro
     ·exact Zmw ss gs _ _ true true (.inr (.inr zo)) cf cm
theorem saidMean (xs:List AV) (h:ShapeL prog 1048576 9 [25,26,27] xs):Pure prog 4 xs (.v (.bool true)):=by
 obtain⟨x,bs,rfl,h1,h⟩:=h.inv;obtain⟨y,bs,rfl,h2,h⟩:=h.inv;obtain⟨z,bs,rfl,h3,h⟩:=h.inv;obtain rfl:=h.inv0;obtain⟨ss,gs,e,hl,kl,hq,kq⟩:=shFigure h1;obtain⟨qs,rfl,hql,hqq⟩:=shRatL h2;obtain⟨bs,rfl,hbl⟩:=shBools h3;rw [e,Zgl zk,Zgl zk];exact lawMean ss gs qs bs zo zo (λs hs=>⟨Zqw (hq s hs).1 zd,Zye (hq s hs).2.1 zd,Zye (hq s hs).2.2 zd⟩) (λg hg=>⟨Zqw (kq g hg).1 zd,Zye (kq g hg).2 zd⟩) hqq
end Go.Proofs.YtenfejhaohihoaaGreat
