/- Contracts of the functions that the law reaches, and the rules by which they are walked. They say what a call hands back for every input within the bounds that each names; no other condition. -/
import Derived.Test.YtkefeinbjbeidaaGreatDoorBt6
import Derived.Laws.RangeString
import Derived.Lib.OthersKept
import Derived.Laws.Strings
set_option linter.unusedSimpArgs false
set_option linter.unusedVariables false
set_option maxRecDepth 20000
set_option maxHeartbeats 16000000
section
namespace Go.Pol
structure CO {α:Type} (cmp:α→α→Int):Prop where
 eqz:∀a b,cmp a b=0→a=b
 refl:∀a,cmp a a=0
 flip:∀a b,cmp a b < 0↔0 < cmp b a
 tr:∀a b c,cmp a b < 0→cmp b c < 0→cmp a c < 0
structure CP {α:Type} (cmp:α→α→Int):Prop where
 tr:∀{a b c},cmp a b≤0→cmp b c≤0→cmp a c≤0
 tot:∀a b,¬cmp a b < 0→cmp b a≤0
theorem CP.key {α β:Type} {cmp:α→α→Int} (o:CP cmp) (f:β→α):CP (λs t=>cmp (f s) (f t)):=⟨λh k=>o.tr h k,λ_ _ h=>o.tot _ _ h⟩
namespace CO
variable {α:Type} {cmp:α→α→Int}
theorem le_tr (o:CO cmp) {a b c:α} (h:cmp a b≤0) (k:cmp b c≤0):cmp a c≤0:=by
 by_cases h0:cmp a b=0
 ·rw [o.eqz a b h0];exact k
 ·by_cases k0:cmp b c=0
  ·rw [←o.eqz b c k0];exact h
  ·have:=o.tr a b c zo zo;omega
theorem le_total (o:CO cmp) (a b:α) (h:¬cmp a b < 0):cmp b a≤0:=by
 have:=(o.flip b a);have:=(o.flip a b);omega
theorem anti (o:CO cmp) {a b:α} (h:cmp a b≤0) (k:cmp b a≤0):a=b:=by
 refine o.eqz a b ?_;have:=(o.flip b a);have:=(o.flip a b);omega
theorem cp (o:CO cmp):CP cmp:=⟨λh k=>o.le_tr h k,o.le_total⟩
theorem ko (o:CO cmp):KO (λ_=>True) (λx y=>cmp y x < 0) where
 irr x h:=by rw [o.refl] at h;omega
 tr x y z h k:=o.tr z y x k h
 tri x y _ _:=by
  by_cases h:cmp y x < 0
  ·exact .inl h
  ·by_cases h0:cmp x y < 0
   ·exact .inr (.inr h0)
   ·exact .inr (.inl (o.eqz x y (by have:=o.flip y x;omega)))
end CO
section
variable {α:Type} (cmp:α→α→Int)
def Asc (l:List α):Prop:=l.Pairwise λa b=>cmp a b≤0
def insI (P:List α) (x:α):Nat→List α
 | 0=>x :: P
 | j+1=>if cmp x (P.getD j x) < 0 then insI P x j else P.take (j+1)++x :: P.drop (j+1)
def srtN (L:List α):Nat→List α
 | 0=>[]
 | n+1=>match L[n]? with
   | some x=>insI cmp (srtN L n) x (srtN L n).length
   | none=>srtN L n
def srtQ (L:List α):List α:=srtN cmp L L.length
variable {cmp}
theorem Zlp (P:List α) (x:α):∀j,j≤P.length→(∀t (h:t < P.length),j≤t→cmp x P[t] < 0)→∃k,k≤P.length∧insI cmp P x j=P.take k++x :: P.drop k∧(∀t (h:t < P.length),k≤t→cmp x P[t] < 0)∧∀t (h:t < P.length),t+1=k→¬cmp x P[t] < 0
 | 0,_,h=>⟨0,ZB5 _,by simp [insI],h,λt ht e=>zo⟩
 | j+1,hj,h=>by
   have hg:P.getD j x=P[j]'zo:=by rw [ZCb,ZB6 zo];rfl
   unfold insI;rw [hg];split
   ·rename_i hc;refine Zlp P x j zo λt ht hjt=>?_;by_cases e:t=j
    ·subst e;exact hc
    ·exact h t ht zo
   ·rename_i hc
    exact⟨j+1,hj,rfl,h,λt ht e=>by have:t=j:=zo
                                   subst this;exact hc⟩
theorem Zz0 (P:List α) (x:α):(insI cmp P x P.length).Perm (x :: P):=by
 obtain⟨k,_,e,_⟩:=Zlp (cmp:=cmp) P x P.length (ZBw _) (λt h1 h2=>zo);rw [e];refine(List.perm_middle).trans ?_;rw [ZD2]
theorem insI_asc (o:CP cmp) {P:List α} (hP:Asc cmp P) (x:α):Asc cmp (insI cmp P x P.length):=by
 obtain⟨k,hk,e,h1,h2⟩:=Zlp (cmp:=cmp) P x P.length (ZBw _) (λt h1 h2=>zo);rw [e];unfold Asc at *;have hle:∀a∈P.take k,cmp a x≤0:=λa ha=>by
  obtain⟨t,ht,rfl⟩:=List.mem_iff_getElem.1 ha;rw [ZCh] at ht;rw [List.getElem_take];have hn:=h2 (k - 1) zo zo;have hlast:=o.tot _ _ hn;by_cases et:t=k - 1
  ·subst et;exact hlast
  ·exact o.tr (List.pairwise_iff_getElem.1 hP t (k - 1) zo zo zo) hlast
 have hge:∀b∈P.drop k,cmp x b≤0:=λb hb=>by
  obtain⟨t,ht,rfl⟩:=List.mem_iff_getElem.1 hb;rw [ZD7] at ht;rw [List.getElem_drop];have:=h1 (k+t) zo zo;omega
 refine List.pairwise_append.2 ⟨hP.sublist (List.take_sublist _ _),List.pairwise_cons.2 ⟨hge,hP.sublist (List.drop_sublist _ _)⟩,λa ha b hb=>?_⟩;rcases List.mem_cons.1 hb with rfl | hb
 ·exact hle a ha
 ·exact o.tr (hle a ha) (hge b hb)
theorem Zo8 (L:List α):∀n,n≤L.length→(srtN cmp L n).Perm (L.take n)
 | 0,_=>by simp [srtN]
 | n+1,h=>by
   have hn:L[n]?=some (L[n]'zo):=ZB6 zo;unfold srtN;rw [hn];simp only;rw [ZFu,hn];refine(Zz0 _ _).trans ?_;refine(List.Perm.cons _ (Zo8 L n zo)).trans ?_;simp only [Option.toList_some];exact(List.perm_append_singleton _ _).symm
theorem Znh (o:CP cmp) (L:List α):∀n,Asc cmp (srtN cmp L n)
 | 0=>.nil
 | n+1=>by
   unfold srtN;split
   ·exact insI_asc o (Znh o L n) _
   ·exact Znh o L n
theorem Za2 (L:List α):(srtQ cmp L).Perm L:=by
 have:=Zo8 (cmp:=cmp) L L.length (ZBw _)
 rwa [ZDg] at this
theorem Zb6 (o:CP cmp) (L:List α):Asc cmp (srtQ cmp L):=Znh o L _
theorem srtQ_len (L:List α):(srtQ cmp L).length=L.length:=(Za2 L).length_eq
theorem Zft (o:CO cmp):∀{l m:List α},Asc cmp l→Asc cmp m→l.Perm m→l=m
 | [],m,_,_,p=>(List.nil_perm.1 p).symm
 | a :: l,[],_,_,p=>by have:=p.length_eq;simp at this
 | a :: l,b :: m,hl,hm,p=>by
   have hl':=List.pairwise_cons.1 hl;have hm':=List.pairwise_cons.1 hm
   have hab:a=b:=by
    have h1:a∈b :: m:=p.mem_iff.1 (.head _);have h2:b∈a :: l:=p.mem_iff.2 (.head _);rcases List.mem_cons.1 h1 with h | h1
    ·exact h
    ·rcases List.mem_cons.1 h2 with h | h2
     ·exact h.symm
     ·exact o.anti (hl'.1 b h2) (hm'.1 a h1)
   subst hab;rw [Zft o hl'.2 hm'.2 (List.Perm.cons_inv p)]
def putQ (cmp:α→α→Int):List α→α→List α
 | [],q=>[q]
 | a :: l,q=>if cmp a q≤0 then a :: putQ cmp l q else q :: a :: l
theorem Zfy (q:α):∀l:List α,(putQ cmp l q).Perm (q :: l)
 | []=>.refl _
 | a :: l=>by
   unfold putQ;split
   ·exact((Zfy q l).cons a).trans (.swap ..)
   ·exact .refl _
theorem Zkg (o:CP cmp) (q:α):∀{l:List α},Asc cmp l→Asc cmp (putQ cmp l q)
 | [],_=>ZGn ..
 | a :: l,h=>by
   have h':=List.pairwise_cons.1 h;unfold putQ;split
   ·rename_i hc;refine List.pairwise_cons.2 ⟨λb hb=>?_,Zkg o q h'.2⟩;rcases List.mem_cons.1 ((Zfy q l).mem_iff.1 hb) with rfl | hb
    ·exact hc
    ·exact h'.1 b hb
   ·rename_i hc;have hqa:cmp q a≤0:=o.tot a q zo;refine List.pairwise_cons.2 ⟨λb hb=>?_,h⟩;rcases List.mem_cons.1 hb with rfl | hb
    ·exact hqa
    ·exact o.tr hqa (h'.1 b hb)
theorem Zfq (L:List α):∀acc:List α,(L.foldl (putQ cmp) acc).Perm (L++acc):=by
 induction L with
 | nil=>intro acc;exact .refl _
 | cons a L ih =>
   intro acc;show(L.foldl (putQ cmp) (putQ cmp acc a)).Perm (a :: (L++acc));refine(ih _).trans (((Zfy a acc).append_left L).trans ?_);exact List.perm_middle
theorem Zob (o:CP cmp) (L:List α):∀acc:List α,Asc cmp acc→Asc cmp (L.foldl (putQ cmp) acc):=by
 induction L with
 | nil=>intro acc h;exact h
 | cons a L ih=>intro acc h;exact ih _ (Zkg o a h)
theorem Zqe (o:CO cmp) (L:List α):L.foldl (putQ cmp) []=srtQ cmp L :=
 Zft o (Zob o.cp L [] .nil) (Zb6 o.cp L) (by
  have:=Zfq (cmp:=cmp) L [];rw [ZDf] at this;exact this.trans (Za2 L).symm)
end
section
variable {α:Type} (cmp:α→α→Int)
def lexL:List α→List α→Int
 | [],[]=>0
 | [],_ :: _=>-1
 | _ :: _,[]=>1
 | a :: l,b :: m=>if cmp a b=0 then lexL l m else cmp a b
def ordL (l m:List α):Int:=if l.length < m.length then -1 else if m.length < l.length then 1 else lexL cmp l m
variable {cmp}
theorem Zb8 (a b:α) (l m:List α):lexL cmp (a :: l) (b :: m)=if cmp a b=0 then lexL cmp l m else cmp a b:=rfl
theorem Zn3 (o:CO cmp):CO (lexL cmp) where
 eqz:=by
  intro l
  induction l with
  | nil=>intro m h;cases m with
    | nil=>rfl
    | cons b m=>exact absurd h (by simp [lexL])
  | cons a l ih=>intro m h;cases m with
    | nil=>exact absurd h (by simp [lexL])
    | cons b m =>
      unfold lexL at h;split at h
      ·rename_i h0;rw [o.eqz a b h0,ih m h]
      ·contradiction
 refl:=by
  intro l
  induction l with
  | nil=>rfl
  | cons a l ih=>unfold lexL;rw [ZBv (o.refl a)];exact ih
 flip:=by
  intro l
  induction l with
  | nil=>intro m;cases m<;>simp [lexL]
  | cons a l ih=>intro m;cases m with
    | nil=>simp [lexL]
    | cons b m =>
      have h1:=o.flip a b;have h2:=o.flip b a;unfold lexL;by_cases h:cmp a b=0
      ·rw [ZBv h,ZBv (by rw [o.eqz a b h];exact o.refl b)];exact ih m
      ·rw [ZBu h,ZBu zo];exact h1
 tr:=by
  intro l
  induction l with
  | nil=>intro m n h k;cases n with
    | nil=>cases m with
      | nil=>exact h
      | cons b m=>simp [lexL] at k
    | cons c n=>simp [lexL]
  | cons a l ih=>intro m n h k;cases m with
    | nil=>simp [lexL] at h
    | cons b m=>cases n with
      | nil=>simp [lexL] at k
      | cons c n =>
        rw [Zb8] at *;by_cases hab:cmp a b=0
        ·rw [ZBv hab] at h;by_cases hbc:cmp b c=0
         ·rw [ZBv hbc] at k;rw [ZBv (by rw [o.eqz a b hab,hbc])];exact ih m n h k
         ·rw [ZBu hbc] at k;rw [o.eqz a b hab,ZBu hbc];exact k
        ·rw [ZBu hab] at h;by_cases hbc:cmp b c=0
         ·rw [←o.eqz b c hbc,ZBu hab];exact h
         ·rw [ZBu hbc] at k;have:=o.tr a b c h k;rw [ZBu zo];exact this
theorem ordL_co (o:CO cmp):CO (ordL cmp) where
 eqz l m h:=by
  unfold ordL at h;split at h
  ·omega
  ·split at h
   ·omega
   ·exact(Zn3 o).eqz l m h
 refl l:=by unfold ordL;rw [ZBu zo,ZBu zo];exact(Zn3 o).refl l
 flip l m:=by
  have:=(Zn3 o).flip l m;unfold ordL;by_cases h1:l.length < m.length
  ·rw [ZBv h1,ZBu zo,ZBv h1];omega
  ·by_cases h2:m.length < l.length
   ·rw [ZBu h1,ZBv h2,ZBv h2];omega
   ·rw [ZBu h1,ZBu h2,ZBu h2,ZBu h1];exact this
 tr l m n h k:=by
  have:=(Zn3 o).tr l m n;unfold ordL at *;by_cases h1:l.length < m.length
  ·by_cases k1:m.length < n.length
   ·rw [ZBv zo];omega
   ·by_cases k2:n.length < m.length
    ·rw [ZBu k1,ZBv k2] at k;omega
    ·rw [ZBv zo];omega
  ·by_cases h2:m.length < l.length
   ·rw [ZBu h1,ZBv h2] at h;omega
   ·by_cases k1:m.length < n.length
    ·rw [ZBv zo];omega
    ·by_cases k2:n.length < m.length
     ·rw [ZBu k1,ZBv k2] at k;omega
     ·rw [ZBu h1,ZBu h2] at h;rw [ZBu k1,ZBu k2] at k;rw [ZBu zo,ZBu zo];exact this h k
end
section
variable {κ:Type} [DecidableEq κ]
def addC:List (Rat × κ)→Rat × κ→List (Rat × κ)
 | [],t=>[t]
 | s :: l,t=>if s.2=t.2 then (s.1+t.1,s.2) :: l else s :: addC l t
theorem cof_addC (l:List (Rat × κ)) (t:Rat × κ) (x:κ):cof (addC l t) x=cof l x+if t.2=x then t.1 else 0:=by
 induction l with
 | nil=>show(if t.2=x then t.1 else 0)+0=0+_;rw [Rat.add_comm]
 | cons s l ih =>
   unfold addC;split
   ·rename_i h;simp only [cof];rw [h];split<;>grind
   ·simp only [cof];rw [ih];grind
theorem addC_key {l:List (Rat × κ)} {t u:Rat × κ} (h:u∈addC l t):u.2=t.2∨∃s∈l,s.2=u.2:=by
 induction l with
 | nil=>rw [List.mem_singleton.1 h];exact .inl rfl
 | cons s l ih =>
   unfold addC at h;split at h
   ·rename_i e;rcases List.mem_cons.1 h with rfl | h
    ·exact .inl e
    ·exact .inr ⟨u,.tail _ h,rfl⟩
   ·rcases List.mem_cons.1 h with rfl | h
    ·exact .inr ⟨u,.head _,rfl⟩
    ·rcases ih h with h | ⟨s',h1,h2⟩
     ·exact .inl h
     ·exact .inr ⟨s',.tail _ h1,h2⟩
def Dst (l:List (Rat × κ)):Prop:=l.Pairwise λs t=>s.2≠t.2
theorem addC_dst {l:List (Rat × κ)} (h:Dst l) (t:Rat × κ):Dst (addC l t):=by
 induction l with
 | nil=>exact ZGn ..
 | cons s l ih =>
   have h':=List.pairwise_cons.1 h;unfold addC;split
   ·exact List.pairwise_cons.2 ⟨λu hu=>h'.1 u hu,h'.2⟩
   ·rename_i hne;refine List.pairwise_cons.2 ⟨λu hu=>?_,ih h'.2⟩;rcases addC_key hu with e | ⟨v,hv,e⟩
    ·rw [e];exact hne
    ·rw [←e];exact h'.1 v hv
theorem Zm3 (l:List (Rat × κ)) (x:κ):cof (l.filter λt=>decide (t.1≠0)) x=cof l x:=by
 induction l with
 | nil=>rfl
 | cons t l ih =>
   rw [ZFc];split
   ·simp only [cof];rw [ih]
   ·rename_i h;have h0:t.1=0:=by simpa using h
    simp only [cof];rw [ih,h0];grind
theorem cof_perm {l m:List (Rat × κ)} (h:l.Perm m) (x:κ):cof l x=cof m x:=by
 induction h with
 | nil=>rfl
 | cons a _ ih=>simp only [cof];rw [ih]
 | swap a b l=>simp only [cof];grind
 | trans _ _ ih1 ih2=>rw [ih1,ih2]
end
section
variable {κ:Type} (cmp:κ→κ→Int)
def sumG (l:List (Rat × κ)):List (Rat × κ):=sumH (λx y=>cmp y x < 0) (l.map λt=>if t.1=0 then [] else [t])
variable {cmp}
theorem Zni (o:CO cmp):∀{l:List (Rat × κ)},Dst l→(srtQ (λs t:Rat × κ=>cmp s.2 t.2) l).Pairwise λs t=>cmp s.2 t.2 < 0:=by
 intro l hd;have hp:=Za2 (cmp:=λs t:Rat × κ=>cmp s.2 t.2) l
 have hd2:Dst (srtQ (λs t:Rat × κ=>cmp s.2 t.2) l):=by
  refine(List.Perm.pairwise_iff ?_ hp).2 hd;intro a b h e;exact h e.symm
 have ha:(srtQ (λs t:Rat × κ=>cmp s.2 t.2) l).Pairwise λs t=>cmp s.2 t.2≤0:=Zb6 (o.cp.key λs:Rat × κ=>s.2) l;exact(ha.and hd2).imp λ{a b} h=>by
  obtain⟨h1,h2⟩:=h;by_cases h0:cmp a.2 b.2=0
  ·exact absurd (o.eqz _ _ h0) h2
  ·omega
theorem Zmk (l:List (Rat × κ)):∀p∈l.map (λt=>if t.1=0 then [] else [t]),Srt (λ_=>True) (λx y=>cmp y x < 0) p:=λp hp=>by
 obtain⟨t,_,rfl⟩:=List.mem_map.1 hp;split
 ·exact .nil
 ·rename_i h;exact Srt.nil.cons h trivial (λu hu=>by cases hu)
theorem Znd (o:CO cmp) (l:List (Rat × κ)):Srt (λ_=>True) (λx y=>cmp y x < 0) (sumG cmp l):=Zhe o.ko _ (Zmk l)
end
section
variable {κ:Type} [DecidableEq κ]
variable (cmp:κ→κ→Int)
def sumC (l:List (Rat × κ)):List (Rat × κ):=srtQ (λs t=>cmp s.2 t.2) ((l.foldl addC []).filter λt=>decide (t.1≠0))
variable {cmp}
theorem Zmb (L:List (Rat × κ)) (x:κ):∀acc:List (Rat × κ),cof (L.foldl addC acc) x=cof acc x+cof L x:=by
 induction L with
 | nil=>intro acc;show cof acc x=cof acc x+0;rw [ZD5]
 | cons t L ih =>
   intro acc;show cof (L.foldl addC (addC acc t)) x=cof acc x+((if t.2=x then t.1 else 0)+cof L x);rw [ih,cof_addC,Rat.add_assoc]
theorem Zfr (L:List (Rat × κ)):∀acc:List (Rat × κ),Dst acc→Dst (L.foldl addC acc):=by
 induction L with
 | nil=>intro acc h;exact h
 | cons t L ih=>intro acc h;exact ih _ (addC_dst h t)
theorem sumC_srt (o:CO cmp) (l:List (Rat × κ)):Srt (λ_=>True) (λx y=>cmp y x < 0) (sumC cmp l):=by
 have hd:Dst ((l.foldl addC []).filter λt=>decide (t.1≠0)):=List.Pairwise.sublist (List.filter_sublist ..) (Zfr l [] .nil);refine⟨λt ht=>⟨?_,trivial⟩,Zni o hd⟩;have:=((Za2 _).mem_iff.1 ht);have:=(List.mem_filter.1 this).2;exact ZHc this
theorem sumC_cof (l:List (Rat × κ)) (x:κ):cof (sumC cmp l) x=cof l x:=by
 unfold sumC;rw [cof_perm (Za2 _),Zm3,Zmb];show 0+_=_;rw [ZF8]
theorem Zne (o:CO cmp) (l:List (Rat × κ)) (x:κ):cof (sumG cmp l) x=cof l x:=by
 unfold sumG;rw [sumH_cof o.ko x _ (Zmk l)]
 induction l with
 | nil=>rfl
 | cons t l ih =>
   show cof _ x+cofL (l.map _) x=(if t.2=x then t.1 else 0)+cof l x;rw [ih];congr 1;show cof (if t.1=0 then [] else [t]) x=_;by_cases h:t.1=0
   ·rw [ZBv h,h];show(0:Rat)=_;split<;>rfl
   ·rw [ZBu h];show _+(0:Rat)=_;rw [ZD5]
theorem Znf (o:CO cmp) (l:List (Rat × κ)):sumC cmp l=sumG cmp l:=Zjc o.ko (sumC_srt o l) (Znd o l) λx=>by rw [sumC_cof,Zne o]
end
end Go.Pol
end
namespace Go.Proofs.YtkefeinbjbeidaaGreatDoor
open Go Go.RowKit Go.Pg Go.Pol Go.Proofs.Tryz
attribute [-bool_to_prop] Bool.and_eq_decide Bool.or_eq_decide Bool.decide_beq_decide decide_eq_decide
attribute [go_sem] zSlQ
attribute [local go_sem] Za8 Zbx Zah Zaq Zai Bool.and_self Zal Zip Zna Zba
abbrev qsA (l:List Qt):AV:=.sl 4 (l.map Qt.av)
def LTq (p q:Qt):Prop:=p.k < q.k∨(p.k=q.k∧(p.a < q.a∨(p.a=q.a∧(p.b < q.b∨(p.b=q.b∧p.c < q.c)))))
theorem Zhl (x y:Int):(ordI x y=-1∧x < y)∨(ordI x y=0∧x=y)∨(ordI x y=1∧y < x):=by
 unfold ordI;split
 ·exact .inl ⟨rfl,zo⟩
 ·split
  ·exact .inr (.inr ⟨rfl,zo⟩)
  ·exact .inr (.inl ⟨rfl,zo⟩)
theorem Zg7 (p q:Qt):(Qt.cmp p q=-1∧LTq p q)∨(Qt.cmp p q=0∧p=q)∨(Qt.cmp p q=1∧LTq q p):=by
 obtain⟨k,a,b,c⟩:=p;obtain⟨k',a',b',c'⟩:=q;unfold Qt.cmp or4 LTq;simp only;rcases Zhl k k' with⟨h,g⟩ | ⟨h,g⟩ | ⟨h,g⟩
 ·rw [h];exact .inl ⟨rfl,zo⟩
 ·rw [h];rcases Zhl a a' with⟨i,f⟩ | ⟨i,f⟩ | ⟨i,f⟩
  ·rw [i];exact .inl ⟨rfl,zo⟩
  ·rw [i];rcases Zhl b b' with⟨j,e⟩ | ⟨j,e⟩ | ⟨j,e⟩
   ·rw [j];exact .inl ⟨rfl,zo⟩
   ·rw [j];rcases Zhl c c' with⟨m,d⟩ | ⟨m,d⟩ | ⟨m,d⟩
    ·rw [m];exact .inl ⟨rfl,zo⟩
    ·rw [m];exact .inr (.inl ⟨rfl,by rw [g,f,e,d]⟩)
    ·rw [m];exact .inr (.inr ⟨rfl,zo⟩)
   ·rw [j];exact .inr (.inr ⟨rfl,zo⟩)
  ·rw [i];exact .inr (.inr ⟨rfl,zo⟩)
 ·rw [h];exact .inr (.inr ⟨rfl,zo⟩)
theorem LTq.asymm {p q:Qt} (h:LTq p q) (k:LTq q p):False:=by unfold LTq at *;omega
theorem LTq.irr {p:Qt} (h:LTq p p):False:=h.asymm h
theorem cmp_lt (p q:Qt):Qt.cmp p q < 0↔LTq p q:=by
 rcases Zg7 p q with⟨h,g⟩ | ⟨h,g⟩ | ⟨h,g⟩
 ·rw [h];exact⟨λ_=>g,λ_=>zo⟩
 ·rw [h];exact⟨λe=>zo,λe=>by rw [g] at e;exact e.irr.elim⟩
 ·rw [h];exact⟨λe=>zo,λe=>(g.asymm e).elim⟩
theorem cmp_gt (p q:Qt):0 < Qt.cmp p q↔LTq q p:=by
 rcases Zg7 p q with⟨h,g⟩ | ⟨h,g⟩ | ⟨h,g⟩
 ·rw [h];exact⟨λe=>zo,λe=>(g.asymm e).elim⟩
 ·rw [h];exact⟨λe=>zo,λe=>by rw [g] at e;exact e.irr.elim⟩
 ·rw [h];exact⟨λ_=>g,λ_=>zo⟩
theorem qtO:CO Qt.cmp where
 eqz p q h:=by
  rcases Zg7 p q with⟨e,_⟩ | ⟨_,g⟩ | ⟨e,_⟩
  ·omega
  ·exact g
  ·omega
 refl p:=by
  rcases Zg7 p p with⟨_,g⟩ | ⟨e,_⟩ | ⟨_,g⟩
  ·exact g.irr.elim
  ·exact e
  ·exact g.irr.elim
 flip p q:=by rw [cmp_lt,cmp_gt]
 tr p q r h k:=by rw [cmp_lt] at *;unfold LTq at *;omega
abbrev ordQ:List Qt→List Qt→Int:=ordL Qt.cmp
theorem Zbo:CO ordQ:=ordL_co qtO
abbrev w8 (n:Int):Int:=IntKind.u8.wrap n
def keyN (l:List Qt):List Int:=l.flatMap λq=>[w8 q.k,w8 q.a,w8 q.b,w8 q.c]
def keyS (l:List Qt):ByteArray:=Zes (keyN l)
abbrev u8A (n:Int):AV:=.v (.int .u8 n)
theorem Zwz (l:List Int):Znb (l.map u8A)=some l:=by
 induction l with
 | nil=>rfl
 | cons a l ih=>show(Znb (l.map u8A)).map (a :: ·)=_;rw [ih];rfl
theorem Zzw (l:List Qt) (q:Qt):keyN (l++[q])=keyN l++[w8 q.k,w8 q.a,w8 q.b,w8 q.c]:=by unfold keyN;rw [ZHp];simp
theorem Zi0 (l:List Qt):(keyN l).length=4*l.length:=by
 induction l with
 | nil=>rfl
 | cons a l ih =>
   show([_,_,_,_]++keyN l).length=_;rw [ZCr,ih];simp only [ZCd,ZCq];omega
theorem Zq9 (ns:List Int):(Zes ns).data.toList=ns.map λn=>UInt8.ofNat n.toNat:=by
 have key:∀(ns:List Int) (acc:ByteArray),(ns.foldl (λr n=>r.push (UInt8.ofNat n.toNat)) acc).data.toList=acc.data.toList++ns.map λn=>UInt8.ofNat n.toNat:=by
  intro ns
  induction ns with
  | nil=>intro acc;simp
  | cons n ns ih=>intro acc;rw [ZGt,ih];simp [ByteArray.push]
 unfold Zes;rw [key];rfl
theorem Zox {n:Int} (h0:0≤n) (h1:n < 256):w8 n=n:=by unfold w8 IntKind.wrap;simp [IntKind.signed,IntKind.bits];omega
def Qt.b8 (q:Qt):Prop:=(0≤q.k∧q.k < 256)∧(0≤q.a∧q.a < 256)∧(0≤q.b∧q.b < 256)∧0≤q.c∧q.c < 256
theorem ok_b8 {q:Qt} (h:q.ok=true):q.b8:=by
 unfold Qt.ok at h;have h:=ZHc h;unfold Qt.b8;omega
theorem Zul:∀{l m:List Qt},(∀q∈l,q.b8)→(∀q∈m,q.b8)→keyN l=keyN m→l=m
 | [],[],_,_,_=>rfl
 | [],b :: m,_,_,h=>by have:=ZDi List.length h;rw [Zi0,Zi0] at this;simp at this
 | a :: l,[],_,_,h=>by have:=ZDi List.length h;rw [Zi0,Zi0] at this;simp at this
 | a :: l,b :: m,hl,hm,h=>by
   have h:w8 a.k :: w8 a.a :: w8 a.b :: w8 a.c :: keyN l=w8 b.k :: w8 b.a :: w8 b.b :: w8 b.c :: keyN m:=h;simp only [List.cons.injEq] at h;obtain⟨h1,h2,h3,h4,h5⟩:=h;obtain⟨⟨a1,a2⟩,⟨a3,a4⟩,⟨a5,a6⟩,a7,a8⟩:=hl a (.head _);obtain⟨⟨b1,b2⟩,⟨b3,b4⟩,⟨b5,b6⟩,b7,b8⟩:=hm b (.head _);rw [Zox a1 a2,Zox b1 b2] at h1;rw [Zox a3 a4,Zox b3 b4] at h2;rw [Zox a5 a6,Zox b5 b6] at h3;rw [Zox a7 a8,Zox b7 b8] at h4;rw [Zul (λq hq=>hl q (.tail _ hq)) (λq hq=>hm q (.tail _ hq)) h5];congr 1;obtain⟨_,_,_,_⟩:=a;obtain⟨_,_,_,_⟩:=b;simp only at h1 h2 h3 h4;rw [h1,h2,h3,h4]
theorem keyN_b (l:List Qt):∀n∈keyN l,0≤n∧n < 256:=by
 have hw:∀n,0≤w8 n∧w8 n < 256:=λn=>by unfold w8 IntKind.wrap;simp [IntKind.signed,IntKind.bits];omega
 intro n hn;unfold keyN at hn;simp only [List.mem_flatMap,ZFi,List.not_mem_nil,or_false] at hn;obtain⟨q,_,h | h | h | h⟩:=hn<;>(rw [h];exact hw _)
theorem Zqq:∀{a b:List Int},(∀n∈a,0≤n∧n < 256)→(∀n∈b,0≤n∧n < 256)→(a.map λn:Int=>UInt8.ofNat n.toNat)=(b.map λn:Int=>UInt8.ofNat n.toNat)→a=b
 | [],[],_,_,_=>rfl
 | [],_ :: _,_,_,h=>by simp at h
 | _ :: _,[],_,_,h=>by simp at h
 | x :: a,y :: b,ha,hb,h=>by
   simp only [ZC1,List.cons.injEq] at h;obtain⟨h1,h2⟩:=h;obtain⟨x0,x1⟩:=ha x (.head _);obtain⟨y0,y1⟩:=hb y (.head _);have e:=ZDi UInt8.toNat h1;simp only [UInt8.toNat_ofNat'] at e;have:x=y:=zo;rw [this,Zqq (λn hn=>ha n (.tail _ hn)) (λn hn=>hb n (.tail _ hn)) h2]
theorem Zuk {l m:List Qt} (hl:∀q∈l,q.b8) (hm:∀q∈m,q.b8) (h:keyS l=keyS m):l=m:=by
 refine Zul hl hm (Zqq (keyN_b l) (keyN_b m) ?_);have:=ZDi (λs:ByteArray=>s.data.toList) h;simp only [keyS,Zq9] at this;exact this
theorem qt_at {l:List Qt} {j:Nat} (h:j < l.length):(l.map Qt.av).getD j .u=Qt.av (l.getD j Qt.zero):=Zqc h
theorem exKey (l:List Qt) (hl:l.length≤1000):Pure prog 195 [qsA l] (strA (keyS l)):=by
 have hlm:(l.map Qt.av).length=l.length:=ZB2 ..;have hg:∀j,j < l.length→(l.map Qt.av).getD j .u=Qt.av (l.getD j Qt.zero):=λj h=>qt_at h;have hz:(4*(l.length:Int)).toNat=4*l.length:=zo;show Pure _ _ [.sl 4 (l.map Qt.av)] _;generalize l.map Qt.av=M at *;refine pI func195 rfl ntmps195 results195 call195 ?_
 (refine wkap (w_2 hlm hz) w_t (w_r 0) (w_s ?_);intros)
 refine Zad (ι:=Nat) (λi e m=>i≤l.length∧(∃sv,e 3=.own 9 sv∧m 9=some (.row sv 5 1 ((keyN (l.take i)).map u8A) 0))∧e 10=.sl 4 M∧e 11=iv l.length∧e 12=iv i) (λi=>l.length - i) 0 zr ?_ ?_
 ·rintro i e m ⟨hi,⟨sv,e3,m9⟩,e10,e11,e12⟩
  by_cases hlt:i < l.length
  ·have hgi:=hg i hlt
   have hs:keyN (l.take (i+1))=keyN (l.take i)++[w8 (l.getD i Qt.zero).k,w8 (l.getD i Qt.zero).a,w8 (l.getD i Qt.zero).b,w8 (l.getD i Qt.zero).c]:=by
    rw [ZFu,ZB6 hlt,ZCb,ZB6 hlt];exact Zzw _ _
   have hkl:((keyN (l.take i)).map u8A).length=4*i:=by rw [ZB2,Zi0,ZCh];omega
   have hma:(keyN (l.take (i+1))).map u8A=(keyN (l.take i)).map u8A++[u8A (w8 (l.getD i Qt.zero).k),u8A (w8 (l.getD i Qt.zero).a),u8A (w8 (l.getD i Qt.zero).b),u8A (w8 (l.getD i Qt.zero).c)]:=by rw [hs,ZCp];rfl
   clear hg hs;generalize (keyN (l.take i)).map u8A=K at *;generalize l.getD i Qt.zero=q at *;obtain⟨k,a,b,c⟩:=q;simp only at *
   (refine wkap (w_8 e3 m9 e10 e11 e12 hlm hgi hkl) w_t (w_r 0) (w_s ?_);intros)
   exact⟨i+1,⟨zo,⟨_,gC,by rw [hma];exact gC⟩,gW e10,gW e11,gS⟩,zo⟩
  ·have hil:i=l.length:=zo;subst hil;have hu:Znb ((keyN l).map u8A)=some (keyN l):=Zwz _;rw [ZDg] at m9;unfold keyS;generalize (keyN l).map u8A=K at *
   (refine wkap (w_6 e3 m9 e10 e11 e12 hu) w_t (w_r 0) (w_s ?_);intros)
   all_goals exact gL
 ·exact⟨ZB5 _,⟨_,gC,gC⟩,gC,gW hlm,gC⟩
attribute [go_sem] underlying78 underlying33 underlying34 szQT byQT zQT zSlT szQP zQP
attribute [local go_sem] Za9
theorem Zzm {α:Type} {cmp:α→α→Int} {l m:List α} {i:Nat} (hl:i < l.length) (hm:i < m.length):lexL cmp (l.drop i) (m.drop i)=if cmp l[i] m[i]=0 then lexL cmp (l.drop (i+1)) (m.drop (i+1)) else cmp l[i] m[i]:=by
 rw [ZEi hl,ZEi hm,Zb8]
abbrev ordT (s t:Rat × List Qt):Int:=ordQ s.2 t.2
abbrev qtA (t:Rat × List Qt):AV:=.agg [.v (.bool (decide (t.1.num < 0))),lim (toL t.1.num.natAbs),lim (toL t.1.den),qsA t.2]
theorem slCmpQ (l m:List Qt) (hl:l.length≤1000000) (he:l.length=m.length):Pure prog 248 [qsA l,qsA m,.fn 164 []] (iv (lexL Qt.cmp l m)):=by
 have hlm:(l.map Qt.av).length=l.length:=ZB2 ..;have hmm:(m.map Qt.av).length=l.length:=by rw [ZB2];omega
 have hgl:∀j (h:j < l.length),(l.map Qt.av).getD j .u=Qt.av l[j]:=λj h=>Zam Qt.av h;have hgm:∀j (h:j < m.length),(m.map Qt.av).getD j .u=Qt.av m[j]:=λj h=>Zam Qt.av h;show Pure _ _ [.sl 4 (l.map Qt.av),.sl 4 (m.map Qt.av),.fn 164 []] _;generalize l.map Qt.av=A at *;generalize m.map Qt.av=B at *;refine pI func248 rfl ntmps248 results248 call248 ?_
 (refine wkap (w_2 hlm hmm) w_t (w_r 0) (w_s ?_);intros)
 refine Zad (ι:=Nat) (λi e _=>i≤l.length∧lexL Qt.cmp l m=lexL Qt.cmp (l.drop i) (m.drop i)∧e 0=.sl 4 A∧e 1=.sl 4 B∧e 2=.fn 164 []∧e 11=.sl 4 A∧e 12=iv l.length∧e 13=iv i) (λi=>l.length - i) 0 zr ?_ ?_
 ·rintro i e m' ⟨hi,hx,e0,e1,e2,e11,e12,e13⟩
  by_cases hlt:i < l.length
  ·have g1:=hgl i hlt;have g2:=hgm i zo;have hs:=Zzm (cmp:=Qt.cmp) hlt (show i < m.length by omega);have cc:=quCmp l[i].k l[i].a l[i].b l[i].c (m[i]'zo).k (m[i]'zo).a (m[i]'zo).b (m[i]'zo).c;rw [hx,hs];clear hgl hgm;by_cases hz:Qt.cmp l[i] (m[i]'zo)=0
   ·rw [ZBv hz];have hx2:lexL Qt.cmp l m=lexL Qt.cmp (l.drop (i+1)) (m.drop (i+1)):=by rw [hx,hs,ZBv hz]
    clear hx hs;rw [←hx2];generalize l[i]=x at *;generalize m[i]'zo=y at *;obtain⟨x1,x2,x3,x4⟩:=x;obtain⟨y1,y2,y3,y4⟩:=y;simp only at *;rw [hz] at cc
    (refine wkap (w_10 e0 e1 e2 e11 e12 e13 hlm hmm g1 g2) (w_1 cc) (w_r 0) (w_s ?_);intros)
    exact⟨i+1,⟨zo,hx2,gW e0,gW e1,gW e2,gW e11,gW e12,gS⟩,zo⟩
   ·rw [ZBu hz];clear hx hs;generalize l[i]=x at *;generalize m[i]'zo=y at *;obtain⟨x1,x2,x3,x4⟩:=x;obtain⟨y1,y2,y3,y4⟩:=y;simp only at *;generalize Qt.cmp _ _=z at *
    (refine wkap (w_10 e0 e1 e2 e11 e12 e13 hlm hmm g1 g2) (w_1 cc) (w_r 0) (w_s ?_);intros)
    all_goals exact gL
  ·have hil:i=l.length:=zo;subst hil;rw [hx,ZEj (ZBw _),ZEj zo];show _;clear hgl hgm hx
   (refine wkap (w_8 e0 e1 e2 e11 e12 e13 hlm hmm) w_t (w_r 0) (w_s ?_);intros)
   all_goals (all_goals (try simp (disch:=omega) only [go_sem,lexL,ZB4,ZB3,ZBv,ZBu,Int.reduceAdd,Int.reduceSub,Int.reduceToNat,ZB9]));(all_goals first|done|rfl|(congr 2;first|done|omega|(rw [ZCk];simp only [bool_to_prop,ZB8,ZCt,ZCu,ZCv,ZCw];omega))|skip)
 ·exact⟨ZB5 _,rfl,gC,gC,gC,gC,gW hlm,gC⟩
theorem exCmpP (l m:List Qt) (hl:l.length≤1000000) (hm:m.length≤1000000):Pure prog 194 [qsA l,qsA m] (iv (ordQ l m)):=by
 have hlm:(l.map Qt.av).length=l.length:=ZB2 ..;have hmm:(m.map Qt.av).length=m.length:=ZB2 ..;unfold ordQ ordL;by_cases h1:l.length < m.length
 ·rw [ZBv h1];show Pure _ _ [.sl 4 (l.map Qt.av),.sl 4 (m.map Qt.av)] _;generalize l.map Qt.av=A at *;generalize m.map Qt.av=B at *;refine pI func194 rfl ntmps194 results194 call194 ?_
  (refine wkap (w_2 hlm hmm) w_t (w_r 0) (w_s ?_);intros)
  all_goals exact gL
 ·by_cases h2:m.length < l.length
  ·rw [ZBu h1,ZBv h2];show Pure _ _ [.sl 4 (l.map Qt.av),.sl 4 (m.map Qt.av)] _;generalize l.map Qt.av=A at *;generalize m.map Qt.av=B at *;refine pI func194 rfl ntmps194 results194 call194 ?_
   (refine wkap (w_2 hlm hmm) w_t (w_r 0) (w_s ?_);intros)
   all_goals exact gL
  ·rw [ZBu h1,ZBu h2];have cc:=slCmpQ l m hl zo;show Pure _ _ [.sl 4 (l.map Qt.av),.sl 4 (m.map Qt.av)] _;generalize lexL Qt.cmp l m=z at *;have cc:Pure prog 248 [.sl 4 (l.map Qt.av),.sl 4 (m.map Qt.av),.fn 164 []] (iv z):=cc;generalize l.map Qt.av=A at *;generalize m.map Qt.av=B at *;refine pI func194 rfl ntmps194 results194 call194 ?_
   (refine wkap (w_2 hlm hmm) (w_1 cc) (w_r 0) (w_s ?_);intros)
   all_goals exact gL
theorem exCmpT (s t:Rat × List Qt) (hl:s.2.length≤1000000) (hm:t.2.length≤1000000):Pure prog 198 [qtA s,qtA t] (iv (ordT s t)):=by
 have cc:=exCmpP s.2 t.2 hl hm;obtain⟨a,l⟩:=s;obtain⟨b,m⟩:=t;simp only at *;show Pure _ _ [.agg [.v (.bool (decide (a.num < 0))),lim (toL a.num.natAbs),lim (toL a.den),.sl 4 (l.map Qt.av)],.agg [.v (.bool (decide (b.num < 0))),lim (toL b.num.natAbs),lim (toL b.den),.sl 4 (m.map Qt.av)]] (iv (ordQ l m));have cc:Pure prog 194 [.sl 4 (l.map Qt.av),.sl 4 (m.map Qt.av)] (iv (ordQ l m)):=cc;generalize ordQ l m=z at *;generalize l.map Qt.av=A at *;generalize m.map Qt.av=B at *;generalize toL a.num.natAbs=a1 at *;generalize toL a.den=a2 at *;generalize toL b.num.natAbs=b1 at *;generalize toL b.den=b2 at *
 refine pI func198 rfl ntmps198 results198 call198 ?_
 (refine wkap w_t (w_1 cc) (w_r 0) (w_s ?_);intros)
 all_goals exact gL
theorem rxOrder (l m:List Qt) (hl:l.length≤1000000) (hm:m.length≤1000000):Pure prog 42 [qsA l,qsA m] (iv (ordQ l m)):=by
 have hlm:(l.map Qt.av).length=l.length:=ZB2 ..;have hmm:(m.map Qt.av).length=m.length:=ZB2 ..;have hgl:∀j (h:j < l.length),(l.map Qt.av).getD j .u=Qt.av l[j]:=λj h=>Zam Qt.av h;have hgm:∀j (h:j < m.length),(m.map Qt.av).getD j .u=Qt.av m[j]:=λj h=>Zam Qt.av h;unfold ordQ ordL;show Pure _ _ [.sl 4 (l.map Qt.av),.sl 4 (m.map Qt.av)] _;by_cases h1:l.length < m.length
 ·rw [ZBv h1];clear hgl hgm;generalize l.map Qt.av=A at *;generalize m.map Qt.av=B at *;refine pI func42 rfl ntmps42 results42 call42 ?_
  (refine wkad (w_2 hlm hmm) w_t w_t (w_s ?_);intros)
  all_goals exact gL
 ·by_cases h2:m.length < l.length
  ·rw [ZBu h1,ZBv h2];clear hgl hgm;generalize l.map Qt.av=A at *;generalize m.map Qt.av=B at *;refine pI func42 rfl ntmps42 results42 call42 ?_
   (refine wkad (w_2 hlm hmm) w_t w_t (w_s ?_);intros)
   all_goals exact gL
  ·rw [ZBu h1,ZBu h2];have he:m.length=l.length:=zo;rw [he] at hmm;generalize l.map Qt.av=A at *;generalize m.map Qt.av=B at *;refine pI func42 rfl ntmps42 results42 call42 ?_
   (refine wkad (w_2 hlm hmm) w_t w_t (w_s ?_);intros)
   refine Zad (ι:=Nat) (λi e _=>i≤l.length∧lexL Qt.cmp l m=lexL Qt.cmp (l.drop i) (m.drop i)∧e 0=.sl 4 A∧e 1=.sl 4 B∧e 5=iv i) (λi=>l.length - i) 0 zr ?_ ?_
   ·rintro i e m' ⟨hi,hx,e0,e1,e5⟩
    by_cases hlt:i < l.length
    ·have g1:=hgl i hlt;have g2:=hgm i zo;have hs:=Zzm (cmp:=Qt.cmp) hlt (show i < m.length by omega);have cc:=rqCmp l[i].k l[i].a l[i].b l[i].c (m[i]'zo).k (m[i]'zo).a (m[i]'zo).b (m[i]'zo).c;rw [hx,hs];clear hgl hgm;by_cases hz:Qt.cmp l[i] (m[i]'zo)=0
     ·rw [ZBv hz];have hx2:lexL Qt.cmp l m=lexL Qt.cmp (l.drop (i+1)) (m.drop (i+1)):=by rw [hx,hs,ZBv hz]
      clear hx hs;rw [←hx2];generalize l[i]=x at *;generalize m[i]'zo=y at *;obtain⟨x1,x2,x3,x4⟩:=x;obtain⟨y1,y2,y3,y4⟩:=y;simp only at *;rw [hz] at cc
      (refine wkad (w_7 e0 e1 e5 hlm hmm g1 g2) (w_1 cc) (w_1 (w_d 8 [(8,iv 0)] [] [])) (w_s ?_);intros)
      exact⟨i+1,⟨zo,hx2,gW e0,gW e1,gS⟩,zo⟩
     ·rw [ZBu hz];clear hx hs;generalize l[i]=x at *;generalize m[i]'zo=y at *;obtain⟨x1,x2,x3,x4⟩:=x;obtain⟨y1,y2,y3,y4⟩:=y;simp only at *;generalize Qt.cmp _ _=z at *
      (refine wkad (w_7 e0 e1 e5 hlm hmm g1 g2) (w_1 cc) (w_1 (w_d 8 [(8,iv z)] [] [])) (w_s ?_);intros)
      all_goals exact gL
    ·have hil:i=l.length:=zo;subst hil;rw [hx,ZEj (ZBw _),ZEj zo];clear hgl hgm hx
     (refine wkad (w_5 e0 e1 e5 hlm hmm) w_t w_t (w_s ?_);intros)
     all_goals (all_goals (try simp (disch:=omega) only [go_sem,lexL,ZB4,ZB3,ZBv,ZBu,Int.reduceAdd,Int.reduceSub,Int.reduceToNat,ZB9]));(all_goals first|done|rfl|(congr 2;first|done|omega|(rw [ZCk];simp only [bool_to_prop,ZB8,ZCt,ZCu,ZCv,ZCw];omega))|skip)
   ·exact⟨ZB5 _,rfl,gC,gC,gC⟩
end Go.Proofs.YtkefeinbjbeidaaGreatDoor
namespace Go.Proofs.YtkefeinbjbeidaaGreatDoor
open Go Go.RowKit Go.Pg Go.Proofs.Tryz
def Can (l:List Int):Prop:=(∀j,0≤gI l j)∧(l.length=0∨gI l (l.length - 1)≠0)
def LTm (a b:List Int):Prop:=∃k,gI a k < gI b k∧∀j,k < j→gI a j=gI b j
def ltM (a b:List Int):Prop:=lexC a b (max a.length b.length)=-1
instance:DecidableRel ltM:=λa b=>inferInstanceAs (Decidable (lexC a b (max a.length b.length)=-1))
theorem Zzo {a b:List Int}:∀n,lexC a b n=-1↔∃k,k < n∧gI a k < gI b k∧∀j,k < j→j < n→gI a j=gI b j
 | 0=>by
   constructor
   ·intro h;exact absurd h (by show ¬(0:Int)=-1;omega)
   ·rintro ⟨k,h,_⟩;omega
 | n+1=>by
   unfold lexC;by_cases h:gI a n=gI b n
   ·rw [ZBv h,Zzo n];constructor
    ·rintro ⟨k,h1,h2,h3⟩
     exact⟨k,zo,h2,λj h4 h5=>by by_cases hj:j=n;subst hj;exact h;exact h3 j h4 zo⟩
    ·rintro ⟨k,h1,h2,h3⟩
     have:k≠n:=by rintro rfl;omega
     exact⟨k,zo,h2,λj h4 h5=>h3 j h4 zo⟩
   ·rw [ZBu h];unfold lt1;constructor
    ·intro h1;by_cases h2:gI a n < gI b n
     ·exact⟨n,zo,h2,λj h3 h4=>zo⟩
     ·rw [ZBu h2] at h1;omega
    ·rintro ⟨k,h1,h2,h3⟩
     by_cases hk:k=n
     ·subst hk;rw [ZBv h2]
     ·exact absurd (h3 n zo zo) h
theorem Zjg {a b:List Int}:ltM a b↔LTm a b:=by
 unfold ltM LTm;rw [Zzo];constructor
 ·rintro ⟨k,h1,h2,h3⟩
  refine⟨k,h2,λj h4=>?_⟩;by_cases hj:j < max a.length b.length
  ·exact h3 j h4 hj
  ·rw [Zcw zo,Zcw zo]
 ·rintro ⟨k,h2,h3⟩
  refine⟨k,?_,h2,λj h4 _=>h3 j h4⟩;by_cases hk:k < max a.length b.length
  ·exact hk
  ·rw [Zcw zo,Zcw zo] at h2;omega
theorem Zjh {a b:List Int}:∀n,lexC a b n=0∧(∀j,j < n→gI a j=gI b j)∨lexC a b n=-1∨lexC a b n=1
 | 0=>.inl ⟨rfl,λj h=>zo⟩
 | n+1=>by
   unfold lexC;by_cases h:gI a n=gI b n
   ·rw [ZBv h];rcases @Zjh a b n with⟨h1,h2⟩ | h1
    ·exact .inl ⟨h1,λj hj=>by by_cases e:j=n;subst e;exact h;exact h2 j zo⟩
    ·exact .inr h1
   ·rw [ZBu h];unfold lt1;split
    ·exact .inr (.inl rfl)
    ·exact .inr (.inr rfl)
theorem Zn4 {a b:List Int}:∀n,lexC b a n=- lexC a b n
 | 0=>rfl
 | n+1=>by
   unfold lexC;by_cases h:gI a n=gI b n
   ·rw [ZBv h,ZBv h.symm,Zn4 n]
   ·rw [ZBu h,ZBu (λe=>h e.symm)];unfold lt1;by_cases h1:gI a n < gI b n
    ·rw [ZBv h1,ZBu zo];rfl
    ·rw [ZBu h1,ZBv zo]
theorem ZA5 {a b:List Int} (ha:Can a) (hb:Can b) (h:∀j,gI a j=gI b j):a=b:=by
 have hl:a.length=b.length:=by
  have h1:=h (a.length - 1);have h2:=h (b.length - 1);rcases Nat.lt_trichotomy a.length b.length with hl | hl | hl
  ·rcases hb.2 with hb0 | hb0
   ·omega
   ·rw [←h2,Zcw zo] at hb0;exact absurd rfl hb0
  ·exact hl
  ·rcases ha.2 with ha0 | ha0
   ·omega
   ·rw [h1,Zcw zo] at ha0;exact absurd rfl ha0
 refine List.ext_getElem hl λj h1 h2=>?_;have:=h j
 rwa [Zew h1,Zew h2] at this
theorem ordM:Go.Pol.KO Can ltM where
 irr x h:=by obtain⟨k,h1,_⟩:=Zjg.1 h;omega
 tr x y z h g:=by
  obtain⟨k,h1,h2⟩:=Zjg.1 h;obtain⟨i,g1,g2⟩:=Zjg.1 g;rw [Zjg];rcases Nat.lt_trichotomy k i with h3 | h3 | h3
  ·exact⟨i,by rw [h2 i h3];exact g1,λj hj=>by rw [h2 j zo,g2 j hj]⟩
  ·subst h3;exact⟨k,zo,λj hj=>by rw [h2 j hj,g2 j hj]⟩
  ·exact⟨k,by rw [←g2 k h3];exact h1,λj hj=>by rw [h2 j hj,g2 j zo]⟩
 tri x y hx hy:=by
  rcases @Zjh x y (max x.length y.length) with⟨_,h⟩ | h | h
  ·refine .inr (.inl (ZA5 hx hy λj=>?_));by_cases hj:j < max x.length y.length
   ·exact h j hj
   ·rw [Zcw zo,Zcw zo]
  ·exact .inl h
  ·refine .inr (.inr ?_);unfold ltM;rw [Nat.max_comm,Zn4,h]
theorem Zj2 (F:Int→Int→Int) (h0:F 0 0=0) (a b:List Int) (j:Nat):gI (zipI F a b) j=F (gI a j) (gI b j):=by
 by_cases h:j < max a.length b.length
 ·rw [Zew (by unfold zipI;simpa using h)];unfold zipI;simp only [ZF9,List.getElem_range]
 ·rw [Zcw (by unfold zipI;simp only [ZB2,List.length_range];omega),Zcw zo,Zcw zo,h0]
abbrev mulM (a b:List Int):List Int:=zipI (·+·) a b
theorem Znz (a b:List Int):(mulM a b).length=max a.length b.length:=by simp [mulM,zipI]
theorem mulK:Go.Pol.KM Can ltM mulM where
 comm x y:=by
  unfold mulM zipI;rw [Nat.max_comm];exact ZEg λi _=>Int.add_comm _ _
 dom x y hx hy:=by
  refine⟨λj=>by rw [Zj2 _ rfl];have:=hx.1 j;have:=hy.1 j;omega,?_⟩;rw [Znz,Zj2 _ rfl];have a1:=hx.1 (max x.length y.length - 1);have b1:=hy.1 (max x.length y.length - 1);rcases Nat.le_total x.length y.length with h | h
  ·rw [Nat.max_eq_right h] at *;rcases hy.2 with h1 | h1
   ·exact .inl h1
   ·exact .inr zo
  ·rw [Nat.max_eq_left h] at *;rcases hx.2 with h1 | h1
   ·exact .inl h1
   ·exact .inr zo
 mono x y z _ _ _ h:=by
  obtain⟨k,h1,h2⟩:=Zjg.1 h;rw [Zjg];exact⟨k,by rw [Zj2 _ rfl,Zj2 _ rfl];omega,λj hj=>by rw [Zj2 _ rfl,Zj2 _ rfl,h2 j hj]⟩
def mvN (v:Nat→Rat) (m:List Int):Nat→Rat
 | 0=>1
 | n+1=>mvN v m n*v n ^ (gI m n).toNat
def mv (v:Nat→Rat) (m:List Int):Rat:=mvN v m m.length
end Go.Proofs.YtkefeinbjbeidaaGreatDoor
namespace Go.Proofs.YtkefeinbjbeidaaGreatDoor
open Go Go.RowKit Go.Pg Go.Pol Go.Proofs.Tryz
attribute [-bool_to_prop] Bool.and_eq_decide Bool.or_eq_decide Bool.decide_beq_decide decide_eq_decide
abbrev Tm:=Rat × List Int
abbrev Po:=List Tm
abbrev tmA (t:Tm):AV:=.agg [.v (.bool (decide (t.1.num < 0))),lim (toL t.1.num.natAbs),lim (toL t.1.den),ivs t.2]
abbrev poA (p:Po):AV:=.sl 4 (p.map tmA)
abbrev SrtM (p:Po):Prop:=Srt Can ltM p
abbrev addM (p q:Po):Po:=addP ltM p q
abbrev subM (p q:Po):Po:=subP ltM p q
abbrev mlM (p q:Po):Po:=mulR ltM mulM p q
def sclM (a:Rat) (p:Po):Po:=if a=0 then [] else Zdf a p
def PK (p:Po) (k e:Nat):Prop:=∀t∈p,Sz t.1 k∧t.2.length≤1000∧∀j,0≤gI t.2 j∧gI t.2 j≤(e:Int)
theorem PK.mono {p:Po} {k j e f:Nat} (h:PK p k e) (hk:k≤j) (he:e≤f):PK p j f:=λt ht=>⟨(h t ht).1.mono hk,(h t ht).2.1,λi=>by have:=(h t ht).2.2 i;omega⟩
theorem PK.sm {p:Po} {k e:Nat} (h:PK p k e) (he:e≤16777216) {t:Tm} (ht:t∈p):Sm t.2:=⟨(h t ht).2.1,λi=>by have:=(h t ht).2.2 i;omega⟩
theorem PK.nil {k e:Nat}:PK [] k e:=λt ht=>by simp at ht
theorem PK.tail {t:Tm} {p:Po} {k e:Nat} (h:PK (t :: p) k e):PK p k e:=λu hu=>h u (.tail _ hu)
theorem PK.drop {p:Po} {k e:Nat} (h:PK p k e) (i:Nat):PK (p.drop i) k e:=λu hu=>h u (ZEc hu)
theorem PK.add {p q:Po} {j k e:Nat} (hp:PK p j e) (hq:PK q k e):PK (addM p q) (j+k+1) e:=λt ht=>by
 rcases Zg1 ht with h | h | ⟨s,hs,u,hu,rfl⟩
 ·exact⟨(hp t h).1.mono zo,(hp t h).2⟩
 ·exact⟨(hq t h).1.mono zo,(hq t h).2⟩
 ·exact⟨(hp s hs).1.add (hq u hu).1,(hp s hs).2⟩
theorem PK.scale {p:Po} {j k e:Nat} {a:Rat} (hp:PK p j e) (ha:Sz a k):PK (Zdf a p) (j+k) e:=λt ht=>by
 obtain⟨s,hs,rfl⟩:=List.mem_map.1 ht;exact⟨(hp s hs).1.mul ha,(hp s hs).2⟩
theorem Zwc {a b:List Int} (ha:Can a) (hb:Can b):(ltM a b∧lexC a b (max a.length b.length)=-1)∨(¬ltM a b∧¬ltM b a∧a=b∧lexC a b (max a.length b.length)=0)∨(ltM b a∧¬ltM a b∧lexC a b (max a.length b.length)=1):=by
 rcases @Zjh a b (max a.length b.length) with⟨h,h2⟩ | h | h
 ·have e:a=b:=ZA5 ha hb λj=>by
   by_cases hj:j < max a.length b.length
   ·exact h2 j hj
   ·rw [Zcw zo,Zcw zo]
  refine .inr (.inl ⟨?_,?_,e,h⟩)
  ·unfold ltM;rw [h];decide
  ·subst e;unfold ltM;rw [h];decide
 ·exact .inl ⟨h,h⟩
 ·have h3:ltM b a:=by unfold ltM;rw [Nat.max_comm,Zn4,h]
  refine .inr (.inr ⟨h3,?_,h⟩);unfold ltM;rw [h];decide
theorem trim_can {l:List Int} (h:Can l):Zj8 l=l:=by
 unfold Zj8;rcases h.2 with h0 | h0
 ·have:l=[]:=List.length_eq_zero_iff.1 h0;subst this;rfl
 ·rcases ZC3 l.length with h1 | h1
  ·have:l=[]:=List.length_eq_zero_iff.1 h1;subst this;rfl
  ·rw [Zmg h1 h0,ZDg]
theorem can_nil:Can []:=⟨λj=>by rw [Zcw (ZB5 _)];omega,.inl rfl⟩
theorem mulM_nil (a:List Int):mulM a []=a:=by
 refine List.ext_getElem (by rw [Znz];simp) λj h1 h2=>?_;have:=Zj2 (·+·) rfl a [] j;rw [Zew h1,Zew h2,Zcw (ZB5 _),Int.add_zero] at this;exact this
theorem Zvj (p:Po) (a:Rat):Zc9 mulM p (a,[])=Zdf a p:=by
 unfold Zc9 Zdf;exact ZEg λs _=>by rw [mulM_nil]
def Zhw (v:Nat):List Int:=List.replicate v 0++[1]
theorem Zgq (v:Nat):(Zhw v).length=v+1:=by simp [Zhw]
theorem Zn9 (v j:Nat):gI (Zhw v) j=if j=v then 1 else 0:=by
 by_cases h:j < v+1
 ·rw [Zew (by rw [Zgq];exact h)];unfold Zhw;rw [List.getElem_append];by_cases hj:j < v
  ·rw [dif_pos (by simpa using hj),List.getElem_replicate,ZBu zo]
  ·rw [dif_neg (by simpa using hj),ZBv zo];simp
 ·rw [Zcw (by rw [Zgq];omega),ZBu zo]
theorem can_unit (v:Nat):Can (Zhw v):=by
 refine⟨λj=>by rw [Zn9];split<;>omega,.inr ?_⟩;rw [Zgq,Zn9,ZBv zo];omega
def varM (v:Nat):Po:=if v < 64 then [(1,Zhw v)] else []
theorem Zs9 (v:Nat):SrtM (varM v):=by
 unfold varM;split
 ·exact Srt.nil.cons (by show(1:Rat)≠0;decide) (can_unit v) zs
 ·exact .nil
structure RS where
 k:Int
 nm:ByteArray
 ar:List Int
 r:RQ
structure RG where
 k:Int
 ar:List Int
 r:RQ
abbrev RS.av (s:RS):AV:=.agg [iv s.k,strA s.nm,ivs s.ar,.v (.bool s.r.s),lim s.r.l,lim s.r.d]
abbrev RG.av (g:RG):AV:=.agg [iv g.k,ivs g.ar,.v (.bool g.r.s),lim g.r.l,lim g.r.d]
abbrev figA (ss:List RS) (gs:List RG):AV:=.agg [.sl 6 (ss.map RS.av),.sl 5 (gs.map RG.av)]
def RQ.none (r:RQ):Bool:=!r.s && (decide (r.l.length=0) && decide (r.d.length=0))
structure FS where
 cs:List (Po × Po)
 vs:List Vt
 fr:Nat
abbrev coA (c:Po × Po):AV:=.agg [poA c.1,poA c.2]
def FS.at (f:FS) (s:RS) (k:Nat):Po × Po:=f.cs.getD (gI s.ar k).toNat ([],[])
def FS.nxt (f:FS) (i:Nat) (s:RS):List Vt × (Po × Po) :=
 let v:=f.vs.length
 let a:=f.at s 0
 let b:=f.at s 1
 let c:=f.at s 2
 if s.k=1 then
  (if f.fr=0 then ([],([],[]))
   else if f.fr=1 then ([(1,(i:Int),0)],(varM v,[]))
   else ([(1,(i:Int),0),(1,(i:Int),1)],(varM v,varM (v+1))))
 else if s.k=2 then ([],(addM a.1 (sclM s.r.q (subM b.1 a.1)),addM a.2 (sclM s.r.q (subM b.2 a.2))))
 else if s.k=3 then ([],(addM a.1 (subM c.1 b.1),addM a.2 (subM c.2 b.2)))
 else if s.k=4 then ([],(addM a.1 (subM b.2 c.2),addM a.2 (subM c.1 b.1)))
 else if s.k=5 then ([(1,(i:Int),0)],(addM a.1 (mlM (subM b.1 a.1) (varM v)),addM a.2 (mlM (subM b.2 a.2) (varM v))))
 else if s.k=6 then ([(1,(i:Int),0),(2,(i:Int),1),(2,(i:Int),2)],(varM (v+1),varM (v+2)))
 else ([(2,(i:Int),0),(2,(i:Int),1)],(varM v,varM (v+1)))
def FS.push (f:FS) (i:Nat) (s:RS):FS:=⟨f.cs++[(f.nxt i s).2],f.vs++(f.nxt i s).1,if s.k=1 then f.fr+1 else f.fr⟩
def frN (ss:List RS):Nat→FS
 | 0=>⟨[],[],0⟩
 | i+1=>(frN ss i).push i (ss.getD i ⟨0,.empty,[],⟨false,[],[]⟩⟩)
def bigN (ss:List RS) (i:Nat):Bool :=
 decide (64 < (frN ss (i+1)).vs.length) || decide (4000 < ((frN ss i).nxt i (ss.getD i ⟨0,.empty,[],⟨false,[],[]⟩⟩)).2.1.length) || decide (4000 < ((frN ss i).nxt i (ss.getD i ⟨0,.empty,[],⟨false,[],[]⟩⟩)).2.2.length)
theorem Zsp (ss:List RS):∀i,(frN ss i).cs.length=i
 | 0=>rfl
 | i+1=>by show((frN ss i).cs++[_]).length=i+1;rw [ZCr,Zsp ss i];rfl
def BB (n:Nat):Nat:=65536 ^ (3*n)
theorem BB_pos (n:Nat):1≤BB n:=Nat.one_le_pow _ _ zo
theorem BB_succ (n:Nat):BB (n+1)=BB n*65536 ^ 3:=by unfold BB;rw [←ZDb];rfl
def GP (n D v:Nat) (p:Po):Prop:=SrtM p∧∀t∈p,BQ D (BB n) t.1∧t.2.length≤v∧∀j,gI t.2 j≤1
theorem GP.nil {n D v:Nat}:GP n D v []:=⟨.nil,λt h=>by simp at h⟩
theorem GP.mono {n D v m E w:Nat} {p:Po} (h:GP n D v p) (hn:n≤m) (hd:D ∣ E) (hv:v≤w):GP m E w p :=
 ⟨h.1,λt ht=>⟨(h.2 t ht).1.mono hd (ZDk zo zo),by have:=(h.2 t ht).2.1;omega,(h.2 t ht).2.2⟩⟩
theorem bq_sz {D B d b:Nat} {q:Rat} (h:BQ D B q) (h0:D≠0) (hd:D < 65536 ^ d) (hb:B < 65536 ^ b):Sz q (d+b):=by
 have h1:q.den≤D:=Nat.le_of_dvd (ZDl h0) h.1;refine⟨Zae.2 ?_,ZB1 (Zae.2 (ZGl h1 hd)) zo⟩;have hp:0 < q.den:=q.den_pos
 calc q.num.natAbs≤B*q.den:=h.2
  _≤B*D:=ZD0 _ h1
  _ < 65536 ^ b*65536 ^ d:=ZGb hb hd
  _=65536 ^ (d+b):=by rw [ZCy,←ZDb]
theorem GP.pk {n D v:Nat} {p:Po} (h:GP n D v p) (hv:v≤1000) (h0:D≠0) (hd:D < 65536 ^ (2*n+1)) (hn:n≤20):PK p 110 1:=λt ht=>by
 obtain⟨h1,h2,h3⟩:=h.2 t ht;refine⟨(bq_sz (b:=3*n+1) h1 h0 hd (by unfold BB;exact Nat.pow_lt_pow_right zo zo)).mono zo,zo,λj=>⟨(h.1.1 t ht).2.1 j,h3 j⟩⟩
def GB (B D v:Nat) (p:Po):Prop:=SrtM p∧∀t∈p,BQ D B t.1∧t.2.length≤v∧∀j,gI t.2 j≤1
theorem GB.mono {B D v C E w:Nat} {p:Po} (h:GB B D v p) (hn:B≤C) (hd:D ∣ E) (hv:v≤w):GB C E w p :=
 ⟨h.1,λt ht=>⟨(h.2 t ht).1.mono hd hn,by have:=(h.2 t ht).2.1;omega,(h.2 t ht).2.2⟩⟩
theorem GB.add {B C D v:Nat} {p q:Po} (h:GB B D v p) (k:GB C D v q):GB (B+C) D v (addM p q):=by
 refine⟨Zc3 ordM h.1 k.1,λt ht=>?_⟩;rcases Zg1 ht with h1 | h1 | ⟨s,hs,u,hu,rfl⟩
 ·exact⟨(h.2 t h1).1.mono (ZD6 _) zo,(h.2 t h1).2⟩
 ·exact⟨(k.2 t h1).1.mono (ZD6 _) zo,(k.2 t h1).2⟩
 ·exact⟨(h.2 s hs).1.add (k.2 u hu).1,(h.2 s hs).2⟩
theorem GB.neg {B D v:Nat} {p:Po} (h:GB B D v p):GB B D v (Zdf (-1) p):=by
 refine⟨Zgu h.1 neg1,λt ht=>?_⟩;obtain⟨s,hs,rfl⟩:=List.mem_map.1 ht;refine⟨?_,(h.2 s hs).2⟩;have e:s.1*-1=-s.1:=by grind
 show BQ D B (s.1*-1);rw [e];exact(h.2 s hs).1.neg
theorem GB.sub {B C D v:Nat} {p q:Po} (h:GB B D v p) (k:GB C D v q):GB (B+C) D v (subM p q):=h.add k.neg
theorem GB.scl {B C D E v:Nat} {p:Po} {a:Rat} (h:GB B D v p) (ha:BQ E C a):GB (B*C) (D*E) v (sclM a p):=by
 unfold sclM;split
 ·exact⟨.nil,λt h=>by simp at h⟩
 ·rename_i h0;refine⟨Zgu h.1 h0,λt ht=>?_⟩;obtain⟨s,hs,rfl⟩:=List.mem_map.1 ht;exact⟨(h.2 s hs).1.mul ha,(h.2 s hs).2⟩
theorem mul_var (p:Po) (v:Nat):mlM p (varM v)=if v < 64 then Zc9 mulM p (1,Zhw v) else []:=by
 unfold varM;split
 ·show addP ltM [] (Zc9 mulM p (1,Zhw v))=_;simp [addP]
 ·rfl
theorem GB.var {B D v:Nat} {p:Po} (h:GB B D v p):GB B D (v+1) (mlM p (varM v)):=by
 refine⟨mulR_srt ordM mulK h.1 (Zs9 v),λt ht=>?_⟩;rw [mul_var] at ht;split at ht
 ·obtain⟨s,hs,rfl⟩:=List.mem_map.1 ht;obtain⟨h1,h2,h3⟩:=h.2 s hs;refine⟨by show BQ D B (s.1*1);rw [ZGc];exact h1,by show(mulM s.2 (Zhw v)).length≤v+1;rw [Znz,Zgq];omega,λj=>?_⟩;show gI (mulM s.2 (Zhw v)) j≤1;rw [Zj2 _ rfl,Zn9];split
  ·rename_i hj;rw [Zcw zo];omega
  ·have:=h3 j;omega
 ·simp at ht
theorem GB.one {B D v w:Nat} (hB:1≤B) (h:v < w):GB B D w (varM v):=by
 refine⟨Zs9 v,λt ht=>?_⟩;unfold varM at ht;split at ht
 ·rw [ZFh] at ht;subst ht;refine⟨BQ.int 1 (by simpa using hB),by show(Zhw v).length≤w;rw [Zgq];omega,λj=>?_⟩;show gI (Zhw v) j≤1;rw [Zn9];split<;>omega
 ·simp at ht
theorem GB.nil {B D v:Nat}:GB B D v []:=⟨.nil,λt h=>by simp at h⟩
structure FI (f:FS) (n D:Nat):Prop where
 D0:D≠0
 Dl:D < 65536 ^ (2*n+1)
 nv:f.vs.length≤64
 cs:∀c∈f.cs,GP n D f.vs.length c.1∧GP n D f.vs.length c.2
 ln:∀c∈f.cs,c.1.length≤4000∧c.2.length≤4000
theorem FI.at {f:FS} {n D:Nat} (h:FI f n D) (s:RS) (k:Nat):(GP n D f.vs.length (f.at s k).1∧GP n D f.vs.length (f.at s k).2)∧(f.at s k).1.length≤4000∧(f.at s k).2.length≤4000:=by
 unfold FS.at;by_cases hk:(gI s.ar k).toNat < f.cs.length
 ·have:=Zkk (d:=(([],[]):Po × Po)) hk;exact⟨h.cs _ this,h.ln _ this⟩
 ·rw [ZCb,ZDh zo];exact⟨⟨.nil,.nil⟩,by simp,by simp⟩
def RQ.bd (r:RQ):Prop:=r.ok=true→r.q.den < 65536 ^ 2∧r.q.num.natAbs < 65536 ^ 2
theorem lm_bd {r:RQ} (h:r.lm 2):r.bd:=λho=>by
 obtain⟨-,h1,h2⟩:=RQ.ok_av h ho;exact⟨Zae.1 h2,Zae.1 h1⟩
theorem FI.nxt {f:FS} {n D:Nat} (h:FI f n D) (i:Nat) (s:RS) (hr:s.k=2→s.r.ok=true) (hb:s.r.bd) :
 ∃E,E≠0∧D ∣ E∧E < 65536 ^ (2*(n+if s.k=1 then 0 else 1)+1) ∧
  GP (n+if s.k=1 then 0 else 1) E (f.vs++(f.nxt i s).1).length (f.nxt i s).2.1∧GP (n+if s.k=1 then 0 else 1) E (f.vs++(f.nxt i s).1).length (f.nxt i s).2.2:=by
 obtain⟨⟨a1,a2⟩,-⟩:=h.at s 0;obtain⟨⟨b1,b2⟩,-⟩:=h.at s 1;obtain⟨⟨c1,c2⟩,-⟩:=h.at s 2;have hB:=BB_pos n;have hS:=BB_succ n;unfold FS.nxt;simp only;have one:∀v w,v < w→GP n D w (varM v):=λv w hv=>GB.one hB hv;have up:∀{E v:Nat} {p:Po} {C:Nat},GB C E v p→C≤BB n*65536 ^ 3→GP (n+1) E v p:=λh hc=>GB.mono h (by rw [hS];exact hc) (ZD6 _) (ZBw _);have dl:D < 65536 ^ (2*(n+1)+1):=ZDx h.Dl (ZDk zo zo)
 have b3:BB n+(BB n+BB n)≤BB n*65536 ^ 3:=by
  have:BB n*3≤BB n*65536 ^ 3:=ZD0 _ zd;omega
 by_cases k1:s.k=1
 ·rw [ZBv k1,ZBv k1];refine⟨D,h.D0,ZD6 _,h.Dl,?_⟩;split
  ·exact⟨.nil,.nil⟩
  ·split
   ·exact⟨one _ _ zs,.nil⟩
   ·exact⟨one _ _ zs,one _ _ zs⟩
 ·rw [ZBu k1,ZBu k1];by_cases k2:s.k=2
  ·rw [ZBv k2];obtain⟨h1,h2⟩:=hb (hr k2);refine⟨D*s.r.q.den,ZE3 h.D0 s.r.q.den_nz,ZFv _ _,?_,?_⟩
   ·calc D*s.r.q.den < 65536 ^ (2*n+1)*65536 ^ 2:=ZGb h.Dl h1
     _=65536 ^ (2*(n+1)+1):=by rw [←ZDb];congr 1
   ·have hq:BQ s.r.q.den (65536 ^ 2) s.r.q:=⟨ZD6 _,by have:=s.r.q.den_pos;have:=ZE2 (65536 ^ 2) this;omega⟩
    have bd:BB n+(BB n+BB n)*65536 ^ 2≤BB n*65536 ^ 3:=by
     have e1:(BB n+BB n)*65536 ^ 2=BB n*(2*65536 ^ 2):=by rw [←Nat.mul_two,ZC6]
     rw [e1];have:BB n*(1+2*65536 ^ 2)≤BB n*65536 ^ 3:=ZD0 _ zd;omega
    rw [ZDf];exact⟨up ((GB.mono a1 (ZBw _) (ZFv _ _) (ZBw _)).add ((GB.sub b1 a1).scl hq)) bd,up ((GB.mono a2 (ZBw _) (ZFv _ _) (ZBw _)).add ((GB.sub b2 a2).scl hq)) bd⟩
  ·rw [ZBu k2];refine⟨D,h.D0,ZD6 _,dl,?_⟩;have one':∀v w,v < w→GP (n+1) D w (varM v):=λv w hv=>GB.one (BB_pos _) hv;by_cases k3:s.k=3
   ·rw [ZBv k3,ZDf];exact⟨up (GB.add a1 (GB.sub c1 b1)) b3,up (GB.add a2 (GB.sub c2 b2)) b3⟩
   ·rw [ZBu k3];by_cases k4:s.k=4
    ·rw [ZBv k4,ZDf];exact⟨up (GB.add a1 (GB.sub b2 c2)) b3,up (GB.add a2 (GB.sub c1 b1)) b3⟩
    ·rw [ZBu k4];by_cases k5:s.k=5
     ·rw [ZBv k5];have e:(f.vs++[(1,(i:Int),0)]).length=f.vs.length+1:=by simp
      rw [e];exact⟨up (GB.add (GB.mono a1 (ZBw _) (ZD6 _) zo) (GB.sub b1 a1).var) b3,up (GB.add (GB.mono a2 (ZBw _) (ZD6 _) zo) (GB.sub b2 a2).var) b3⟩
     ·rw [ZBu k5];by_cases k6:s.k=6
      ·rw [ZBv k6];exact⟨one' _ _ zs,one' _ _ zs⟩
      ·rw [ZBu k6];exact⟨one' _ _ zs,one' _ _ zs⟩
def nfN (ss:List RS):Nat→Nat
 | 0=>0
 | i+1=>nfN ss i+if (ss.getD i ⟨0,.empty,[],⟨false,[],[]⟩⟩).k=1 then 0 else 1
theorem frN_ok (ss:List RS) (hr:∀s∈ss,s.k=2→s.r.ok=true) (hb:∀s∈ss,s.r.bd):∀i,i≤ss.length→(∀j,j < i→bigN ss j=false)→∃D,FI (frN ss i) (nfN ss i) D
 | 0,_,_=>⟨1,zo,by show 1 < 65536 ^ (2*0+1);decide,ZB5 _,λc h=>by simp [frN] at h,λc h=>by simp [frN] at h⟩
 | i+1,hi,hj=>by
   obtain⟨D,hD⟩:=frN_ok ss hr hb i zo λj h=>hj j zo;have hbig:=hj i zo;unfold bigN at hbig;simp only [ZF3,ZEx,Nat.not_lt] at hbig;have hm:ss.getD i ⟨0,.empty,[],⟨false,[],[]⟩⟩∈ss:=Zkk zo;have hs1:=hr _ hm;have hs2:=hb _ hm;unfold nfN;show ∃D,FI ((frN ss i).push i (ss.getD i ⟨0,.empty,[],⟨false,[],[]⟩⟩)) _ D;have hv:=hbig.1.1;unfold frN at hv;generalize ss.getD i ⟨0,.empty,[],⟨false,[],[]⟩⟩=s at *;obtain⟨E,e0,e1,e2,g1,g2⟩:=hD.nxt i s hs1 hs2;refine⟨E,e0,e2,hv,λc hc=>?_,λc hc=>?_⟩
   ·rcases List.mem_append.1 hc with h1 | h1
    ·obtain⟨k1,k2⟩:=hD.cs c h1;have hl:(frN ss i).vs.length≤((frN ss i).push i s).vs.length:=by show _≤((frN ss i).vs++((frN ss i).nxt i s).1).length;rw [ZCr];omega
     exact⟨k1.mono zo e1 hl,k2.mono zo e1 hl⟩
    ·rw [ZFh] at h1;subst h1;exact⟨g1,g2⟩
   ·rcases List.mem_append.1 hc with h1 | h1
    ·exact hD.ln c h1
    ·rw [ZFh] at h1;subst h1;exact⟨hbig.1.2,hbig.2⟩
section
variable {N n:Nat} {cs:List AV}
theorem agInt:Zhb prog 3=false:=by kernel_rfl
theorem csInt:prog.cellsOf 3=1:=by kernel_rfl
theorem shIvs (h:Zcc prog N n 22 cs):∃l:List Int,cs=[ivs l]∧l.length≤N:=by
 obtain⟨bs,rfl,hl,_⟩:=Zcl (g:=λk:Int=>[iv k]) (Q:=λ_=>True) underlying22 h λm x hx=>by
  obtain⟨i,rfl,_⟩:=Zdm underlying3 hx;exact⟨i,rfl,trivial⟩
 refine⟨bs,?_,hl⟩;rw [csInt];have:(bs.map λb:Int=>Zc4 prog 3 [iv b])=bs.map iv:=ZEg λb _=>Zku agInt _;rw [this]
theorem shStep (h:Zcc prog N n 81 cs):∃s:RS,cs=[iv s.k,strA s.nm,ivs s.ar,.v (.bool s.r.s),lim s.r.l,lim s.r.d]∧s.r.lm N∧s.nm.size≤N∧s.ar.length≤N:=by
 obtain⟨m,rfl,hs⟩:=Zb7 underlying81 zk h;obtain⟨x,y,rfl,h1,hs⟩:=hs.inv;obtain⟨x2,y,rfl,h2,hs⟩:=hs.inv;obtain⟨x3,y,rfl,h3,hs⟩:=hs.inv;obtain⟨x4,y,rfl,h4,hs⟩:=hs.inv;obtain rfl:=hs.inv0;obtain⟨k,rfl,_⟩:=Zdm underlying3 h1;obtain⟨nm,rfl,hn⟩:=Zo9 underlying9 h2;obtain⟨ar,rfl,ha⟩:=shIvs h3;obtain⟨r,rfl,hr⟩:=shRat h4;exact⟨⟨k,nm,ar,r⟩,rfl,hr,hn,ha⟩
theorem shFact (h:Zcc prog N n 30 cs):∃g:RG,cs=[iv g.k,ivs g.ar,.v (.bool g.r.s),lim g.r.l,lim g.r.d]∧g.r.lm N∧g.ar.length≤N:=by
 obtain⟨m,rfl,hs⟩:=Zb7 underlying30 zk h;obtain⟨x,y,rfl,h1,hs⟩:=hs.inv;obtain⟨x3,y,rfl,h3,hs⟩:=hs.inv;obtain⟨x4,y,rfl,h4,hs⟩:=hs.inv;obtain rfl:=hs.inv0;obtain⟨k,rfl,_⟩:=Zdm underlying3 h1;obtain⟨ar,rfl,ha⟩:=shIvs h3;obtain⟨r,rfl,hr⟩:=shRat h4;exact⟨⟨k,ar,r⟩,rfl,hr,ha⟩
theorem shSteps (h:Zcc prog N n 39 cs):∃l:List RS,cs=[.sl 6 (l.map RS.av)]∧l.length≤N∧∀s∈l,s.r.lm N∧s.nm.size≤N∧s.ar.length≤N:=by
 obtain⟨bs,rfl,hl,hq⟩:=Zcl (g:=λs:RS=>[iv s.k,strA s.nm,ivs s.ar,.v (.bool s.r.s),lim s.r.l,lim s.r.d]) (Q:=λs=>s.r.lm N∧s.nm.size≤N∧s.ar.length≤N) underlying39 h λm x hx=>shStep hx;refine⟨bs,?_,hl,hq⟩;rw [show prog.cellsOf 81=6 from by kernel_rfl];have:(bs.map λs:RS=>Zc4 prog 81 [iv s.k,strA s.nm,ivs s.ar,.v (.bool s.r.s),lim s.r.l,lim s.r.d])=bs.map RS.av:=ZEg λb _=>Zfv underlying81 _;rw [this]
theorem shFacts (h:Zcc prog N n 40 cs):∃l:List RG,cs=[.sl 5 (l.map RG.av)]∧l.length≤N∧∀s∈l,s.r.lm N∧s.ar.length≤N:=by
 obtain⟨bs,rfl,hl,hq⟩:=Zcl (g:=λs:RG=>[iv s.k,ivs s.ar,.v (.bool s.r.s),lim s.r.l,lim s.r.d]) (Q:=λs=>s.r.lm N∧s.ar.length≤N) underlying40 h λm x hx=>shFact hx;refine⟨bs,?_,hl,hq⟩;rw [show prog.cellsOf 30=5 from by kernel_rfl];have:(bs.map λs:RG=>Zc4 prog 30 [iv s.k,ivs s.ar,.v (.bool s.r.s),lim s.r.l,lim s.r.d])=bs.map RG.av:=ZEg λb _=>Zfv underlying30 _;rw [this]
theorem shFigure (h:Zcc prog N n 42 cs):∃(ss:List RS) (gs:List RG),Zc4 prog 42 cs=figA ss gs∧ss.length≤N∧gs.length≤N∧(∀s∈ss,s.r.lm N∧s.nm.size≤N∧s.ar.length≤N)∧∀s∈gs,s.r.lm N∧s.ar.length≤N:=by
 obtain⟨m,rfl,hs⟩:=Zb7 underlying42 zk h;obtain⟨x,y,rfl,h1,hs⟩:=hs.inv;obtain⟨x3,y,rfl,h3,hs⟩:=hs.inv;obtain rfl:=hs.inv0;obtain⟨ss,rfl,hl,hq⟩:=shSteps h1;obtain⟨gs,rfl,kl,kq⟩:=shFacts h3;exact⟨ss,gs,Zfv underlying42 _,hl,kl,hq,kq⟩
end
theorem Zlo {r:RQ} {a b:Nat} (h:r.lm a) (hab:a≤b):r.lm b:=⟨h.1,h.2.1,ZB1 h.2.2.1 hab,ZB1 h.2.2.2 hab⟩
end Go.Proofs.YtkefeinbjbeidaaGreatDoor
namespace Go.Pg
open Go Go.RowKit Go.Lib
section
variable {P:Program} {n:Nat}
theorem Zs1 {x y:Code} {Q:AE→St→Prop} {st:St} (h:AWP P n x (AE.then (AWP P n y Q) Q) st):AWP P n (.seq x y) Q st:=λc a w imm hr=>by
 refine wp_seq (ZE9 (λe a' w' hp=>?_) (h c a w imm hr));obtain⟨ae,st',imm',rfl,h2,h3⟩:=hp
 cases ae with
 | normal=>exact h2 c a' w' imm' h3
 | exit id=>exact⟨.exit id,st',imm',rfl,h2,h3⟩
 | ret=>exact⟨.ret,st',imm',rfl,h2,h3⟩
theorem Zvg {o:Oper} {a:Act} {w w':World} {ops:Array Oper} {Qp:Exit→Act→World→Prop} {l:List Oper} {y:Value} (hg:o.guard=none) (hr:(execOp a.eval o).run P w=.ok (.value y) w') (h:wpList P ops Qp l (a.put o.dst y) w'):wpList P ops Qp (o :: l) a w:=by
 unfold wpList;rw [ZBv (by simp [Region.wanted,hg])];refine .inl ?_;unfold Oper.wp;rw [hr];exact h
theorem rebase {c:Cx} {e:Nat→AV} {a:Act} {w:World} {imm:Imm} (h:Rel c n ⟨e,Zag⟩ a w imm):Rel ⟨w.heap.size,w,imm⟩ n ⟨e,Zag⟩ a w imm :=
 ⟨h.env,h.size,h.defers,⟨⟨λk e hk=>by simp [Zag] at hk,λk k' e e' b hk=>by simp [Zag] at hk,h.mem.ok.lt,h.mem.ok.spot⟩,Blw.refl _ _,ZBw _,λ_ h1=>h1,λ_ h1=>.inl h1,λ_ _=>rfl⟩⟩
theorem unbase {c:Cx} {st':St} {a':Act} {w w':World} {imm imm':Imm} (hm:Mx c Zag w imm) (h:Rel ⟨w.heap.size,w,imm⟩ n st' a' w' imm') (h0:st'.mem=Zag):Rel c n st' a' w' imm':=by
 refine⟨h.env,h.size,h.defers,?_⟩;have hm':=h.mem;rw [h0] at hm' ⊢;exact⟨⟨λk e hk=>by simp [Zag] at hk,λk k' e e' b hk=>by simp [Zag] at hk,hm'.ok.lt,hm'.ok.spot⟩,hm.below.trans (hm'.below.mono hm.lt),ZB1 hm.lt hm'.lt,λad h1=>hm'.old ad (hm.old ad h1),λad h1=>(hm'.new ad h1).elim (hm.new ad) (λh2=>.inr (ZB1 hm.lt h2)),λad h1=>(hm'.cells ad (hm.old ad h1)).trans (hm.cells ad h1)⟩
structure ItS (c:Cx) (n:Nat) (s:ByteArray) (tI:Nat) (J:Nat→(Nat→AV)→Prop) (pos:Nat) (a:Act) (w:World):Prop where
 h:∃e imm g,Rel c n ⟨e,Zag⟩ a w imm∧w.heap[g]?=some (.stringIter s pos)∧c.B≤g∧(∀ad,imm ad→ad.block≠g)∧e tI=.v (.pointer (some ⟨g,0,none⟩))∧J pos e
theorem ZBa {s:ByteArray} {id1 id2 bid d1 tI d2 d3:Nat} {x:Operand} {ty1 ty2 ty3 ty4 tys:TypeId} {p1 p2 p3 p4:String} {f1 f2 f3 f4:Array Edge} {r2:Code} {Q:AE→St→Prop} {e:Nat→AV}
 (hx:St.ev ⟨e,Zag⟩ x=.v (.string s)) (hty:P.underlying tys=some .string) (h1:d1 < n) (hI:tI < n) (h2:d2 < n) (h3:d3 < n) (hne:tI≠d2) (hne3:tI≠d3) (hne1:d2≠d3) (hf:Zbj n r2=true)
 (J:Nat→(Nat→AV)→Prop) (h0:∀pv,J 0 (upd (upd e d1 (.v (.string s))) tI (.v pv)))
 (hstep:∀pos e pv,J pos e→e tI=.v pv→pos < s.size→Za4 P 0 n r2 (AE.then (λst'=>st'.mem=Zag∧J (pos+(Utf8.decode s pos).2) st'.env∧st'.env tI=.v pv) λae st'=>st'.mem=Zag∧AE.inBlock bid Q ae st')
  ⟨upd (upd e d2 (.tup [.v (.bool true),.v (.int .i64 pos),.v (.int .i32 (Utf8.decode s pos).1)])) d3 (.v (.bool true)),Zag⟩)
 (hw:∀pos,pos < s.size→0 < (Utf8.decode s pos).2)
 (hend:∀pos e pv,J pos e→e tI=.v pv→¬pos < s.size→Za4 P 0 n r2 (AE.then (λ_=>False) λae st'=>st'.mem=Zag∧AE.inBlock bid Q ae st')
  ⟨upd (upd e d2 (.tup [.v (.bool false)])) d3 (.v (.bool false)),Zag⟩) :
 AWP P n (.seq (.region id1 #[⟨some d1,.move x,ty1,p1,f1,none⟩,⟨some tI,.range tys (.tmp d1),ty2,p2,f2,none⟩] false)
  (.block bid (.loop (.seq (.region id2 #[⟨some d2,.next (.tmp tI) true,ty3,p3,f3,none⟩,⟨some d3,.extract (.tmp d2) 0,ty4,p4,f4,none⟩] false) r2)))) Q ⟨e,Zag⟩:=by
 intro c a w imm hr;refine wp_seq (wp_region_list ?_);have ex:=hr.ev x;rw [hx] at ex;have ex:=ex.v_inv;refine Zvg rfl (y:=.string s) (w':=w) (by simp [execOp,ex]) ?_;have r1:=hr.step (dst:=some d1) (av:=.v (.string s)) (x:=.string s) (Keeps.refl w imm) hr.mem (λd hd=>by cases hd;exact h1) (.pure (.v _));have e1:=(r1.ev (.tmp d1))
 have e1:(a.put (some d1) (.string s)).eval (.tmp d1)=.string s:=by
  have h9:St.ev (St.put ⟨e,Zag⟩ (some d1) (.v (.string s))) (.tmp d1)=.v (.string s):=by simp [St.ev,St.put,Zan]
  rw [h9] at e1;exact e1.v_inv
 refine Zvg rfl (y:=.pointer (some ⟨w.heap.size,0,none⟩)) (w':=w.iter s 0) (by
  simp only [execOp,e1];exact Zka (run_range_string w tys s hty)) ?_
 have hcell:∀ad,imm ad→(w.iter s 0).cell? ad=w.cell? ad:=λad h9=>ZG3 w _ ad (hr.mem.ok.lt ad h9);have hm2:Mx c Zag (w.iter s 0) imm:=⟨⟨λk e hk=>by simp [Zag] at hk,λk k' e e' b hk=>by simp [Zag] at hk,λad h9=>ZDx (hr.mem.ok.lt ad h9) (ZGq w (.stringIter s 0) none).size,hr.mem.ok.spot⟩,
  hr.mem.below.grown (ZGq w (.stringIter s 0) none) (ZBw _) hr.mem.lt (λg hg=>by cases hg),ZB1 hr.mem.lt (ZGq w (.stringIter s 0) none).size,hr.mem.old,hr.mem.new,λad h9=>(hcell ad (hr.mem.old ad h9)).trans (hr.mem.cells ad h9)⟩
 have r2':=r1.step (dst:=some tI) (av:=.v (.pointer (some ⟨w.heap.size,0,none⟩))) (x:=.pointer (some ⟨w.heap.size,0,none⟩)) (w':=w.iter s 0) (imm':=imm) (λad h9=>⟨h9,hcell ad h9⟩) hm2 (λd hd=>by cases hd;exact hI) (.pure (.v _));show(Code.block bid _).wp P (post c n Q) _ _;refine wp_block ?_;have start:ItS c n s tI J 0 ((a.put (some d1) (.string s)).put (some tI) (.pointer (some ⟨w.heap.size,0,none⟩))) (w.iter s 0) :=
  ⟨_,imm,w.heap.size,r2',World.iter_heap w s 0,hr.mem.lt,λad h9=>Nat.ne_of_lt (hr.mem.ok.lt ad h9),by simp [St.put,Zan],h0 _⟩
 generalize (a.put (some d1) (.string s)).put (some tI) (.pointer (some ⟨w.heap.size,0,none⟩))=a1 at start;generalize w.iter s 0=w1 at start;clear r2' r1 hm2 hcell e1 ex hr
 let Qp:Exit→Act→World→Prop:=Exit.inBlock bid (post c n Q)
 have lift:∀(ae:AE) (st':St) (a':Act) (w w':World) (imm imm':Imm),Mx c Zag w imm→Rel ⟨w.heap.size,w,imm⟩ n st' a' w' imm'→st'.mem=Zag→AE.inBlock bid Q ae st'→ae≠.normal→Qp ae.to a' w':=by
  intro ae st' a' w w' imm imm' hm hr h9 hq hn;have hr':=unbase hm hr h9
  cases ae with
  | normal=>exact absurd rfl hn
  | exit i =>
    show Exit.inBlock bid (post c n Q) (.exit i) a' w';simp only [AE.inBlock] at hq;by_cases hi:i=bid
    ·subst hi;rw [ZBv rfl] at hq;simp only [Exit.inBlock,ZC0];exact⟨.normal,st',imm',rfl,hq,hr'⟩
    ·rw [ZBu hi] at hq;simp only [Exit.inBlock,ZBu hi];exact⟨.exit i,st',imm',rfl,hq,hr'⟩
  | ret=>exact⟨.ret,st',imm',rfl,hq,hr'⟩
 have round:∀pos a w,ItS c n s tI J pos a w→(Code.seq (.region id2 #[⟨some d2,.next (.tmp tI) true,ty3,p3,f3,none⟩,⟨some d3,.extract (.tmp d2) 0,ty4,p4,f4,none⟩] false) r2).wp P
  (Exit.then (λa w=>∃pos',ItS c n s tI J pos' a w∧s.size - pos' < s.size - pos) Qp) a w:=by
  rintro pos a w ⟨e,imm,g,hr,hg,hB,hng,heI,hJ⟩
  have eI:=hr.ev (.tmp tI)
  have eI:a.eval (.tmp tI)=.pointer (some ⟨g,0,none⟩):=by
   rw [show St.ev ⟨e,Zag⟩ (.tmp tI)=_ from heI] at eI;exact eI.v_inv
  refine wp_seq (wp_region_list ?_);have glt:g < w.heap.size:=(Array.getElem?_eq_some_iff.1 hg).1;by_cases hp:pos < s.size
  ·refine Zvg rfl (y:=.tuple #[.bool true,.int .i64 pos,.int .i32 (Utf8.decode s pos).1]) (w':=w.iterAt g s (pos+(Utf8.decode s pos).2)) (by
    simp only [execOp,eI];exact Zka (run_next_any_at w g s pos _ hg hp)) ?_
   have hgrow:w.grownBy (w.iterAt g s (pos+(Utf8.decode s pos).2)) (some g):=by
    refine⟨rfl,rfl,rfl,?_,λk hk hne=>?_⟩
    ·simp [World.iterAt]
    ·simp only [World.iterAt];rw [ZHi (λh9=>hne (by rw [h9]))]
   have hcell:∀ad,imm ad→(w.iterAt g s (pos+(Utf8.decode s pos).2)).cell? ad=w.cell? ad:=λad h9=>Zdh hgrow (hr.mem.ok.lt ad h9) (λh8=>hng ad h9 (by cases h8;rfl));have hm2:Mx c Zag (w.iterAt g s (pos+(Utf8.decode s pos).2)) imm:=⟨⟨λk e hk=>by simp [Zag] at hk,λk k' e e' b hk=>by simp [Zag] at hk,λad h9=>ZDx (hr.mem.ok.lt ad h9) hgrow.size,hr.mem.ok.spot⟩,
    hr.mem.below.grown hgrow (ZBw _) hr.mem.lt (λg' hg'=>by cases hg';exact hB),ZB1 hr.mem.lt hgrow.size,hr.mem.old,hr.mem.new,λad h9=>(hcell ad (hr.mem.old ad h9)).trans (hr.mem.cells ad h9)⟩
   have q1:=hr.step (dst:=some d2) (av:=.tup [.v (.bool true),.v (.int .i64 pos),.v (.int .i32 (Utf8.decode s pos).1)]) (x:=.tuple #[.bool true,.int .i64 pos,.int .i32 (Utf8.decode s pos).1]) (imm':=imm) (λad h9=>⟨h9,hcell ad h9⟩) hm2 (λd hd=>by cases hd;exact h2)
    (.pure (.tup _ _ rfl λj a x k1 k2=>by
     match j with
     | 0=>simp at k1 k2;subst k1;subst k2;exact .v _
     | 1=>simp at k1 k2;subst k1;subst k2;exact .v _
     | 2=>simp at k1 k2;subst k1;subst k2;exact .v _
     | j+3=>simp at k1))
   have v2:=q1.env d2
   have v2:(a.put (some d2) (.tuple #[.bool true,.int .i64 pos,.int .i32 (Utf8.decode s pos).1])).eval (.tmp d2)=.tuple #[.bool true,.int .i64 pos,.int .i32 (Utf8.decode s pos).1]:=by
    show(a.put (some d2) _).tmps.getD d2 undef=_;rw [Act.put_getD a d2 _ (by rw [hr.size];exact h2),ZBv rfl]
   refine Zvg rfl (y:=.bool true) (w':=w.iterAt g s (pos+(Utf8.decode s pos).2)) (by
    simp only [execOp,v2];simp [Instr.extract]) ?_
   have q2:=q1.step (dst:=some d3) (av:=.v (.bool true)) (x:=.bool true) (Keeps.refl _ imm) hm2 (λd hd=>by cases hd;exact h3) (.pure (.v _));have hst:=hstep pos e _ hJ heI hp;have q3:=rebase q2;refine ZE9 (λee a' w' hpost=>?_) (Zbd r2 _ _ hf hst _ _ _ _ q3);obtain⟨ae,st',imm',rfl,hq,hrel⟩:=hpost
   cases ae with
   | normal =>
     obtain⟨hm,hJ',hpv⟩:=hq;have hr':=unbase hm2 hrel hm;refine⟨pos+(Utf8.decode s pos).2,⟨st'.env,imm',g,?_,?_,hB,λad h9=>?_,hpv,hJ'⟩,by have:=hw pos hp;omega⟩
     ·obtain⟨en,me⟩:=st';simp only at hm;subst hm;exact hr'
     ·rw [hrel.mem.below.block g (ZDx glt hgrow.size)];exact iterAt_heap w g s pos _ hg
     ·rcases hrel.mem.new ad h9 with h8 | h8
      ·exact hng ad h8
      ·have:(w.iterAt g s (pos+(Utf8.decode s pos).2)).heap.size≤ad.block:=h8;have:=hgrow.size;omega
   | exit i=>exact lift (.exit i) st' a' _ w' imm imm' hm2 hrel hq.1 hq.2 zs
   | ret=>exact lift .ret st' a' _ w' imm imm' hm2 hrel hq.1 hq.2 zs
  ·refine Zvg rfl (y:=.tuple #[.bool false]) (w':=w) (by
    simp only [execOp,eI];exact Zka (run_next_end_at w g s pos _ hg hp)) ?_
   have q1:=hr.step (dst:=some d2) (av:=.tup [.v (.bool false)]) (x:=.tuple #[.bool false]) (Keeps.refl w imm) hr.mem (λd hd=>by cases hd;exact h2)
    (.pure (.tup _ _ rfl λj a x k1 k2=>by
     match j with
     | 0=>simp at k1 k2;subst k1;subst k2;exact .v _
     | j+1=>simp at k1))
   have v2:(a.put (some d2) (.tuple #[.bool false])).eval (.tmp d2)=.tuple #[.bool false]:=by
    show(a.put (some d2) _).tmps.getD d2 undef=_;rw [Act.put_getD a d2 _ (by rw [hr.size];exact h2),ZBv rfl]
   refine Zvg rfl (y:=.bool false) (w':=w) (by
    simp only [execOp,v2];simp [Instr.extract]) ?_
   have q2:=q1.step (dst:=some d3) (av:=.v (.bool false)) (x:=.bool false) (Keeps.refl _ imm) hr.mem (λd hd=>by cases hd;exact h3) (.pure (.v _));have hst:=hend pos e _ hJ heI hp;have q3:=rebase q2;refine ZE9 (λee a' w' hpost=>?_) (Zbd r2 _ _ hf hst _ _ _ _ q3);obtain⟨ae,st',imm',rfl,hq,hrel⟩:=hpost
   cases ae with
   | normal=>exact hq.elim
   | exit i=>exact lift (.exit i) st' a' _ w' imm imm' hr.mem hrel hq.1 hq.2 zs
   | ret=>exact lift .ret st' a' _ w' imm imm' hr.mem hrel hq.1 hq.2 zs
 intro b k cs;have key:∀m pos a w,s.size - pos=m→ItS c n s tI J pos a w →
  ∃ee a' w',Qp ee a' w'∧Arrives P (lone (b.at a (.code (Code.seq (.region id2 #[⟨some d2,.next (.tmp tI) true,ty3,p3,f3,none⟩,⟨some d3,.extract (.tmp d2) 0,ty4,p4,f4,none⟩] false) r2) :: .inLoop (Code.seq (.region id2 #[⟨some d2,.next (.tmp tI) true,ty3,p3,f3,none⟩,⟨some d3,.extract (.tmp d2) 0,ty4,p4,f4,none⟩] false) r2) :: k)) cs w) b k cs ee a' w':=by
  intro m
  induction m using Nat.strongRecOn with
  | _ m ih =>
    intro pos a w hm hI';obtain⟨ee,a₁,w₁,hq,harr⟩:=round pos a w hI' b (.inLoop _ :: k) cs
    cases ee with
    | normal =>
      obtain⟨pos',h8,h9⟩:=hq;obtain⟨e₂,a₂,w₂,hq₂,harr₂⟩:=ih (s.size - pos') (hm ▸ h9) pos' a₁ w₁ rfl h8;exact⟨e₂,a₂,w₂,hq₂,.of_steps (Steps.trans harr (.one step_inLoop)) harr₂⟩
    | exit id=>exact⟨.exit id,a₁,w₁,hq,.pass (x:=.inLoop _) rfl (λ_ _=>.inl zs) harr⟩
    | goto l=>exact⟨.goto l,a₁,w₁,hq,.pass (x:=.inLoop _) rfl (λ_ _=>.inl zs) harr⟩
    | ret=>exact⟨.ret,a₁,w₁,hq,.pass (x:=.inLoop _) rfl (λ_ _=>.inl zs) harr⟩
    | panic ch=>exact⟨.panic ch,a₁,w₁,hq,.pass (x:=.inLoop _) rfl (λ_ _=>.inl zs) harr⟩
    | outgrown=>exact⟨.outgrown,a₁,w₁,hq,.pass (x:=.inLoop _) rfl (λ_ _=>.inl zs) harr⟩
 obtain⟨ee,a',w',hq,harr⟩:=key _ 0 a1 w1 rfl start;exact⟨ee,a',w',hq,.of_steps (.one step_loop) harr⟩
theorem Zrq {f:FuncId} {fn:Func} {code:Code} {rs:List ResultVar} {args:List AV} {r:AV} (hf:P.funcs[f]?=some fn) (hb:fn.body=some code) (hn:fn.ntmps=n) (hrs:fn.results=rs.toArray)
 (hc:∀(vs:Array Value) (w:World),(callFunc f vs).run P w=.ok (.enter f vs) w) (hal:args.length≤n)
 (h:AWP P n code (Done P rs λst=>Ztz st r) ⟨λt=>args.getD t .u,Zag⟩):Pure P f args r:=by
 refine⟨hc,λw imm vs himm hl hr=>?_⟩;refine calls_of_wp hf hb ?_
 let c:Cx:=⟨w.heap.size,w,imm⟩
 have hrel:Rel c n ⟨λt=>args.getD t .u,Zag⟩ { tmps:=vs++Array.replicate (fn.ntmps - vs.size) undef,defers:=[] } w imm:=by
  refine⟨λt=>?_,by simp [hn];omega,rfl,⟨⟨λk e hk=>by simp [Zag] at hk,λk k' e e' b hk=>by simp [Zag] at hk,λad h1=>(himm ad h1).1,λad h1=>(himm ad h1).2⟩,Blw.refl _ _,ZBw _,λ_ h1=>h1,λ_ h1=>.inl h1,λ_ _=>rfl⟩⟩;simp only [ZCb];rcases ZCg t args.length with ht | ht
  ·have ht2:t < vs.size:=zo;rw [ZB6 ht,ZDs,ZGu ht2,ZDa ht2];exact .pure (hr t _ _ (ZB6 ht) (ZDa ht2))
  ·rw [ZDh ht];exact .pure (.u _)
 refine ZE9 (λe a' w' hp=>?_) (h c _ w imm hrel);obtain⟨ae,st',imm',rfl,hdone,hrel'⟩:=hp;have hret:=Zog hdone;have hae:∀id,ae≠.exit id:=by rintro id rfl;exact hdone
 obtain⟨y,b,hrun,⟨hpo,hpv⟩,hrs'⟩:=Zri hrs hrel' hret;obtain⟨i2,hm2,hk2⟩:=Zdb b.toks hrel'.mem;have hrd:=Zgw hm2 (hk2.rs hrs') hpo;rw [hpv] at hrd;have fin:a'.defers=[]∧∃v,(results fn a'.tmps).run P w'=.ok v w'∧(λe w'=>∃x imm',e=Ending.returned x∧Rd w' imm' r x∧(∀ad,imm ad→imm' ad)∧(∀ad,imm' ad→(imm ad∨w.heap.size≤ad.block)∧ad.block < w'.heap.size∧ad.spot=none)∧Blw w.heap.size w w') (Ending.returned v) w' :=
  ⟨hrel'.defers,y,hrun,y,i2,rfl,hrd,hm2.old,λad h1=>⟨hm2.new ad h1,hm2.ok.lt ad h1,hm2.ok.spot ad h1⟩,hm2.below⟩
 cases ae with
 | normal=>exact fin
 | ret=>exact fin
 | exit id=>exact absurd rfl (hae id)
theorem Zwj (s:ByteArray) (i:Nat):0 < (Utf8.decode s i).2:=by
 unfold Utf8.decode;simp only
 repeat' split
 all_goals simp
end
end Go.Pg
namespace Go.Proofs.YtkefeinbjbeidaaGreatDoor
open Go Go.RowKit Go.Pg Go.Proofs.Tryz
attribute [-bool_to_prop] Bool.and_eq_decide Bool.or_eq_decide Bool.decide_beq_decide decide_eq_decide
attribute [local go_sem] Za8 Zbx
def kwL:List ByteArray:=[
 ⟨#[97,110,103,108,101]⟩,
 ⟨#[97,112,101,120]⟩,
 ⟨#[98,105,115,101,99,116,111,114]⟩,
 ⟨#[99,101,110,116,101,114]⟩,
 ⟨#[99,105,114,99,108,101]⟩,
 ⟨#[99,105,114,99,117,109]⟩,
 ⟨#[99,111,108,108,105,110,101,97,114]⟩,
 ⟨#[99,111,109,109,111,110]⟩,
 ⟨#[99,111,110,99,121,99,108,105,99]⟩,
 ⟨#[99,111,110,103,114,117,101,110,116]⟩,
 ⟨#[99,114,111,115,115]⟩,
 ⟨#[99,117,116]⟩,
 ⟨#[100,105,118,105,100,101]⟩,
 ⟨#[102,111,111,116]⟩,
 ⟨#[108,105,110,101]⟩,
 ⟨#[109,101,101,116]⟩,
 ⟨#[109,105,100,112,111,105,110,116]⟩,
 ⟨#[109,105,114,114,111,114]⟩,
 ⟨#[111,110]⟩,
 ⟨#[111,116,104,101,114]⟩,
 ⟨#[112,97,114,97,108,108,101,108]⟩,
 ⟨#[112,101,114,112,101,110,100,105,99,117,108,97,114]⟩,
 ⟨#[112,111,105,110,116,115]⟩,
 ⟨#[112,114,111,118,101]⟩,
 ⟨#[114,97,116,105,111]⟩,
 ⟨#[114,101,102,108,101,99,116]⟩,
 ⟨#[115,97,109,101]⟩,
 ⟨#[115,104,105,102,116]⟩,
 ⟨#[116,117,114,110]⟩]
def letB (c:Nat):Bool:=decide (97≤c∧c≤122) || decide (65≤c∧c≤90)
def digB (c:Nat):Bool:=decide (48≤c∧c≤57)
def gB (s:ByteArray) (k:Nat):Nat:=(s.data.toList.getD k 0).toNat
theorem Zz8 (s:ByteArray) (k:Nat):gB s k < 256:=UInt8.toNat_lt _
def namB (s:ByteArray):Bool:=decide (0 < s.size∧s.size≤20) && (letB (gB s 0) && ((List.range s.size).all (λk=>letB (gB s k) || digB (gB s k)) && !(kwL.any λw=>w.toList == s.toList)))
theorem Zeh (s:ByteArray):(s.toList == (⟨#[]⟩:ByteArray).toList)=decide (s.size=0):=by
 rw [ByteArray.toList_eq,ByteArray.toList_eq,ZCk,ZDw,ZCs];constructor
 ·intro h;have:=ZDi List.length h;exact this
 ·intro h;exact List.length_eq_zero_iff.1 h
theorem Zz9 (s:ByteArray) (k:Nat):((s.data.toList.getD k 0).toNat:Int)=(gB s k:Int):=rfl
theorem Zjk (s:ByteArray):∀n,n≤s.size→∃k,k≤n∧(∀j,j < k→(letB (gB s j) || digB (gB s j))=true)∧(k < n→(letB (gB s k) || digB (gB s k))=false)
 | 0,_=>⟨0,zo,λj h=>zo,λh=>zo⟩
 | n+1,h=>by
   obtain⟨k,h1,h2,h3⟩:=Zjk s n zo;by_cases hk:k < n
   ·exact⟨k,zo,h2,λ_=>h3 hk⟩
   ·have:k=n:=zo;subst this
    cases hb:(letB (gB s k) || digB (gB s k)) with
    | true=>exact⟨k+1,zo,λj hj=>by by_cases e:j=k;rw [e];exact hb;exact h2 j zo,λh=>zo⟩
    | false=>exact⟨k,zo,h2,λ_=>hb⟩
def kinB (c:Nat):Int:=if c=32∨c=9∨c=13∨c=10 then 1 else if letB c=true then 2 else if digB c=true then 3 else if c=40∨c=41∨c=44∨c=59∨c=47∨c=45 then 4 else if c=58 then 5 else if c=35 then 6 else 0
theorem Zuj (c:Nat):kinB c=2↔letB c=true:=by
 unfold kinB letB;simp only [ZEh,ZCs]
 repeat' split
 all_goals omega
theorem kinB_dig (c:Nat):kinB c=3↔digB c=true:=by
 unfold kinB letB digB;simp only [ZEh,ZCs]
 repeat' split
 all_goals omega
theorem nmKind (c:Nat) (hc:c < 256):Pure prog 276 [.v (.int .u8 (c:Int))] (iv (kinB c)):=by
 unfold kinB letB digB;simp only [ZEh,ZCs];refine pI func276 rfl ntmps276 results276 call276 ?_;(focus (refine wklp w_t w_t w_t (w_r 0) ?_;(repeat' first|exact w_t|apply w_l);all_goals intros));all_goals (congr 2;repeat' split)
 all_goals (first|rfl|omega)
theorem nmEnd (s:ByteArray) (hs:s.size≤1000000000):∃n:Nat,Pure prog 277 [strA s,iv 0,.v (.bool true)] (iv n)∧n≤s.size∧(n=s.size↔(List.range s.size).all (λk=>letB (gB s k) || digB (gB s k))=true):=by
 obtain⟨n,h1,h2,h3⟩:=Zjk s s.size (ZBw _);refine⟨n,?_,h1,?_⟩
 ·refine pI func277 rfl ntmps277 results277 call277 ?_;(focus (refine wkap w_t w_t (w_r 0) ?_;(repeat' first|exact w_t|apply w_l);all_goals intros));refine Zad (ι:=Nat) (λi e m=>i≤n∧e 0=strA s∧e 1=iv i∧e 2=.v (.bool true)) (λi=>n - i) 0 zr ?_ ?_
  ·rintro i e m ⟨hi,e0,e1,e2⟩
   have hk:=nmKind (gB s i) (Zz8 s i);have kl:=Zuj (gB s i);have kd:=kinB_dig (gB s i);by_cases hlt:i < n
   ·have hb:=h2 i hlt;rw [ZEh,←kl,←kd] at hb;clear kl kd;have hg:=Zz9 s i;generalize kinB (gB s i)=x at *;rcases hb with hb | hb
    ·subst hb;(focus (refine wkap (w_4 e0 e1 e2 hg) (w_1 hk) (w_r 0) ?_;(repeat' first|exact w_t|apply w_l);all_goals intros));exact⟨i+1,⟨zo,gW e0,gS,gW e2⟩,zo⟩
    ·subst hb;(focus (refine wkap (w_4 e0 e1 e2 hg) (w_1 hk) (w_r 0) ?_;(repeat' first|exact w_t|apply w_l);all_goals intros));exact⟨i+1,⟨zo,gW e0,gS,gW e2⟩,zo⟩
   ·have hin:i=n:=zo;subst hin;by_cases hsz:i < s.size
    ·have hb:=h3 hsz;rw [ZF3] at hb;have b1:kinB (gB s i)≠2:=λh=>by rw [kl.1 h] at hb;exact absurd hb.1 zd
     have b2:kinB (gB s i)≠3:=λh=>by rw [kd.1 h] at hb;exact absurd hb.2 zd
     clear kl kd;have hg:=Zz9 s i;generalize kinB (gB s i)=x at *;(focus (refine wklp (w_4 e0 e1 e2 hg) (w_1 hk) w_t (w_r 0) ?_;(repeat' first|exact w_t|apply w_l);all_goals intros))
    ·(focus (refine wklp (w_3 e0 e1 e2) w_t w_t (w_r 0) ?_;(repeat' first|exact w_t|apply w_l);all_goals intros))
  ·exact⟨ZB5 _,gC,gC,gC⟩
 ·rw [ZEu];constructor
  ·intro h x hx;exact h2 x (by rw [h];exact List.mem_range.1 hx)
  ·intro h;rcases ZCg n s.size with h4 | h4
   ·have:=h n (List.mem_range.2 h4);rw [h3 h4] at this;cases this
   ·omega
theorem nmKeys:Pure prog 278 [] (.sl 1 (kwL.map strA)):=by
 unfold kwL;refine pI func278 rfl ntmps278 results278 call278 ?_;(focus (refine wklp w_t w_t w_t (w_r 0) ?_;(repeat' first|exact w_t|apply w_l);all_goals intros))
theorem rnKeys:Pure prog 297 [] (.sl 1 (kwL.map strA)):=by
 unfold kwL;refine pI func297 rfl ntmps297 results297 call297 ?_;exact wklp w_t w_t w_t (w_r 0) w_z
theorem Ztn (c:Nat) (hc:c < 256):Pure prog 295 [.v (.int .u8 (c:Int))] (.v (.bool (letB c))):=by
 unfold letB;refine pI func295 rfl ntmps295 results295 call295 ?_;exact wklp w_t w_t w_t (w_r 0) w_z
theorem rnDigit (c:Nat) (hc:c < 256):Pure prog 296 [.v (.int .u8 (c:Int))] (.v (.bool (digB c))):=by
 unfold digB;refine pI func296 rfl ntmps296 results296 call296 ?_;exact wklp w_t w_t w_t (w_r 0) w_z
theorem Zel:kwL.length=29:=rfl
theorem nmName (s:ByteArray) (hs:s.size≤1000000000):Pure prog 236 [strA s] (.v (.bool (namB s))):=by
 have he:=Zeh s;unfold namB;by_cases h0:0 < s.size∧s.size≤20
 ·rw [ZB4 h0,ZDn];have h00:(decide (s.size=0))=false:=ZB3 zo;rw [h00] at he;have hk:=nmKind (gB s 0) (Zz8 s 0);have hg:=Zz9 s 0;have kl:=Zuj (gB s 0)
  cases hl:letB (gB s 0) with
  | false =>
    have hx:kinB (gB s 0)≠2:=λh=>by rw [kl.1 h] at hl;cases hl
    clear kl;rw [ZCz];generalize kinB (gB s 0)=x at *;refine pI func236 rfl ntmps236 results236 call236 ?_;(focus (refine wklp (w_2 he hg) (w_1 hk) w_t (w_r 0) ?_;(repeat' first|exact w_t|apply w_l);all_goals intros))
  | true =>
    have hx:kinB (gB s 0)=2:=kl.2 hl;rw [hx] at hk;rw [ZDn];obtain⟨n,ce,hn,hall⟩:=nmEnd s hs
    cases ha:(List.range s.size).all (λk=>letB (gB s k) || digB (gB s k)) with
    | false =>
      have hlt:n < s.size:=by
       rcases ZCg n s.size with h | h
       ·exact h
       ·rw [hall.1 zo] at ha;cases ha
      rw [ZCz];clear hall ha;refine pI func236 rfl ntmps236 results236 call236 ?_;(focus (refine wklp (w_2 he hg) (w_2 hk ce) w_t (w_r 0) ?_;(repeat' first|exact w_t|apply w_l);all_goals intros))
    | true =>
      have hnn:n=s.size:=hall.2 ha;subst hnn;rw [ZDn];clear hall ha hl hx kl;have ck:=nmKeys;refine pI func236 rfl ntmps236 results236 call236 ?_;(focus (refine wkap (w_4 he hg @Zc6 @Zel) (w_3 hk ce ck) (w_r 0) ?_;(repeat' first|exact w_t|apply w_l);all_goals intros));refine Zad (ι:=Nat) (λi e m=>i≤29∧e 0=strA s∧e 25=.sl 1 (kwL.map strA)∧e 26=iv 29∧e 27=iv i∧(kwL.take i).any (λw=>w.toList == s.toList)=false) (λi=>29 - i) 0 zr ?_ ?_
      ·rintro i e m ⟨hi,e0,e25,e26,e27,hno⟩
       by_cases hlt:i < 29
       ·have hlt':i < kwL.length:=by rw [Zel];exact hlt
        have hgk:=Zam strA hlt';have hsn:kwL.take (i+1)=kwL.take i++[kwL[i]]:=ZEe hlt';have hmem:kwL[i]∈kwL:=ZB7 hlt';generalize kwL[i]=w at *
        cases hw:(w.toList == s.toList) with
        | true =>
          have:kwL.any (λw=>w.toList == s.toList)=true:=List.any_eq_true.2 ⟨w,hmem,hw⟩;rw [this];(focus (refine wklp (w_8 e0 e25 e26 e27 hgk hw @Zc6 @Zel) w_t (w_1 @ZFz) (w_r 0) ?_;(repeat' first|exact w_t|apply w_l);all_goals intros))
        | false =>
          (focus (refine wkap (w_8 e0 e25 e26 e27 hgk hw @Zc6 @Zel) w_t (w_r 0) ?_;(repeat' first|exact w_t|apply w_l);all_goals intros));exact⟨i+1,⟨zo,gW e0,gW e25,gW e26,gS,by rw [hsn,List.any_append,hno];simp [hw]⟩,zo⟩
       ·have hi2:i=29:=zo;subst hi2;rw [show kwL.take 29=kwL from by rw [←Zel,ZDg]] at hno;rw [hno];(focus (refine wklp (w_4 e0 e25 e26 e27) w_t (w_1 @ZF2) (w_r 0) ?_;(repeat' first|exact w_t|apply w_l);all_goals intros))
      ·exact⟨ZB5 _,gC,gC,by(simp (disch:=omega) only [go_sem,ZB2,Zel]<;>repeat' first|rfl|refine⟨?_,?_⟩),gC,by simp⟩
 ·rw [ZB3 h0,ZCz];by_cases h1:s.size=0
  ·rw [ZB4 h1] at he;refine pI func236 rfl ntmps236 results236 call236 ?_;(focus (refine wklp (w_1 he) w_t w_t (w_r 0) ?_;(repeat' first|exact w_t|apply w_l);all_goals intros))
  ·rw [ZB3 h1] at he;refine pI func236 rfl ntmps236 results236 call236 ?_;(focus (refine wklp (w_1 he) w_t w_t (w_r 0) ?_;(repeat' first|exact w_t|apply w_l);all_goals intros))
theorem decode_1 (s:ByteArray) (k:Nat) (hk:k < s.size) (h:gB s k < 128):(Utf8.decode s k).2=1:=by
 have e:(s[k]'hk).toNat=gB s k:=by
  unfold gB;rw [ZCb,ZB6 (by simpa using hk)];rfl
 rw [decode_ascii s k hk zo]
theorem ld_ascii {c:Nat} (h:(letB c || digB c)=true):c < 128:=by
 unfold letB digB at h;simp only [ZEh,ZCs] at h;omega
theorem rnName (s:ByteArray) (hs:s.size≤1000000000):Pure prog 254 [strA s] (.v (.bool (namB s))):=by
 have he:=Zeh s;unfold namB;by_cases h0:0 < s.size∧s.size≤20
 ·rw [ZB4 h0,ZDn];have h00:(decide (s.size=0))=false:=ZB3 zo;rw [h00] at he;have hk:=Ztn (gB s 0) (Zz8 s 0);have hg:=Zz9 s 0
  cases hl:letB (gB s 0) with
  | false =>
    rw [hl] at hk;rw [ZCz];refine pI func254 rfl ntmps254 results254 call254 ?_;exact wklp (w_2 he hg) (w_1 hk) w_t (w_r 0) w_z
  | true =>
    rw [hl] at hk;rw [ZDn];obtain⟨n,h1,h2,h3⟩:=Zjk s s.size (ZBw _)
    have hall:(List.range s.size).all (λk=>letB (gB s k) || digB (gB s k))=decide (n=s.size):=by
     rw [ZCk,ZEu,ZCs];constructor
     ·intro h;rcases ZCg n s.size with h4 | h4
      ·have:=h n (List.mem_range.2 h4);rw [h3 h4] at this;cases this
      ·omega
     ·intro h x hx;exact h2 x (by rw [h];exact List.mem_range.1 hx)
    rw [hall];have ck:=rnKeys;refine Zrq (rs:=[.tmp 2]) func254 rfl ntmps254 results254 call254 zs ?_;refine Zs1 (Zbd (tok:=0) _ _ _ zr ?_)
    (refine wkap w_t w_t (w_r 0) (w_s ?_);intros)
    refine Zs1 (Zbd (tok:=0) _ _ _ zr ?_)
    (refine wkap (w_2 he hg) (w_1 hk) (w_r 0) (w_s ?_);intros)
    refine Zs1 ?_;clear hk hg he hall;refine ZBa (s:=s) (gC) underlying9 zo zo zo zo zo zo zo zr (λpos e=>pos≤n∧e 0=strA s) ?_ ?_ (λpos _=>Zwj s pos) ?_
    ·intro pv;exact⟨ZB5 _,gC⟩
    ·rintro pos e pv ⟨hp,e0⟩ epv hlt
     have hkl:=Ztn (gB s pos) (Zz8 s pos);have hkd:=rnDigit (gB s pos) (Zz8 s pos);have hg:=Zz9 s pos;by_cases hpn:pos < n
     ·have hb:=h2 pos hpn;have hd:=decode_1 s pos hlt (ld_ascii hb);rw [hd];generalize (Utf8.decode s pos).1=cc
      cases hl2:letB (gB s pos) with
      | true =>
        rw [hl2] at hkl
        (refine wkap (w_2 e0 hg) (w_2 hkl hkd) (w_r 0) (w_s ?_);intros)
        exact⟨rfl,⟨zo,gW e0⟩,gW epv⟩
      | false =>
        rw [hl2,Bool.false_or] at hb;rw [hl2] at hkl;rw [hb] at hkd
        (refine wkap (w_2 e0 hg) (w_2 hkl hkd) (w_r 0) (w_s ?_);intros)
        exact⟨rfl,⟨zo,gW e0⟩,gW epv⟩
     ·have hpe:pos=n:=zo;subst hpe;have hb:=h3 hlt;rw [ZF3] at hb;rw [hb.1] at hkl;rw [hb.2] at hkd;have hne:decide (pos=s.size)=false:=ZB3 zo;rw [hne];generalize (Utf8.decode s pos).1=cc;generalize (Utf8.decode s pos).2=cw
      (refine wkap (w_2 e0 hg) (w_2 hkl hkd) (w_r 0) (w_s ?_);intros)
      refine⟨rfl,?_⟩;exact wklp w_t w_t w_t (w_r 0) w_z
    ·rintro pos e pv ⟨hp,e0⟩ epv hlt
     have hpe:n=s.size:=zo;rw [ZB4 hpe,ZDn]
     (refine wkap (w_1 e0) w_t (w_r 0) (w_s ?_);intros)
     refine⟨rfl,?_⟩;refine Zo3 (t_then ?_);refine Zbd (tok:=0) _ _ _ zr ?_
     (refine wkap (w_3 e0 @Zc6 @Zel) (w_1 ck) (w_r 0) (w_s ?_);intros)
     refine Zad (ι:=Nat) (λi e m=>i≤29∧e 0=strA s∧e 36=.sl 1 (kwL.map strA)∧e 37=iv 29∧e 38=iv i∧(kwL.take i).any (λw=>w.toList == s.toList)=false) (λi=>29 - i) 0 zr ?_ ?_
     ·rintro i e m ⟨hi,e0,e25,e26,e27,hno⟩
      by_cases hlt:i < 29
      ·have hlt':i < kwL.length:=by rw [Zel];exact hlt
       have hgk:=Zam strA hlt';have hsn:kwL.take (i+1)=kwL.take i++[kwL[i]]:=ZEe hlt';have hmem:kwL[i]∈kwL:=ZB7 hlt';generalize kwL[i]=w at *;have hsy:(s.toList == w.toList)=(w.toList == s.toList):=by rw [ZCk,ZDw,ZDw];exact eq_comm
       cases hw:(w.toList == s.toList) with
       | true =>
         have:kwL.any (λw=>w.toList == s.toList)=true:=List.any_eq_true.2 ⟨w,hmem,hw⟩;rw [this];rw [hw] at hsy;exact wklp (w_8 e0 e25 e26 e27 hgk hsy @Zc6 @Zel) w_t (w_1 @ZFz) (w_r 0) w_z
       | false =>
         rw [hw] at hsy
         (refine wkap (w_8 e0 e25 e26 e27 hgk hsy @Zc6 @Zel) w_t (w_r 0) (w_s ?_);intros)
         exact⟨i+1,⟨zo,gW e0,gW e25,gW e26,gS,by rw [hsn,List.any_append,hno];simp [hw]⟩,zo⟩
      ·have hi2:i=29:=zo;subst hi2;rw [show kwL.take 29=kwL from by rw [←Zel,ZDg]] at hno;rw [hno];exact wklp (w_4 e0 e25 e26 e27) w_t (w_1 @ZF2) (w_r 0) w_z
     ·exact⟨ZB5 _,gW e0,gC,by(simp (disch:=omega) only [go_sem,ZB2,Zel]<;>repeat' first|rfl|refine⟨?_,?_⟩),gC,by simp⟩
 ·rw [ZB3 h0,ZCz];by_cases h1:s.size=0
  ·rw [ZB4 h1] at he;refine pI func254 rfl ntmps254 results254 call254 ?_;exact wklp (w_1 he) w_t w_t (w_r 0) w_z
  ·rw [ZB3 h1] at he;refine pI func254 rfl ntmps254 results254 call254 ?_;exact wklp (w_1 he) w_t w_t (w_r 0) w_z
theorem szMapQ:szOf prog 347=some 1:=by kernel_rfl
theorem zInt3:Zao prog 3=some (.int .i64 0):=by kernel_rfl
theorem stQ:stI prog 91 4=true:=by kernel_rfl
theorem mkQ (a b c d:Int):mkOf prog 91 (.agg [iv a,iv b,iv c,iv d])=some (.l [a,b,c,d]):=by
 unfold mkOf;rw [underlying91];show(if stI prog 91 4=true then _ else _)=_;rw [ZBv stQ]
end Go.Proofs.YtkefeinbjbeidaaGreatDoor
namespace Go.Proofs.YtkefeinbjbeidaaGreatDoor
open Go Go.RowKit Go.Pg Go.Pol Go.Proofs.Tryz
attribute [-bool_to_prop] Bool.and_eq_decide Bool.or_eq_decide Bool.decide_beq_decide decide_eq_decide
def arS (k:Int):Int :=
 if k=1 then 0 else if k=2∨k=5∨k=6∨k=14 then 2 else if k=3∨k=4∨k=7∨k=8∨k=10∨k=11 then 3 else if k=9∨k=12∨k=13 then 4 else -1
def arG (k:Int):Int :=
 if k=8 then 2 else if k=1∨k=5 then 3 else if k=2∨k=3∨k=4∨k=6∨k=9 then 4 else if k=7 then 8 else 0
def outB (n:Int) (l:List Int):Bool:=l.any λa=>decide (a < 0) || decide (n≤a)
abbrev RS.zero:RS:=⟨0,.empty,[],⟨false,[],[]⟩⟩
def errS (ss:List RS) (i:Nat):Int :=
 let s:=ss.getD i RS.zero
 if arS s.k < 0 then 8
 else if (s.ar.length:Int)≠arS s.k then 1
 else if outB (i:Int) s.ar=true then 2
 else if (s.k=2∧s.r.ok=false)∨(s.k≠2∧s.r.none=false) then 1
 else if s.nm.size=0 then 0
 else if namB s.nm=false then 6
 else if (ss.take i).any (λt=>t.nm.toList == s.nm.toList)=true then 7
 else 0
def errG (g:RG) (n:Nat):Int :=
 if arG g.k=0 then 8
 else if (g.ar.length:Int)≠arG g.k then 1
 else if outB (n:Int) g.ar=true then 2
 else if (g.k=9∧g.r.ok=false)∨(g.k≠9∧g.r.none=false) then 1
 else 0
def fstE (f:Nat→Int):Nat→Int
 | 0=>0
 | n+1=>if fstE f n≠0 then fstE f n else f n
theorem Zf5 {f:Nat→Int}:∀{n:Nat},(∀j,j < n→f j=0)→fstE f n=0
 | 0,_=>rfl
 | n+1,h=>by
   unfold fstE;rw [ZBu (by rw [Zf5 λj hj=>h j zo];simp)];exact h n zo
theorem Zlr {f:Nat→Int} {i:Nat} (h:∀j,j < i→f j=0) (hi:f i≠0):∀{n:Nat},i < n→fstE f n=f i
 | 0,hn=>zo
 | n+1,hn=>by
   unfold fstE;by_cases e:i=n
   ·subst e;rw [ZBu (by rw [Zf5 h];simp)]
   ·have:=Zlr h hi (n:=n) zo;rw [this,ZBv hi]
theorem Zoa {f:Nat→Int}:∀{n:Nat},fstE f n=0→∀j,j < n→f j=0
 | 0,_,j,hj=>zo
 | n+1,h,j,hj=>by
   unfold fstE at h;split at h
   ·rename_i h1;exact absurd h h1
   ·rename_i h1;by_cases e:j=n
    ·subst e;exact h
    ·exact Zoa (n:=n) (by rcases Decidable.em (fstE f n=0) with h2 | h2;exact h2;exact absurd h2 h1) j zo
def figE (ss:List RS) (gs:List RG):Int :=
 if 40 < ss.length∨8 < gs.length then 4
 else if fstE (errS ss) ss.length≠0 then fstE (errS ss) ss.length
 else fstE (λi=>errG (gs.getD i ⟨0,[],⟨false,[],[]⟩⟩) ss.length) gs.length
def frame (ss:List RS) (gs:List RG):List (Po × Po) × List Vt × Int :=
 if figE ss gs≠0 then ([],[],figE ss gs)
 else if (List.range ss.length).any (bigN ss)=true then ([],[],4)
 else ((frN ss ss.length).cs,(frN ss ss.length).vs,0)
theorem Zrv {n:Int} {l:List Int} (h:outB n l=false) {k:Nat} (hk:k < l.length):0≤gI l k∧gI l k < n:=by
 unfold outB at h;rw [List.any_eq_false] at h;have:=h (gI l k) (by rw [Zew hk];exact ZB7 hk);simp only [ZEh,ZCs] at this;omega
theorem Zjl {ss:List RS} {i:Nat} (hi:i < ss.length) (h:errS ss i=0):0≤arS ss[i].k∧(ss[i].ar.length:Int)=arS ss[i].k∧(∀k,k < ss[i].ar.length→0≤gI ss[i].ar k∧gI ss[i].ar k < (i:Int))∧(ss[i].k=2→ss[i].r.ok=true):=by
 unfold errS at h;rw [show ss.getD i RS.zero=ss[i] from by rw [ZCb,ZB6 hi];rfl] at h;generalize ss[i]=s at *;simp only at h;split at h
 ·omega
 ·split at h
  ·omega
  ·split at h
   ·omega
   ·split at h
    ·omega
    ·rename_i h1 h2 h3 h4;refine⟨zo,zo,λk hk=>Zrv (by simpa using h3) hk,λh5=>?_⟩
     cases h6:s.r.ok with
     | true=>rfl
     | false=>exact absurd (.inl ⟨h5,h6⟩) h4
attribute [go_sem] underlying215 underlying108 underlying109 underlying212 zMono
attribute [local go_sem] Zas Zaw Zav Zgr Zu6 Zkp Zth Zu7 Zgm Zg8 Zj7
theorem Zdv {q:Rat}:(q.num.sign=0)=(q=0):=by rw [Int.sign_eq_zero_iff_zero,Rat.num_eq_zero]
theorem poLex (s t:Tm) (hs:Sm s.2) (ht:Sm t.2):Pure prog 187 [tmA s,tmA t] (iv (lexC s.2 t.2 (max s.2.length t.2.length))):=by
 have c:Pure prog 243 [ivs s.2,ivs t.2,iv 0] (iv (cmpI s.2 t.2 0)):=monCmp s.2 t.2 0 hs ht;have e:cmpI s.2 t.2 0=lexC s.2 t.2 (max s.2.length t.2.length):=by unfold cmpI;rw [ZBu zo]
 rw [e] at c;obtain⟨q,a⟩:=s;obtain⟨r,b⟩:=t;simp only at *;generalize lexC a b (max a.length b.length)=x at *;refine pI func187 rfl ntmps187 results187 call187 ?_;(focus (refine wklp w_t (w_1 c) w_t (w_r 0) ?_;(repeat' first|exact w_t|apply w_l);all_goals intros))
theorem poAdded (s t:Tm) {j k:Nat} (hs:Sz s.1 j) (ht:Sz t.1 k) (hj:j≤1000000) (hk:k≤1000000):Pure prog 188 [tmA s,tmA t] (.tup [tmA (s.1+t.1,s.2),.v (.bool (!decide ((s.1+t.1).num.sign=0)))]):=by
 have c:=Ztt s.1 t.1 hs ht zo zo;have cs:=Zdd (s.1+t.1) (hs.add ht) zo;obtain⟨q,a⟩:=s;obtain⟨r,b⟩:=t;simp only at *;generalize q+r=x at *;refine pI func188 rfl ntmps188 results188 call188 ?_
 (repeat' (first|(with_reducible first|refine stp ?_|apply gx1|apply gx2|apply gx3|apply gx4|apply gx5|apply gx6|apply gx7|apply gy8|apply gz2|apply gz3|refine gw0 (c) ?_ ?_|refine gw3 (c) ?_ ?_ ?_|refine gw0 (cs) ?_ ?_|refine gw3 (cs) ?_ ?_ ?_)|(with_reducible refine Zcm ?_;intro _)|((with_reducible refine gE ?_);(try simp (disch:=omega) only [go_sem])<;>first|rfl|omega)|with_reducible refine Zak zd ?_|((with_reducible apply gy1);iterate 3 focus rfl)|((with_reducible apply gy2);iterate 3 focus rfl)|((with_reducible apply gy3);iterate 2 focus rfl)|((with_reducible apply gy4);iterate 1 focus rfl)|((with_reducible apply gy5);iterate 4 focus rfl)|((with_reducible apply gy5c);iterate 4 focus rfl)|((with_reducible apply gy6);iterate 4 focus rfl)|((with_reducible apply Zjm);iterate 3 focus rfl)|((with_reducible apply Zjd);iterate 1 focus rfl)|((with_reducible apply gy7);iterate 1 focus rfl)|((with_reducible apply gy9);(focus ((with_reducible refine gE ?_);(try simp (disch:=omega) only [go_sem])<;>rfl)))|((with_reducible apply gz1);(focus first|rfl|(simp (disch:=omega) only [go_sem];done)))|((with_reducible apply Zcp (Zfc [(5,.v (.int .i64 x.num.sign))]) [] [4]);(focus kernel_rfl);(focus rfl);(focus kernel_rfl);(focus (simp only [ZCd,ZCq,Nat.reduceAdd];rfl)))))
 (all_goals (try simp (disch:=omega) only [go_sem,ZB4,ZB3,ZBv,ZBu,Int.reduceAdd,Int.reduceSub,Int.reduceToNat,ZB9]));(all_goals first|done|rfl|(congr 2;first|done|omega|(rw [ZCk];simp only [bool_to_prop,ZB8,ZCt,ZCu,ZCv,ZCw];omega))|skip)
theorem ZBk {p q:Po} {i k:Nat} (hi:i < p.length) (hk:k < q.length):addM (p.drop i) (q.drop k) =
 if ltM q[k].2 p[i].2 then p[i] :: addM (p.drop (i+1)) (q.drop k) else if ltM p[i].2 q[k].2 then q[k] :: addM (p.drop i) (q.drop (k+1))
 else if p[i].1+q[k].1=0 then addM (p.drop (i+1)) (q.drop (k+1)) else (p[i].1+q[k].1,p[i].2) :: addM (p.drop (i+1)) (q.drop (k+1)):=by
 rw [ZEi hi,ZEi hk];rw [show addM (p[i] :: p.drop (i+1)) (q[k] :: q.drop (k+1))=_ from by unfold addM;rw [addP]]
theorem addM_end {p q:Po} {i k:Nat} (h:p.length≤i∨q.length≤k):addM (p.drop i) (q.drop k)=p.drop i++q.drop k:=by
 rcases h with h | h
 ·rw [ZDo h];simp [addM,addP]
 ·rw [ZDo h,ZDf];exact Zos _
theorem poMerge (p q:Po) {j k e:Nat} (hp:PK p j e) (hq:PK q k e) (sp:SrtM p) (sq:SrtM q) (lp:p.length≤1000000) (lq:q.length≤1000000) (hj:j≤1000000) (hk:k≤1000000) (he:e≤16777216) :
 Pure prog 186 [poA p,poA q,.fn 187 [],.fn 188 []] (poA (addM p q)):=by
 refine pI func186 rfl ntmps186 results186 call186 ?_;(focus (refine wkad (w_1 @Zc6) w_t w_t ?_;(repeat' first|exact w_t|apply w_l);all_goals intros));rename_i sv0;refine Zad (ι:=Nat × Nat) (λx e m=>x.1≤p.length∧x.2≤q.length∧e 0=poA p∧e 1=poA q∧e 2=.fn 187 []∧e 3=.fn 188 []∧e 10=iv x.1∧e 11=iv x.2∧∃sv out,e 9=.own 20 sv∧m 20=some (.row sv 215 4 (out.map tmA) 0)∧out.length≤x.1+x.2∧addM p q=out++addM (p.drop x.1) (q.drop x.2)) (λx=>p.length+q.length - (x.1+x.2)) (0,0) zr ?_ ?_
 ·rintro ⟨i,l⟩ e m ⟨hi,hl,e0,e1,e2,e3,e10,e11,sv,out,e9,em,ho,hs⟩
  simp only at hi hl e10 e11 ho hs;by_cases hil:i < p.length∧l < q.length
  ·obtain⟨hi2,hl2⟩:=hil;have hg:=Zam tmA hi2;have hh:=Zam tmA hl2;have st:=ZBk hi2 hl2;have ms:=hp _ (ZB7 hi2);have mt:=hq _ (ZB7 hl2);have m1:=hp.sm he (ZB7 hi2);have m2:=hq.sm he (ZB7 hl2);have d1:=sp.dom _ (ZB7 hi2);have d2:=sq.dom _ (ZB7 hl2);generalize p[i]=s at *;generalize q[l]=t at *;have cl:=poLex s t m1 m2;have ca:=poAdded s t ms.1 mt.1 hj hk;have hlen:(out.map tmA).length=out.length:=ZB2 ..;rw [st] at hs;rcases Zwc d1 d2 with⟨h1,h2⟩ | ⟨h1,h1',h2,h3⟩ | ⟨h1,h1',h2⟩
   ·have h3:¬ltM t.2 s.2:=λh=>ordM.irr _ (ordM.tr _ _ _ h h1);rw [ZBu h3,ZBv h1] at hs;rw [h2] at cl;clear st ms mt m1 m2 d1 d2 ca;(focus (refine wkad (w_11 e0 e1 e2 e3 e9 e10 e11 em hg hh @Zc6) (w_1 cl) (w_1 (w_d 4 [(9,iv (-1))] [] [])) ?_;(repeat' first|exact w_t|apply w_l);all_goals intros));refine⟨(i,l+1),⟨by simp only;omega,by simp only;omega,gW e0,gW e1,gW e2,gW e3,gW e10,gS,_,out++[t],gC,by(simp (disch:=omega) only [go_sem,ZCp]<;>repeat' first|rfl|refine⟨?_,?_⟩),by simp only [ZCr,ZCd,ZCq];omega,by rw [hs,ZDd];rfl⟩,by simp only;omega⟩
   ·rw [ZBu h1',ZBu h1] at hs;rw [h3] at cl;by_cases hz:s.1+t.1=0
    ·rw [ZBv hz] at hs;rw [ZB4 (show(s.1+t.1).num.sign=0 by rw [Zdv];exact hz)] at ca;clear st ms mt m1 m2 d1 d2;generalize (s.1+t.1)=z at *;(focus (refine wkad (w_12 e0 e1 e2 e3 e9 e10 e11 em hg hh @Zc6 @ZFz) (w_2 cl ca) (w_2 (w_d 4 [(9,iv 0)] [] []) (w_d 5 [(9,.tup [tmA (z,s.2),.v (.bool false)])] [] [13])) ?_;(repeat' first|exact w_t|apply w_l);all_goals intros));refine⟨(i+1,l+1),⟨by simp only;omega,by simp only;omega,gW e0,gW e1,gW e2,gW e3,gS,gS,_,out,gW e9,gW em,by simp only;omega,hs⟩,by simp only;omega⟩
    ·rw [ZBu hz] at hs;rw [ZB3 (show ¬(s.1+t.1).num.sign=0 by rw [Zdv];exact hz)] at ca;clear st ms mt m1 m2 d1 d2;generalize (s.1+t.1)=z at *;(focus (refine wkad (w_12 e0 e1 e2 e3 e9 e10 e11 em hg hh @Zc6 @ZF2) (w_2 cl ca) (w_2 (w_d 4 [(9,iv 0)] [] []) (w_d 5 [(9,.tup [tmA (z,s.2),.v (.bool true)])] [] [13])) ?_;(repeat' first|exact w_t|apply w_l);all_goals intros));refine⟨(i+1,l+1),⟨by simp only;omega,by simp only;omega,gW e0,gW e1,gW e2,gW e3,gS,gS,_,out++[(z,s.2)],gC,by(simp (disch:=omega) only [go_sem,ZCp]<;>repeat' first|rfl|refine⟨?_,?_⟩),by simp only [ZCr,ZCd,ZCq];omega,by rw [hs,ZDd];rfl⟩,by simp only;omega⟩
   ·rw [ZBv h1] at hs;rw [h2] at cl;clear st ms mt m1 m2 d1 d2 ca;(focus (refine wkad (w_11 e0 e1 e2 e3 e9 e10 e11 em hg hh @Zc6) (w_1 cl) (w_1 (w_d 4 [(9,iv 1)] [] [])) ?_;(repeat' first|exact w_t|apply w_l);all_goals intros));refine⟨(i+1,l),⟨by simp only;omega,by simp only;omega,gW e0,gW e1,gW e2,gW e3,gS,gW e11,_,out++[s],gC,by(simp (disch:=omega) only [go_sem,ZCp]<;>repeat' first|rfl|refine⟨?_,?_⟩),by simp only [ZCr,ZCd,ZCq];omega,by rw [hs,ZDd];rfl⟩,by simp only;omega⟩
  ·rw [addM_end zo] at hs;rw [hs];clear hs;have tp:(p.map tmA).take p.length=p.map tmA:=by rw [←ZB2 (f:=tmA),ZDg]
   have tq:(q.map tmA).take q.length=q.map tmA:=by rw [←ZB2 (f:=tmA),ZDg]
   by_cases hi2:i < p.length
   ·have hl2:l=q.length:=zo;subst hl2;(focus (refine wkad (w_15 e0 e1 e2 e3 e9 e10 e11 em @Zc6 @l_drop @l_app @Zui @Nat.min_self tp tq) w_t w_t ?_;(repeat' first|exact w_t|apply w_l);all_goals intros))
    (all_goals (try simp (disch:=omega) only [go_sem,ZDd,tp,tq,ZB4,ZB3,ZBv,ZBu,Int.reduceAdd,Int.reduceSub,Int.reduceToNat,ZB9]));(all_goals first|done|rfl|(congr 2;first|done|omega|(rw [ZCk];simp only [bool_to_prop,ZB8,ZCt,ZCu,ZCv,ZCw];omega))|skip)
    all_goals exact ZDi (AV.sl 4) (by simp only [ZCp,List.map_drop])
   ·(focus (refine wkad (w_15 e0 e1 e2 e3 e9 e10 e11 em @Zc6 @l_drop @l_app @Zui @Nat.min_self tp tq) w_t w_t ?_;(repeat' first|exact w_t|apply w_l);all_goals intros))
    (all_goals (try simp (disch:=omega) only [go_sem,ZDd,tp,tq,ZB4,ZB3,ZBv,ZBu,Int.reduceAdd,Int.reduceSub,Int.reduceToNat,ZB9]));(all_goals first|done|rfl|(congr 2;first|done|omega|(rw [ZCk];simp only [bool_to_prop,ZB8,ZCt,ZCu,ZCv,ZCw];omega))|skip)
    all_goals exact ZDi (AV.sl 4) (by simp only [ZCp,List.map_drop])
 ·exact⟨ZB5 _,ZB5 _,gC,gC,gC,gC,gC,gC,_,[],gC,by(simp (disch:=omega) only [go_sem,ZDv,List.replicate_zero]<;>repeat' first|rfl|refine⟨?_,?_⟩),by simp,by simp⟩
theorem poAdd (p q:Po) {j k e:Nat} (hp:PK p j e) (hq:PK q k e) (sp:SrtM p) (sq:SrtM q) (lp:p.length≤1000000) (lq:q.length≤1000000) (hj:j≤1000000) (hk:k≤1000000) (he:e≤16777216) :
 Pure prog 107 [poA p,poA q] (poA (addM p q)):=by
 have c:=poMerge p q hp hq sp sq lp lq hj hk he;generalize addM p q=r at *;refine pI func107 rfl ntmps107 results107 call107 ?_;(focus (refine wklp w_t (w_1 c) w_t (w_r 0) ?_;(repeat' first|exact w_t|apply w_l);all_goals intros))
theorem poTimes1 {p:Po} {t:Tm} {i:Nat} (hi:i < p.length):Zc9 mulM (p.take (i+1)) t=Zc9 mulM (p.take i) t++[(p[i].1*t.1,mulM p[i].2 t.2)]:=by
 unfold Zc9;rw [ZEe hi,ZCp];rfl
theorem Zvk (p:Po) (t:Tm):(Zc9 mulM p t).length=p.length:=by unfold Zc9;simp
theorem poTimesN (p:Po) (t:Tm) (hn:t.2=[]) {j k e f:Nat} (hp:PK p j e) (ht:PK [t] k f) (sp:SrtM p) (h0:t.1≠0) (hd:Can t.2) (lp:p.length≤1000000) (hj:j≤1000000) (hk:k≤1000000) (he:e≤16777216) (hf:f≤16777216) :
 Pure prog 184 [poA p,.agg [.v (.bool (decide (t.1.num < 0))),lim (toL t.1.num.natAbs),lim (toL t.1.den),.v (.slice none 0 0)]] (poA (Zc9 mulM p t)):=by
 refine pI func184 rfl ntmps184 results184 call184 ?_;(focus (refine wkad (w_1 @Zc6) w_t w_t ?_;(repeat' first|exact w_t|apply w_l);all_goals intros));rename_i g3 sv0;refine Zad (ι:=Nat) (λi e m=>i≤p.length∧e 3=.pbox 3 g3 0∧m 3=some (.box g3 215 [.v (.bool (decide (t.1.num < 0))),lim (toL t.1.num.natAbs),lim (toL t.1.den),.v (.slice none 0 0)] false)∧e 12=poA p∧e 13=iv p.length∧e 14=iv i∧∃sv,e 5=.own 11 sv∧m 11=some (.row sv 215 4 ((Zc9 mulM (p.take i) t).map tmA) 0)) (λi=>p.length - i) 0 zr ?_ ?_
 ·rintro i e m ⟨hi,e3,m3,e12,e13,e14,sv,e5,m11⟩
  by_cases hlt:i < p.length
  ·have hg:=Zam tmA hlt;have hs:=poTimes1 (t:=t) hlt;have ms:=hp _ (ZB7 hlt);have m1:=hp.sm he (ZB7 hlt);have m2:=ht.sm hf (.head _);have d1:=sp.dom _ (ZB7 hlt);have n1:=(sp.1 _ (ZB7 hlt)).1;have mt:=(ht t (.head _)).1;have hl:(Zc9 mulM (p.take i) t).length≤1000000:=by rw [Zvk,ZCh];omega
   generalize p[i]=s at *;have c1:=Zyb s.1 t.1 ms.1 mt zo zo;have c2:=Zdd (s.1*t.1) (ms.1.mul mt) zo;have c3:Pure prog 242 [ivs s.2,ivs t.2] (ivs (Zj8 (mulM s.2 t.2))):=monMul s.2 t.2 m1.wd m2.wd;rw [trim_can (mulK.dom _ _ d1 hd)] at c3
   have nz:¬(s.1*t.1).num.sign=0:=by
    rw [Zdv];intro h;rcases Rat.mul_eq_zero.1 h with h | h
    ·exact n1 h
    ·exact h0 h
   have nz2:(!decide ((s.1*t.1).num.sign=0))=true:=by rw [ZB3 nz];rfl
   have c3:Pure prog 242 [ivs s.2,.v (.slice none 0 0)] (ivs (mulM s.2 t.2)):=by
    rw [hn] at c3 ⊢;exact Zir c3 (.cons (.refl _) (.cons (.nil 1) .nil))
   obtain⟨s1,s2⟩:=s;simp only at *;clear ms m1 m2 d1 n1 mt;generalize s1*t.1=z at *;generalize mulM s2 t.2=w at *;generalize Zc9 mulM (p.take i) t=out at *;(focus (refine wkad (w_10 e3 m3 e12 e13 e14 e5 m11 hg @Zc6 nz2) (w_3 c1 c2 c3) (w_1 (w_d 7 [(6,ivs w)] [9,1009] [11,34])) ?_;(repeat' first|exact w_t|apply w_l);all_goals intros));exact⟨i+1,⟨zo,gW e3,gW m3,gW e12,gW e13,gS,_,gC,by rw [hs,ZCp];exact gC⟩,zo⟩
  ·have hi2:i=p.length:=zo;subst hi2;rw [ZDg] at m11;(focus (refine wkld (w_8 e3 m3 e12 e13 e14 e5 m11 @Zc6) w_t (w_1 m11) w_t ?_;(repeat' first|exact w_t|apply w_l);all_goals intros))
 ·exact⟨ZB5 _,gC,gC,gC,by(simp (disch:=omega) only [go_sem,ZB2]<;>repeat' first|rfl|refine⟨?_,?_⟩),gC,_,gC,by(simp (disch:=omega) only [go_sem,ZFk,Zc9,ZDv,List.replicate_zero]<;>repeat' first|rfl|refine⟨?_,?_⟩)⟩
def SumOk (l:List Po) (K e:Nat):Prop:=∀a b,PK (sumH ltM ((l.drop a).take b)) K e∧(sumH ltM ((l.drop a).take b)).length≤1000000
theorem SumOk.take {l:List Po} {K e:Nat} (h:SumOk l K e) (k:Nat):SumOk (l.take k) K e:=λa b=>by
 rw [List.drop_take,List.take_take];exact h a _
theorem SumOk.drop {l:List Po} {K e:Nat} (h:SumOk l K e) (k:Nat):SumOk (l.drop k) K e:=λa b=>by
 rw [ZF5];exact h _ b
theorem SumOk.all {l:List Po} {K e:Nat} (h:SumOk l K e):PK (sumH ltM l) K e∧(sumH ltM l).length≤1000000:=by
 have:=h 0 l.length
 rwa [ZD9,ZDg] at this
def partsM (p q:Po):List Po:=if q.length < p.length then q.map λt=>Zc9 mulM p t else p.map λt=>Zc9 mulM q t
theorem SumOk.one {l:List Po} {K e:Nat} (hl:l.length≤1) (h:∀p∈l,PK p K e∧p.length≤1000000):SumOk l K e:=λa b=>by
 have h0:PK (sumH ltM []) K e∧(sumH ltM []).length≤1000000:=by rw [show sumH ltM []=[] from by simp [sumH]];exact⟨.nil,by simp⟩
 match l,hl,h with
 | [],_,_=>simpa using h0
 | [p],_,h =>
   match a,b with
   | 0,0=>simpa using h0
   | 0,b+1=>simp only [ZD9,ZHn,List.take_nil];rw [show sumH ltM [p]=p from by simp [sumH]];exact h p (.head _)
   | a+1,b=>simpa using h0
theorem Zrt (p:Po) (a:Rat) {j k e:Nat} (hp:PK p j e) (ha:Sz a k) (sp:SrtM p) (lp:p.length≤1000000) (hj:j≤1000000) (hk:k≤1000000) (he:e≤16777216):Pure prog 174 [poA p,ratQ a] (poA (sclM a p)):=by
 have cs:=Zdd a ha zo;unfold sclM;by_cases h:a=0
 ·rw [ZBv h];have hz:a.num.sign=0:=by rw [Zdv];exact h
  refine Zhk (r:=.v (.slice none 0 0)) ?_ (.nil 4);refine pI func174 rfl ntmps174 results174 call174 ?_;(focus (refine wklp (w_1 hz) (w_1 cs) w_t (w_r 0) ?_;(repeat' first|exact w_t|apply w_l);all_goals intros))
 ·rw [ZBu h];have hz:¬a.num.sign=0:=by rw [Zdv];exact h
  have ct:=poTimesN p (a,[]) rfl (j:=j) (k:=k) (e:=e) (f:=0) hp (λu hu=>by rw [ZFh] at hu;subst hu;exact⟨ha,by simp,λi=>by show 0≤gI [] i∧gI [] i≤_;rw [Zcw (ZB5 _)];omega⟩) sp h can_nil lp hj hk he zo;rw [Zvj] at ct;simp only at ct;generalize Zdf a p=r at *;generalize a.num.sign=z at *;refine pI func174 rfl ntmps174 results174 call174 ?_;(focus (refine wklp w_t (w_2 cs ct) w_t (w_r 0) ?_;(repeat' first|exact w_t|apply w_l);all_goals intros))
theorem poNeg (p:Po) {j e:Nat} (hp:PK p j e) (sp:SrtM p) (lp:p.length≤1000000) (hj:j≤1000000) (he:e≤16777216):Pure prog 175 [poA p] (poA (Zdf (-1) p)):=by
 have c:=Zrt p (-1) hp ((Zr4 1 zo).neg) sp lp hj zo he;have co:=ratOfM;rw [show sclM (-1) p=Zdf (-1) p from ZBu neg1] at c;generalize Zdf (-1) p=r at *;generalize (-1:Rat)=q at *;refine pI func175 rfl ntmps175 results175 call175 ?_;(focus (refine wklp w_t (w_2 co c) w_t (w_r 0) ?_;(repeat' first|exact w_t|apply w_l);all_goals intros))
theorem PK.neg {q:Po} {k e:Nat} (hq:PK q k e):PK (Zdf (-1) q) k e:=λt ht=>by
 obtain⟨s,hs,rfl⟩:=List.mem_map.1 ht;refine⟨?_,(hq s hs).2⟩;show Sz (s.1*-1) k;rw [show s.1*-1=-s.1 by grind];exact(hq s hs).1.neg
theorem Zk3 (a:Rat) (p:Po):(Zdf a p).length=p.length:=by unfold Zdf;simp
theorem poSub (p q:Po) {j k e:Nat} (hp:PK p j e) (hq:PK q k e) (sp:SrtM p) (sq:SrtM q) (lp:p.length≤1000000) (lq:q.length≤1000000) (hj:j≤1000000) (hk:k≤1000000) (he:e≤16777216) :
 Pure prog 239 [poA p,poA q] (poA (subM p q)):=by
 have c1:=poNeg q hq sq lq hk he;have c2:=poAdd p (Zdf (-1) q) hp hq.neg sp (Zgu sq neg1) lp (by rw [Zk3];exact lq) hj hk he;show Pure _ _ _ (poA (addM p (Zdf (-1) q)));generalize Zdf (-1) q=n at *;generalize addM p n=r at *;refine pI func239 rfl ntmps239 results239 call239 ?_;(focus (refine wklp w_t (w_2 c1 c2) w_t (w_r 0) ?_;(repeat' first|exact w_t|apply w_l);all_goals intros))
theorem unit_set (v:Nat):((List.replicate (v+1) (iv 0)).set v (iv 1))=(Zhw v).map iv:=by
 unfold Zhw;rw [ZCp,List.map_replicate,List.replicate_succ',List.set_append_right _ _ zs];simp
theorem poSingle (c:Rat) (m:List Int) (h:c≠0) {k:Nat} (hc:Sz c k) (hk:k≤1000000):Pure prog 179 [ratQ c,ivs m] (poA [(c,m)]):=by
 have cs:=Zdd c hc zo;have hz:¬c.num.sign=0:=by rw [Zdv];exact h
 generalize c.num.sign=z at *;refine pI func179 rfl ntmps179 results179 call179 ?_;(focus (refine wklp w_t (w_1 cs) w_t (w_r 0) ?_;(repeat' first|exact w_t|apply w_l);all_goals intros))
theorem poVar (v:Nat) (hv:v < 1000):Pure prog 181 [iv v] (poA (varM v)):=by
 unfold varM;by_cases h:v < 64
 ·rw [ZBv h];have c1:=Zpg 1 zo;rw [show((1:Nat):Rat)=1 from rfl] at c1;have c2:=poSingle 1 (Zhw v) zd (Zr4 1 zo) zo;have hu:(iv 0 :: List.replicate v (iv 0)).set v (iv 1)=(Zhw v).map iv:=by rw [←List.replicate_succ];exact unit_set v
  generalize (1:Rat)=q at *;have hl:(List.replicate (v+1) (iv 0)).length=v+1:=by simp
  refine pI func181 rfl ntmps181 results181 call181 ?_;(focus (refine wkax (w_2 hl hu) (w_1 c1) w_t (w_1 c2) w_t w_t w_y (w_r 0) ?_;(repeat' first|exact w_t|apply w_l);all_goals intros))
  (all_goals (try simp (disch:=omega) only [go_sem,ZB4,ZB3,ZBv,ZBu,Int.reduceAdd,Int.reduceSub,Int.reduceToNat,ZB9]));(all_goals first|done|rfl|(congr 2;first|done|omega|(rw [ZCk];simp only [bool_to_prop,ZB8,ZCt,ZCu,ZCv,ZCw];omega))|skip)
 ·rw [ZBu h];refine Zhk (r:=.v (.slice none 0 0)) ?_ (.nil 4);refine pI func181 rfl ntmps181 results181 call181 ?_;(focus (refine wklp w_t w_t w_t (w_r 0) ?_;(repeat' first|exact w_t|apply w_l);all_goals intros))
theorem qSign (q:Rat) {k:Nat} (h:Sz q k) (hk:k≤10000000):Pure prog 75 [ratQ q] (.v (.int .i64 q.num.sign)):=by
 have c:=zSign q.num (by have:=h.1;omega);have cn:=qNorm q h hk;generalize q.num.sign=z at *;refine pI func75 rfl ntmps75 results75 call75 ?_;exact wklp w_t (w_2 cn c) w_t (w_r 0) w_z
attribute [local go_sem] Zah Zaq Zai Bool.and_self Zal Zba Za9
abbrev QTs:=List (Rat × List Qt)
abbrev qpA (p:QTs):AV:=.sl 4 (p.map qtA)
abbrev Zbf (p q:QTs):QTs:=addP (λx y=>ordQ y x < 0) p q
def QK (p:QTs) (j n:Nat):Prop:=∀t∈p,Sz t.1 j∧t.2.length≤n
theorem QK.mono {p:QTs} {j n k m:Nat} (h:QK p j n) (hj:j≤k) (hn:n≤m):QK p k m:=λt ht=>⟨(h t ht).1.mono hj,ZB1 (h t ht).2 hn⟩
theorem Zzx {p q:QTs} {i k:Nat} (hi:i < p.length) (hk:k < q.length):Zbf (p.drop i) (q.drop k) =
 if ordQ p[i].2 q[k].2 < 0 then p[i] :: Zbf (p.drop (i+1)) (q.drop k) else if ordQ q[k].2 p[i].2 < 0 then q[k] :: Zbf (p.drop i) (q.drop (k+1))
 else if p[i].1+q[k].1=0 then Zbf (p.drop (i+1)) (q.drop (k+1)) else (p[i].1+q[k].1,p[i].2) :: Zbf (p.drop (i+1)) (q.drop (k+1)):=by
 rw [ZEi hi,ZEi hk];rw [show Zbf (p[i] :: p.drop (i+1)) (q[k] :: q.drop (k+1))=_ from by unfold Zbf;rw [addP]]
theorem Zi1 {p q:QTs} {i k:Nat} (h:p.length≤i∨q.length≤k):Zbf (p.drop i) (q.drop k)=p.drop i++q.drop k:=by
 rcases h with h | h
 ·rw [ZDo h];simp [Zbf,addP]
 ·rw [ZDo h,ZDf];exact Zos _
theorem join_QK {p q:QTs} {j k n:Nat} (hp:QK p j n) (hq:QK q k n):QK (Zbf p q) (j+k+1) n:=λt ht=>by
 rcases Zg1 ht with h | h | ⟨s,hs,u,hu,rfl⟩
 ·exact⟨(hp t h).1.mono zo,(hp t h).2⟩
 ·exact⟨(hq t h).1.mono zo,(hq t h).2⟩
 ·exact⟨(hp s hs).1.add (hq u hu).1,(hp s hs).2⟩
theorem Zyt (l m:List Qt):(ordQ l m=-1∧ordQ l m < 0)∨(ordQ l m=0∧¬ordQ l m < 0∧¬ordQ m l < 0)∨(ordQ l m=1∧¬ordQ l m < 0∧ordQ m l < 0):=by
 have hf:=Zbo.flip m l
 have h3:ordQ l m=-1∨ordQ l m=0∨ordQ l m=1:=by
  unfold ordQ ordL;split
  ·exact .inl rfl
  ·split
   ·exact .inr (.inr rfl)
   ·clear hf;rename_i h1 h2;clear h1 h2
    induction l generalizing m with
    | nil=>cases m<;>simp [lexL]
    | cons a l ih=>cases m with
      | nil=>simp [lexL]
      | cons b m =>
        rw [Zb8];split
        ·exact ih m
        ·rcases Zg7 a b with⟨h,_⟩ | ⟨h,_⟩ | ⟨h,_⟩
         ·exact .inl h
         ·exact .inr (.inl h)
         ·exact .inr (.inr h)
 rcases h3 with h | h | h
 ·exact .inl ⟨h,zo⟩
 ·exact .inr (.inl ⟨h,zo,zo⟩)
 ·exact .inr (.inr ⟨h,zo,zo⟩)
attribute [go_sem] underlying81 underlying39 underlying30 underlying40 underlying42 zFig zSlI zSlS zSlF
attribute [local go_sem] Zbu Za8 Zbx Zbe Zbg Zce Zbs Zbt Zcy Zch Zcg Zcf Zcz
theorem irRaw (s:Bool) (l:List Nat) (hl:Lm l) (hs:l.length≤100000000):Pure prog 113 [.agg [.v (.bool s),lim l]] (.v (.bool (RQ.zok s l))):=by
 unfold RQ.zok valL;by_cases h:l.length=0
 ·rw [ZB4 h,Bool.true_or,ZDn,ZGj];cases s
  ·refine pI func113 rfl ntmps113 results113 call113 ?_;exact wklp (w_1 @Za5) w_t w_t (w_r 0) w_z
  ·refine pI func113 rfl ntmps113 results113 call113 ?_;exact wklp (w_1 @Za5) w_t w_t (w_r 0) w_z
 ·rw [ZB3 h,Bool.false_or,ZGa,ZF2,ZGj];have ei:(l.length:Int) - 1=((l.length - 1:Nat):Int):=zo;have hlm:=Zb2 hl (l.length - 1);by_cases hg:gN l (l.length - 1)=0
  ·rw [ZB4 hg];cases s
   ·refine pI func113 rfl ntmps113 results113 call113 ?_;exact wklp (w_2 ei @Za5) w_t (w_1 @ZFz) (w_r 0) w_z
   ·refine pI func113 rfl ntmps113 results113 call113 ?_;exact wklp (w_2 ei @Za5) w_t (w_1 @ZFz) (w_r 0) w_z
  ·rw [ZB3 hg];cases s
   ·refine pI func113 rfl ntmps113 results113 call113 ?_;exact wklp (w_2 ei @Za5) w_t (w_1 @ZF2) (w_r 0) w_z
   ·refine pI func113 rfl ntmps113 results113 call113 ?_;exact wklp (w_2 ei @Za5) w_t (w_1 @ZF2) (w_r 0) w_z
theorem Zrh (r:RQ) (h:r.lm 100000000):Pure prog 62 [r.av] (.v (.bool r.ok)):=by
 obtain⟨s,l,d⟩:=r;obtain⟨h1,h2,h3,h4⟩:=h;simp only at h1 h2 h3 h4;have c1:=irRaw s l h1 h3;unfold RQ.ok;simp only;generalize RQ.zok s l=z at *;by_cases hd:d.length=0
 ·have:decide (0 < d.length)=false:=ZB3 zo;rw [this,ZGa];cases z
  ·refine pI func62 rfl ntmps62 results62 call62 ?_;exact wklp (w_1 @Za5) (w_1 c1) w_t (w_r 0) w_z
  ·refine pI func62 rfl ntmps62 results62 call62 ?_;exact wklp (w_1 @Za5) (w_1 c1) w_t (w_r 0) w_z
 ·have:decide (0 < d.length)=true:=ZB4 zo;rw [this,ZGj];have ei:(d.length:Int) - 1=((d.length - 1:Nat):Int):=zo;have hlm:=Zb2 h2 (d.length - 1)
  cases z with
  | false =>
    rw [ZCz,ZCz];refine pI func62 rfl ntmps62 results62 call62 ?_;exact wklp (w_1 @Za5) (w_1 c1) w_t (w_r 0) w_z
  | true =>
    rw [ZDn];by_cases hg:gN d (d.length - 1)=0
    ·have:valL d=false:=by unfold valL;rw [ZB3 hd,ZB4 hg];rfl
     rw [this,ZCz];refine pI func62 rfl ntmps62 results62 call62 ?_;exact wklp (w_2 ei @Za5) (w_1 c1) w_t (w_r 0) w_z
    ·have hv:valL d=true:=by unfold valL;rw [ZB3 hd,ZB3 hg];rfl
     rw [hv,ZDn];have hdt:=(Zin h2).1 hv;have l4:(toL (nv d)).length≤100000000:=by rw [←hdt];exact h4
     have c2:=Zla (nv d) l4;have c3:=natGcd l d zo zo h1 h2
     have n0:nv d≠0:=by
      intro h0;rw [h0,Zax] at hdt;rw [hdt] at hd;exact hd rfl
     have gl:(toL (Nat.gcd (nv l) (nv d))).length≤100000000:=ZB1 (Zd4 (Nat.gcd_le_right _ zo)) l4;have c4:=Zla (Nat.gcd (nv l) (nv d)) gl;rw [←hdt] at c2;have hb:(Nat.gcd (nv l) (nv d) == 1)=decide (Nat.gcd (nv l) (nv d)=1):=by rw [ZCk,ZDw,ZCs]
     rw [hb];by_cases h1d:nv d=1
     ·rw [ZB4 h1d] at c2;rw [ZB4 (show Nat.gcd (nv l) (nv d)=1 by rw [h1d,Nat.gcd_one_right])];clear c3 c4 hdt;refine pI func62 rfl ntmps62 results62 call62 ?_;exact wklp (w_2 ei @Za5) (w_2 c1 c2) (w_1 @decide_true) (w_r 0) w_z
     ·rw [ZB3 h1d] at c2;clear hdt hb gl;generalize decide (Nat.gcd (nv l) (nv d)=1)=v at *;generalize toL (Nat.gcd (nv l) (nv d))=lg' at *;refine pI func62 rfl ntmps62 results62 call62 ?_;exact wklp (w_2 ei @Za5) (w_4 c1 c2 c3 c4) w_t (w_r 0) w_z
theorem lwAr (k:Int):Pure prog 232 [iv k] (iv (arS k)):=by
 unfold arS;refine pI func232 rfl ntmps232 results232 call232 ?_;(focus (refine wklp w_t w_t w_t (w_r 0) ?_;(repeat' first|exact w_t|apply w_l);all_goals intros));all_goals (congr 2;repeat' split)
 all_goals (first|rfl|omega)
theorem lwNone (r:RQ):Pure prog 235 [r.av] (.v (.bool r.none)):=by
 obtain⟨s,l,d⟩:=r;unfold RQ.none;simp only;cases s
 ·refine pI func235 rfl ntmps235 results235 call235 ?_;(focus (refine wklp (w_1 @Za5) w_t w_t (w_r 0) ?_;(repeat' first|exact w_t|apply w_l);all_goals intros))
 ·refine pI func235 rfl ntmps235 results235 call235 ?_;(focus (refine wklp (w_1 @Za5) w_t w_t (w_r 0) ?_;(repeat' first|exact w_t|apply w_l);all_goals intros))
theorem rlAr (k:Int):Pure prog 252 [iv k] (iv (arS k)):=by
 unfold arS;refine pI func252 rfl ntmps252 results252 call252 ?_;exact wklp w_t w_t w_t (w_r 0) w_z;all_goals (congr 2;repeat' split)
 all_goals (first|rfl|omega)
theorem rlNone (r:RQ):Pure prog 253 [r.av] (.v (.bool r.none)):=by
 obtain⟨s,l,d⟩:=r;unfold RQ.none;simp only;cases s
 ·refine pI func253 rfl ntmps253 results253 call253 ?_;exact wklp (w_1 @Za5) w_t w_t (w_r 0) w_z
 ·refine pI func253 rfl ntmps253 results253 call253 ?_;exact wklp (w_1 @Za5) w_t w_t (w_r 0) w_z
theorem prAr (k:Int):Pure prog 61 [iv k] (iv (arG k)):=by
 unfold arG;refine pI func61 rfl ntmps61 results61 call61 ?_;(focus (refine wklp w_t w_t w_t (w_r 0) ?_;(repeat' first|exact w_t|apply w_l);all_goals intros));all_goals (congr 2;repeat' split)
 all_goals (first|rfl|omega)
theorem prNone (r:RQ):Pure prog 63 [r.av] (.v (.bool r.none)):=by
 obtain⟨s,l,d⟩:=r;unfold RQ.none;simp only;cases s
 ·refine pI func63 rfl ntmps63 results63 call63 ?_;(focus (refine wklp (w_1 @Za5) w_t w_t (w_r 0) ?_;(repeat' first|exact w_t|apply w_l);all_goals intros))
 ·refine pI func63 rfl ntmps63 results63 call63 ?_;(focus (refine wklp (w_1 @Za5) w_t w_t (w_r 0) ?_;(repeat' first|exact w_t|apply w_l);all_goals intros))
theorem rrAr (k:Int):Pure prog 70 [iv k] (iv (arG k)):=by
 unfold arG;refine pI func70 rfl ntmps70 results70 call70 ?_;exact wklp w_t w_t w_t (w_r 0) w_z;all_goals (congr 2;repeat' split)
 all_goals (first|rfl|omega)
theorem rrNone (r:RQ):Pure prog 72 [r.av] (.v (.bool r.none)):=by
 obtain⟨s,l,d⟩:=r;unfold RQ.none;simp only;cases s
 ·refine pI func72 rfl ntmps72 results72 call72 ?_;exact wklp (w_1 @Za5) w_t w_t (w_r 0) w_z
 ·refine pI func72 rfl ntmps72 results72 call72 ?_;exact wklp (w_1 @Za5) w_t w_t (w_r 0) w_z
theorem Zmz {α:Type} (F:α→Bool) (l:List α):∃n,n≤l.length∧(∀j (h:j < l.length),j < n→F l[j]=false)∧(∀h:n < l.length,F l[n]=true)∧l.any F=decide (n < l.length):=by
 induction l with
 | nil=>exact⟨0,by simp,by simp,by simp,by simp⟩
 | cons a l ih =>
   obtain⟨n,h1,h2,h3,h4⟩:=ih
   cases ha:F a with
   | true=>exact⟨0,by simp,λj h h'=>zo,λ_=>ha,by simp [ha]⟩
   | false =>
     refine⟨n+1,by simpa using h1,λj h h'=>?_,λh=>h3 (by simpa using h),by simp [ha,h4]⟩
     cases j with
     | zero=>exact ha
     | succ j=>exact h2 j (by simpa using h) zo
theorem ck1 (a i:Int):Pure prog 234 [iv a,.pimm [iv i]] (.v (.bool (decide (a < 0) || decide (i≤a)))):=by
 refine pI func234 rfl ntmps234 results234 call234 ?_;(focus (refine wklp w_t w_t w_t (w_r 0) ?_;(repeat' first|exact w_t|apply w_l);all_goals intros))
theorem slIdx1 (l:List Int) (i:Int) (hl:l.length≤1000000000):∃z:Int,Pure prog 275 [ivs l,.fn 234 [.pimm [iv i]]] (iv z)∧decide (0≤z)=outB i l:=by
 obtain⟨n,h1,h2,h3,h4⟩:=Zmz (λa=>decide (a < 0) || decide (i≤a)) l;refine⟨if n < l.length then (n:Int) else -1,?_,?_⟩
 ·refine pI func275 rfl ntmps275 results275 call275 ?_;(focus (refine wkap (w_1 @Zc6) w_t (w_r 0) ?_;(repeat' first|exact w_t|apply w_l);all_goals intros));refine Zad (ι:=Nat) (λk e m=>k≤n∧e 0=ivs l∧e 1=.fn 234 [.pimm [iv i]]∧e 7=iv l.length∧e 8=iv k) (λk=>n - k) 0 zr ?_ ?_
  ·rintro k e m ⟨hk,e0,e1,e7,e8⟩
   by_cases hlt:k < l.length
   ·have hg:=Zam iv hlt;by_cases hkn:k < n
    ·have hb:=h2 k hlt hkn;have c:=ck1 l[k] i;rw [hb] at c;clear hb;generalize l[k]=a at *;(focus (refine wkap (w_6 e0 e1 e7 e8 hg @Zc6) (w_1 c) (w_r 0) ?_;(repeat' first|exact w_t|apply w_l);all_goals intros));exact⟨k+1,⟨zo,gW e0,gW e1,gW e7,gS⟩,zo⟩
    ·have hkn:k=n:=zo;subst hkn;have hb:=h3 hlt;have c:=ck1 l[k] i;rw [hb] at c;rw [ZBv hlt];clear hb;generalize l[k]=a at *;(focus (refine wklp (w_6 e0 e1 e7 e8 hg @Zc6) (w_1 c) w_t (w_r 0) ?_;(repeat' first|exact w_t|apply w_l);all_goals intros))
   ·rw [ZBu zo];(focus (refine wklp (w_5 e0 e1 e7 e8 @Zc6) w_t w_t (w_r 0) ?_;(repeat' first|exact w_t|apply w_l);all_goals intros))
  ·exact⟨ZB5 _,gC,gC,by(simp (disch:=omega) only [go_sem,ZB2]<;>repeat' first|rfl|refine⟨?_,?_⟩),gC⟩
 ·unfold outB;rw [h4,ZCk,ZCs,ZCs];split<;>omega
theorem slCon1 (l:List Int) (i:Int) (hl:l.length≤1000000000):Pure prog 233 [ivs l,.fn 234 [.pimm [iv i]]] (.v (.bool (outB i l))):=by
 obtain⟨z,c,hz⟩:=slIdx1 l i hl;rw [←hz];refine pI func233 rfl ntmps233 results233 call233 ?_;(focus (refine wklp w_t (w_1 c) w_t (w_r 0) ?_;(repeat' first|exact w_t|apply w_l);all_goals intros))
theorem ck2 (t s:RS):Pure prog 238 [t.av,.pimm [iv s.k,strA s.nm,ivs s.ar,.v (.bool s.r.s),lim s.r.l,lim s.r.d]] (.v (.bool (t.nm.toList == s.nm.toList))):=by
 obtain⟨a,b,c,d⟩:=t;obtain⟨a',b',c',d'⟩:=s;refine pI func238 rfl ntmps238 results238 call238 ?_;(focus (refine wklp w_t w_t w_t (w_r 0) ?_;(repeat' first|exact w_t|apply w_l);all_goals intros))
theorem slIdx2 (l:List RS) (s:RS) (hl:l.length≤1000000000):∃z:Int,Pure prog 279 [.sl 6 (l.map RS.av),.fn 238 [.pimm [iv s.k,strA s.nm,ivs s.ar,.v (.bool s.r.s),lim s.r.l,lim s.r.d]]] (iv z)∧decide (0≤z)=l.any (λt=>t.nm.toList == s.nm.toList):=by
 obtain⟨n,h1,h2,h3,h4⟩:=Zmz (λt:RS=>t.nm.toList == s.nm.toList) l;refine⟨if n < l.length then (n:Int) else -1,?_,?_⟩
 ·refine pI func279 rfl ntmps279 results279 call279 ?_;(focus (refine wkap (w_1 @Zc6) w_t (w_r 0) ?_;(repeat' first|exact w_t|apply w_l);all_goals intros));refine Zad (ι:=Nat) (λk e m=>k≤n∧e 0=.sl 6 (l.map RS.av)∧e 1=.fn 238 [.pimm [iv s.k,strA s.nm,ivs s.ar,.v (.bool s.r.s),lim s.r.l,lim s.r.d]]∧e 7=iv l.length∧e 8=iv k) (λk=>n - k) 0 zr ?_ ?_
  ·rintro k e m ⟨hk,e0,e1,e7,e8⟩
   by_cases hlt:k < l.length
   ·have hg:=Zam RS.av hlt;by_cases hkn:k < n
    ·have hb:=h2 k hlt hkn;have c:=ck2 l[k] s;rw [hb] at c;clear hb;generalize l[k]=a at *;obtain⟨a1,a2,a3,a4⟩:=a;(focus (refine wkap (w_6 e0 e1 e7 e8 hg @Zc6) (w_1 c) (w_r 0) ?_;(repeat' first|exact w_t|apply w_l);all_goals intros));exact⟨k+1,⟨zo,gW e0,gW e1,gW e7,gS⟩,zo⟩
    ·have hkn:k=n:=zo;subst hkn;have hb:=h3 hlt;have c:=ck2 l[k] s;rw [hb] at c;rw [ZBv hlt];clear hb;generalize l[k]=a at *;obtain⟨a1,a2,a3,a4⟩:=a;(focus (refine wklp (w_6 e0 e1 e7 e8 hg @Zc6) (w_1 c) w_t (w_r 0) ?_;(repeat' first|exact w_t|apply w_l);all_goals intros))
   ·rw [ZBu zo];(focus (refine wklp (w_5 e0 e1 e7 e8 @Zc6) w_t w_t (w_r 0) ?_;(repeat' first|exact w_t|apply w_l);all_goals intros))
  ·exact⟨ZB5 _,gC,gC,by(simp (disch:=omega) only [go_sem,ZB2]<;>repeat' first|rfl|refine⟨?_,?_⟩),gC⟩
 ·rw [h4,ZCk,ZCs,ZCs];split<;>omega
theorem slCon2 (l:List RS) (s:RS) (hl:l.length≤1000000000):Pure prog 237 [.sl 6 (l.map RS.av),.fn 238 [.pimm [iv s.k,strA s.nm,ivs s.ar,.v (.bool s.r.s),lim s.r.l,lim s.r.d]]] (.v (.bool (l.any (λt=>t.nm.toList == s.nm.toList)))):=by
 obtain⟨z,c,hz⟩:=slIdx2 l s hl;rw [←hz];refine pI func237 rfl ntmps237 results237 call237 ?_;(focus (refine wklp w_t (w_1 c) w_t (w_r 0) ?_;(repeat' first|exact w_t|apply w_l);all_goals intros))
end Go.Proofs.YtkefeinbjbeidaaGreatDoor
