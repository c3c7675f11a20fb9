/- Contracts of the functions that the law reaches, and the rules by which they are walked. They say what a call hands back for every input within the bounds that each names; no other condition. -/
import Derived.Test.YtkefeinbjbeidaaGreatDoorBg6
import Derived.Laws.RangeString
import Derived.Lib.OthersKept
import Derived.Laws.Strings
set_option linter.unusedSimpArgs false
set_option linter.unusedVariables false
set_option maxRecDepth 20000
set_option maxHeartbeats 16000000
section
namespace Go.Pol
structure CO {α:Type} (cmp:α→α→Int):Prop where
 eqz:∀a b,cmp a b=0→a=b
 refl:∀a,cmp a a=0
 flip:∀a b,cmp a b < 0↔0 < cmp b a
 tr:∀a b c,cmp a b < 0→cmp b c < 0→cmp a c < 0
structure CP {α:Type} (cmp:α→α→Int):Prop where
 tr:∀{a b c},cmp a b≤0→cmp b c≤0→cmp a c≤0
 tot:∀a b,¬cmp a b < 0→cmp b a≤0
theorem CP.key {α β:Type} {cmp:α→α→Int} (o:CP cmp) (f:β→α):CP (λs t=>cmp (f s) (f t)):=⟨λh k=>o.tr h k,λ_ _ h=>o.tot _ _ h⟩
namespace CO
variable {α:Type} {cmp:α→α→Int}
theorem le_tr (o:CO cmp) {a b c:α} (h:cmp a b≤0) (k:cmp b c≤0):cmp a c≤0:=by
 by_cases h0:cmp a b=0
 ·rw [o.eqz a b h0];exact k
 ·by_cases k0:cmp b c=0
  ·rw [←o.eqz b c k0];exact h
  ·have:=o.tr a b c zo zo;omega
theorem le_total (o:CO cmp) (a b:α) (h:¬cmp a b < 0):cmp b a≤0:=by
 have:=(o.flip b a);have:=(o.flip a b);omega
theorem anti (o:CO cmp) {a b:α} (h:cmp a b≤0) (k:cmp b a≤0):a=b:=by
 refine o.eqz a b ?_;have:=(o.flip b a);have:=(o.flip a b);omega
theorem cp (o:CO cmp):CP cmp:=⟨λh k=>o.le_tr h k,o.le_total⟩
theorem ko (o:CO cmp):KO (λ_=>True) (λx y=>cmp y x < 0) where
 irr x h:=by rw [o.refl] at h;omega
 tr x y z h k:=o.tr z y x k h
 tri x y _ _:=by
  by_cases h:cmp y x < 0
  ·exact .inl h
  ·by_cases h0:cmp x y < 0
   ·exact .inr (.inr h0)
   ·exact .inr (.inl (o.eqz x y (by have:=o.flip y x;omega)))
end CO
section
variable {α:Type} (cmp:α→α→Int)
def Asc (l:List α):Prop:=l.Pairwise λa b=>cmp a b≤0
def insI (P:List α) (x:α):Nat→List α
 | 0=>x :: P
 | j+1=>if cmp x (P.getD j x) < 0 then insI P x j else P.take (j+1)++x :: P.drop (j+1)
def srtN (L:List α):Nat→List α
 | 0=>[]
 | n+1=>match L[n]? with
   | some x=>insI cmp (srtN L n) x (srtN L n).length
   | none=>srtN L n
def srtQ (L:List α):List α:=srtN cmp L L.length
variable {cmp}
theorem Zlg (P:List α) (x:α):∀j,j≤P.length→(∀t (h:t < P.length),j≤t→cmp x P[t] < 0)→∃k,k≤P.length∧insI cmp P x j=P.take k++x :: P.drop k∧(∀t (h:t < P.length),k≤t→cmp x P[t] < 0)∧∀t (h:t < P.length),t+1=k→¬cmp x P[t] < 0
 | 0,_,h=>⟨0,ZBx _,by simp [insI],h,λt ht e=>zo⟩
 | j+1,hj,h=>by
   have hg:P.getD j x=P[j]'zo:=by rw [ZB8,ZBz zo];rfl
   unfold insI;rw [hg];split
   ·rename_i hc;refine Zlg P x j zo λt ht hjt=>?_;by_cases e:t=j
    ·subst e;exact hc
    ·exact h t ht zo
   ·rename_i hc
    exact⟨j+1,hj,rfl,h,λt ht e=>by have:t=j:=zo
                                   subst this;exact hc⟩
theorem Zzm (P:List α) (x:α):(insI cmp P x P.length).Perm (x :: P):=by
 obtain⟨k,_,e,_⟩:=Zlg (cmp:=cmp) P x P.length (ZBp _) (λt h1 h2=>zo);rw [e];refine(List.perm_middle).trans ?_;rw [ZDs]
theorem insI_asc (o:CP cmp) {P:List α} (hP:Asc cmp P) (x:α):Asc cmp (insI cmp P x P.length):=by
 obtain⟨k,hk,e,h1,h2⟩:=Zlg (cmp:=cmp) P x P.length (ZBp _) (λt h1 h2=>zo);rw [e];unfold Asc at *;have hle:∀a∈P.take k,cmp a x≤0:=λa ha=>by
  obtain⟨t,ht,rfl⟩:=List.mem_iff_getElem.1 ha;rw [ZB9] at ht;rw [List.getElem_take];have hn:=h2 (k - 1) zo zo;have hlast:=o.tot _ _ hn;by_cases et:t=k - 1
  ·subst et;exact hlast
  ·exact o.tr (List.pairwise_iff_getElem.1 hP t (k - 1) zo zo zo) hlast
 have hge:∀b∈P.drop k,cmp x b≤0:=λb hb=>by
  obtain⟨t,ht,rfl⟩:=List.mem_iff_getElem.1 hb;rw [ZDo] at ht;rw [List.getElem_drop];have:=h1 (k+t) zo zo;omega
 refine List.pairwise_append.2 ⟨hP.sublist (List.take_sublist _ _),List.pairwise_cons.2 ⟨hge,hP.sublist (List.drop_sublist _ _)⟩,λa ha b hb=>?_⟩;rcases List.mem_cons.1 hb with rfl | hb
 ·exact hle a ha
 ·exact o.tr (hle a ha) (hge b hb)
theorem Zoy (L:List α):∀n,n≤L.length→(srtN cmp L n).Perm (L.take n)
 | 0,_=>by simp [srtN]
 | n+1,h=>by
   have hn:L[n]?=some (L[n]'zo):=ZBz zo;unfold srtN;rw [hn];simp only;rw [ZEq,hn];refine(Zzm _ _).trans ?_;refine(List.Perm.cons _ (Zoy L n zo)).trans ?_;simp only [Option.toList_some];exact(List.perm_append_singleton _ _).symm
theorem Zm7 (o:CP cmp) (L:List α):∀n,Asc cmp (srtN cmp L n)
 | 0=>.nil
 | n+1=>by
   unfold srtN;split
   ·exact insI_asc o (Zm7 o L n) _
   ·exact Zm7 o L n
theorem Za3 (L:List α):(srtQ cmp L).Perm L:=by
 have:=Zoy (cmp:=cmp) L L.length (ZBp _)
 rwa [ZDc] at this
theorem Zb5 (o:CP cmp) (L:List α):Asc cmp (srtQ cmp L):=Zm7 o L _
theorem srtQ_len (L:List α):(srtQ cmp L).length=L.length:=(Za3 L).length_eq
theorem Ze6 (o:CO cmp):∀{l m:List α},Asc cmp l→Asc cmp m→l.Perm m→l=m
 | [],m,_,_,p=>(List.nil_perm.1 p).symm
 | a :: l,[],_,_,p=>by have:=p.length_eq;simp at this
 | a :: l,b :: m,hl,hm,p=>by
   have hl':=List.pairwise_cons.1 hl;have hm':=List.pairwise_cons.1 hm
   have hab:a=b:=by
    have h1:a∈b :: m:=p.mem_iff.1 (.head _);have h2:b∈a :: l:=p.mem_iff.2 (.head _);rcases List.mem_cons.1 h1 with h | h1
    ·exact h
    ·rcases List.mem_cons.1 h2 with h | h2
     ·exact h.symm
     ·exact o.anti (hl'.1 b h2) (hm'.1 a h1)
   subst hab;rw [Ze6 o hl'.2 hm'.2 (List.Perm.cons_inv p)]
def putQ (cmp:α→α→Int):List α→α→List α
 | [],q=>[q]
 | a :: l,q=>if cmp a q≤0 then a :: putQ cmp l q else q :: a :: l
theorem Zfs (q:α):∀l:List α,(putQ cmp l q).Perm (q :: l)
 | []=>.refl _
 | a :: l=>by
   unfold putQ;split
   ·exact((Zfs q l).cons a).trans (.swap ..)
   ·exact .refl _
theorem Zkd (o:CP cmp) (q:α):∀{l:List α},Asc cmp l→Asc cmp (putQ cmp l q)
 | [],_=>ZGb ..
 | a :: l,h=>by
   have h':=List.pairwise_cons.1 h;unfold putQ;split
   ·rename_i hc;refine List.pairwise_cons.2 ⟨λb hb=>?_,Zkd o q h'.2⟩;rcases List.mem_cons.1 ((Zfs q l).mem_iff.1 hb) with rfl | hb
    ·exact hc
    ·exact h'.1 b hb
   ·rename_i hc;have hqa:cmp q a≤0:=o.tot a q zo;refine List.pairwise_cons.2 ⟨λb hb=>?_,h⟩;rcases List.mem_cons.1 hb with rfl | hb
    ·exact hqa
    ·exact o.tr hqa (h'.1 b hb)
theorem Zfm (L:List α):∀acc:List α,(L.foldl (putQ cmp) acc).Perm (L++acc):=by
 induction L with
 | nil=>intro acc;exact .refl _
 | cons a L ih =>
   intro acc;show(L.foldl (putQ cmp) (putQ cmp acc a)).Perm (a :: (L++acc));refine(ih _).trans (((Zfs a acc).append_left L).trans ?_);exact List.perm_middle
theorem Zn2 (o:CP cmp) (L:List α):∀acc:List α,Asc cmp acc→Asc cmp (L.foldl (putQ cmp) acc):=by
 induction L with
 | nil=>intro acc h;exact h
 | cons a L ih=>intro acc h;exact ih _ (Zkd o a h)
theorem Zp7 (o:CO cmp) (L:List α):L.foldl (putQ cmp) []=srtQ cmp L :=
 Ze6 o (Zn2 o.cp L [] .nil) (Zb5 o.cp L) (by
  have:=Zfm (cmp:=cmp) L [];rw [ZC4] at this;exact this.trans (Za3 L).symm)
end
section
variable {α:Type} (cmp:α→α→Int)
def lexL:List α→List α→Int
 | [],[]=>0
 | [],_ :: _=>-1
 | _ :: _,[]=>1
 | a :: l,b :: m=>if cmp a b=0 then lexL l m else cmp a b
def ordL (l m:List α):Int:=if l.length < m.length then -1 else if m.length < l.length then 1 else lexL cmp l m
variable {cmp}
theorem Zb8 (a b:α) (l m:List α):lexL cmp (a :: l) (b :: m)=if cmp a b=0 then lexL cmp l m else cmp a b:=rfl
theorem Znw (o:CO cmp):CO (lexL cmp) where
 eqz:=by
  intro l
  induction l with
  | nil=>intro m h;cases m with
    | nil=>rfl
    | cons b m=>exact absurd h (by simp [lexL])
  | cons a l ih=>intro m h;cases m with
    | nil=>exact absurd h (by simp [lexL])
    | cons b m =>
      unfold lexL at h;split at h
      ·rename_i h0;rw [o.eqz a b h0,ih m h]
      ·contradiction
 refl:=by
  intro l
  induction l with
  | nil=>rfl
  | cons a l ih=>unfold lexL;rw [ZBo (o.refl a)];exact ih
 flip:=by
  intro l
  induction l with
  | nil=>intro m;cases m<;>simp [lexL]
  | cons a l ih=>intro m;cases m with
    | nil=>simp [lexL]
    | cons b m =>
      have h1:=o.flip a b;have h2:=o.flip b a;unfold lexL;by_cases h:cmp a b=0
      ·rw [ZBo h,ZBo (by rw [o.eqz a b h];exact o.refl b)];exact ih m
      ·rw [ZBn h,ZBn zo];exact h1
 tr:=by
  intro l
  induction l with
  | nil=>intro m n h k;cases n with
    | nil=>cases m with
      | nil=>exact h
      | cons b m=>simp [lexL] at k
    | cons c n=>simp [lexL]
  | cons a l ih=>intro m n h k;cases m with
    | nil=>simp [lexL] at h
    | cons b m=>cases n with
      | nil=>simp [lexL] at k
      | cons c n =>
        rw [Zb8] at *;by_cases hab:cmp a b=0
        ·rw [ZBo hab] at h;by_cases hbc:cmp b c=0
         ·rw [ZBo hbc] at k;rw [ZBo (by rw [o.eqz a b hab,hbc])];exact ih m n h k
         ·rw [ZBn hbc] at k;rw [o.eqz a b hab,ZBn hbc];exact k
        ·rw [ZBn hab] at h;by_cases hbc:cmp b c=0
         ·rw [←o.eqz b c hbc,ZBn hab];exact h
         ·rw [ZBn hbc] at k;have:=o.tr a b c h k;rw [ZBn zo];exact this
theorem ordL_co (o:CO cmp):CO (ordL cmp) where
 eqz l m h:=by
  unfold ordL at h;split at h
  ·omega
  ·split at h
   ·omega
   ·exact(Znw o).eqz l m h
 refl l:=by unfold ordL;rw [ZBn zo,ZBn zo];exact(Znw o).refl l
 flip l m:=by
  have:=(Znw o).flip l m;unfold ordL;by_cases h1:l.length < m.length
  ·rw [ZBo h1,ZBn zo,ZBo h1];omega
  ·by_cases h2:m.length < l.length
   ·rw [ZBn h1,ZBo h2,ZBo h2];omega
   ·rw [ZBn h1,ZBn h2,ZBn h2,ZBn h1];exact this
 tr l m n h k:=by
  have:=(Znw o).tr l m n;unfold ordL at *;by_cases h1:l.length < m.length
  ·by_cases k1:m.length < n.length
   ·rw [ZBo zo];omega
   ·by_cases k2:n.length < m.length
    ·rw [ZBn k1,ZBo k2] at k;omega
    ·rw [ZBo zo];omega
  ·by_cases h2:m.length < l.length
   ·rw [ZBn h1,ZBo h2] at h;omega
   ·by_cases k1:m.length < n.length
    ·rw [ZBo zo];omega
    ·by_cases k2:n.length < m.length
     ·rw [ZBn k1,ZBo k2] at k;omega
     ·rw [ZBn h1,ZBn h2] at h;rw [ZBn k1,ZBn k2] at k;rw [ZBn zo,ZBn zo];exact this h k
end
section
variable {κ:Type} [DecidableEq κ]
def addC:List (Rat × κ)→Rat × κ→List (Rat × κ)
 | [],t=>[t]
 | s :: l,t=>if s.2=t.2 then (s.1+t.1,s.2) :: l else s :: addC l t
theorem cof_addC (l:List (Rat × κ)) (t:Rat × κ) (x:κ):cof (addC l t) x=cof l x+if t.2=x then t.1 else 0:=by
 induction l with
 | nil=>show(if t.2=x then t.1 else 0)+0=0+_;rw [Rat.add_comm]
 | cons s l ih =>
   unfold addC;split
   ·rename_i h;simp only [cof];rw [h];split<;>grind
   ·simp only [cof];rw [ih];grind
theorem addC_key {l:List (Rat × κ)} {t u:Rat × κ} (h:u∈addC l t):u.2=t.2∨∃s∈l,s.2=u.2:=by
 induction l with
 | nil=>rw [List.mem_singleton.1 h];exact .inl rfl
 | cons s l ih =>
   unfold addC at h;split at h
   ·rename_i e;rcases List.mem_cons.1 h with rfl | h
    ·exact .inl e
    ·exact .inr ⟨u,.tail _ h,rfl⟩
   ·rcases List.mem_cons.1 h with rfl | h
    ·exact .inr ⟨u,.head _,rfl⟩
    ·rcases ih h with h | ⟨s',h1,h2⟩
     ·exact .inl h
     ·exact .inr ⟨s',.tail _ h1,h2⟩
def Dst (l:List (Rat × κ)):Prop:=l.Pairwise λs t=>s.2≠t.2
theorem addC_dst {l:List (Rat × κ)} (h:Dst l) (t:Rat × κ):Dst (addC l t):=by
 induction l with
 | nil=>exact ZGb ..
 | cons s l ih =>
   have h':=List.pairwise_cons.1 h;unfold addC;split
   ·exact List.pairwise_cons.2 ⟨λu hu=>h'.1 u hu,h'.2⟩
   ·rename_i hne;refine List.pairwise_cons.2 ⟨λu hu=>?_,ih h'.2⟩;rcases addC_key hu with e | ⟨v,hv,e⟩
    ·rw [e];exact hne
    ·rw [←e];exact h'.1 v hv
theorem Zmt (l:List (Rat × κ)) (x:κ):cof (l.filter λt=>decide (t.1≠0)) x=cof l x:=by
 induction l with
 | nil=>rfl
 | cons t l ih =>
   rw [ZEv];split
   ·simp only [cof];rw [ih]
   ·rename_i h;have h0:t.1=0:=by simpa using h
    simp only [cof];rw [ih,h0];grind
theorem cof_perm {l m:List (Rat × κ)} (h:l.Perm m) (x:κ):cof l x=cof m x:=by
 induction h with
 | nil=>rfl
 | cons a _ ih=>simp only [cof];rw [ih]
 | swap a b l=>simp only [cof];grind
 | trans _ _ ih1 ih2=>rw [ih1,ih2]
end
section
variable {κ:Type} (cmp:κ→κ→Int)
def sumG (l:List (Rat × κ)):List (Rat × κ):=sumH (λx y=>cmp y x < 0) (l.map λt=>if t.1=0 then [] else [t])
variable {cmp}
theorem Zm8 (o:CO cmp):∀{l:List (Rat × κ)},Dst l→(srtQ (λs t:Rat × κ=>cmp s.2 t.2) l).Pairwise λs t=>cmp s.2 t.2 < 0:=by
 intro l hd;have hp:=Za3 (cmp:=λs t:Rat × κ=>cmp s.2 t.2) l
 have hd2:Dst (srtQ (λs t:Rat × κ=>cmp s.2 t.2) l):=by
  refine(List.Perm.pairwise_iff ?_ hp).2 hd;intro a b h e;exact h e.symm
 have ha:(srtQ (λs t:Rat × κ=>cmp s.2 t.2) l).Pairwise λs t=>cmp s.2 t.2≤0:=Zb5 (o.cp.key λs:Rat × κ=>s.2) l;exact(ha.and hd2).imp λ{a b} h=>by
  obtain⟨h1,h2⟩:=h;by_cases h0:cmp a.2 b.2=0
  ·exact absurd (o.eqz _ _ h0) h2
  ·omega
theorem Zl8 (l:List (Rat × κ)):∀p∈l.map (λt=>if t.1=0 then [] else [t]),Srt (λ_=>True) (λx y=>cmp y x < 0) p:=λp hp=>by
 obtain⟨t,_,rfl⟩:=List.mem_map.1 hp;split
 ·exact .nil
 ·rename_i h;exact Srt.nil.cons h trivial (λu hu=>by cases hu)
theorem Zm3 (o:CO cmp) (l:List (Rat × κ)):Srt (λ_=>True) (λx y=>cmp y x < 0) (sumG cmp l):=Zhb o.ko _ (Zl8 l)
end
section
variable {κ:Type} [DecidableEq κ]
variable (cmp:κ→κ→Int)
def sumC (l:List (Rat × κ)):List (Rat × κ):=srtQ (λs t=>cmp s.2 t.2) ((l.foldl addC []).filter λt=>decide (t.1≠0))
variable {cmp}
theorem Zlz (L:List (Rat × κ)) (x:κ):∀acc:List (Rat × κ),cof (L.foldl addC acc) x=cof acc x+cof L x:=by
 induction L with
 | nil=>intro acc;show cof acc x=cof acc x+0;rw [ZDx]
 | cons t L ih =>
   intro acc;show cof (L.foldl addC (addC acc t)) x=cof acc x+((if t.2=x then t.1 else 0)+cof L x);rw [ih,cof_addC,Rat.add_assoc]
theorem Zfn (L:List (Rat × κ)):∀acc:List (Rat × κ),Dst acc→Dst (L.foldl addC acc):=by
 induction L with
 | nil=>intro acc h;exact h
 | cons t L ih=>intro acc h;exact ih _ (addC_dst h t)
theorem sumC_srt (o:CO cmp) (l:List (Rat × κ)):Srt (λ_=>True) (λx y=>cmp y x < 0) (sumC cmp l):=by
 have hd:Dst ((l.foldl addC []).filter λt=>decide (t.1≠0)):=List.Pairwise.sublist (List.filter_sublist ..) (Zfn l [] .nil);refine⟨λt ht=>⟨?_,trivial⟩,Zm8 o hd⟩;have:=((Za3 _).mem_iff.1 ht);have:=(List.mem_filter.1 this).2;exact ZGz this
theorem sumC_cof (l:List (Rat × κ)) (x:κ):cof (sumC cmp l) x=cof l x:=by
 unfold sumC;rw [cof_perm (Za3 _),Zmt,Zlz];show 0+_=_;rw [ZFz]
theorem Zm4 (o:CO cmp) (l:List (Rat × κ)) (x:κ):cof (sumG cmp l) x=cof l x:=by
 unfold sumG;rw [sumH_cof o.ko x _ (Zl8 l)]
 induction l with
 | nil=>rfl
 | cons t l ih =>
   show cof _ x+cofL (l.map _) x=(if t.2=x then t.1 else 0)+cof l x;rw [ih];congr 1;show cof (if t.1=0 then [] else [t]) x=_;by_cases h:t.1=0
   ·rw [ZBo h,h];show(0:Rat)=_;split<;>rfl
   ·rw [ZBn h];show _+(0:Rat)=_;rw [ZDx]
theorem Zm5 (o:CO cmp) (l:List (Rat × κ)):sumC cmp l=sumG cmp l:=Zi8 o.ko (sumC_srt o l) (Zm3 o l) λx=>by rw [sumC_cof,Zm4 o]
end
end Go.Pol
end
namespace Go.Proofs.YtkefeinbjbeidaaGreatDoor
open Go Go.RowKit Go.Pg Go.Pol Go.Proofs.Tryz
attribute [-bool_to_prop] Bool.and_eq_decide Bool.or_eq_decide Bool.decide_beq_decide decide_eq_decide
attribute [go_sem] zSlQ
attribute [local go_sem] Za7 Zbw Zag Zar Zah Bool.and_self Zal Zl4 Zux Zbb
abbrev qsA (l:List Qt):AV:=.sl 4 (l.map Qt.av)
def LTq (p q:Qt):Prop:=p.k < q.k∨(p.k=q.k∧(p.a < q.a∨(p.a=q.a∧(p.b < q.b∨(p.b=q.b∧p.c < q.c)))))
theorem Zhi (x y:Int):(ordI x y=-1∧x < y)∨(ordI x y=0∧x=y)∨(ordI x y=1∧y < x):=by
 unfold ordI;split
 ·exact .inl ⟨rfl,zo⟩
 ·split
  ·exact .inr (.inr ⟨rfl,zo⟩)
  ·exact .inr (.inl ⟨rfl,zo⟩)
theorem Zg4 (p q:Qt):(Qt.cmp p q=-1∧LTq p q)∨(Qt.cmp p q=0∧p=q)∨(Qt.cmp p q=1∧LTq q p):=by
 obtain⟨k,a,b,c⟩:=p;obtain⟨k',a',b',c'⟩:=q;unfold Qt.cmp or4 LTq;simp only;rcases Zhi k k' with⟨h,g⟩ | ⟨h,g⟩ | ⟨h,g⟩
 ·rw [h];exact .inl ⟨rfl,zo⟩
 ·rw [h];rcases Zhi a a' with⟨i,f⟩ | ⟨i,f⟩ | ⟨i,f⟩
  ·rw [i];exact .inl ⟨rfl,zo⟩
  ·rw [i];rcases Zhi b b' with⟨j,e⟩ | ⟨j,e⟩ | ⟨j,e⟩
   ·rw [j];exact .inl ⟨rfl,zo⟩
   ·rw [j];rcases Zhi c c' with⟨m,d⟩ | ⟨m,d⟩ | ⟨m,d⟩
    ·rw [m];exact .inl ⟨rfl,zo⟩
    ·rw [m];exact .inr (.inl ⟨rfl,by rw [g,f,e,d]⟩)
    ·rw [m];exact .inr (.inr ⟨rfl,zo⟩)
   ·rw [j];exact .inr (.inr ⟨rfl,zo⟩)
  ·rw [i];exact .inr (.inr ⟨rfl,zo⟩)
 ·rw [h];exact .inr (.inr ⟨rfl,zo⟩)
theorem LTq.asymm {p q:Qt} (h:LTq p q) (k:LTq q p):False:=by unfold LTq at *;omega
theorem LTq.irr {p:Qt} (h:LTq p p):False:=h.asymm h
theorem cmp_lt (p q:Qt):Qt.cmp p q < 0↔LTq p q:=by
 rcases Zg4 p q with⟨h,g⟩ | ⟨h,g⟩ | ⟨h,g⟩
 ·rw [h];exact⟨λ_=>g,λ_=>zo⟩
 ·rw [h];exact⟨λe=>zo,λe=>by rw [g] at e;exact e.irr.elim⟩
 ·rw [h];exact⟨λe=>zo,λe=>(g.asymm e).elim⟩
theorem cmp_gt (p q:Qt):0 < Qt.cmp p q↔LTq q p:=by
 rcases Zg4 p q with⟨h,g⟩ | ⟨h,g⟩ | ⟨h,g⟩
 ·rw [h];exact⟨λe=>zo,λe=>(g.asymm e).elim⟩
 ·rw [h];exact⟨λe=>zo,λe=>by rw [g] at e;exact e.irr.elim⟩
 ·rw [h];exact⟨λ_=>g,λ_=>zo⟩
theorem qtO:CO Qt.cmp where
 eqz p q h:=by
  rcases Zg4 p q with⟨e,_⟩ | ⟨_,g⟩ | ⟨e,_⟩
  ·omega
  ·exact g
  ·omega
 refl p:=by
  rcases Zg4 p p with⟨_,g⟩ | ⟨e,_⟩ | ⟨_,g⟩
  ·exact g.irr.elim
  ·exact e
  ·exact g.irr.elim
 flip p q:=by rw [cmp_lt,cmp_gt]
 tr p q r h k:=by rw [cmp_lt] at *;unfold LTq at *;omega
abbrev ordQ:List Qt→List Qt→Int:=ordL Qt.cmp
theorem Zbq:CO ordQ:=ordL_co qtO
abbrev w8 (n:Int):Int:=IntKind.u8.wrap n
def keyN (l:List Qt):List Int:=l.flatMap λq=>[w8 q.k,w8 q.a,w8 q.b,w8 q.c]
def keyS (l:List Qt):ByteArray:=Zgk (keyN l)
abbrev u8A (n:Int):AV:=.v (.int .u8 n)
theorem Zwj (l:List Int):Zm1 (l.map u8A)=some l:=by
 induction l with
 | nil=>rfl
 | cons a l ih=>show(Zm1 (l.map u8A)).map (a :: ·)=_;rw [ih];rfl
theorem Zzj (l:List Qt) (q:Qt):keyN (l++[q])=keyN l++[w8 q.k,w8 q.a,w8 q.b,w8 q.c]:=by unfold keyN;rw [ZHf];simp
theorem Ziv (l:List Qt):(keyN l).length=4*l.length:=by
 induction l with
 | nil=>rfl
 | cons a l ih =>
   show([_,_,_,_]++keyN l).length=_;rw [ZCh,ih];simp only [ZB2,ZCe];omega
theorem Zq2 (ns:List Int):(Zgk ns).data.toList=ns.map λn=>UInt8.ofNat n.toNat:=by
 have key:∀(ns:List Int) (acc:ByteArray),(ns.foldl (λr n=>r.push (UInt8.ofNat n.toNat)) acc).data.toList=acc.data.toList++ns.map λn=>UInt8.ofNat n.toNat:=by
  intro ns
  induction ns with
  | nil=>intro acc;simp
  | cons n ns ih=>intro acc;rw [ZGh,ih];simp [ByteArray.push]
 unfold Zgk;rw [key];rfl
theorem Zoo {n:Int} (h0:0≤n) (h1:n < 256):w8 n=n:=by unfold w8 IntKind.wrap;simp [IntKind.signed,IntKind.bits];omega
def Qt.b8 (q:Qt):Prop:=(0≤q.k∧q.k < 256)∧(0≤q.a∧q.a < 256)∧(0≤q.b∧q.b < 256)∧0≤q.c∧q.c < 256
theorem ok_b8 {q:Qt} (h:q.ok=true):q.b8:=by
 unfold Qt.ok at h;have h:=ZGz h;unfold Qt.b8;omega
theorem Zt3:∀{l m:List Qt},(∀q∈l,q.b8)→(∀q∈m,q.b8)→keyN l=keyN m→l=m
 | [],[],_,_,_=>rfl
 | [],b :: m,_,_,h=>by have:=ZDt List.length h;rw [Ziv,Ziv] at this;simp at this
 | a :: l,[],_,_,h=>by have:=ZDt List.length h;rw [Ziv,Ziv] at this;simp at this
 | a :: l,b :: m,hl,hm,h=>by
   have h:w8 a.k :: w8 a.a :: w8 a.b :: w8 a.c :: keyN l=w8 b.k :: w8 b.a :: w8 b.b :: w8 b.c :: keyN m:=h;simp only [List.cons.injEq] at h;obtain⟨h1,h2,h3,h4,h5⟩:=h;obtain⟨⟨a1,a2⟩,⟨a3,a4⟩,⟨a5,a6⟩,a7,a8⟩:=hl a (.head _);obtain⟨⟨b1,b2⟩,⟨b3,b4⟩,⟨b5,b6⟩,b7,b8⟩:=hm b (.head _);rw [Zoo a1 a2,Zoo b1 b2] at h1;rw [Zoo a3 a4,Zoo b3 b4] at h2;rw [Zoo a5 a6,Zoo b5 b6] at h3;rw [Zoo a7 a8,Zoo b7 b8] at h4;rw [Zt3 (λq hq=>hl q (.tail _ hq)) (λq hq=>hm q (.tail _ hq)) h5];congr 1;obtain⟨_,_,_,_⟩:=a;obtain⟨_,_,_,_⟩:=b;simp only at h1 h2 h3 h4;rw [h1,h2,h3,h4]
theorem keyN_b (l:List Qt):∀n∈keyN l,0≤n∧n < 256:=by
 have hw:∀n,0≤w8 n∧w8 n < 256:=λn=>by unfold w8 IntKind.wrap;simp [IntKind.signed,IntKind.bits];omega
 intro n hn;unfold keyN at hn;simp only [List.mem_flatMap,ZFb,List.not_mem_nil,or_false] at hn;obtain⟨q,_,h | h | h | h⟩:=hn<;>(rw [h];exact hw _)
theorem Zqj:∀{a b:List Int},(∀n∈a,0≤n∧n < 256)→(∀n∈b,0≤n∧n < 256)→(a.map λn:Int=>UInt8.ofNat n.toNat)=(b.map λn:Int=>UInt8.ofNat n.toNat)→a=b
 | [],[],_,_,_=>rfl
 | [],_ :: _,_,_,h=>by simp at h
 | _ :: _,[],_,_,h=>by simp at h
 | x :: a,y :: b,ha,hb,h=>by
   simp only [ZCs,List.cons.injEq] at h;obtain⟨h1,h2⟩:=h;obtain⟨x0,x1⟩:=ha x (.head _);obtain⟨y0,y1⟩:=hb y (.head _);have e:=ZDt UInt8.toNat h1;simp only [UInt8.toNat_ofNat'] at e;have:x=y:=zo;rw [this,Zqj (λn hn=>ha n (.tail _ hn)) (λn hn=>hb n (.tail _ hn)) h2]
theorem Zt2 {l m:List Qt} (hl:∀q∈l,q.b8) (hm:∀q∈m,q.b8) (h:keyS l=keyS m):l=m:=by
 refine Zt3 hl hm (Zqj (keyN_b l) (keyN_b m) ?_);have:=ZDt (λs:ByteArray=>s.data.toList) h;simp only [keyS,Zq2] at this;exact this
theorem qt_at {l:List Qt} {j:Nat} (h:j < l.length):(l.map Qt.av).getD j .u=Qt.av (l.getD j Qt.zero):=Zp5 h
theorem exKey (l:List Qt) (hl:l.length≤1000):Pure prog 195 [qsA l] (strA (keyS l)):=by
 have hlm:(l.map Qt.av).length=l.length:=ZBr ..;have hg:∀j,j < l.length→(l.map Qt.av).getD j .u=Qt.av (l.getD j Qt.zero):=λj h=>qt_at h;have hz:(4*(l.length:Int)).toNat=4*l.length:=zo;show Pure _ _ [.sl 4 (l.map Qt.av)] _;generalize l.map Qt.av=M at *;refine pI func195 rfl ntmps195 results195 call195 ?_
 (refine wkap (w_2 hlm hz) w_t (w_r 0) (w_s ?_);intros)
 refine Zad (ι:=Nat) (λi e m=>i≤l.length∧(∃sv,e 3=.own 9 sv∧m 9=some (.row sv 5 1 ((keyN (l.take i)).map u8A) 0))∧e 10=.sl 4 M∧e 11=iv l.length∧e 12=iv i) (λi=>l.length - i) 0 zr ?_ ?_
 ·rintro i e m ⟨hi,⟨sv,e3,m9⟩,e10,e11,e12⟩
  by_cases hlt:i < l.length
  ·have hgi:=hg i hlt
   have hs:keyN (l.take (i+1))=keyN (l.take i)++[w8 (l.getD i Qt.zero).k,w8 (l.getD i Qt.zero).a,w8 (l.getD i Qt.zero).b,w8 (l.getD i Qt.zero).c]:=by
    rw [ZEq,ZBz hlt,ZB8,ZBz hlt];exact Zzj _ _
   have hkl:((keyN (l.take i)).map u8A).length=4*i:=by rw [ZBr,Ziv,ZB9];omega
   have hma:(keyN (l.take (i+1))).map u8A=(keyN (l.take i)).map u8A++[u8A (w8 (l.getD i Qt.zero).k),u8A (w8 (l.getD i Qt.zero).a),u8A (w8 (l.getD i Qt.zero).b),u8A (w8 (l.getD i Qt.zero).c)]:=by rw [hs,ZCb];rfl
   clear hg hs;generalize (keyN (l.take i)).map u8A=K at *;generalize l.getD i Qt.zero=q at *;obtain⟨k,a,b,c⟩:=q;simp only at *
   (refine wkap (w_8 e3 m9 e10 e11 e12 hlm hgi hkl) w_t (w_r 0) (w_s ?_);intros)
   exact⟨i+1,⟨zo,⟨_,gC,by rw [hma];exact gC⟩,gW e10,gW e11,gS⟩,zo⟩
  ·have hil:i=l.length:=zo;subst hil;have hu:Zm1 ((keyN l).map u8A)=some (keyN l):=Zwj _;rw [ZDc] at m9;unfold keyS;generalize (keyN l).map u8A=K at *
   (refine wkap (w_6 e3 m9 e10 e11 e12 hu) w_t (w_r 0) (w_s ?_);intros)
   all_goals exact gL
 ·exact⟨ZBx _,⟨_,gC,gC⟩,gC,gW hlm,gC⟩
attribute [go_sem] underlying78 underlying33 underlying34 szQT byQT zQT zSlT szQP zQP
attribute [local go_sem] Za8
theorem Zy9 {α:Type} {cmp:α→α→Int} {l m:List α} {i:Nat} (hl:i < l.length) (hm:i < m.length):lexL cmp (l.drop i) (m.drop i)=if cmp l[i] m[i]=0 then lexL cmp (l.drop (i+1)) (m.drop (i+1)) else cmp l[i] m[i]:=by
 rw [ZDl hl,ZDl hm,Zb8]
abbrev ordT (s t:Rat × List Qt):Int:=ordQ s.2 t.2
abbrev qtA (t:Rat × List Qt):AV:=.agg [.v (.bool (decide (t.1.num < 0))),lim (toL t.1.num.natAbs),lim (toL t.1.den),qsA t.2]
theorem slCmpQ (l m:List Qt) (hl:l.length≤1000000) (he:l.length=m.length):Pure prog 248 [qsA l,qsA m,.fn 164 []] (iv (lexL Qt.cmp l m)):=by
 have hlm:(l.map Qt.av).length=l.length:=ZBr ..;have hmm:(m.map Qt.av).length=l.length:=by rw [ZBr];omega
 have hgl:∀j (h:j < l.length),(l.map Qt.av).getD j .u=Qt.av l[j]:=λj h=>Zao Qt.av h;have hgm:∀j (h:j < m.length),(m.map Qt.av).getD j .u=Qt.av m[j]:=λj h=>Zao Qt.av h;show Pure _ _ [.sl 4 (l.map Qt.av),.sl 4 (m.map Qt.av),.fn 164 []] _;generalize l.map Qt.av=A at *;generalize m.map Qt.av=B at *;refine pI func248 rfl ntmps248 results248 call248 ?_
 (refine wkap (w_2 hlm hmm) w_t (w_r 0) (w_s ?_);intros)
 refine Zad (ι:=Nat) (λi e _=>i≤l.length∧lexL Qt.cmp l m=lexL Qt.cmp (l.drop i) (m.drop i)∧e 0=.sl 4 A∧e 1=.sl 4 B∧e 2=.fn 164 []∧e 11=.sl 4 A∧e 12=iv l.length∧e 13=iv i) (λi=>l.length - i) 0 zr ?_ ?_
 ·rintro i e m' ⟨hi,hx,e0,e1,e2,e11,e12,e13⟩
  by_cases hlt:i < l.length
  ·have g1:=hgl i hlt;have g2:=hgm i zo;have hs:=Zy9 (cmp:=Qt.cmp) hlt (show i < m.length by omega);have cc:=quCmp l[i].k l[i].a l[i].b l[i].c (m[i]'zo).k (m[i]'zo).a (m[i]'zo).b (m[i]'zo).c;rw [hx,hs];clear hgl hgm;by_cases hz:Qt.cmp l[i] (m[i]'zo)=0
   ·rw [ZBo hz];have hx2:lexL Qt.cmp l m=lexL Qt.cmp (l.drop (i+1)) (m.drop (i+1)):=by rw [hx,hs,ZBo hz]
    clear hx hs;rw [←hx2];generalize l[i]=x at *;generalize m[i]'zo=y at *;obtain⟨x1,x2,x3,x4⟩:=x;obtain⟨y1,y2,y3,y4⟩:=y;simp only at *;rw [hz] at cc
    (refine wkap (w_10 e0 e1 e2 e11 e12 e13 hlm hmm g1 g2) (w_1 cc) (w_r 0) (w_s ?_);intros)
    exact⟨i+1,⟨zo,hx2,gW e0,gW e1,gW e2,gW e11,gW e12,gS⟩,zo⟩
   ·rw [ZBn hz];clear hx hs;generalize l[i]=x at *;generalize m[i]'zo=y at *;obtain⟨x1,x2,x3,x4⟩:=x;obtain⟨y1,y2,y3,y4⟩:=y;simp only at *;generalize Qt.cmp _ _=z at *
    (refine wkap (w_10 e0 e1 e2 e11 e12 e13 hlm hmm g1 g2) (w_1 cc) (w_r 0) (w_s ?_);intros)
    all_goals exact gL
  ·have hil:i=l.length:=zo;subst hil;rw [hx,ZD4 (ZBp _),ZD4 zo];show _;clear hgl hgm hx
   (refine wkap (w_8 e0 e1 e2 e11 e12 e13 hlm hmm) w_t (w_r 0) (w_s ?_);intros)
   all_goals (all_goals (try simp (disch:=omega) only [go_sem,lexL,ZBw,ZBy,ZBo,ZBn,Int.reduceAdd,Int.reduceSub,Int.reduceToNat,ZB3]));(all_goals first|done|rfl|(congr 2;first|done|omega|(rw [ZCf];simp only [bool_to_prop,ZB1,ZCl,ZCm,ZCn,ZCo];omega))|skip)
 ·exact⟨ZBx _,rfl,gC,gC,gC,gC,gW hlm,gC⟩
theorem exCmpP (l m:List Qt) (hl:l.length≤1000000) (hm:m.length≤1000000):Pure prog 194 [qsA l,qsA m] (iv (ordQ l m)):=by
 have hlm:(l.map Qt.av).length=l.length:=ZBr ..;have hmm:(m.map Qt.av).length=m.length:=ZBr ..;unfold ordQ ordL;by_cases h1:l.length < m.length
 ·rw [ZBo h1];show Pure _ _ [.sl 4 (l.map Qt.av),.sl 4 (m.map Qt.av)] _;generalize l.map Qt.av=A at *;generalize m.map Qt.av=B at *;refine pI func194 rfl ntmps194 results194 call194 ?_
  (refine wkap (w_2 hlm hmm) w_t (w_r 0) (w_s ?_);intros)
  all_goals exact gL
 ·by_cases h2:m.length < l.length
  ·rw [ZBn h1,ZBo h2];show Pure _ _ [.sl 4 (l.map Qt.av),.sl 4 (m.map Qt.av)] _;generalize l.map Qt.av=A at *;generalize m.map Qt.av=B at *;refine pI func194 rfl ntmps194 results194 call194 ?_
   (refine wkap (w_2 hlm hmm) w_t (w_r 0) (w_s ?_);intros)
   all_goals exact gL
  ·rw [ZBn h1,ZBn h2];have cc:=slCmpQ l m hl zo;show Pure _ _ [.sl 4 (l.map Qt.av),.sl 4 (m.map Qt.av)] _;generalize lexL Qt.cmp l m=z at *;have cc:Pure prog 248 [.sl 4 (l.map Qt.av),.sl 4 (m.map Qt.av),.fn 164 []] (iv z):=cc;generalize l.map Qt.av=A at *;generalize m.map Qt.av=B at *;refine pI func194 rfl ntmps194 results194 call194 ?_
   (refine wkap (w_2 hlm hmm) (w_1 cc) (w_r 0) (w_s ?_);intros)
   all_goals exact gL
theorem exCmpT (s t:Rat × List Qt) (hl:s.2.length≤1000000) (hm:t.2.length≤1000000):Pure prog 198 [qtA s,qtA t] (iv (ordT s t)):=by
 have cc:=exCmpP s.2 t.2 hl hm;obtain⟨a,l⟩:=s;obtain⟨b,m⟩:=t;simp only at *;show Pure _ _ [.agg [.v (.bool (decide (a.num < 0))),lim (toL a.num.natAbs),lim (toL a.den),.sl 4 (l.map Qt.av)],.agg [.v (.bool (decide (b.num < 0))),lim (toL b.num.natAbs),lim (toL b.den),.sl 4 (m.map Qt.av)]] (iv (ordQ l m));have cc:Pure prog 194 [.sl 4 (l.map Qt.av),.sl 4 (m.map Qt.av)] (iv (ordQ l m)):=cc;generalize ordQ l m=z at *;generalize l.map Qt.av=A at *;generalize m.map Qt.av=B at *;generalize toL a.num.natAbs=a1 at *;generalize toL a.den=a2 at *;generalize toL b.num.natAbs=b1 at *;generalize toL b.den=b2 at *
 refine pI func198 rfl ntmps198 results198 call198 ?_
 (refine wkap w_t (w_1 cc) (w_r 0) (w_s ?_);intros)
 all_goals exact gL
theorem Zxh (l m:List Qt) (hl:l.length≤1000000) (hm:m.length≤1000000):Pure prog 42 [qsA l,qsA m] (iv (ordQ l m)):=by
 have hlm:(l.map Qt.av).length=l.length:=ZBr ..;have hmm:(m.map Qt.av).length=m.length:=ZBr ..;have hgl:∀j (h:j < l.length),(l.map Qt.av).getD j .u=Qt.av l[j]:=λj h=>Zao Qt.av h;have hgm:∀j (h:j < m.length),(m.map Qt.av).getD j .u=Qt.av m[j]:=λj h=>Zao Qt.av h;unfold ordQ ordL;show Pure _ _ [.sl 4 (l.map Qt.av),.sl 4 (m.map Qt.av)] _;by_cases h1:l.length < m.length
 ·rw [ZBo h1];clear hgl hgm;generalize l.map Qt.av=A at *;generalize m.map Qt.av=B at *;refine pI func42 rfl ntmps42 results42 call42 ?_
  (refine wkad (w_2 hlm hmm) w_t w_t (w_s ?_);intros)
  all_goals exact gL
 ·by_cases h2:m.length < l.length
  ·rw [ZBn h1,ZBo h2];clear hgl hgm;generalize l.map Qt.av=A at *;generalize m.map Qt.av=B at *;refine pI func42 rfl ntmps42 results42 call42 ?_
   (refine wkad (w_2 hlm hmm) w_t w_t (w_s ?_);intros)
   all_goals exact gL
  ·rw [ZBn h1,ZBn h2];have he:m.length=l.length:=zo;rw [he] at hmm;generalize l.map Qt.av=A at *;generalize m.map Qt.av=B at *;refine pI func42 rfl ntmps42 results42 call42 ?_
   (refine wkad (w_2 hlm hmm) w_t w_t (w_s ?_);intros)
   refine Zad (ι:=Nat) (λi e _=>i≤l.length∧lexL Qt.cmp l m=lexL Qt.cmp (l.drop i) (m.drop i)∧e 0=.sl 4 A∧e 1=.sl 4 B∧e 5=iv i) (λi=>l.length - i) 0 zr ?_ ?_
   ·rintro i e m' ⟨hi,hx,e0,e1,e5⟩
    by_cases hlt:i < l.length
    ·have g1:=hgl i hlt;have g2:=hgm i zo;have hs:=Zy9 (cmp:=Qt.cmp) hlt (show i < m.length by omega);have cc:=rqCmp l[i].k l[i].a l[i].b l[i].c (m[i]'zo).k (m[i]'zo).a (m[i]'zo).b (m[i]'zo).c;rw [hx,hs];clear hgl hgm;by_cases hz:Qt.cmp l[i] (m[i]'zo)=0
     ·rw [ZBo hz];have hx2:lexL Qt.cmp l m=lexL Qt.cmp (l.drop (i+1)) (m.drop (i+1)):=by rw [hx,hs,ZBo hz]
      clear hx hs;rw [←hx2];generalize l[i]=x at *;generalize m[i]'zo=y at *;obtain⟨x1,x2,x3,x4⟩:=x;obtain⟨y1,y2,y3,y4⟩:=y;simp only at *;rw [hz] at cc
      (refine wkad (w_7 e0 e1 e5 hlm hmm g1 g2) (w_1 cc) (w_1 (w_d 8 [(8,iv 0)] [] [])) (w_s ?_);intros)
      exact⟨i+1,⟨zo,hx2,gW e0,gW e1,gS⟩,zo⟩
     ·rw [ZBn hz];clear hx hs;generalize l[i]=x at *;generalize m[i]'zo=y at *;obtain⟨x1,x2,x3,x4⟩:=x;obtain⟨y1,y2,y3,y4⟩:=y;simp only at *;generalize Qt.cmp _ _=z at *
      (refine wkad (w_7 e0 e1 e5 hlm hmm g1 g2) (w_1 cc) (w_1 (w_d 8 [(8,iv z)] [] [])) (w_s ?_);intros)
      all_goals exact gL
    ·have hil:i=l.length:=zo;subst hil;rw [hx,ZD4 (ZBp _),ZD4 zo];clear hgl hgm hx
     (refine wkad (w_5 e0 e1 e5 hlm hmm) w_t w_t (w_s ?_);intros)
     all_goals (all_goals (try simp (disch:=omega) only [go_sem,lexL,ZBw,ZBy,ZBo,ZBn,Int.reduceAdd,Int.reduceSub,Int.reduceToNat,ZB3]));(all_goals first|done|rfl|(congr 2;first|done|omega|(rw [ZCf];simp only [bool_to_prop,ZB1,ZCl,ZCm,ZCn,ZCo];omega))|skip)
   ·exact⟨ZBx _,rfl,gC,gC,gC⟩
end Go.Proofs.YtkefeinbjbeidaaGreatDoor
namespace Go.Proofs.YtkefeinbjbeidaaGreatDoor
open Go Go.RowKit Go.Pg Go.Proofs.Tryz
def Can (l:List Int):Prop:=(∀j,0≤gI l j)∧(l.length=0∨gI l (l.length - 1)≠0)
def LTm (a b:List Int):Prop:=∃k,gI a k < gI b k∧∀j,k < j→gI a j=gI b j
def ltM (a b:List Int):Prop:=lexC a b (max a.length b.length)=-1
instance:DecidableRel ltM:=λa b=>inferInstanceAs (Decidable (lexC a b (max a.length b.length)=-1))
theorem Zzb {a b:List Int}:∀n,lexC a b n=-1↔∃k,k < n∧gI a k < gI b k∧∀j,k < j→j < n→gI a j=gI b j
 | 0=>by
   constructor
   ·intro h;exact absurd h (by show ¬(0:Int)=-1;omega)
   ·rintro ⟨k,h,_⟩;omega
 | n+1=>by
   unfold lexC;by_cases h:gI a n=gI b n
   ·rw [ZBo h,Zzb n];constructor
    ·rintro ⟨k,h1,h2,h3⟩
     exact⟨k,zo,h2,λj h4 h5=>by by_cases hj:j=n;subst hj;exact h;exact h3 j h4 zo⟩
    ·rintro ⟨k,h1,h2,h3⟩
     have:k≠n:=by rintro rfl;omega
     exact⟨k,zo,h2,λj h4 h5=>h3 j h4 zo⟩
   ·rw [ZBn h];unfold lt1;constructor
    ·intro h1;by_cases h2:gI a n < gI b n
     ·exact⟨n,zo,h2,λj h3 h4=>zo⟩
     ·rw [ZBn h2] at h1;omega
    ·rintro ⟨k,h1,h2,h3⟩
     by_cases hk:k=n
     ·subst hk;rw [ZBo h2]
     ·exact absurd (h3 n zo zo) h
theorem Zjd {a b:List Int}:ltM a b↔LTm a b:=by
 unfold ltM LTm;rw [Zzb];constructor
 ·rintro ⟨k,h1,h2,h3⟩
  refine⟨k,h2,λj h4=>?_⟩;by_cases hj:j < max a.length b.length
  ·exact h3 j h4 hj
  ·rw [Zc5 zo,Zc5 zo]
 ·rintro ⟨k,h2,h3⟩
  refine⟨k,?_,h2,λj h4 _=>h3 j h4⟩;by_cases hk:k < max a.length b.length
  ·exact hk
  ·rw [Zc5 zo,Zc5 zo] at h2;omega
theorem Zje {a b:List Int}:∀n,lexC a b n=0∧(∀j,j < n→gI a j=gI b j)∨lexC a b n=-1∨lexC a b n=1
 | 0=>.inl ⟨rfl,λj h=>zo⟩
 | n+1=>by
   unfold lexC;by_cases h:gI a n=gI b n
   ·rw [ZBo h];rcases @Zje a b n with⟨h1,h2⟩ | h1
    ·exact .inl ⟨h1,λj hj=>by by_cases e:j=n;subst e;exact h;exact h2 j zo⟩
    ·exact .inr h1
   ·rw [ZBn h];unfold lt1;split
    ·exact .inr (.inl rfl)
    ·exact .inr (.inr rfl)
theorem Znx {a b:List Int}:∀n,lexC b a n=- lexC a b n
 | 0=>rfl
 | n+1=>by
   unfold lexC;by_cases h:gI a n=gI b n
   ·rw [ZBo h,ZBo h.symm,Znx n]
   ·rw [ZBn h,ZBn (λe=>h e.symm)];unfold lt1;by_cases h1:gI a n < gI b n
    ·rw [ZBo h1,ZBn zo];rfl
    ·rw [ZBn h1,ZBo zo]
theorem ZAx {a b:List Int} (ha:Can a) (hb:Can b) (h:∀j,gI a j=gI b j):a=b:=by
 have hl:a.length=b.length:=by
  have h1:=h (a.length - 1);have h2:=h (b.length - 1);rcases Nat.lt_trichotomy a.length b.length with hl | hl | hl
  ·rcases hb.2 with hb0 | hb0
   ·omega
   ·rw [←h2,Zc5 zo] at hb0;exact absurd rfl hb0
  ·exact hl
  ·rcases ha.2 with ha0 | ha0
   ·omega
   ·rw [h1,Zc5 zo] at ha0;exact absurd rfl ha0
 refine List.ext_getElem hl λj h1 h2=>?_;have:=h j
 rwa [Zg2 h1,Zg2 h2] at this
theorem ordM:Go.Pol.KO Can ltM where
 irr x h:=by obtain⟨k,h1,_⟩:=Zjd.1 h;omega
 tr x y z h g:=by
  obtain⟨k,h1,h2⟩:=Zjd.1 h;obtain⟨i,g1,g2⟩:=Zjd.1 g;rw [Zjd];rcases Nat.lt_trichotomy k i with h3 | h3 | h3
  ·exact⟨i,by rw [h2 i h3];exact g1,λj hj=>by rw [h2 j zo,g2 j hj]⟩
  ·subst h3;exact⟨k,zo,λj hj=>by rw [h2 j hj,g2 j hj]⟩
  ·exact⟨k,by rw [←g2 k h3];exact h1,λj hj=>by rw [h2 j hj,g2 j zo]⟩
 tri x y hx hy:=by
  rcases @Zje x y (max x.length y.length) with⟨_,h⟩ | h | h
  ·refine .inr (.inl (ZAx hx hy λj=>?_));by_cases hj:j < max x.length y.length
   ·exact h j hj
   ·rw [Zc5 zo,Zc5 zo]
  ·exact .inl h
  ·refine .inr (.inr ?_);unfold ltM;rw [Nat.max_comm,Znx,h]
theorem Zjz (F:Int→Int→Int) (h0:F 0 0=0) (a b:List Int) (j:Nat):gI (zipI F a b) j=F (gI a j) (gI b j):=by
 by_cases h:j < max a.length b.length
 ·rw [Zg2 (by unfold zipI;simpa using h)];unfold zipI;simp only [ZGc,List.getElem_range]
 ·rw [Zc5 (by unfold zipI;simp only [ZBr,List.length_range];omega),Zc5 zo,Zc5 zo,h0]
abbrev mulM (a b:List Int):List Int:=zipI (·+·) a b
theorem Znr (a b:List Int):(mulM a b).length=max a.length b.length:=by simp [mulM,zipI]
theorem mulK:Go.Pol.KM Can ltM mulM where
 comm x y:=by
  unfold mulM zipI;rw [Nat.max_comm];exact ZEo λi _=>Int.add_comm _ _
 dom x y hx hy:=by
  refine⟨λj=>by rw [Zjz _ rfl];have:=hx.1 j;have:=hy.1 j;omega,?_⟩;rw [Znr,Zjz _ rfl];have a1:=hx.1 (max x.length y.length - 1);have b1:=hy.1 (max x.length y.length - 1);rcases Nat.le_total x.length y.length with h | h
  ·rw [Nat.max_eq_right h] at *;rcases hy.2 with h1 | h1
   ·exact .inl h1
   ·exact .inr zo
  ·rw [Nat.max_eq_left h] at *;rcases hx.2 with h1 | h1
   ·exact .inl h1
   ·exact .inr zo
 mono x y z _ _ _ h:=by
  obtain⟨k,h1,h2⟩:=Zjd.1 h;rw [Zjd];exact⟨k,by rw [Zjz _ rfl,Zjz _ rfl];omega,λj hj=>by rw [Zjz _ rfl,Zjz _ rfl,h2 j hj]⟩
def mvN (v:Nat→Rat) (m:List Int):Nat→Rat
 | 0=>1
 | n+1=>mvN v m n*v n ^ (gI m n).toNat
def mv (v:Nat→Rat) (m:List Int):Rat:=mvN v m m.length
end Go.Proofs.YtkefeinbjbeidaaGreatDoor
namespace Go.Proofs.YtkefeinbjbeidaaGreatDoor
open Go Go.RowKit Go.Pg Go.Pol Go.Proofs.Tryz
attribute [-bool_to_prop] Bool.and_eq_decide Bool.or_eq_decide Bool.decide_beq_decide decide_eq_decide
abbrev Tm:=Rat × List Int
abbrev Po:=List Tm
abbrev tmA (t:Tm):AV:=.agg [.v (.bool (decide (t.1.num < 0))),lim (toL t.1.num.natAbs),lim (toL t.1.den),ivs t.2]
abbrev poA (p:Po):AV:=.sl 4 (p.map tmA)
abbrev SrtM (p:Po):Prop:=Srt Can ltM p
abbrev addM (p q:Po):Po:=addP ltM p q
abbrev subM (p q:Po):Po:=subP ltM p q
abbrev mlM (p q:Po):Po:=mulR ltM mulM p q
def sclM (a:Rat) (p:Po):Po:=if a=0 then [] else Zbh a p
def PK (p:Po) (k e:Nat):Prop:=∀t∈p,Sz t.1 k∧t.2.length≤1000∧∀j,0≤gI t.2 j∧gI t.2 j≤(e:Int)
theorem PK.mono {p:Po} {k j e f:Nat} (h:PK p k e) (hk:k≤j) (he:e≤f):PK p j f:=λt ht=>⟨(h t ht).1.mono hk,(h t ht).2.1,λi=>by have:=(h t ht).2.2 i;omega⟩
theorem PK.sm {p:Po} {k e:Nat} (h:PK p k e) (he:e≤16777216) {t:Tm} (ht:t∈p):Sm t.2:=⟨(h t ht).2.1,λi=>by have:=(h t ht).2.2 i;omega⟩
theorem PK.nil {k e:Nat}:PK [] k e:=λt ht=>by simp at ht
theorem PK.tail {t:Tm} {p:Po} {k e:Nat} (h:PK (t :: p) k e):PK p k e:=λu hu=>h u (.tail _ hu)
theorem PK.drop {p:Po} {k e:Nat} (h:PK p k e) (i:Nat):PK (p.drop i) k e:=λu hu=>h u (ZD5 hu)
theorem PK.add {p q:Po} {j k e:Nat} (hp:PK p j e) (hq:PK q k e):PK (addM p q) (j+k+1) e:=λt ht=>by
 rcases Zgy ht with h | h | ⟨s,hs,u,hu,rfl⟩
 ·exact⟨(hp t h).1.mono zo,(hp t h).2⟩
 ·exact⟨(hq t h).1.mono zo,(hq t h).2⟩
 ·exact⟨(hp s hs).1.add (hq u hu).1,(hp s hs).2⟩
theorem PK.scale {p:Po} {j k e:Nat} {a:Rat} (hp:PK p j e) (ha:Sz a k):PK (Zbh a p) (j+k) e:=λt ht=>by
 obtain⟨s,hs,rfl⟩:=List.mem_map.1 ht;exact⟨(hp s hs).1.mul ha,(hp s hs).2⟩
theorem Zvw {a b:List Int} (ha:Can a) (hb:Can b):(ltM a b∧lexC a b (max a.length b.length)=-1)∨(¬ltM a b∧¬ltM b a∧a=b∧lexC a b (max a.length b.length)=0)∨(ltM b a∧¬ltM a b∧lexC a b (max a.length b.length)=1):=by
 rcases @Zje a b (max a.length b.length) with⟨h,h2⟩ | h | h
 ·have e:a=b:=ZAx ha hb λj=>by
   by_cases hj:j < max a.length b.length
   ·exact h2 j hj
   ·rw [Zc5 zo,Zc5 zo]
  refine .inr (.inl ⟨?_,?_,e,h⟩)
  ·unfold ltM;rw [h];decide
  ·subst e;unfold ltM;rw [h];decide
 ·exact .inl ⟨h,h⟩
 ·have h3:ltM b a:=by unfold ltM;rw [Nat.max_comm,Znx,h]
  refine .inr (.inr ⟨h3,?_,h⟩);unfold ltM;rw [h];decide
theorem trim_can {l:List Int} (h:Can l):Zj5 l=l:=by
 unfold Zj5;rcases h.2 with h0 | h0
 ·have:l=[]:=List.length_eq_zero_iff.1 h0;subst this;rfl
 ·rcases ZCv l.length with h1 | h1
  ·have:l=[]:=List.length_eq_zero_iff.1 h1;subst this;rfl
  ·rw [Zl3 h1 h0,ZDc]
theorem can_nil:Can []:=⟨λj=>by rw [Zc5 (ZBx _)];omega,.inl rfl⟩
theorem mulM_nil (a:List Int):mulM a []=a:=by
 refine List.ext_getElem (by rw [Znr];simp) λj h1 h2=>?_;have:=Zjz (·+·) rfl a [] j;rw [Zg2 h1,Zg2 h2,Zc5 (ZBx _),Int.add_zero] at this;exact this
theorem Zu1 (p:Po) (a:Rat):Zc3 mulM p (a,[])=Zbh a p:=by
 unfold Zc3 Zbh;exact ZEo λs _=>by rw [mulM_nil]
def Zhs (v:Nat):List Int:=List.replicate v 0++[1]
theorem Zgm (v:Nat):(Zhs v).length=v+1:=by simp [Zhs]
theorem Zn1 (v j:Nat):gI (Zhs v) j=if j=v then 1 else 0:=by
 by_cases h:j < v+1
 ·rw [Zg2 (by rw [Zgm];exact h)];unfold Zhs;rw [List.getElem_append];by_cases hj:j < v
  ·rw [dif_pos (by simpa using hj),List.getElem_replicate,ZBn zo]
  ·rw [dif_neg (by simpa using hj),ZBo zo];simp
 ·rw [Zc5 (by rw [Zgm];omega),ZBn zo]
theorem can_unit (v:Nat):Can (Zhs v):=by
 refine⟨λj=>by rw [Zn1];split<;>omega,.inr ?_⟩;rw [Zgm,Zn1,ZBo zo];omega
def varM (v:Nat):Po:=if v < 64 then [(1,Zhs v)] else []
theorem Zsr (v:Nat):SrtM (varM v):=by
 unfold varM;split
 ·exact Srt.nil.cons (by show(1:Rat)≠0;decide) (can_unit v) zs
 ·exact .nil
structure RS where
 k:Int
 nm:ByteArray
 ar:List Int
 r:RQ
structure RG where
 k:Int
 ar:List Int
 r:RQ
abbrev RS.av (s:RS):AV:=.agg [iv s.k,strA s.nm,ivs s.ar,.v (.bool s.r.s),lim s.r.l,lim s.r.d]
abbrev RG.av (g:RG):AV:=.agg [iv g.k,ivs g.ar,.v (.bool g.r.s),lim g.r.l,lim g.r.d]
abbrev figA (ss:List RS) (gs:List RG):AV:=.agg [.sl 6 (ss.map RS.av),.sl 5 (gs.map RG.av)]
def RQ.none (r:RQ):Bool:=!r.s && (decide (r.l.length=0) && decide (r.d.length=0))
structure FS where
 cs:List (Po × Po)
 vs:List Vt
 fr:Nat
abbrev coA (c:Po × Po):AV:=.agg [poA c.1,poA c.2]
def FS.at (f:FS) (s:RS) (k:Nat):Po × Po:=f.cs.getD (gI s.ar k).toNat ([],[])
def FS.nxt (f:FS) (i:Nat) (s:RS):List Vt × (Po × Po) :=
 let v:=f.vs.length
 let a:=f.at s 0
 let b:=f.at s 1
 let c:=f.at s 2
 if s.k=1 then
  (if f.fr=0 then ([],([],[]))
   else if f.fr=1 then ([(1,(i:Int),0)],(varM v,[]))
   else ([(1,(i:Int),0),(1,(i:Int),1)],(varM v,varM (v+1))))
 else if s.k=2 then ([],(addM a.1 (sclM s.r.q (subM b.1 a.1)),addM a.2 (sclM s.r.q (subM b.2 a.2))))
 else if s.k=3 then ([],(addM a.1 (subM c.1 b.1),addM a.2 (subM c.2 b.2)))
 else if s.k=4 then ([],(addM a.1 (subM b.2 c.2),addM a.2 (subM c.1 b.1)))
 else if s.k=5 then ([(1,(i:Int),0)],(addM a.1 (mlM (subM b.1 a.1) (varM v)),addM a.2 (mlM (subM b.2 a.2) (varM v))))
 else if s.k=6 then ([(1,(i:Int),0),(2,(i:Int),1),(2,(i:Int),2)],(varM (v+1),varM (v+2)))
 else ([(2,(i:Int),0),(2,(i:Int),1)],(varM v,varM (v+1)))
def FS.push (f:FS) (i:Nat) (s:RS):FS:=⟨f.cs++[(f.nxt i s).2],f.vs++(f.nxt i s).1,if s.k=1 then f.fr+1 else f.fr⟩
def frN (ss:List RS):Nat→FS
 | 0=>⟨[],[],0⟩
 | i+1=>(frN ss i).push i (ss.getD i ⟨0,.empty,[],⟨false,[],[]⟩⟩)
def bigN (ss:List RS) (i:Nat):Bool :=
 decide (64 < (frN ss (i+1)).vs.length) || decide (4000 < ((frN ss i).nxt i (ss.getD i ⟨0,.empty,[],⟨false,[],[]⟩⟩)).2.1.length) || decide (4000 < ((frN ss i).nxt i (ss.getD i ⟨0,.empty,[],⟨false,[],[]⟩⟩)).2.2.length)
theorem Zsf (ss:List RS):∀i,(frN ss i).cs.length=i
 | 0=>rfl
 | i+1=>by show((frN ss i).cs++[_]).length=i+1;rw [ZCh,Zsf ss i];rfl
def BB (n:Nat):Nat:=65536 ^ (3*n)
theorem BB_pos (n:Nat):1≤BB n:=Nat.one_le_pow _ _ zo
theorem BB_succ (n:Nat):BB (n+1)=BB n*65536 ^ 3:=by unfold BB;rw [←ZCx];rfl
def GP (n D v:Nat) (p:Po):Prop:=SrtM p∧∀t∈p,BQ D (BB n) t.1∧t.2.length≤v∧∀j,gI t.2 j≤1
theorem GP.nil {n D v:Nat}:GP n D v []:=⟨.nil,λt h=>by simp at h⟩
theorem GP.mono {n D v m E w:Nat} {p:Po} (h:GP n D v p) (hn:n≤m) (hd:D ∣ E) (hv:v≤w):GP m E w p :=
 ⟨h.1,λt ht=>⟨(h.2 t ht).1.mono hd (ZDh zo zo),by have:=(h.2 t ht).2.1;omega,(h.2 t ht).2.2⟩⟩
theorem bq_sz {D B d b:Nat} {q:Rat} (h:BQ D B q) (h0:D≠0) (hd:D < 65536 ^ d) (hb:B < 65536 ^ b):Sz q (d+b):=by
 have h1:q.den≤D:=Nat.le_of_dvd (ZDm h0) h.1;refine⟨Zaf.2 ?_,ZBv (Zaf.2 (ZF9 h1 hd)) zo⟩;have hp:0 < q.den:=q.den_pos
 calc q.num.natAbs≤B*q.den:=h.2
  _≤B*D:=ZDw _ h1
  _ < 65536 ^ b*65536 ^ d:=ZE5 hb hd
  _=65536 ^ (d+b):=by rw [ZCq,←ZCx]
theorem GP.pk {n D v:Nat} {p:Po} (h:GP n D v p) (hv:v≤1000) (h0:D≠0) (hd:D < 65536 ^ (2*n+1)) (hn:n≤20):PK p 110 1:=λt ht=>by
 obtain⟨h1,h2,h3⟩:=h.2 t ht;refine⟨(bq_sz (b:=3*n+1) h1 h0 hd (by unfold BB;exact Nat.pow_lt_pow_right zo zo)).mono zo,zo,λj=>⟨(h.1.1 t ht).2.1 j,h3 j⟩⟩
def GB (B D v:Nat) (p:Po):Prop:=SrtM p∧∀t∈p,BQ D B t.1∧t.2.length≤v∧∀j,gI t.2 j≤1
theorem GB.mono {B D v C E w:Nat} {p:Po} (h:GB B D v p) (hn:B≤C) (hd:D ∣ E) (hv:v≤w):GB C E w p :=
 ⟨h.1,λt ht=>⟨(h.2 t ht).1.mono hd hn,by have:=(h.2 t ht).2.1;omega,(h.2 t ht).2.2⟩⟩
theorem GB.add {B C D v:Nat} {p q:Po} (h:GB B D v p) (k:GB C D v q):GB (B+C) D v (addM p q):=by
 refine⟨Zc0 ordM h.1 k.1,λt ht=>?_⟩;rcases Zgy ht with h1 | h1 | ⟨s,hs,u,hu,rfl⟩
 ·exact⟨(h.2 t h1).1.mono (ZDy _) zo,(h.2 t h1).2⟩
 ·exact⟨(k.2 t h1).1.mono (ZDy _) zo,(k.2 t h1).2⟩
 ·exact⟨(h.2 s hs).1.add (k.2 u hu).1,(h.2 s hs).2⟩
theorem GB.neg {B D v:Nat} {p:Po} (h:GB B D v p):GB B D v (Zbh (-1) p):=by
 refine⟨Zgr h.1 neg1,λt ht=>?_⟩;obtain⟨s,hs,rfl⟩:=List.mem_map.1 ht;refine⟨?_,(h.2 s hs).2⟩;have e:s.1*-1=-s.1:=by grind
 show BQ D B (s.1*-1);rw [e];exact(h.2 s hs).1.neg
theorem GB.sub {B C D v:Nat} {p q:Po} (h:GB B D v p) (k:GB C D v q):GB (B+C) D v (subM p q):=h.add k.neg
theorem GB.scl {B C D E v:Nat} {p:Po} {a:Rat} (h:GB B D v p) (ha:BQ E C a):GB (B*C) (D*E) v (sclM a p):=by
 unfold sclM;split
 ·exact⟨.nil,λt h=>by simp at h⟩
 ·rename_i h0;refine⟨Zgr h.1 h0,λt ht=>?_⟩;obtain⟨s,hs,rfl⟩:=List.mem_map.1 ht;exact⟨(h.2 s hs).1.mul ha,(h.2 s hs).2⟩
theorem mul_var (p:Po) (v:Nat):mlM p (varM v)=if v < 64 then Zc3 mulM p (1,Zhs v) else []:=by
 unfold varM;split
 ·show addP ltM [] (Zc3 mulM p (1,Zhs v))=_;simp [addP]
 ·rfl
theorem GB.var {B D v:Nat} {p:Po} (h:GB B D v p):GB B D (v+1) (mlM p (varM v)):=by
 refine⟨mulR_srt ordM mulK h.1 (Zsr v),λt ht=>?_⟩;rw [mul_var] at ht;split at ht
 ·obtain⟨s,hs,rfl⟩:=List.mem_map.1 ht;obtain⟨h1,h2,h3⟩:=h.2 s hs;refine⟨by show BQ D B (s.1*1);rw [ZF0];exact h1,by show(mulM s.2 (Zhs v)).length≤v+1;rw [Znr,Zgm];omega,λj=>?_⟩;show gI (mulM s.2 (Zhs v)) j≤1;rw [Zjz _ rfl,Zn1];split
  ·rename_i hj;rw [Zc5 zo];omega
  ·have:=h3 j;omega
 ·simp at ht
theorem GB.one {B D v w:Nat} (hB:1≤B) (h:v < w):GB B D w (varM v):=by
 refine⟨Zsr v,λt ht=>?_⟩;unfold varM at ht;split at ht
 ·rw [ZFa] at ht;subst ht;refine⟨BQ.int 1 (by simpa using hB),by show(Zhs v).length≤w;rw [Zgm];omega,λj=>?_⟩;show gI (Zhs v) j≤1;rw [Zn1];split<;>omega
 ·simp at ht
theorem GB.nil {B D v:Nat}:GB B D v []:=⟨.nil,λt h=>by simp at h⟩
structure FI (f:FS) (n D:Nat):Prop where
 D0:D≠0
 Dl:D < 65536 ^ (2*n+1)
 nv:f.vs.length≤64
 cs:∀c∈f.cs,GP n D f.vs.length c.1∧GP n D f.vs.length c.2
 ln:∀c∈f.cs,c.1.length≤4000∧c.2.length≤4000
theorem FI.at {f:FS} {n D:Nat} (h:FI f n D) (s:RS) (k:Nat):(GP n D f.vs.length (f.at s k).1∧GP n D f.vs.length (f.at s k).2)∧(f.at s k).1.length≤4000∧(f.at s k).2.length≤4000:=by
 unfold FS.at;by_cases hk:(gI s.ar k).toNat < f.cs.length
 ·have:=Zki (d:=(([],[]):Po × Po)) hk;exact⟨h.cs _ this,h.ln _ this⟩
 ·rw [ZB8,ZDb zo];exact⟨⟨.nil,.nil⟩,by simp,by simp⟩
def RQ.bd (r:RQ):Prop:=r.ok=true→r.q.den < 65536 ^ 2∧r.q.num.natAbs < 65536 ^ 2
theorem lm_bd {r:RQ} (h:r.lm 2):r.bd:=λho=>by
 obtain⟨-,h1,h2⟩:=RQ.ok_av h ho;exact⟨Zaf.1 h2,Zaf.1 h1⟩
theorem FI.nxt {f:FS} {n D:Nat} (h:FI f n D) (i:Nat) (s:RS) (hr:s.k=2→s.r.ok=true) (hb:s.r.bd) :
 ∃E,E≠0∧D ∣ E∧E < 65536 ^ (2*(n+if s.k=1 then 0 else 1)+1) ∧
  GP (n+if s.k=1 then 0 else 1) E (f.vs++(f.nxt i s).1).length (f.nxt i s).2.1∧GP (n+if s.k=1 then 0 else 1) E (f.vs++(f.nxt i s).1).length (f.nxt i s).2.2:=by
 obtain⟨⟨a1,a2⟩,-⟩:=h.at s 0;obtain⟨⟨b1,b2⟩,-⟩:=h.at s 1;obtain⟨⟨c1,c2⟩,-⟩:=h.at s 2;have hB:=BB_pos n;have hS:=BB_succ n;unfold FS.nxt;simp only;have one:∀v w,v < w→GP n D w (varM v):=λv w hv=>GB.one hB hv;have up:∀{E v:Nat} {p:Po} {C:Nat},GB C E v p→C≤BB n*65536 ^ 3→GP (n+1) E v p:=λh hc=>GB.mono h (by rw [hS];exact hc) (ZDy _) (ZBp _);have dl:D < 65536 ^ (2*(n+1)+1):=ZD2 h.Dl (ZDh zo zo)
 have b3:BB n+(BB n+BB n)≤BB n*65536 ^ 3:=by
  have:BB n*3≤BB n*65536 ^ 3:=ZDw _ zd;omega
 by_cases k1:s.k=1
 ·rw [ZBo k1,ZBo k1];refine⟨D,h.D0,ZDy _,h.Dl,?_⟩;split
  ·exact⟨.nil,.nil⟩
  ·split
   ·exact⟨one _ _ zs,.nil⟩
   ·exact⟨one _ _ zs,one _ _ zs⟩
 ·rw [ZBn k1,ZBn k1];by_cases k2:s.k=2
  ·rw [ZBo k2];obtain⟨h1,h2⟩:=hb (hr k2);refine⟨D*s.r.q.den,ZEf h.D0 s.r.q.den_nz,ZFn _ _,?_,?_⟩
   ·calc D*s.r.q.den < 65536 ^ (2*n+1)*65536 ^ 2:=ZE5 h.Dl h1
     _=65536 ^ (2*(n+1)+1):=by rw [←ZCx];congr 1
   ·have hq:BQ s.r.q.den (65536 ^ 2) s.r.q:=⟨ZDy _,by have:=s.r.q.den_pos;have:=ZE4 (65536 ^ 2) this;omega⟩
    have bd:BB n+(BB n+BB n)*65536 ^ 2≤BB n*65536 ^ 3:=by
     have e1:(BB n+BB n)*65536 ^ 2=BB n*(2*65536 ^ 2):=by rw [←Nat.mul_two,ZC1]
     rw [e1];have:BB n*(1+2*65536 ^ 2)≤BB n*65536 ^ 3:=ZDw _ zd;omega
    rw [ZC4];exact⟨up ((GB.mono a1 (ZBp _) (ZFn _ _) (ZBp _)).add ((GB.sub b1 a1).scl hq)) bd,up ((GB.mono a2 (ZBp _) (ZFn _ _) (ZBp _)).add ((GB.sub b2 a2).scl hq)) bd⟩
  ·rw [ZBn k2];refine⟨D,h.D0,ZDy _,dl,?_⟩;have one':∀v w,v < w→GP (n+1) D w (varM v):=λv w hv=>GB.one (BB_pos _) hv;by_cases k3:s.k=3
   ·rw [ZBo k3,ZC4];exact⟨up (GB.add a1 (GB.sub c1 b1)) b3,up (GB.add a2 (GB.sub c2 b2)) b3⟩
   ·rw [ZBn k3];by_cases k4:s.k=4
    ·rw [ZBo k4,ZC4];exact⟨up (GB.add a1 (GB.sub b2 c2)) b3,up (GB.add a2 (GB.sub c1 b1)) b3⟩
    ·rw [ZBn k4];by_cases k5:s.k=5
     ·rw [ZBo k5];have e:(f.vs++[(1,(i:Int),0)]).length=f.vs.length+1:=by simp
      rw [e];exact⟨up (GB.add (GB.mono a1 (ZBp _) (ZDy _) zo) (GB.sub b1 a1).var) b3,up (GB.add (GB.mono a2 (ZBp _) (ZDy _) zo) (GB.sub b2 a2).var) b3⟩
     ·rw [ZBn k5];by_cases k6:s.k=6
      ·rw [ZBo k6];exact⟨one' _ _ zs,one' _ _ zs⟩
      ·rw [ZBn k6];exact⟨one' _ _ zs,one' _ _ zs⟩
def nfN (ss:List RS):Nat→Nat
 | 0=>0
 | i+1=>nfN ss i+if (ss.getD i ⟨0,.empty,[],⟨false,[],[]⟩⟩).k=1 then 0 else 1
theorem frN_ok (ss:List RS) (hr:∀s∈ss,s.k=2→s.r.ok=true) (hb:∀s∈ss,s.r.bd):∀i,i≤ss.length→(∀j,j < i→bigN ss j=false)→∃D,FI (frN ss i) (nfN ss i) D
 | 0,_,_=>⟨1,zo,by show 1 < 65536 ^ (2*0+1);decide,ZBx _,λc h=>by simp [frN] at h,λc h=>by simp [frN] at h⟩
 | i+1,hi,hj=>by
   obtain⟨D,hD⟩:=frN_ok ss hr hb i zo λj h=>hj j zo;have hbig:=hj i zo;unfold bigN at hbig;simp only [ZF7,ZE2,Nat.not_lt] at hbig;have hm:ss.getD i ⟨0,.empty,[],⟨false,[],[]⟩⟩∈ss:=Zki zo;have hs1:=hr _ hm;have hs2:=hb _ hm;unfold nfN;show ∃D,FI ((frN ss i).push i (ss.getD i ⟨0,.empty,[],⟨false,[],[]⟩⟩)) _ D;have hv:=hbig.1.1;unfold frN at hv;generalize ss.getD i ⟨0,.empty,[],⟨false,[],[]⟩⟩=s at *;obtain⟨E,e0,e1,e2,g1,g2⟩:=hD.nxt i s hs1 hs2;refine⟨E,e0,e2,hv,λc hc=>?_,λc hc=>?_⟩
   ·rcases List.mem_append.1 hc with h1 | h1
    ·obtain⟨k1,k2⟩:=hD.cs c h1;have hl:(frN ss i).vs.length≤((frN ss i).push i s).vs.length:=by show _≤((frN ss i).vs++((frN ss i).nxt i s).1).length;rw [ZCh];omega
     exact⟨k1.mono zo e1 hl,k2.mono zo e1 hl⟩
    ·rw [ZFa] at h1;subst h1;exact⟨g1,g2⟩
   ·rcases List.mem_append.1 hc with h1 | h1
    ·exact hD.ln c h1
    ·rw [ZFa] at h1;subst h1;exact⟨hbig.1.2,hbig.2⟩
section
variable {N n:Nat} {cs:List AV}
theorem agInt:Zg8 prog 3=false:=by kernel_rfl
theorem csInt:prog.cellsOf 3=1:=by kernel_rfl
theorem shIvs (h:Zdh prog N n 22 cs):∃l:List Int,cs=[ivs l]∧l.length≤N:=by
 obtain⟨bs,rfl,hl,_⟩:=Zij (g:=λk:Int=>[iv k]) (Q:=λ_=>True) underlying22 h λm x hx=>by
  obtain⟨i,rfl,_⟩:=Zkz underlying3 hx;exact⟨i,rfl,trivial⟩
 refine⟨bs,?_,hl⟩;rw [csInt];have:(bs.map λb:Int=>Zdx prog 3 [iv b])=bs.map iv:=ZEo λb _=>Zon agInt _;rw [this]
theorem shFact (h:Zdh prog N n 30 cs):∃g:RG,cs=[iv g.k,ivs g.ar,.v (.bool g.r.s),lim g.r.l,lim g.r.d]∧g.r.lm N∧g.ar.length≤N:=by
 obtain⟨m,rfl,hs⟩:=Zgq underlying30 zk h;obtain⟨x,y,rfl,h1,hs⟩:=hs.inv;obtain⟨x3,y,rfl,h3,hs⟩:=hs.inv;obtain⟨x4,y,rfl,h4,hs⟩:=hs.inv;obtain rfl:=hs.inv0;obtain⟨k,rfl,_⟩:=Zkz underlying3 h1;obtain⟨ar,rfl,ha⟩:=shIvs h3;obtain⟨r,rfl,hr⟩:=shRat h4;exact⟨⟨k,ar,r⟩,rfl,hr,ha⟩
end
theorem lm_mono {r:RQ} {a b:Nat} (h:r.lm a) (hab:a≤b):r.lm b:=⟨h.1,h.2.1,ZBv h.2.2.1 hab,ZBv h.2.2.2 hab⟩
end Go.Proofs.YtkefeinbjbeidaaGreatDoor
namespace Go.Pg
open Go Go.RowKit Go.Lib
section
variable {P:Program} {n:Nat}
structure ItS (c:Cx) (n:Nat) (s:ByteArray) (tI:Nat) (J:Nat→(Nat→AV)→Prop) (pos:Nat) (a:Act) (w:World):Prop where
 h:∃e imm g,Rel c n ⟨e,Zak⟩ a w imm∧w.heap[g]?=some (.stringIter s pos)∧c.B≤g∧(∀ad,imm ad→ad.block≠g)∧e tI=.v (.pointer (some ⟨g,0,none⟩))∧J pos e
end
end Go.Pg
namespace Go.Proofs.YtkefeinbjbeidaaGreatDoor
open Go Go.RowKit Go.Pg Go.Proofs.Tryz
attribute [-bool_to_prop] Bool.and_eq_decide Bool.or_eq_decide Bool.decide_beq_decide decide_eq_decide
attribute [local go_sem] Za7 Zbw
def kwL:List ByteArray:=[
 ⟨#[97,110,103,108,101]⟩,
 ⟨#[97,112,101,120]⟩,
 ⟨#[98,105,115,101,99,116,111,114]⟩,
 ⟨#[99,101,110,116,101,114]⟩,
 ⟨#[99,105,114,99,108,101]⟩,
 ⟨#[99,105,114,99,117,109]⟩,
 ⟨#[99,111,108,108,105,110,101,97,114]⟩,
 ⟨#[99,111,109,109,111,110]⟩,
 ⟨#[99,111,110,99,121,99,108,105,99]⟩,
 ⟨#[99,111,110,103,114,117,101,110,116]⟩,
 ⟨#[99,114,111,115,115]⟩,
 ⟨#[99,117,116]⟩,
 ⟨#[100,105,118,105,100,101]⟩,
 ⟨#[102,111,111,116]⟩,
 ⟨#[108,105,110,101]⟩,
 ⟨#[109,101,101,116]⟩,
 ⟨#[109,105,100,112,111,105,110,116]⟩,
 ⟨#[109,105,114,114,111,114]⟩,
 ⟨#[111,110]⟩,
 ⟨#[111,116,104,101,114]⟩,
 ⟨#[112,97,114,97,108,108,101,108]⟩,
 ⟨#[112,101,114,112,101,110,100,105,99,117,108,97,114]⟩,
 ⟨#[112,111,105,110,116,115]⟩,
 ⟨#[112,114,111,118,101]⟩,
 ⟨#[114,97,116,105,111]⟩,
 ⟨#[114,101,102,108,101,99,116]⟩,
 ⟨#[115,97,109,101]⟩,
 ⟨#[115,104,105,102,116]⟩,
 ⟨#[116,117,114,110]⟩]
def letB (c:Nat):Bool:=decide (97≤c∧c≤122) || decide (65≤c∧c≤90)
def digB (c:Nat):Bool:=decide (48≤c∧c≤57)
def gB (s:ByteArray) (k:Nat):Nat:=(s.data.toList.getD k 0).toNat
theorem gB_lt (s:ByteArray) (k:Nat):gB s k < 256:=UInt8.toNat_lt _
def namB (s:ByteArray):Bool:=decide (0 < s.size∧s.size≤20) && (letB (gB s 0) && ((List.range s.size).all (λk=>letB (gB s k) || digB (gB s k)) && !(kwL.any λw=>w.toList == s.toList)))
theorem Zi7 (s:ByteArray):(s.toList == (⟨#[]⟩:ByteArray).toList)=decide (s.size=0):=by
 rw [ByteArray.toList_eq,ByteArray.toList_eq,ZCf,ZDv,ZCr];constructor
 ·intro h;have:=ZDt List.length h;exact this
 ·intro h;exact List.length_eq_zero_iff.1 h
theorem gB_at (s:ByteArray) (k:Nat):((s.data.toList.getD k 0).toNat:Int)=(gB s k:Int):=rfl
theorem Zmp (s:ByteArray):∀n,n≤s.size→∃k,k≤n∧(∀j,j < k→(letB (gB s j) || digB (gB s j))=true)∧(k < n→(letB (gB s k) || digB (gB s k))=false)
 | 0,_=>⟨0,zo,λj h=>zo,λh=>zo⟩
 | n+1,h=>by
   obtain⟨k,h1,h2,h3⟩:=Zmp s n zo;by_cases hk:k < n
   ·exact⟨k,zo,h2,λ_=>h3 hk⟩
   ·have:k=n:=zo;subst this
    cases hb:(letB (gB s k) || digB (gB s k)) with
    | true=>exact⟨k+1,zo,λj hj=>by by_cases e:j=k;rw [e];exact hb;exact h2 j zo,λh=>zo⟩
    | false=>exact⟨k,zo,h2,λ_=>hb⟩
def kinB (c:Nat):Int:=if c=32∨c=9∨c=13∨c=10 then 1 else if letB c=true then 2 else if digB c=true then 3 else if c=40∨c=41∨c=44∨c=59∨c=47∨c=45 then 4 else if c=58 then 5 else if c=35 then 6 else 0
theorem Zt1 (c:Nat):kinB c=2↔letB c=true:=by
 unfold kinB letB;simp only [ZEc,ZCr]
 repeat' split
 all_goals omega
theorem kinB_dig (c:Nat):kinB c=3↔digB c=true:=by
 unfold kinB letB digB;simp only [ZEc,ZCr]
 repeat' split
 all_goals omega
theorem nmKind (c:Nat) (hc:c < 256):Pure prog 276 [.v (.int .u8 (c:Int))] (iv (kinB c)):=by
 unfold kinB letB digB;simp only [ZEc,ZCr];refine pI func276 rfl ntmps276 results276 call276 ?_;(focus (refine wklp w_t w_t w_t (w_r 0) ?_;(repeat' first|exact w_t|apply w_l);all_goals intros));all_goals (congr 2;repeat' split)
 all_goals (first|rfl|omega)
theorem nmEnd (s:ByteArray) (hs:s.size≤1000000000):∃n:Nat,Pure prog 277 [strA s,iv 0,.v (.bool true)] (iv n)∧n≤s.size∧(n=s.size↔(List.range s.size).all (λk=>letB (gB s k) || digB (gB s k))=true):=by
 obtain⟨n,h1,h2,h3⟩:=Zmp s s.size (ZBp _);refine⟨n,?_,h1,?_⟩
 ·refine pI func277 rfl ntmps277 results277 call277 ?_;(focus (refine wkap w_t w_t (w_r 0) ?_;(repeat' first|exact w_t|apply w_l);all_goals intros));refine Zad (ι:=Nat) (λi e m=>i≤n∧e 0=strA s∧e 1=iv i∧e 2=.v (.bool true)) (λi=>n - i) 0 zr ?_ ?_
  ·rintro i e m ⟨hi,e0,e1,e2⟩
   have hk:=nmKind (gB s i) (gB_lt s i);have kl:=Zt1 (gB s i);have kd:=kinB_dig (gB s i);by_cases hlt:i < n
   ·have hb:=h2 i hlt;rw [ZEc,←kl,←kd] at hb;clear kl kd;have hg:=gB_at s i;generalize kinB (gB s i)=x at *;rcases hb with hb | hb
    ·subst hb;(focus (refine wkap (w_4 e0 e1 e2 hg) (w_1 hk) (w_r 0) ?_;(repeat' first|exact w_t|apply w_l);all_goals intros));exact⟨i+1,⟨zo,gW e0,gS,gW e2⟩,zo⟩
    ·subst hb;(focus (refine wkap (w_4 e0 e1 e2 hg) (w_1 hk) (w_r 0) ?_;(repeat' first|exact w_t|apply w_l);all_goals intros));exact⟨i+1,⟨zo,gW e0,gS,gW e2⟩,zo⟩
   ·have hin:i=n:=zo;subst hin;by_cases hsz:i < s.size
    ·have hb:=h3 hsz;rw [ZF7] at hb;have b1:kinB (gB s i)≠2:=λh=>by rw [kl.1 h] at hb;exact absurd hb.1 zd
     have b2:kinB (gB s i)≠3:=λh=>by rw [kd.1 h] at hb;exact absurd hb.2 zd
     clear kl kd;have hg:=gB_at s i;generalize kinB (gB s i)=x at *;(focus (refine wklp (w_4 e0 e1 e2 hg) (w_1 hk) w_t (w_r 0) ?_;(repeat' first|exact w_t|apply w_l);all_goals intros))
    ·(focus (refine wklp (w_3 e0 e1 e2) w_t w_t (w_r 0) ?_;(repeat' first|exact w_t|apply w_l);all_goals intros))
  ·exact⟨ZBx _,gC,gC,gC⟩
 ·rw [ZFt];constructor
  ·intro h x hx;exact h2 x (by rw [h];exact List.mem_range.1 hx)
  ·intro h;rcases ZCc n s.size with h4 | h4
   ·have:=h n (List.mem_range.2 h4);rw [h3 h4] at this;cases this
   ·omega
theorem nmKeys:Pure prog 278 [] (.sl 1 (kwL.map strA)):=by
 unfold kwL;refine pI func278 rfl ntmps278 results278 call278 ?_;(focus (refine wklp w_t w_t w_t (w_r 0) ?_;(repeat' first|exact w_t|apply w_l);all_goals intros))
theorem Zjg:kwL.length=29:=rfl
theorem nmName (s:ByteArray) (hs:s.size≤1000000000):Pure prog 236 [strA s] (.v (.bool (namB s))):=by
 have he:=Zi7 s;unfold namB;by_cases h0:0 < s.size∧s.size≤20
 ·rw [ZBw h0,ZEu];have h00:(decide (s.size=0))=false:=ZBy zo;rw [h00] at he;have hk:=nmKind (gB s 0) (gB_lt s 0);have hg:=gB_at s 0;have kl:=Zt1 (gB s 0)
  cases hl:letB (gB s 0) with
  | false =>
    have hx:kinB (gB s 0)≠2:=λh=>by rw [kl.1 h] at hl;cases hl
    clear kl;rw [ZDg];generalize kinB (gB s 0)=x at *;refine pI func236 rfl ntmps236 results236 call236 ?_;(focus (refine wklp (w_2 he hg) (w_1 hk) w_t (w_r 0) ?_;(repeat' first|exact w_t|apply w_l);all_goals intros))
  | true =>
    have hx:kinB (gB s 0)=2:=kl.2 hl;rw [hx] at hk;rw [ZEu];obtain⟨n,ce,hn,hall⟩:=nmEnd s hs
    cases ha:(List.range s.size).all (λk=>letB (gB s k) || digB (gB s k)) with
    | false =>
      have hlt:n < s.size:=by
       rcases ZCc n s.size with h | h
       ·exact h
       ·rw [hall.1 zo] at ha;cases ha
      rw [ZDg];clear hall ha;refine pI func236 rfl ntmps236 results236 call236 ?_;(focus (refine wklp (w_2 he hg) (w_2 hk ce) w_t (w_r 0) ?_;(repeat' first|exact w_t|apply w_l);all_goals intros))
    | true =>
      have hnn:n=s.size:=hall.2 ha;subst hnn;rw [ZEu];clear hall ha hl hx kl;have ck:=nmKeys;refine pI func236 rfl ntmps236 results236 call236 ?_;(focus (refine wkap (w_4 he hg @Zd2 @Zjg) (w_3 hk ce ck) (w_r 0) ?_;(repeat' first|exact w_t|apply w_l);all_goals intros));refine Zad (ι:=Nat) (λi e m=>i≤29∧e 0=strA s∧e 25=.sl 1 (kwL.map strA)∧e 26=iv 29∧e 27=iv i∧(kwL.take i).any (λw=>w.toList == s.toList)=false) (λi=>29 - i) 0 zr ?_ ?_
      ·rintro i e m ⟨hi,e0,e25,e26,e27,hno⟩
       by_cases hlt:i < 29
       ·have hlt':i < kwL.length:=by rw [Zjg];exact hlt
        have hgk:=Zao strA hlt';have hsn:kwL.take (i+1)=kwL.take i++[kwL[i]]:=ZEd hlt';have hmem:kwL[i]∈kwL:=ZB0 hlt';generalize kwL[i]=w at *
        cases hw:(w.toList == s.toList) with
        | true =>
          have:kwL.any (λw=>w.toList == s.toList)=true:=List.any_eq_true.2 ⟨w,hmem,hw⟩;rw [this];(focus (refine wklp (w_8 e0 e25 e26 e27 hgk hw @Zd2 @Zjg) w_t (w_1 @ZF4) (w_r 0) ?_;(repeat' first|exact w_t|apply w_l);all_goals intros))
        | false =>
          (focus (refine wkap (w_8 e0 e25 e26 e27 hgk hw @Zd2 @Zjg) w_t (w_r 0) ?_;(repeat' first|exact w_t|apply w_l);all_goals intros));exact⟨i+1,⟨zo,gW e0,gW e25,gW e26,gS,by rw [hsn,List.any_append,hno];simp [hw]⟩,zo⟩
       ·have hi2:i=29:=zo;subst hi2;rw [show kwL.take 29=kwL from by rw [←Zjg,ZDc]] at hno;rw [hno];(focus (refine wklp (w_4 e0 e25 e26 e27) w_t (w_1 @ZF6) (w_r 0) ?_;(repeat' first|exact w_t|apply w_l);all_goals intros))
      ·exact⟨ZBx _,gC,gC,by(simp (disch:=omega) only [go_sem,ZBr,Zjg]<;>repeat' first|rfl|refine⟨?_,?_⟩),gC,by simp⟩
 ·rw [ZBy h0,ZDg];by_cases h1:s.size=0
  ·rw [ZBw h1] at he;refine pI func236 rfl ntmps236 results236 call236 ?_;(focus (refine wklp (w_1 he) w_t w_t (w_r 0) ?_;(repeat' first|exact w_t|apply w_l);all_goals intros))
  ·rw [ZBy h1] at he;refine pI func236 rfl ntmps236 results236 call236 ?_;(focus (refine wklp (w_1 he) w_t w_t (w_r 0) ?_;(repeat' first|exact w_t|apply w_l);all_goals intros))
theorem szMapQ:szOf prog 347=some 1:=by kernel_rfl
theorem zInt3:Zan prog 3=some (.int .i64 0):=by kernel_rfl
theorem stQ:stI prog 91 4=true:=by kernel_rfl
theorem mkQ (a b c d:Int):mkOf prog 91 (.agg [iv a,iv b,iv c,iv d])=some (.l [a,b,c,d]):=by
 unfold mkOf;rw [underlying91];show(if stI prog 91 4=true then _ else _)=_;rw [ZBo stQ]
end Go.Proofs.YtkefeinbjbeidaaGreatDoor
namespace Go.Proofs.YtkefeinbjbeidaaGreatDoor
open Go Go.RowKit Go.Pg Go.Pol Go.Proofs.Tryz
attribute [-bool_to_prop] Bool.and_eq_decide Bool.or_eq_decide Bool.decide_beq_decide decide_eq_decide
def arS (k:Int):Int :=
 if k=1 then 0 else if k=2∨k=5∨k=6∨k=14 then 2 else if k=3∨k=4∨k=7∨k=8∨k=10∨k=11 then 3 else if k=9∨k=12∨k=13 then 4 else -1
def arG (k:Int):Int :=
 if k=8 then 2 else if k=1∨k=5 then 3 else if k=2∨k=3∨k=4∨k=6∨k=9 then 4 else if k=7 then 8 else 0
def outB (n:Int) (l:List Int):Bool:=l.any λa=>decide (a < 0) || decide (n≤a)
abbrev RS.zero:RS:=⟨0,.empty,[],⟨false,[],[]⟩⟩
def errS (ss:List RS) (i:Nat):Int :=
 let s:=ss.getD i RS.zero
 if arS s.k < 0 then 8
 else if (s.ar.length:Int)≠arS s.k then 1
 else if outB (i:Int) s.ar=true then 2
 else if (s.k=2∧s.r.ok=false)∨(s.k≠2∧s.r.none=false) then 1
 else if s.nm.size=0 then 0
 else if namB s.nm=false then 6
 else if (ss.take i).any (λt=>t.nm.toList == s.nm.toList)=true then 7
 else 0
def errG (g:RG) (n:Nat):Int :=
 if arG g.k=0 then 8
 else if (g.ar.length:Int)≠arG g.k then 1
 else if outB (n:Int) g.ar=true then 2
 else if (g.k=9∧g.r.ok=false)∨(g.k≠9∧g.r.none=false) then 1
 else 0
def fstE (f:Nat→Int):Nat→Int
 | 0=>0
 | n+1=>if fstE f n≠0 then fstE f n else f n
theorem Ziy {f:Nat→Int}:∀{n:Nat},(∀j,j < n→f j=0)→fstE f n=0
 | 0,_=>rfl
 | n+1,h=>by
   unfold fstE;rw [ZBn (by rw [Ziy λj hj=>h j zo];simp)];exact h n zo
theorem Zsd {f:Nat→Int} {i:Nat} (h:∀j,j < i→f j=0) (hi:f i≠0):∀{n:Nat},i < n→fstE f n=f i
 | 0,hn=>zo
 | n+1,hn=>by
   unfold fstE;by_cases e:i=n
   ·subst e;rw [ZBn (by rw [Ziy h];simp)]
   ·have:=Zsd h hi (n:=n) zo;rw [this,ZBo hi]
def figE (ss:List RS) (gs:List RG):Int :=
 if 40 < ss.length∨8 < gs.length then 4
 else if fstE (errS ss) ss.length≠0 then fstE (errS ss) ss.length
 else fstE (λi=>errG (gs.getD i ⟨0,[],⟨false,[],[]⟩⟩) ss.length) gs.length
def frame (ss:List RS) (gs:List RG):List (Po × Po) × List Vt × Int :=
 if figE ss gs≠0 then ([],[],figE ss gs)
 else if (List.range ss.length).any (bigN ss)=true then ([],[],4)
 else ((frN ss ss.length).cs,(frN ss ss.length).vs,0)
theorem Zyg {n:Int} {l:List Int} (h:outB n l=false) {k:Nat} (hk:k < l.length):0≤gI l k∧gI l k < n:=by
 unfold outB at h;rw [List.any_eq_false] at h;have:=h (gI l k) (by rw [Zg2 hk];exact ZB0 hk);simp only [ZEc,ZCr] at this;omega
theorem Zn6 {ss:List RS} {i:Nat} (hi:i < ss.length) (h:errS ss i=0):0≤arS ss[i].k∧(ss[i].ar.length:Int)=arS ss[i].k∧(∀k,k < ss[i].ar.length→0≤gI ss[i].ar k∧gI ss[i].ar k < (i:Int))∧(ss[i].k=2→ss[i].r.ok=true):=by
 unfold errS at h;rw [show ss.getD i RS.zero=ss[i] from by rw [ZB8,ZBz hi];rfl] at h;generalize ss[i]=s at *;simp only at h;split at h
 ·omega
 ·split at h
  ·omega
  ·split at h
   ·omega
   ·split at h
    ·omega
    ·rename_i h1 h2 h3 h4;refine⟨zo,zo,λk hk=>Zyg (by simpa using h3) hk,λh5=>?_⟩
     cases h6:s.r.ok with
     | true=>rfl
     | false=>exact absurd (.inl ⟨h5,h6⟩) h4
attribute [go_sem] underlying215 underlying108 underlying109 underlying212 zMono
attribute [local go_sem] Zas Zav Zau Zgn Zuq Zkn Zs0 Zur Zgh Zg5 Zj4
theorem Zc4 {q:Rat}:(q.num.sign=0)=(q=0):=by rw [Int.sign_eq_zero_iff_zero,Rat.num_eq_zero]
theorem poLex (s t:Tm) (hs:Sm s.2) (ht:Sm t.2):Pure prog 187 [tmA s,tmA t] (iv (lexC s.2 t.2 (max s.2.length t.2.length))):=by
 have c:Pure prog 243 [ivs s.2,ivs t.2,iv 0] (iv (cmpI s.2 t.2 0)):=monCmp s.2 t.2 0 hs ht;have e:cmpI s.2 t.2 0=lexC s.2 t.2 (max s.2.length t.2.length):=by unfold cmpI;rw [ZBn zo]
 rw [e] at c;obtain⟨q,a⟩:=s;obtain⟨r,b⟩:=t;simp only at *;generalize lexC a b (max a.length b.length)=x at *;refine pI func187 rfl ntmps187 results187 call187 ?_;(focus (refine wklp w_t (w_1 c) w_t (w_r 0) ?_;(repeat' first|exact w_t|apply w_l);all_goals intros))
theorem poAdded (s t:Tm) {j k:Nat} (hs:Sz s.1 j) (ht:Sz t.1 k) (hj:j≤1000000) (hk:k≤1000000):Pure prog 188 [tmA s,tmA t] (.tup [tmA (s.1+t.1,s.2),.v (.bool (!decide ((s.1+t.1).num.sign=0)))]):=by
 have c:=Zte s.1 t.1 hs ht zo zo;have cs:=Zc8 (s.1+t.1) (hs.add ht) zo;obtain⟨q,a⟩:=s;obtain⟨r,b⟩:=t;simp only at *;generalize q+r=x at *;refine pI func188 rfl ntmps188 results188 call188 ?_
 (repeat' (first|(with_reducible first|refine stp ?_|apply gx1|apply gx2|apply gx3|apply gx4|apply gx5|apply gx6|apply gx7|apply gy8|apply gz2|apply gz3|refine gw0 (c) ?_ ?_|refine gw3 (c) ?_ ?_ ?_|refine gw0 (cs) ?_ ?_|refine gw3 (cs) ?_ ?_ ?_)|(with_reducible refine Zcm ?_;intro _)|((with_reducible refine gE ?_);(try simp (disch:=omega) only [go_sem])<;>first|rfl|omega)|with_reducible refine Zaj zd ?_|((with_reducible apply gy1);iterate 3 focus rfl)|((with_reducible apply gy2);iterate 3 focus rfl)|((with_reducible apply gy3);iterate 2 focus rfl)|((with_reducible apply gy4);iterate 1 focus rfl)|((with_reducible apply gy5);iterate 4 focus rfl)|((with_reducible apply gy5c);iterate 4 focus rfl)|((with_reducible apply gy6);iterate 4 focus rfl)|((with_reducible apply Zj8);iterate 3 focus rfl)|((with_reducible apply Zj7);iterate 1 focus rfl)|((with_reducible apply gy7);iterate 1 focus rfl)|((with_reducible apply gy9);(focus ((with_reducible refine gE ?_);(try simp (disch:=omega) only [go_sem])<;>rfl)))|((with_reducible apply gz1);(focus first|rfl|(simp (disch:=omega) only [go_sem];done)))|((with_reducible apply Zcl (Ze1 [(5,.v (.int .i64 x.num.sign))]) [] [4]);(focus kernel_rfl);(focus rfl);(focus kernel_rfl);(focus (simp only [ZB2,ZCe,Nat.reduceAdd];rfl)))))
 (all_goals (try simp (disch:=omega) only [go_sem,ZBw,ZBy,ZBo,ZBn,Int.reduceAdd,Int.reduceSub,Int.reduceToNat,ZB3]));(all_goals first|done|rfl|(congr 2;first|done|omega|(rw [ZCf];simp only [bool_to_prop,ZB1,ZCl,ZCm,ZCn,ZCo];omega))|skip)
theorem ZBc {p q:Po} {i k:Nat} (hi:i < p.length) (hk:k < q.length):addM (p.drop i) (q.drop k) =
 if ltM q[k].2 p[i].2 then p[i] :: addM (p.drop (i+1)) (q.drop k) else if ltM p[i].2 q[k].2 then q[k] :: addM (p.drop i) (q.drop (k+1))
 else if p[i].1+q[k].1=0 then addM (p.drop (i+1)) (q.drop (k+1)) else (p[i].1+q[k].1,p[i].2) :: addM (p.drop (i+1)) (q.drop (k+1)):=by
 rw [ZDl hi,ZDl hk];rw [show addM (p[i] :: p.drop (i+1)) (q[k] :: q.drop (k+1))=_ from by unfold addM;rw [addP]]
theorem addM_end {p q:Po} {i k:Nat} (h:p.length≤i∨q.length≤k):addM (p.drop i) (q.drop k)=p.drop i++q.drop k:=by
 rcases h with h | h
 ·rw [ZC9 h];simp [addM,addP]
 ·rw [ZC9 h,ZC4];exact Zog _
theorem poMerge (p q:Po) {j k e:Nat} (hp:PK p j e) (hq:PK q k e) (sp:SrtM p) (sq:SrtM q) (lp:p.length≤1000000) (lq:q.length≤1000000) (hj:j≤1000000) (hk:k≤1000000) (he:e≤16777216) :
 Pure prog 186 [poA p,poA q,.fn 187 [],.fn 188 []] (poA (addM p q)):=by
 refine pI func186 rfl ntmps186 results186 call186 ?_;(focus (refine wkad (w_1 @Zd2) w_t w_t ?_;(repeat' first|exact w_t|apply w_l);all_goals intros));rename_i sv0;refine Zad (ι:=Nat × Nat) (λx e m=>x.1≤p.length∧x.2≤q.length∧e 0=poA p∧e 1=poA q∧e 2=.fn 187 []∧e 3=.fn 188 []∧e 10=iv x.1∧e 11=iv x.2∧∃sv out,e 9=.own 20 sv∧m 20=some (.row sv 215 4 (out.map tmA) 0)∧out.length≤x.1+x.2∧addM p q=out++addM (p.drop x.1) (q.drop x.2)) (λx=>p.length+q.length - (x.1+x.2)) (0,0) zr ?_ ?_
 ·rintro ⟨i,l⟩ e m ⟨hi,hl,e0,e1,e2,e3,e10,e11,sv,out,e9,em,ho,hs⟩
  simp only at hi hl e10 e11 ho hs;by_cases hil:i < p.length∧l < q.length
  ·obtain⟨hi2,hl2⟩:=hil;have hg:=Zao tmA hi2;have hh:=Zao tmA hl2;have st:=ZBc hi2 hl2;have ms:=hp _ (ZB0 hi2);have mt:=hq _ (ZB0 hl2);have m1:=hp.sm he (ZB0 hi2);have m2:=hq.sm he (ZB0 hl2);have d1:=sp.dom _ (ZB0 hi2);have d2:=sq.dom _ (ZB0 hl2);generalize p[i]=s at *;generalize q[l]=t at *;have cl:=poLex s t m1 m2;have ca:=poAdded s t ms.1 mt.1 hj hk;have hlen:(out.map tmA).length=out.length:=ZBr ..;rw [st] at hs;rcases Zvw d1 d2 with⟨h1,h2⟩ | ⟨h1,h1',h2,h3⟩ | ⟨h1,h1',h2⟩
   ·have h3:¬ltM t.2 s.2:=λh=>ordM.irr _ (ordM.tr _ _ _ h h1);rw [ZBn h3,ZBo h1] at hs;rw [h2] at cl;clear st ms mt m1 m2 d1 d2 ca;(focus (refine wkad (w_11 e0 e1 e2 e3 e9 e10 e11 em hg hh @Zd2) (w_1 cl) (w_1 (w_d 4 [(9,iv (-1))] [] [])) ?_;(repeat' first|exact w_t|apply w_l);all_goals intros));refine⟨(i,l+1),⟨by simp only;omega,by simp only;omega,gW e0,gW e1,gW e2,gW e3,gW e10,gS,_,out++[t],gC,by(simp (disch:=omega) only [go_sem,ZCb]<;>repeat' first|rfl|refine⟨?_,?_⟩),by simp only [ZCh,ZB2,ZCe];omega,by rw [hs,ZCz];rfl⟩,by simp only;omega⟩
   ·rw [ZBn h1',ZBn h1] at hs;rw [h3] at cl;by_cases hz:s.1+t.1=0
    ·rw [ZBo hz] at hs;rw [ZBw (show(s.1+t.1).num.sign=0 by rw [Zc4];exact hz)] at ca;clear st ms mt m1 m2 d1 d2;generalize (s.1+t.1)=z at *;(focus (refine wkad (w_12 e0 e1 e2 e3 e9 e10 e11 em hg hh @Zd2 @ZF4) (w_2 cl ca) (w_2 (w_d 4 [(9,iv 0)] [] []) (w_d 5 [(9,.tup [tmA (z,s.2),.v (.bool false)])] [] [13])) ?_;(repeat' first|exact w_t|apply w_l);all_goals intros));refine⟨(i+1,l+1),⟨by simp only;omega,by simp only;omega,gW e0,gW e1,gW e2,gW e3,gS,gS,_,out,gW e9,gW em,by simp only;omega,hs⟩,by simp only;omega⟩
    ·rw [ZBn hz] at hs;rw [ZBy (show ¬(s.1+t.1).num.sign=0 by rw [Zc4];exact hz)] at ca;clear st ms mt m1 m2 d1 d2;generalize (s.1+t.1)=z at *;(focus (refine wkad (w_12 e0 e1 e2 e3 e9 e10 e11 em hg hh @Zd2 @ZF6) (w_2 cl ca) (w_2 (w_d 4 [(9,iv 0)] [] []) (w_d 5 [(9,.tup [tmA (z,s.2),.v (.bool true)])] [] [13])) ?_;(repeat' first|exact w_t|apply w_l);all_goals intros));refine⟨(i+1,l+1),⟨by simp only;omega,by simp only;omega,gW e0,gW e1,gW e2,gW e3,gS,gS,_,out++[(z,s.2)],gC,by(simp (disch:=omega) only [go_sem,ZCb]<;>repeat' first|rfl|refine⟨?_,?_⟩),by simp only [ZCh,ZB2,ZCe];omega,by rw [hs,ZCz];rfl⟩,by simp only;omega⟩
   ·rw [ZBo h1] at hs;rw [h2] at cl;clear st ms mt m1 m2 d1 d2 ca;(focus (refine wkad (w_11 e0 e1 e2 e3 e9 e10 e11 em hg hh @Zd2) (w_1 cl) (w_1 (w_d 4 [(9,iv 1)] [] [])) ?_;(repeat' first|exact w_t|apply w_l);all_goals intros));refine⟨(i+1,l),⟨by simp only;omega,by simp only;omega,gW e0,gW e1,gW e2,gW e3,gS,gW e11,_,out++[s],gC,by(simp (disch:=omega) only [go_sem,ZCb]<;>repeat' first|rfl|refine⟨?_,?_⟩),by simp only [ZCh,ZB2,ZCe];omega,by rw [hs,ZCz];rfl⟩,by simp only;omega⟩
  ·rw [addM_end zo] at hs;rw [hs];clear hs;have tp:(p.map tmA).take p.length=p.map tmA:=by rw [←ZBr (f:=tmA),ZDc]
   have tq:(q.map tmA).take q.length=q.map tmA:=by rw [←ZBr (f:=tmA),ZDc]
   by_cases hi2:i < p.length
   ·have hl2:l=q.length:=zo;subst hl2;(focus (refine wkad (w_15 e0 e1 e2 e3 e9 e10 e11 em @Zd2 @l_drop @Zzi @l_take @Nat.min_self tp tq) w_t w_t ?_;(repeat' first|exact w_t|apply w_l);all_goals intros))
    (all_goals (try simp (disch:=omega) only [go_sem,ZCz,tp,tq,ZBw,ZBy,ZBo,ZBn,Int.reduceAdd,Int.reduceSub,Int.reduceToNat,ZB3]));(all_goals first|done|rfl|(congr 2;first|done|omega|(rw [ZCf];simp only [bool_to_prop,ZB1,ZCl,ZCm,ZCn,ZCo];omega))|skip)
    all_goals exact ZDt (AV.sl 4) (by simp only [ZCb,List.map_drop])
   ·(focus (refine wkad (w_15 e0 e1 e2 e3 e9 e10 e11 em @Zd2 @l_drop @Zzi @l_take @Nat.min_self tp tq) w_t w_t ?_;(repeat' first|exact w_t|apply w_l);all_goals intros))
    (all_goals (try simp (disch:=omega) only [go_sem,ZCz,tp,tq,ZBw,ZBy,ZBo,ZBn,Int.reduceAdd,Int.reduceSub,Int.reduceToNat,ZB3]));(all_goals first|done|rfl|(congr 2;first|done|omega|(rw [ZCf];simp only [bool_to_prop,ZB1,ZCl,ZCm,ZCn,ZCo];omega))|skip)
    all_goals exact ZDt (AV.sl 4) (by simp only [ZCb,List.map_drop])
 ·exact⟨ZBx _,ZBx _,gC,gC,gC,gC,gC,gC,_,[],gC,by(simp (disch:=omega) only [go_sem,ZDk,List.replicate_zero]<;>repeat' first|rfl|refine⟨?_,?_⟩),by simp,by simp⟩
theorem poAdd (p q:Po) {j k e:Nat} (hp:PK p j e) (hq:PK q k e) (sp:SrtM p) (sq:SrtM q) (lp:p.length≤1000000) (lq:q.length≤1000000) (hj:j≤1000000) (hk:k≤1000000) (he:e≤16777216) :
 Pure prog 107 [poA p,poA q] (poA (addM p q)):=by
 have c:=poMerge p q hp hq sp sq lp lq hj hk he;generalize addM p q=r at *;refine pI func107 rfl ntmps107 results107 call107 ?_;(focus (refine wklp w_t (w_1 c) w_t (w_r 0) ?_;(repeat' first|exact w_t|apply w_l);all_goals intros))
theorem poTimes1 {p:Po} {t:Tm} {i:Nat} (hi:i < p.length):Zc3 mulM (p.take (i+1)) t=Zc3 mulM (p.take i) t++[(p[i].1*t.1,mulM p[i].2 t.2)]:=by
 unfold Zc3;rw [ZEd hi,ZCb];rfl
theorem Zu2 (p:Po) (t:Tm):(Zc3 mulM p t).length=p.length:=by unfold Zc3;simp
theorem poTimesN (p:Po) (t:Tm) (hn:t.2=[]) {j k e f:Nat} (hp:PK p j e) (ht:PK [t] k f) (sp:SrtM p) (h0:t.1≠0) (hd:Can t.2) (lp:p.length≤1000000) (hj:j≤1000000) (hk:k≤1000000) (he:e≤16777216) (hf:f≤16777216) :
 Pure prog 184 [poA p,.agg [.v (.bool (decide (t.1.num < 0))),lim (toL t.1.num.natAbs),lim (toL t.1.den),.v (.slice none 0 0)]] (poA (Zc3 mulM p t)):=by
 refine pI func184 rfl ntmps184 results184 call184 ?_;(focus (refine wkad (w_1 @Zd2) w_t w_t ?_;(repeat' first|exact w_t|apply w_l);all_goals intros));rename_i g3 sv0;refine Zad (ι:=Nat) (λi e m=>i≤p.length∧e 3=.pbox 3 g3 0∧m 3=some (.box g3 215 [.v (.bool (decide (t.1.num < 0))),lim (toL t.1.num.natAbs),lim (toL t.1.den),.v (.slice none 0 0)] false)∧e 12=poA p∧e 13=iv p.length∧e 14=iv i∧∃sv,e 5=.own 11 sv∧m 11=some (.row sv 215 4 ((Zc3 mulM (p.take i) t).map tmA) 0)) (λi=>p.length - i) 0 zr ?_ ?_
 ·rintro i e m ⟨hi,e3,m3,e12,e13,e14,sv,e5,m11⟩
  by_cases hlt:i < p.length
  ·have hg:=Zao tmA hlt;have hs:=poTimes1 (t:=t) hlt;have ms:=hp _ (ZB0 hlt);have m1:=hp.sm he (ZB0 hlt);have m2:=ht.sm hf (.head _);have d1:=sp.dom _ (ZB0 hlt);have n1:=(sp.1 _ (ZB0 hlt)).1;have mt:=(ht t (.head _)).1;have hl:(Zc3 mulM (p.take i) t).length≤1000000:=by rw [Zu2,ZB9];omega
   generalize p[i]=s at *;have c1:=Zxv s.1 t.1 ms.1 mt zo zo;have c2:=Zc8 (s.1*t.1) (ms.1.mul mt) zo;have c3:Pure prog 242 [ivs s.2,ivs t.2] (ivs (Zj5 (mulM s.2 t.2))):=monMul s.2 t.2 m1.wd m2.wd;rw [trim_can (mulK.dom _ _ d1 hd)] at c3
   have nz:¬(s.1*t.1).num.sign=0:=by
    rw [Zc4];intro h;rcases Rat.mul_eq_zero.1 h with h | h
    ·exact n1 h
    ·exact h0 h
   have nz2:(!decide ((s.1*t.1).num.sign=0))=true:=by rw [ZBy nz];rfl
   have c3:Pure prog 242 [ivs s.2,.v (.slice none 0 0)] (ivs (mulM s.2 t.2)):=by
    rw [hn] at c3 ⊢;exact Zhh c3 (.cons (.refl _) (.cons (.nil 1) .nil))
   obtain⟨s1,s2⟩:=s;simp only at *;clear ms m1 m2 d1 n1 mt;generalize s1*t.1=z at *;generalize mulM s2 t.2=w at *;generalize Zc3 mulM (p.take i) t=out at *;(focus (refine wkad (w_10 e3 m3 e12 e13 e14 e5 m11 hg @Zd2 nz2) (w_3 c1 c2 c3) (w_1 (w_d 7 [(6,ivs w)] [9,1009] [11,34])) ?_;(repeat' first|exact w_t|apply w_l);all_goals intros));exact⟨i+1,⟨zo,gW e3,gW m3,gW e12,gW e13,gS,_,gC,by rw [hs,ZCb];exact gC⟩,zo⟩
  ·have hi2:i=p.length:=zo;subst hi2;rw [ZDc] at m11;(focus (refine wkld (w_8 e3 m3 e12 e13 e14 e5 m11 @Zd2) w_t (w_1 m11) w_t ?_;(repeat' first|exact w_t|apply w_l);all_goals intros))
 ·exact⟨ZBx _,gC,gC,gC,by(simp (disch:=omega) only [go_sem,ZBr]<;>repeat' first|rfl|refine⟨?_,?_⟩),gC,_,gC,by(simp (disch:=omega) only [go_sem,ZEs,Zc3,ZDk,List.replicate_zero]<;>repeat' first|rfl|refine⟨?_,?_⟩)⟩
def SumOk (l:List Po) (K e:Nat):Prop:=∀a b,PK (sumH ltM ((l.drop a).take b)) K e∧(sumH ltM ((l.drop a).take b)).length≤1000000
theorem SumOk.take {l:List Po} {K e:Nat} (h:SumOk l K e) (k:Nat):SumOk (l.take k) K e:=λa b=>by
 rw [List.drop_take,List.take_take];exact h a _
theorem SumOk.drop {l:List Po} {K e:Nat} (h:SumOk l K e) (k:Nat):SumOk (l.drop k) K e:=λa b=>by
 rw [ZFw];exact h _ b
theorem SumOk.all {l:List Po} {K e:Nat} (h:SumOk l K e):PK (sumH ltM l) K e∧(sumH ltM l).length≤1000000:=by
 have:=h 0 l.length
 rwa [ZD1,ZDc] at this
def partsM (p q:Po):List Po:=if q.length < p.length then q.map λt=>Zc3 mulM p t else p.map λt=>Zc3 mulM q t
theorem SumOk.one {l:List Po} {K e:Nat} (hl:l.length≤1) (h:∀p∈l,PK p K e∧p.length≤1000000):SumOk l K e:=λa b=>by
 have h0:PK (sumH ltM []) K e∧(sumH ltM []).length≤1000000:=by rw [show sumH ltM []=[] from by simp [sumH]];exact⟨.nil,by simp⟩
 match l,hl,h with
 | [],_,_=>simpa using h0
 | [p],_,h =>
   match a,b with
   | 0,0=>simpa using h0
   | 0,b+1=>simp only [ZD1,ZHd,List.take_nil];rw [show sumH ltM [p]=p from by simp [sumH]];exact h p (.head _)
   | a+1,b=>simpa using h0
theorem Zrk (p:Po) (a:Rat) {j k e:Nat} (hp:PK p j e) (ha:Sz a k) (sp:SrtM p) (lp:p.length≤1000000) (hj:j≤1000000) (hk:k≤1000000) (he:e≤16777216):Pure prog 174 [poA p,ratQ a] (poA (sclM a p)):=by
 have cs:=Zc8 a ha zo;unfold sclM;by_cases h:a=0
 ·rw [ZBo h];have hz:a.num.sign=0:=by rw [Zc4];exact h
  refine Zen (r:=.v (.slice none 0 0)) ?_ (.nil 4);refine pI func174 rfl ntmps174 results174 call174 ?_;(focus (refine wklp (w_1 hz) (w_1 cs) w_t (w_r 0) ?_;(repeat' first|exact w_t|apply w_l);all_goals intros))
 ·rw [ZBn h];have hz:¬a.num.sign=0:=by rw [Zc4];exact h
  have ct:=poTimesN p (a,[]) rfl (j:=j) (k:=k) (e:=e) (f:=0) hp (λu hu=>by rw [ZFa] at hu;subst hu;exact⟨ha,by simp,λi=>by show 0≤gI [] i∧gI [] i≤_;rw [Zc5 (ZBx _)];omega⟩) sp h can_nil lp hj hk he zo;rw [Zu1] at ct;simp only at ct;generalize Zbh a p=r at *;generalize a.num.sign=z at *;refine pI func174 rfl ntmps174 results174 call174 ?_;(focus (refine wklp w_t (w_2 cs ct) w_t (w_r 0) ?_;(repeat' first|exact w_t|apply w_l);all_goals intros))
theorem poNeg (p:Po) {j e:Nat} (hp:PK p j e) (sp:SrtM p) (lp:p.length≤1000000) (hj:j≤1000000) (he:e≤16777216):Pure prog 175 [poA p] (poA (Zbh (-1) p)):=by
 have c:=Zrk p (-1) hp ((Zyw 1 zo).neg) sp lp hj zo he;have co:=ratOfM;rw [show sclM (-1) p=Zbh (-1) p from ZBn neg1] at c;generalize Zbh (-1) p=r at *;generalize (-1:Rat)=q at *;refine pI func175 rfl ntmps175 results175 call175 ?_;(focus (refine wklp w_t (w_2 co c) w_t (w_r 0) ?_;(repeat' first|exact w_t|apply w_l);all_goals intros))
theorem PK.neg {q:Po} {k e:Nat} (hq:PK q k e):PK (Zbh (-1) q) k e:=λt ht=>by
 obtain⟨s,hs,rfl⟩:=List.mem_map.1 ht;refine⟨?_,(hq s hs).2⟩;show Sz (s.1*-1) k;rw [show s.1*-1=-s.1 by grind];exact(hq s hs).1.neg
theorem Zk0 (a:Rat) (p:Po):(Zbh a p).length=p.length:=by unfold Zbh;simp
theorem poSub (p q:Po) {j k e:Nat} (hp:PK p j e) (hq:PK q k e) (sp:SrtM p) (sq:SrtM q) (lp:p.length≤1000000) (lq:q.length≤1000000) (hj:j≤1000000) (hk:k≤1000000) (he:e≤16777216) :
 Pure prog 239 [poA p,poA q] (poA (subM p q)):=by
 have c1:=poNeg q hq sq lq hk he;have c2:=poAdd p (Zbh (-1) q) hp hq.neg sp (Zgr sq neg1) lp (by rw [Zk0];exact lq) hj hk he;show Pure _ _ _ (poA (addM p (Zbh (-1) q)));generalize Zbh (-1) q=n at *;generalize addM p n=r at *;refine pI func239 rfl ntmps239 results239 call239 ?_;(focus (refine wklp w_t (w_2 c1 c2) w_t (w_r 0) ?_;(repeat' first|exact w_t|apply w_l);all_goals intros))
theorem unit_set (v:Nat):((List.replicate (v+1) (iv 0)).set v (iv 1))=(Zhs v).map iv:=by
 unfold Zhs;rw [ZCb,List.map_replicate,List.replicate_succ',List.set_append_right _ _ zs];simp
theorem poSingle (c:Rat) (m:List Int) (h:c≠0) {k:Nat} (hc:Sz c k) (hk:k≤1000000):Pure prog 179 [ratQ c,ivs m] (poA [(c,m)]):=by
 have cs:=Zc8 c hc zo;have hz:¬c.num.sign=0:=by rw [Zc4];exact h
 generalize c.num.sign=z at *;refine pI func179 rfl ntmps179 results179 call179 ?_;(focus (refine wklp w_t (w_1 cs) w_t (w_r 0) ?_;(repeat' first|exact w_t|apply w_l);all_goals intros))
theorem poVar (v:Nat) (hv:v < 1000):Pure prog 181 [iv v] (poA (varM v)):=by
 unfold varM;by_cases h:v < 64
 ·rw [ZBo h];have c1:=Zo5 1 zo;rw [show((1:Nat):Rat)=1 from rfl] at c1;have c2:=poSingle 1 (Zhs v) zd (Zyw 1 zo) zo;have hu:(iv 0 :: List.replicate v (iv 0)).set v (iv 1)=(Zhs v).map iv:=by rw [←List.replicate_succ];exact unit_set v
  generalize (1:Rat)=q at *;have hl:(List.replicate (v+1) (iv 0)).length=v+1:=by simp
  refine pI func181 rfl ntmps181 results181 call181 ?_;(focus (refine wkax (w_2 hl hu) (w_1 c1) w_t (w_1 c2) w_t w_t w_y (w_r 0) ?_;(repeat' first|exact w_t|apply w_l);all_goals intros))
  (all_goals (try simp (disch:=omega) only [go_sem,ZBw,ZBy,ZBo,ZBn,Int.reduceAdd,Int.reduceSub,Int.reduceToNat,ZB3]));(all_goals first|done|rfl|(congr 2;first|done|omega|(rw [ZCf];simp only [bool_to_prop,ZB1,ZCl,ZCm,ZCn,ZCo];omega))|skip)
 ·rw [ZBn h];refine Zen (r:=.v (.slice none 0 0)) ?_ (.nil 4);refine pI func181 rfl ntmps181 results181 call181 ?_;(focus (refine wklp w_t w_t w_t (w_r 0) ?_;(repeat' first|exact w_t|apply w_l);all_goals intros))
theorem qSign (q:Rat) {k:Nat} (h:Sz q k) (hk:k≤10000000):Pure prog 75 [ratQ q] (.v (.int .i64 q.num.sign)):=by
 have c:=zSign q.num (by have:=h.1;omega);have cn:=Zx3 q h hk;generalize q.num.sign=z at *;refine pI func75 rfl ntmps75 results75 call75 ?_;exact wklp w_t (w_2 cn c) w_t (w_r 0) w_z
attribute [local go_sem] Zag Zar Zah Bool.and_self Zal Zbb Za8
abbrev QTs:=List (Rat × List Qt)
abbrev qpA (p:QTs):AV:=.sl 4 (p.map qtA)
theorem Zx4 {l:List Qt} {q:Qt}:∀{i:Nat},(∀t (h:t < l.length),t < i→Qt.cmp l[t] q≤0)→i≤l.length→putQ Qt.cmp l q=l.take i++putQ Qt.cmp (l.drop i) q:=by
 induction l with
 | nil=>intro i _ h;have:i=0:=by simpa using h
        subst this;rfl
 | cons a l ih =>
   intro i h hi
   cases i with
   | zero=>rfl
   | succ i =>
     show(if Qt.cmp a q≤0 then a :: putQ Qt.cmp l q else q :: a :: l)=a :: (l.take i++putQ Qt.cmp (l.drop i) q);have h0:Qt.cmp a q≤0:=h 0 zs zo;rw [ZBo h0,ih (i:=i) (λt ht hti=>h (t+1) (Nat.succ_lt_succ ht) (Nat.succ_lt_succ hti)) (Nat.le_of_succ_le_succ hi)]
theorem put_stop {l:List Qt} {q:Qt} (h:∀a t,l=a :: t→¬Qt.cmp a q≤0):putQ Qt.cmp l q=q :: l:=by
 cases l with
 | nil=>rfl
 | cons a t=>show(if Qt.cmp a q≤0 then _ else _)=_;rw [ZBn (h a t rfl)]
theorem rxPut (l:List Qt) (q:Qt) (hl:l.length≤1000):Pure prog 200 [qsA l,q.av] (qsA (putQ Qt.cmp l q)):=by
 have hlm:(l.map Qt.av).length=l.length:=ZBr ..;have hg:∀j (h:j < l.length),(l.map Qt.av).getD j .u=Qt.av l[j]:=λj h=>Zao Qt.av h;have hmd:∀i,(l.map Qt.av).drop i=(l.drop i).map Qt.av:=λi=>List.map_drop.symm;show Pure _ _ [.sl 4 (l.map Qt.av),.agg [iv q.k,iv q.a,iv q.b,iv q.c]] _;generalize l.map Qt.av=A at *;refine pI func200 rfl ntmps200 results200 call200 ?_
 (refine wkad (w_1 hlm) w_t w_t (w_s ?_);intros)
 rename_i g3;refine Zea (Frz.nilOwn (d:=5) 26 4 91 (gC)) ?_;refine Zad (ι:=Nat) (λi e m=>i≤l.length∧(∀t (h:t < l.length),t < i→Qt.cmp l[t] q≤0)∧e 0=.sl 4 A∧e 3=.pbox 3 g3 0∧m 3=some (.box g3 91 [iv q.k,iv q.a,iv q.b,iv q.c] false)∧e 6=iv i∧∃sv,e 5=.own 26 sv∧m 26=some (.row sv 91 4 ((l.take i).map Qt.av) 0)) (λi=>l.length - i) 0 zr ?_ ?_
 ·rintro i e m ⟨hi,hc,e0,e3,m3,e6,sv,e5,m26⟩
  have htl:((l.take i).map Qt.av).length=i:=by rw [ZBr,ZB9];omega
  have hsp:=Zx4 hc hi;have htk:A.take l.length=A:=ZDf zo;have hmdi:=hmd i;by_cases hlt:i < l.length
  ·have g1:=hg i hlt;have cc:=rqCmp l[i].k l[i].a l[i].b l[i].c q.k q.a q.b q.c;have hta:(l.take (i+1)).map Qt.av=(l.take i).map Qt.av++[Qt.av l[i]]:=by rw [ZEq,ZBz hlt,ZCb];rfl
   by_cases hz:Qt.cmp l[i] q≤0
   ·have hc2:∀t (h:t < l.length),t < i+1→Qt.cmp l[t] q≤0:=λt h hti=>by
     by_cases e:t=i
     ·subst e;exact hz
     ·exact hc t h zo
    clear hsp hc hmd hg;obtain⟨q1,q2,q3,q4⟩:=q;generalize l[i]=x at *;obtain⟨x1,x2,x3,x4⟩:=x;simp only at *;generalize Qt.cmp _ _=z at *;generalize (l.take i).map Qt.av=T at *
    (refine wkad (w_10 e0 e3 m3 e5 e6 m26 hlm g1 hz htl) (w_1 cc) (w_1 (w_d 3 [(10,iv z)] [] [])) (w_s ?_);intros)
    exact⟨i+1,⟨zo,hc2,gW e0,gW e3,gW m3,gS,_,gC,by rw [hta];exact gC⟩,zo⟩
   ·have hst:putQ Qt.cmp (l.drop i) q=q :: l.drop i:=put_stop λa t e=>by
     have:l.drop i=l[i] :: l.drop (i+1):=ZDl hlt;rw [this] at e;injection e with e1 _
     rw [←e1];exact hz
    have hfin:qsA (putQ Qt.cmp l q)=.sl 4 (((l.take i).map Qt.av++[.agg [iv q.k,iv q.a,iv q.b,iv q.c]])++(l.drop i).map Qt.av):=by unfold qsA;rw [hsp,hst];simp
    rw [hfin];have hdl:((l.drop i).map Qt.av).length=l.length - i:=by rw [ZBr,ZDo]
    have hnl:(i:Int).toNat=i:=ZFc i;clear hfin hsp hst hc hmd hg hta;obtain⟨q1,q2,q3,q4⟩:=q;generalize l[i]=x at *;obtain⟨x1,x2,x3,x4⟩:=x;simp only at *;generalize Qt.cmp _ _=z at *;generalize (l.take i).map Qt.av=T at *;generalize (l.drop i).map Qt.av=R at *
    (refine wkad (w_14 e0 e3 m3 e5 e6 m26 hlm g1 hz htl htk hmdi hdl @Zzi) (w_1 cc) (w_1 (w_d 3 [(10,iv z)] [] [])) (w_s ?_);intros)
    all_goals exact gL
  ·have hil:i=l.length:=zo;have hst:putQ Qt.cmp (l.drop i) q=[q]:=by rw [ZD4 zo];rfl
   have hfin:qsA (putQ Qt.cmp l q)=.sl 4 (((l.take i).map Qt.av++[.agg [iv q.k,iv q.a,iv q.b,iv q.c]])++[]):=by unfold qsA;rw [hsp,hst];simp
   rw [hfin];have hdn:A.drop i=[]:=by rw [hmdi,ZD4 zo];rfl
   clear hfin hsp hst hc hmd hg;obtain⟨q1,q2,q3,q4⟩:=q;simp only at *;generalize (l.take i).map Qt.av=T at *;subst hil
   (refine wkad (w_11 e0 e3 m3 e5 e6 m26 hlm htl htk hdn @Zzi) w_t w_t (w_s ?_);intros)
   all_goals exact gL
 ·exact⟨ZBx _,λt h hti=>zo,gC,gC,gC,gC,_,gC,gC⟩
abbrev Za1 (p q:QTs):QTs:=addP (λx y=>ordQ y x < 0) p q
def QK (p:QTs) (j n:Nat):Prop:=∀t∈p,Sz t.1 j∧t.2.length≤n
theorem QK.mono {p:QTs} {j n k m:Nat} (h:QK p j n) (hj:j≤k) (hn:n≤m):QK p k m:=λt ht=>⟨(h t ht).1.mono hj,ZBv (h t ht).2 hn⟩
theorem Zp1 {p q:QTs} {i k:Nat} (hi:i < p.length) (hk:k < q.length):Za1 (p.drop i) (q.drop k) =
 if ordQ p[i].2 q[k].2 < 0 then p[i] :: Za1 (p.drop (i+1)) (q.drop k) else if ordQ q[k].2 p[i].2 < 0 then q[k] :: Za1 (p.drop i) (q.drop (k+1))
 else if p[i].1+q[k].1=0 then Za1 (p.drop (i+1)) (q.drop (k+1)) else (p[i].1+q[k].1,p[i].2) :: Za1 (p.drop (i+1)) (q.drop (k+1)):=by
 rw [ZDl hi,ZDl hk];rw [show Za1 (p[i] :: p.drop (i+1)) (q[k] :: q.drop (k+1))=_ from by unfold Za1;rw [addP]]
theorem Zfh {p q:QTs} {i k:Nat} (h:p.length≤i∨q.length≤k):Za1 (p.drop i) (q.drop k)=p.drop i++q.drop k:=by
 rcases h with h | h
 ·rw [ZC9 h];simp [Za1,addP]
 ·rw [ZC9 h,ZC4];exact Zog _
theorem join_QK {p q:QTs} {j k n:Nat} (hp:QK p j n) (hq:QK q k n):QK (Za1 p q) (j+k+1) n:=λt ht=>by
 rcases Zgy ht with h | h | ⟨s,hs,u,hu,rfl⟩
 ·exact⟨(hp t h).1.mono zo,(hp t h).2⟩
 ·exact⟨(hq t h).1.mono zo,(hq t h).2⟩
 ·exact⟨(hp s hs).1.add (hq u hu).1,(hp s hs).2⟩
theorem Zpe (l m:List Qt):(ordQ l m=-1∧ordQ l m < 0)∨(ordQ l m=0∧¬ordQ l m < 0∧¬ordQ m l < 0)∨(ordQ l m=1∧¬ordQ l m < 0∧ordQ m l < 0):=by
 have hf:=Zbq.flip m l
 have h3:ordQ l m=-1∨ordQ l m=0∨ordQ l m=1:=by
  unfold ordQ ordL;split
  ·exact .inl rfl
  ·split
   ·exact .inr (.inr rfl)
   ·clear hf;rename_i h1 h2;clear h1 h2
    induction l generalizing m with
    | nil=>cases m<;>simp [lexL]
    | cons a l ih=>cases m with
      | nil=>simp [lexL]
      | cons b m =>
        rw [Zb8];split
        ·exact ih m
        ·rcases Zg4 a b with⟨h,_⟩ | ⟨h,_⟩ | ⟨h,_⟩
         ·exact .inl h
         ·exact .inr (.inl h)
         ·exact .inr (.inr h)
 rcases h3 with h | h | h
 ·exact .inl ⟨h,zo⟩
 ·exact .inr (.inl ⟨h,zo,zo⟩)
 ·exact .inr (.inr ⟨h,zo,zo⟩)
theorem rxJoin (p q:QTs) {j k n:Nat} (hp:QK p j n) (hq:QK q k n) (lp:p.length≤100000000) (lq:q.length≤100000000) (hj:j≤1000000) (hk:k≤1000000) (hn:n≤1000000) :
 Pure prog 74 [qpA p,qpA q] (qpA (Za1 p q)):=by
 have hlp:(p.map qtA).length=p.length:=ZBr ..;have hlq:(q.map qtA).length=q.length:=ZBr ..;have gp:∀i (h:i < p.length),(p.map qtA).getD i .u=qtA p[i]:=λi h=>Zao qtA h;have gq:∀i (h:i < q.length),(q.map qtA).getD i .u=qtA q[i]:=λi h=>Zao qtA h;show Pure _ _ [.sl 4 (p.map qtA),.sl 4 (q.map qtA)] _;generalize p.map qtA=A at *;generalize q.map qtA=B at *;have hz:((p.length:Int)+(q.length:Int)).toNat=p.length+q.length:=zo;refine pI func74 rfl ntmps74 results74 call74 ?_
 (refine wkad (w_3 hlp hlq hz) w_t w_t (w_s ?_);intros)
 refine Zad (ι:=Nat × Nat) (λx e m=>x.1≤p.length∧x.2≤q.length∧e 0=.sl 4 A∧e 1=.sl 4 B∧e 6=iv x.1∧e 7=iv x.2∧∃sv out,e 5=.own 15 sv∧m 15=some (.row sv 78 4 (out.map qtA) 0)∧out.length≤x.1+x.2∧Za1 p q=out++Za1 (p.drop x.1) (q.drop x.2)) (λx=>p.length+q.length - (x.1+x.2)) (0,0) zr ?_ ?_
 ·rintro ⟨i,l⟩ e m ⟨hi,hl,e0,e1,e6,e7,sv,out,e5,em,ho,hs⟩
  simp only at hi hl e6 e7 ho hs;have hlen:(out.map qtA).length=out.length:=ZBr ..;by_cases hil:i < p.length∧l < q.length
  ·obtain⟨hi2,hl2⟩:=hil;have hg:=gp i hi2;have hh:=gq l hl2;have st:=Zp1 hi2 hl2;have ms:=hp _ (ZB0 hi2);have mt:=hq _ (ZB0 hl2);clear gp gq hp hq;generalize p[i]=s at *;generalize q[l]=t at *;have cl:=Zxh s.2 t.2 (by have:=ms.2;omega) (by have:=mt.2;omega);have ca:=qAdd s.1 t.1 ms.1 mt.1 zo zo;have cz:=qSign (s.1+t.1) (ms.1.add mt.1) zo;have h3:=Zpe s.2 t.2;rw [st] at hs;clear st ms mt;have hout:∀x:Rat × List Qt,(out++[x]).map qtA=out.map qtA++[qtA x]:=λx=>by rw [ZCb];rfl
   obtain⟨s1,s2⟩:=s;obtain⟨t1,t2⟩:=t;simp only at *;have hou1:=hout (s1,s2);have hou2:=hout (t1,t2);have hou3:=hout (s1+t1,s2);clear hout;rcases h3 with⟨h1,h2⟩ | ⟨h1,h2,h4⟩ | ⟨h1,h2,h4⟩
   ·rw [ZBo h2] at hs;rw [h1] at cl;clear ca cz h1 h2 hou2 hou3;generalize out.map qtA=O at *;generalize s2.map Qt.av=S2 at *;generalize t2.map Qt.av=T2 at *
    (refine wkad (w_11 e0 e1 e6 e7 e5 em hlp hlq hlen hg hh) (w_1 cl) (w_1 (w_d 8 [(10,iv (-1))] [] [])) (w_s ?_);intros)
    refine⟨(i+1,l),⟨by simp only;omega,by simp only;omega,gW e0,gW e1,gS,gW e7,_,out++[(s1,s2)],gC,by rw [hou1];exact gC,by simp only [ZCh,ZB2,ZCe];omega,by rw [hs,ZCz];rfl⟩,by simp only;omega⟩
   ·rw [ZBn h2,ZBn h4] at hs;rw [h1] at cl;by_cases hz0:s1+t1=0
    ·rw [ZBo hz0] at hs;have hz2:(s1+t1).num.sign=0:=by rw [Zc4];exact hz0
     clear h1 h2 h4 hou1 hou2 hou3;generalize (s1+t1)=z at *;generalize hO:out.map qtA=O at *;generalize s2.map Qt.av=S2 at *;generalize t2.map Qt.av=T2 at *
     (refine wkad (w_12 e0 e1 e6 e7 e5 em hlp hlq hlen hg hh hz2) (w_3 cl ca cz) (w_2 (w_d 8 [(10,iv 0)] [] []) (w_d 9 [(10,ratQ z)] [] [9])) (w_s ?_);intros)
     refine⟨(i+1,l+1),⟨by simp only;omega,by simp only;omega,gW e0,gW e1,gS,gS,_,out,gW e5,by rw [hO];exact gW em,by simp only;omega,hs⟩,by simp only;omega⟩
    ·rw [ZBn hz0] at hs;have hz2:¬(s1+t1).num.sign=0:=by rw [Zc4];exact hz0
     clear h1 h2 h4 hou1 hou2;generalize (s1+t1)=z at *;generalize out.map qtA=O at *;generalize s2.map Qt.av=S2 at *;generalize t2.map Qt.av=T2 at *
     (refine wkax (w_12 e0 e1 e6 e7 e5 em hlp hlq hlen hg hh hz2) (w_3 cl ca cz) (w_3 (w_d 8 [(10,iv 0)] [] []) (w_d 9 [(10,ratQ z)] [] [9]) (w_d 11 [] [9,1009] [15,67])) w_t w_t w_t w_y (w_r 0) (w_s ?_);intros)
     refine⟨(i+1,l+1),⟨by simp only;omega,by simp only;omega,gW e0,gW e1,gS,gS,_,out++[(z,s2)],gC,by rw [hou3];exact gC,by simp only [ZCh,ZB2,ZCe];omega,by rw [hs,ZCz];rfl⟩,by simp only;omega⟩
   ·rw [ZBn h2,ZBo h4] at hs;rw [h1] at cl;clear ca cz h1 h2 h4 hou1 hou3;generalize out.map qtA=O at *;generalize s2.map Qt.av=S2 at *;generalize t2.map Qt.av=T2 at *
    (refine wkad (w_11 e0 e1 e6 e7 e5 em hlp hlq hlen hg hh) (w_1 cl) (w_1 (w_d 8 [(10,iv 1)] [] [])) (w_s ?_);intros)
    refine⟨(i,l+1),⟨by simp only;omega,by simp only;omega,gW e0,gW e1,gW e6,gS,_,out++[(t1,t2)],gC,by rw [hou2];exact gC,by simp only [ZCh,ZB2,ZCe];omega,by rw [hs,ZCz];rfl⟩,by simp only;omega⟩
  ·rw [Zfh zo] at hs;by_cases hi2:i < p.length
   ·have hl2:l=q.length:=zo;subst hl2;have hg:=gp i hi2;have hd:p.drop i=p[i] :: p.drop (i+1):=ZDl hi2;rw [hd] at hs
    have hs:Za1 p q=(out++[p[i]])++Za1 (p.drop (i+1)) (q.drop q.length):=by
     rw [Zfh (.inr (ZBp _)),hs];simp
    have hou:(out++[p[i]]).map qtA=out.map qtA++[qtA p[i]]:=by rw [ZCb];rfl
    clear hd gp gq hp hq;generalize p[i]=s at *;obtain⟨s1,s2⟩:=s;generalize out.map qtA=O at *
    (refine wkad (w_10 e0 e1 e6 e7 e5 em hg hlp hlq hlen) w_t w_t (w_s ?_);intros)
    refine⟨(i+1,q.length),⟨by simp only;omega,by simp only;omega,gW e0,gW e1,gS,gW e7,_,out++[(s1,s2)],gC,by rw [hou];exact gC,by simp only [ZCh,ZB2,ZCe];omega,hs⟩,by simp only;omega⟩
   ·have hi3:i=p.length:=zo;subst hi3;by_cases hl2:l < q.length
    ·have hg:=gq l hl2;have hd:q.drop l=q[l] :: q.drop (l+1):=ZDl hl2;rw [hd] at hs
     have hs:Za1 p q=(out++[q[l]])++Za1 (p.drop p.length) (q.drop (l+1)):=by
      rw [Zfh (.inl (ZBp _)),hs];simp
     have hou:(out++[q[l]]).map qtA=out.map qtA++[qtA q[l]]:=by rw [ZCb];rfl
     clear hd gp gq hp hq;generalize q[l]=s at *;obtain⟨s1,s2⟩:=s;generalize out.map qtA=O at *
     (refine wkad (w_10 e0 e1 e6 e7 e5 em hg hlp hlq hlen) w_t w_t (w_s ?_);intros)
     refine⟨(p.length,l+1),⟨by simp only;omega,by simp only;omega,gW e0,gW e1,gW e6,gS,_,out++[(s1,s2)],gC,by rw [hou];exact gC,by simp only [ZCh,ZB2,ZCe];omega,hs⟩,by simp only;omega⟩
    ·have hl3:l=q.length:=zo;subst hl3;rw [ZG6,ZG6,ZC4,ZC4] at hs;rw [hs];clear gp gq hp hq hs;generalize hO:out.map qtA=O at *;rw [show qpA out=.sl 4 O from ZDt _ hO]
     (refine wkad (w_9 e0 e1 e6 e7 e5 em hlp hlq hlen) w_t w_t (w_s ?_);intros)
     all_goals exact gM (w_1 em)
 ·exact⟨ZBx _,ZBx _,gC,gC,gC,gC,_,[],gC,gC,ZBx _,by simp⟩
attribute [go_sem] underlying81 underlying39 underlying30 underlying40 underlying42 zFig zSlI zSlS zSlF
attribute [local go_sem] Zbt Za7 Zbw Za9 Zba Zca Zbp Zbr Zct Zcd Zcc Zcb Zcu
theorem irRaw (s:Bool) (l:List Nat) (hl:Lm l) (hs:l.length≤100000000):Pure prog 113 [.agg [.v (.bool s),lim l]] (.v (.bool (RQ.zok s l))):=by
 unfold RQ.zok valL;by_cases h:l.length=0
 ·rw [ZBw h,Bool.true_or,ZEu,ZF5];cases s
  ·refine pI func113 rfl ntmps113 results113 call113 ?_;exact wklp (w_1 @Zbl) w_t w_t (w_r 0) w_z
  ·refine pI func113 rfl ntmps113 results113 call113 ?_;exact wklp (w_1 @Zbl) w_t w_t (w_r 0) w_z
 ·rw [ZBy h,Bool.false_or,ZGd,ZF6,ZF5];have ei:(l.length:Int) - 1=((l.length - 1:Nat):Int):=zo;have hlm:=Zby hl (l.length - 1);by_cases hg:gN l (l.length - 1)=0
  ·rw [ZBw hg];cases s
   ·refine pI func113 rfl ntmps113 results113 call113 ?_;exact wklp (w_2 ei @Zbl) w_t (w_1 @ZF4) (w_r 0) w_z
   ·refine pI func113 rfl ntmps113 results113 call113 ?_;exact wklp (w_2 ei @Zbl) w_t (w_1 @ZF4) (w_r 0) w_z
  ·rw [ZBy hg];cases s
   ·refine pI func113 rfl ntmps113 results113 call113 ?_;exact wklp (w_2 ei @Zbl) w_t (w_1 @ZF6) (w_r 0) w_z
   ·refine pI func113 rfl ntmps113 results113 call113 ?_;exact wklp (w_2 ei @Zbl) w_t (w_1 @ZF6) (w_r 0) w_z
theorem Zra (r:RQ) (h:r.lm 100000000):Pure prog 62 [r.av] (.v (.bool r.ok)):=by
 obtain⟨s,l,d⟩:=r;obtain⟨h1,h2,h3,h4⟩:=h;simp only at h1 h2 h3 h4;have c1:=irRaw s l h1 h3;unfold RQ.ok;simp only;generalize RQ.zok s l=z at *;by_cases hd:d.length=0
 ·have:decide (0 < d.length)=false:=ZBy zo;rw [this,ZGd];cases z
  ·refine pI func62 rfl ntmps62 results62 call62 ?_;exact wklp (w_1 @Zbl) (w_1 c1) w_t (w_r 0) w_z
  ·refine pI func62 rfl ntmps62 results62 call62 ?_;exact wklp (w_1 @Zbl) (w_1 c1) w_t (w_r 0) w_z
 ·have:decide (0 < d.length)=true:=ZBw zo;rw [this,ZF5];have ei:(d.length:Int) - 1=((d.length - 1:Nat):Int):=zo;have hlm:=Zby h2 (d.length - 1)
  cases z with
  | false =>
    rw [ZDg,ZDg];refine pI func62 rfl ntmps62 results62 call62 ?_;exact wklp (w_1 @Zbl) (w_1 c1) w_t (w_r 0) w_z
  | true =>
    rw [ZEu];by_cases hg:gN d (d.length - 1)=0
    ·have:valL d=false:=by unfold valL;rw [ZBy hd,ZBw hg];rfl
     rw [this,ZDg];refine pI func62 rfl ntmps62 results62 call62 ?_;exact wklp (w_2 ei @Zbl) (w_1 c1) w_t (w_r 0) w_z
    ·have hv:valL d=true:=by unfold valL;rw [ZBy hd,ZBy hg];rfl
     rw [hv,ZEu];have hdt:=(Zig h2).1 hv;have l4:(toL (nv d)).length≤100000000:=by rw [←hdt];exact h4
     have c2:=Zk5 (nv d) l4;have c3:=natGcd l d zo zo h1 h2
     have n0:nv d≠0:=by
      intro h0;rw [h0,Zay] at hdt;rw [hdt] at hd;exact hd rfl
     have gl:(toL (Nat.gcd (nv l) (nv d))).length≤100000000:=ZBv (Zda (Nat.gcd_le_right _ zo)) l4;have c4:=Zk5 (Nat.gcd (nv l) (nv d)) gl;rw [←hdt] at c2;have hb:(Nat.gcd (nv l) (nv d) == 1)=decide (Nat.gcd (nv l) (nv d)=1):=by rw [ZCf,ZDv,ZCr]
     rw [hb];by_cases h1d:nv d=1
     ·rw [ZBw h1d] at c2;rw [ZBw (show Nat.gcd (nv l) (nv d)=1 by rw [h1d,Nat.gcd_one_right])];clear c3 c4 hdt;refine pI func62 rfl ntmps62 results62 call62 ?_;exact wklp (w_2 ei @Zbl) (w_2 c1 c2) (w_1 @decide_true) (w_r 0) w_z
     ·rw [ZBy h1d] at c2;clear hdt hb gl;generalize decide (Nat.gcd (nv l) (nv d)=1)=v at *;generalize toL (Nat.gcd (nv l) (nv d))=lg' at *;refine pI func62 rfl ntmps62 results62 call62 ?_;exact wklp (w_2 ei @Zbl) (w_4 c1 c2 c3 c4) w_t (w_r 0) w_z
theorem lwAr (k:Int):Pure prog 232 [iv k] (iv (arS k)):=by
 unfold arS;refine pI func232 rfl ntmps232 results232 call232 ?_;(focus (refine wklp w_t w_t w_t (w_r 0) ?_;(repeat' first|exact w_t|apply w_l);all_goals intros));all_goals (congr 2;repeat' split)
 all_goals (first|rfl|omega)
theorem lwNone (r:RQ):Pure prog 235 [r.av] (.v (.bool r.none)):=by
 obtain⟨s,l,d⟩:=r;unfold RQ.none;simp only;cases s
 ·refine pI func235 rfl ntmps235 results235 call235 ?_;(focus (refine wklp (w_1 @Zbl) w_t w_t (w_r 0) ?_;(repeat' first|exact w_t|apply w_l);all_goals intros))
 ·refine pI func235 rfl ntmps235 results235 call235 ?_;(focus (refine wklp (w_1 @Zbl) w_t w_t (w_r 0) ?_;(repeat' first|exact w_t|apply w_l);all_goals intros))
theorem prAr (k:Int):Pure prog 61 [iv k] (iv (arG k)):=by
 unfold arG;refine pI func61 rfl ntmps61 results61 call61 ?_;(focus (refine wklp w_t w_t w_t (w_r 0) ?_;(repeat' first|exact w_t|apply w_l);all_goals intros));all_goals (congr 2;repeat' split)
 all_goals (first|rfl|omega)
theorem prNone (r:RQ):Pure prog 63 [r.av] (.v (.bool r.none)):=by
 obtain⟨s,l,d⟩:=r;unfold RQ.none;simp only;cases s
 ·refine pI func63 rfl ntmps63 results63 call63 ?_;(focus (refine wklp (w_1 @Zbl) w_t w_t (w_r 0) ?_;(repeat' first|exact w_t|apply w_l);all_goals intros))
 ·refine pI func63 rfl ntmps63 results63 call63 ?_;(focus (refine wklp (w_1 @Zbl) w_t w_t (w_r 0) ?_;(repeat' first|exact w_t|apply w_l);all_goals intros))
theorem rrAr (k:Int):Pure prog 70 [iv k] (iv (arG k)):=by
 unfold arG;refine pI func70 rfl ntmps70 results70 call70 ?_;exact wklp w_t w_t w_t (w_r 0) w_z;all_goals (congr 2;repeat' split)
 all_goals (first|rfl|omega)
theorem rrNone (r:RQ):Pure prog 72 [r.av] (.v (.bool r.none)):=by
 obtain⟨s,l,d⟩:=r;unfold RQ.none;simp only;cases s
 ·refine pI func72 rfl ntmps72 results72 call72 ?_;exact wklp (w_1 @Zbl) w_t w_t (w_r 0) w_z
 ·refine pI func72 rfl ntmps72 results72 call72 ?_;exact wklp (w_1 @Zbl) w_t w_t (w_r 0) w_z
theorem Zmo {α:Type} (F:α→Bool) (l:List α):∃n,n≤l.length∧(∀j (h:j < l.length),j < n→F l[j]=false)∧(∀h:n < l.length,F l[n]=true)∧l.any F=decide (n < l.length):=by
 induction l with
 | nil=>exact⟨0,by simp,by simp,by simp,by simp⟩
 | cons a l ih =>
   obtain⟨n,h1,h2,h3,h4⟩:=ih
   cases ha:F a with
   | true=>exact⟨0,by simp,λj h h'=>zo,λ_=>ha,by simp [ha]⟩
   | false =>
     refine⟨n+1,by simpa using h1,λj h h'=>?_,λh=>h3 (by simpa using h),by simp [ha,h4]⟩
     cases j with
     | zero=>exact ha
     | succ j=>exact h2 j (by simpa using h) zo
theorem ck1 (a i:Int):Pure prog 234 [iv a,.pimm [iv i]] (.v (.bool (decide (a < 0) || decide (i≤a)))):=by
 refine pI func234 rfl ntmps234 results234 call234 ?_;(focus (refine wklp w_t w_t w_t (w_r 0) ?_;(repeat' first|exact w_t|apply w_l);all_goals intros))
theorem slIdx1 (l:List Int) (i:Int) (hl:l.length≤1000000000):∃z:Int,Pure prog 275 [ivs l,.fn 234 [.pimm [iv i]]] (iv z)∧decide (0≤z)=outB i l:=by
 obtain⟨n,h1,h2,h3,h4⟩:=Zmo (λa=>decide (a < 0) || decide (i≤a)) l;refine⟨if n < l.length then (n:Int) else -1,?_,?_⟩
 ·refine pI func275 rfl ntmps275 results275 call275 ?_;(focus (refine wkap (w_1 @Zd2) w_t (w_r 0) ?_;(repeat' first|exact w_t|apply w_l);all_goals intros));refine Zad (ι:=Nat) (λk e m=>k≤n∧e 0=ivs l∧e 1=.fn 234 [.pimm [iv i]]∧e 7=iv l.length∧e 8=iv k) (λk=>n - k) 0 zr ?_ ?_
  ·rintro k e m ⟨hk,e0,e1,e7,e8⟩
   by_cases hlt:k < l.length
   ·have hg:=Zao iv hlt;by_cases hkn:k < n
    ·have hb:=h2 k hlt hkn;have c:=ck1 l[k] i;rw [hb] at c;clear hb;generalize l[k]=a at *;(focus (refine wkap (w_6 e0 e1 e7 e8 hg @Zd2) (w_1 c) (w_r 0) ?_;(repeat' first|exact w_t|apply w_l);all_goals intros));exact⟨k+1,⟨zo,gW e0,gW e1,gW e7,gS⟩,zo⟩
    ·have hkn:k=n:=zo;subst hkn;have hb:=h3 hlt;have c:=ck1 l[k] i;rw [hb] at c;rw [ZBo hlt];clear hb;generalize l[k]=a at *;(focus (refine wklp (w_6 e0 e1 e7 e8 hg @Zd2) (w_1 c) w_t (w_r 0) ?_;(repeat' first|exact w_t|apply w_l);all_goals intros))
   ·rw [ZBn zo];(focus (refine wklp (w_5 e0 e1 e7 e8 @Zd2) w_t w_t (w_r 0) ?_;(repeat' first|exact w_t|apply w_l);all_goals intros))
  ·exact⟨ZBx _,gC,gC,by(simp (disch:=omega) only [go_sem,ZBr]<;>repeat' first|rfl|refine⟨?_,?_⟩),gC⟩
 ·unfold outB;rw [h4,ZCf,ZCr,ZCr];split<;>omega
theorem slCon1 (l:List Int) (i:Int) (hl:l.length≤1000000000):Pure prog 233 [ivs l,.fn 234 [.pimm [iv i]]] (.v (.bool (outB i l))):=by
 obtain⟨z,c,hz⟩:=slIdx1 l i hl;rw [←hz];refine pI func233 rfl ntmps233 results233 call233 ?_;(focus (refine wklp w_t (w_1 c) w_t (w_r 0) ?_;(repeat' first|exact w_t|apply w_l);all_goals intros))
theorem ck2 (t s:RS):Pure prog 238 [t.av,.pimm [iv s.k,strA s.nm,ivs s.ar,.v (.bool s.r.s),lim s.r.l,lim s.r.d]] (.v (.bool (t.nm.toList == s.nm.toList))):=by
 obtain⟨a,b,c,d⟩:=t;obtain⟨a',b',c',d'⟩:=s;refine pI func238 rfl ntmps238 results238 call238 ?_;(focus (refine wklp w_t w_t w_t (w_r 0) ?_;(repeat' first|exact w_t|apply w_l);all_goals intros))
theorem slIdx2 (l:List RS) (s:RS) (hl:l.length≤1000000000):∃z:Int,Pure prog 279 [.sl 6 (l.map RS.av),.fn 238 [.pimm [iv s.k,strA s.nm,ivs s.ar,.v (.bool s.r.s),lim s.r.l,lim s.r.d]]] (iv z)∧decide (0≤z)=l.any (λt=>t.nm.toList == s.nm.toList):=by
 obtain⟨n,h1,h2,h3,h4⟩:=Zmo (λt:RS=>t.nm.toList == s.nm.toList) l;refine⟨if n < l.length then (n:Int) else -1,?_,?_⟩
 ·refine pI func279 rfl ntmps279 results279 call279 ?_;(focus (refine wkap (w_1 @Zd2) w_t (w_r 0) ?_;(repeat' first|exact w_t|apply w_l);all_goals intros));refine Zad (ι:=Nat) (λk e m=>k≤n∧e 0=.sl 6 (l.map RS.av)∧e 1=.fn 238 [.pimm [iv s.k,strA s.nm,ivs s.ar,.v (.bool s.r.s),lim s.r.l,lim s.r.d]]∧e 7=iv l.length∧e 8=iv k) (λk=>n - k) 0 zr ?_ ?_
  ·rintro k e m ⟨hk,e0,e1,e7,e8⟩
   by_cases hlt:k < l.length
   ·have hg:=Zao RS.av hlt;by_cases hkn:k < n
    ·have hb:=h2 k hlt hkn;have c:=ck2 l[k] s;rw [hb] at c;clear hb;generalize l[k]=a at *;obtain⟨a1,a2,a3,a4⟩:=a;(focus (refine wkap (w_6 e0 e1 e7 e8 hg @Zd2) (w_1 c) (w_r 0) ?_;(repeat' first|exact w_t|apply w_l);all_goals intros));exact⟨k+1,⟨zo,gW e0,gW e1,gW e7,gS⟩,zo⟩
    ·have hkn:k=n:=zo;subst hkn;have hb:=h3 hlt;have c:=ck2 l[k] s;rw [hb] at c;rw [ZBo hlt];clear hb;generalize l[k]=a at *;obtain⟨a1,a2,a3,a4⟩:=a;(focus (refine wklp (w_6 e0 e1 e7 e8 hg @Zd2) (w_1 c) w_t (w_r 0) ?_;(repeat' first|exact w_t|apply w_l);all_goals intros))
   ·rw [ZBn zo];(focus (refine wklp (w_5 e0 e1 e7 e8 @Zd2) w_t w_t (w_r 0) ?_;(repeat' first|exact w_t|apply w_l);all_goals intros))
  ·exact⟨ZBx _,gC,gC,by(simp (disch:=omega) only [go_sem,ZBr]<;>repeat' first|rfl|refine⟨?_,?_⟩),gC⟩
 ·rw [h4,ZCf,ZCr,ZCr];split<;>omega
theorem slCon2 (l:List RS) (s:RS) (hl:l.length≤1000000000):Pure prog 237 [.sl 6 (l.map RS.av),.fn 238 [.pimm [iv s.k,strA s.nm,ivs s.ar,.v (.bool s.r.s),lim s.r.l,lim s.r.d]]] (.v (.bool (l.any (λt=>t.nm.toList == s.nm.toList)))):=by
 obtain⟨z,c,hz⟩:=slIdx2 l s hl;rw [←hz];refine pI func237 rfl ntmps237 results237 call237 ?_;(focus (refine wklp w_t (w_1 c) w_t (w_r 0) ?_;(repeat' first|exact w_t|apply w_l);all_goals intros))
def RS.sm (s:RS):Prop:=s.r.lm 100000000∧s.nm.size≤1000000000∧s.ar.length≤1000000000
def RG.sm (g:RG):Prop:=g.r.lm 100000000∧g.ar.length≤1000000000
theorem lwCheck (ss:List RS) (i:Nat) (hi:i < ss.length) (hl:ss.length≤1000000000) (hs:∀s∈ss,s.sm):Pure prog 166 [.sl 6 (ss.map RS.av),iv i] (iv (errS ss i)):=by
 have hg:=Zao RS.av hi;have hsm:=hs _ (ZB0 hi);have e0:errS ss i=errS ss i:=rfl;unfold errS at e0 ⊢;rw [show ss.getD i RS.zero=ss[i] from by rw [ZB8,ZBz hi];rfl];clear e0;have htk:(ss.map RS.av).take i=(ss.take i).map RS.av:=(List.map_take ..).symm;have c2:=slCon2 (ss.take i) ss[i] (by rw [ZB9];omega);rw [←htk] at c2;have hlm:(ss.map RS.av).length=ss.length:=ZBr ..;generalize ss.map RS.av=M at *;generalize ss[i]=s at *;clear htk;clear hs;obtain⟨h1,h2,h3⟩:=hsm;have ca:=lwAr s.k;have cr:=Zra s.r h1;have cn:=lwNone s.r
 have cm:=nmName s.nm h2;have c1:=slCon1 s.ar i h3;have hst:=Zi7 s.nm;have hla:(s.ar.map iv).length=s.ar.length:=ZBr ..;obtain⟨k,nm,ar,r,rl,rd⟩:=s;simp only at *;generalize (ss.take i).any (λt=>t.nm.toList == nm.toList)=any at *;generalize arS k=a at *;generalize outB (i:Int) ar=o at *;generalize RQ.ok ⟨r,rl,rd⟩=ok at *;generalize RQ.none ⟨r,rl,rd⟩=no at *;generalize namB nm=nb at *;by_cases w1:a < 0
 ·rw [ZBo w1];refine pI func166 rfl ntmps166 results166 call166 ?_;(focus (refine wklp (w_3 hg hlm hla) (w_1 ca) w_t (w_r 0) ?_;(repeat' first|exact w_t|apply w_l);all_goals intros))
 ·rw [ZBn w1];by_cases w2:(ar.length:Int)≠a
  ·rw [ZBo w2];refine pI func166 rfl ntmps166 results166 call166 ?_;(focus (refine wklp (w_3 hg hlm hla) (w_1 ca) w_t (w_r 0) ?_;(repeat' first|exact w_t|apply w_l);all_goals intros))
  ·rw [ZBn w2]
   cases o with
   | true =>
     rw [ZBo rfl];refine pI func166 rfl ntmps166 results166 call166 ?_;(focus (refine wkax (w_3 hg hlm hla) (w_1 ca) w_t (w_1 c1) w_t w_t w_y (w_r 0) ?_;(repeat' first|exact w_t|apply w_l);all_goals intros))
     (all_goals (try simp (disch:=omega) only [go_sem,ZBw,ZBy,ZBo,ZBn,Int.reduceAdd,Int.reduceSub,Int.reduceToNat,ZB3]));(all_goals first|done|rfl|(congr 2;first|done|omega|(rw [ZCf];simp only [bool_to_prop,ZB1,ZCl,ZCm,ZCn,ZCo];omega))|skip)
   | false =>
     rw [ZBn zd];by_cases w3:(k=2∧ok=false)∨(k≠2∧no=false)
     ·rw [ZBo w3];rcases w3 with⟨hk,rfl⟩ | ⟨hk,rfl⟩
      ·subst hk;refine pI func166 rfl ntmps166 results166 call166 ?_;(focus (refine wkax (w_3 hg hlm hla) (w_2 ca cr) w_t (w_1 c1) w_t w_t w_y (w_r 0) ?_;(repeat' first|exact w_t|apply w_l);all_goals intros))
       (all_goals (try simp (disch:=omega) only [go_sem,ZBw,ZBy,ZBo,ZBn,Int.reduceAdd,Int.reduceSub,Int.reduceToNat,ZB3]));(all_goals first|done|rfl|(congr 2;first|done|omega|(rw [ZCf];simp only [bool_to_prop,ZB1,ZCl,ZCm,ZCn,ZCo];omega))|skip)
      ·refine pI func166 rfl ntmps166 results166 call166 ?_;(focus (refine wkax (w_3 hg hlm hla) (w_2 ca cn) w_t (w_1 c1) w_t w_t w_y (w_r 0) ?_;(repeat' first|exact w_t|apply w_l);all_goals intros))
       (all_goals (try simp (disch:=omega) only [go_sem,ZBw,ZBy,ZBo,ZBn,Int.reduceAdd,Int.reduceSub,Int.reduceToNat,ZB3]));(all_goals first|done|rfl|(congr 2;first|done|omega|(rw [ZCf];simp only [bool_to_prop,ZB1,ZCl,ZCm,ZCn,ZCo];omega))|skip)
     ·rw [ZBn w3]
      have w4:(k=2∧ok=true)∨(k≠2∧no=true):=by
       by_cases hk:k=2
       ·cases ok
        ·exact absurd (.inl ⟨hk,rfl⟩) w3
        ·exact .inl ⟨hk,rfl⟩
       ·cases no
        ·exact absurd (.inr ⟨hk,rfl⟩) w3
        ·exact .inr ⟨hk,rfl⟩
      clear w3;by_cases w5:nm.size=0
      ·rw [ZBo w5];rw [ZBw w5] at hst;rcases w4 with⟨hk,rfl⟩ | ⟨hk,rfl⟩
       ·subst hk;refine pI func166 rfl ntmps166 results166 call166 ?_;(focus (refine wkax (w_4 hg hlm hla hst) (w_2 ca cr) w_t (w_1 c1) w_t w_t w_y (w_r 0) ?_;(repeat' first|exact w_t|apply w_l);all_goals intros))
        (all_goals (try simp (disch:=omega) only [go_sem,ZBw,ZBy,ZBo,ZBn,Int.reduceAdd,Int.reduceSub,Int.reduceToNat,ZB3]));(all_goals first|done|rfl|(congr 2;first|done|omega|(rw [ZCf];simp only [bool_to_prop,ZB1,ZCl,ZCm,ZCn,ZCo];omega))|skip)
       ·refine pI func166 rfl ntmps166 results166 call166 ?_;(focus (refine wkax (w_4 hg hlm hla hst) (w_2 ca cn) w_t (w_1 c1) w_t w_t w_y (w_r 0) ?_;(repeat' first|exact w_t|apply w_l);all_goals intros))
        (all_goals (try simp (disch:=omega) only [go_sem,ZBw,ZBy,ZBo,ZBn,Int.reduceAdd,Int.reduceSub,Int.reduceToNat,ZB3]));(all_goals first|done|rfl|(congr 2;first|done|omega|(rw [ZCf];simp only [bool_to_prop,ZB1,ZCl,ZCm,ZCn,ZCo];omega))|skip)
      ·rw [ZBn w5];rw [ZBy w5] at hst
       cases nb with
       | false =>
         rw [ZBo rfl];rcases w4 with⟨hk,rfl⟩ | ⟨hk,rfl⟩
         ·subst hk;refine pI func166 rfl ntmps166 results166 call166 ?_;(focus (refine wkax (w_4 hg hlm hla hst) (w_3 ca cr cm) w_t (w_1 c1) w_t w_t w_y (w_r 0) ?_;(repeat' first|exact w_t|apply w_l);all_goals intros))
          (all_goals (try simp (disch:=omega) only [go_sem,ZBw,ZBy,ZBo,ZBn,Int.reduceAdd,Int.reduceSub,Int.reduceToNat,ZB3]));(all_goals first|done|rfl|(congr 2;first|done|omega|(rw [ZCf];simp only [bool_to_prop,ZB1,ZCl,ZCm,ZCn,ZCo];omega))|skip)
         ·refine pI func166 rfl ntmps166 results166 call166 ?_;(focus (refine wkax (w_4 hg hlm hla hst) (w_3 ca cn cm) w_t (w_1 c1) w_t w_t w_y (w_r 0) ?_;(repeat' first|exact w_t|apply w_l);all_goals intros))
          (all_goals (try simp (disch:=omega) only [go_sem,ZBw,ZBy,ZBo,ZBn,Int.reduceAdd,Int.reduceSub,Int.reduceToNat,ZB3]));(all_goals first|done|rfl|(congr 2;first|done|omega|(rw [ZCf];simp only [bool_to_prop,ZB1,ZCl,ZCm,ZCn,ZCo];omega))|skip)
       | true =>
         rw [ZBn zd];rcases w4 with⟨hk,rfl⟩ | ⟨hk,rfl⟩
         ·subst hk;cases any
          ·refine pI func166 rfl ntmps166 results166 call166 ?_;(focus (refine wkax (w_5 hg hlm hla hst @Zjf) (w_3 ca cr cm) w_t (w_2 c1 c2) w_t w_t w_y (w_r 0) ?_;(repeat' first|exact w_t|apply w_l);all_goals intros))
           (all_goals (try simp (disch:=omega) only [go_sem,ZBw,ZBy,ZBo,ZBn,Int.reduceAdd,Int.reduceSub,Int.reduceToNat,ZB3]));(all_goals first|done|rfl|(congr 2;first|done|omega|(rw [ZCf];simp only [bool_to_prop,ZB1,ZCl,ZCm,ZCn,ZCo];omega))|skip)
          ·refine pI func166 rfl ntmps166 results166 call166 ?_;(focus (refine wkax (w_5 hg hlm hla hst @Zjf) (w_3 ca cr cm) w_t (w_2 c1 c2) w_t w_t w_y (w_r 0) ?_;(repeat' first|exact w_t|apply w_l);all_goals intros))
           (all_goals (try simp (disch:=omega) only [go_sem,ZBw,ZBy,ZBo,ZBn,Int.reduceAdd,Int.reduceSub,Int.reduceToNat,ZB3]));(all_goals first|done|rfl|(congr 2;first|done|omega|(rw [ZCf];simp only [bool_to_prop,ZB1,ZCl,ZCm,ZCn,ZCo];omega))|skip)
         ·cases any
          ·refine pI func166 rfl ntmps166 results166 call166 ?_;(focus (refine wkax (w_5 hg hlm hla hst @Zjf) (w_3 ca cn cm) w_t (w_2 c1 c2) w_t w_t w_y (w_r 0) ?_;(repeat' first|exact w_t|apply w_l);all_goals intros))
           (all_goals (try simp (disch:=omega) only [go_sem,ZBw,ZBy,ZBo,ZBn,Int.reduceAdd,Int.reduceSub,Int.reduceToNat,ZB3]));(all_goals first|done|rfl|(congr 2;first|done|omega|(rw [ZCf];simp only [bool_to_prop,ZB1,ZCl,ZCm,ZCn,ZCo];omega))|skip)
          ·refine pI func166 rfl ntmps166 results166 call166 ?_;(focus (refine wkax (w_5 hg hlm hla hst @Zjf) (w_3 ca cn cm) w_t (w_2 c1 c2) w_t w_t w_y (w_r 0) ?_;(repeat' first|exact w_t|apply w_l);all_goals intros))
           (all_goals (try simp (disch:=omega) only [go_sem,ZBw,ZBy,ZBo,ZBn,Int.reduceAdd,Int.reduceSub,Int.reduceToNat,ZB3]));(all_goals first|done|rfl|(congr 2;first|done|omega|(rw [ZCf];simp only [bool_to_prop,ZB1,ZCl,ZCm,ZCn,ZCo];omega))|skip)
theorem Zpd {n:Int} {l:List Int} {k:Nat} (hk:k < l.length):outB n (l.take (k+1))=(outB n (l.take k) || (decide (l[k] < 0) || decide (n≤l[k]))):=by
 unfold outB;rw [ZEd hk,List.any_append,List.any_cons,List.any_nil,Bool.or_false]
theorem Zyh {n:Int} {l:List Int} {k:Nat} (hk:k < l.length) (h:(decide (l[k] < 0) || decide (n≤l[k]))=true):outB n l=true:=List.any_eq_true.2 ⟨l[k],ZB0 hk,h⟩
theorem Zx9 (g:RG) (n:Nat) (hn:n≤1000000000) (hs:g.sm):Pure prog 22 [g.av,iv n] (iv (errG g n)):=by
 obtain⟨h1,h3⟩:=hs;unfold errG;have ca:=prAr g.k;have cr:Pure prog 62 [g.r.av] (.v (.bool g.r.ok)):=Zra g.r h1;have cn:=prNone g.r;have hla:(g.ar.map iv).length=g.ar.length:=ZBr ..;obtain⟨k,ar,r,rl,rd⟩:=g;simp only at *;generalize arG k=a at *;generalize RQ.ok ⟨r,rl,rd⟩=ok at *;generalize RQ.none ⟨r,rl,rd⟩=no at *;by_cases w1:a=0
 ·rw [ZBo w1];subst w1;refine pI func22 rfl ntmps22 results22 call22 ?_;(focus (refine wklp (w_1 hla) (w_1 ca) w_t (w_r 0) ?_;(repeat' first|exact w_t|apply w_l);all_goals intros))
 ·rw [ZBn w1];by_cases w2:(ar.length:Int)≠a
  ·rw [ZBo w2];refine pI func22 rfl ntmps22 results22 call22 ?_;(focus (refine wklp (w_1 hla) (w_1 ca) w_t (w_r 0) ?_;(repeat' first|exact w_t|apply w_l);all_goals intros))
  ·rw [ZBn w2];refine pI func22 rfl ntmps22 results22 call22 ?_;(focus (refine wkap (w_1 hla) (w_1 ca) (w_r 0) ?_;(repeat' first|exact w_t|apply w_l);all_goals intros));rename_i g2;refine Zad (ι:=Nat) (λi e m=>i≤ar.length∧e 1=iv n∧e 2=.pbox 2 g2 0∧m 2=some (.box g2 30 [iv k,ivs ar,.v (.bool r),lim rl,lim rd] false)∧e 19=ivs ar∧e 20=iv ar.length∧e 21=iv i∧outB n (ar.take i)=false) (λi=>ar.length - i) 0 zr ?_ ?_
   ·rintro i e m ⟨hi,e1,e2,m2,ea,en,ei,hno⟩
    by_cases hlt:i < ar.length
    ·have hg:=Zao iv hlt;have hst:=Zpd (n:=n) hlt;have hat:=Zyh (n:=n) hlt;rw [hno,Bool.false_or] at hst;generalize ar[i]=x at *;by_cases hx:x < 0∨(n:Int)≤x
     ·have hb:(decide (x < 0) || decide ((n:Int)≤x))=true:=by simpa using hx
      rw [ZBo (hat hb)];clear hat hst hb;rcases hx with hx | hx
      ·(focus (refine wklp (w_8 e1 e2 m2 ea en ei hg hla) w_t w_t (w_r 0) ?_;(repeat' first|exact w_t|apply w_l);all_goals intros))
      ·(focus (refine wklp (w_8 e1 e2 m2 ea en ei hg hla) w_t w_t (w_r 0) ?_;(repeat' first|exact w_t|apply w_l);all_goals intros))
     ·have hb:(decide (x < 0) || decide ((n:Int)≤x))=false:=by simpa using hx
      rw [hb] at hst;clear hat hb;(focus (refine wkap (w_8 e1 e2 m2 ea en ei hg hla) w_t (w_r 0) ?_;(repeat' first|exact w_t|apply w_l);all_goals intros));exact⟨i+1,⟨zo,gW e1,gW e2,gW m2,gW ea,gW en,gS,hst⟩,zo⟩
    ·have hi2:i=ar.length:=zo;subst hi2;rw [ZDc] at hno;rw [hno,ZBn zd];by_cases hk:k=9
     ·subst hk;cases ok
      ·rw [ZBo zs];(focus (refine wklp (w_7 e1 e2 m2 ea en ei hla) (w_2 cr cn) w_t (w_r 0) ?_;(repeat' first|exact w_t|apply w_l);all_goals intros))
      ·rw [ZBn zs];(focus (refine wklp (w_7 e1 e2 m2 ea en ei hla) (w_2 cr cn) w_t (w_r 0) ?_;(repeat' first|exact w_t|apply w_l);all_goals intros))
     ·cases no
      ·rw [ZBo (by simp [hk])];(focus (refine wklp (w_7 e1 e2 m2 ea en ei hla) (w_2 cr cn) w_t (w_r 0) ?_;(repeat' first|exact w_t|apply w_l);all_goals intros))
      ·rw [ZBn (by simp [hk])];(focus (refine wklp (w_7 e1 e2 m2 ea en ei hla) (w_2 cr cn) w_t (w_r 0) ?_;(repeat' first|exact w_t|apply w_l);all_goals intros))
   ·exact⟨ZBx _,gC,gC,gC,gC,gW hla,gC,by simp [outB]⟩
theorem rrRight (g:RG) (n:Nat) (hn:n≤1000000000) (hs:g.sm):Pure prog 31 [g.av,iv n] (iv (errG g n)):=by
 obtain⟨h1,h3⟩:=hs;unfold errG;have ca:=rrAr g.k;have cr:Pure prog 71 [g.r.av] (.v (.bool g.r.ok)):=qRight g.r.s g.r.l g.r.d h1.1 h1.2.1 h1.2.2.1 h1.2.2.2;have cn:=rrNone g.r;have hla:(g.ar.map iv).length=g.ar.length:=ZBr ..;obtain⟨k,ar,r,rl,rd⟩:=g;simp only at *;generalize arG k=a at *;generalize RQ.ok ⟨r,rl,rd⟩=ok at *;generalize RQ.none ⟨r,rl,rd⟩=no at *;by_cases w1:a=0
 ·rw [ZBo w1];subst w1;refine pI func31 rfl ntmps31 results31 call31 ?_;exact wkld (w_1 hla) (w_1 ca) w_t w_t w_z
 ·rw [ZBn w1];by_cases w2:(ar.length:Int)≠a
  ·rw [ZBo w2];refine pI func31 rfl ntmps31 results31 call31 ?_;exact wkld (w_1 hla) (w_1 ca) w_t (w_1 (w_d 3 [(5,iv a)] [] [])) w_z
  ·rw [ZBn w2];refine pI func31 rfl ntmps31 results31 call31 ?_
   (refine wkad (w_1 hla) (w_1 ca) (w_1 (w_d 3 [(5,iv a)] [] [])) (w_s ?_);intros)
   rename_i g2;refine Zad (ι:=Nat) (λi e m=>i≤ar.length∧e 1=iv n∧e 2=.pbox 2 g2 0∧m 2=some (.box g2 30 [iv k,ivs ar,.v (.bool r),lim rl,lim rd] false)∧e 19=ivs ar∧e 20=iv ar.length∧e 21=iv i∧outB n (ar.take i)=false) (λi=>ar.length - i) 0 zr ?_ ?_
   ·rintro i e m ⟨hi,e1,e2,m2,ea,en,ei,hno⟩
    by_cases hlt:i < ar.length
    ·have hg:=Zao iv hlt;have hst:=Zpd (n:=n) hlt;have hat:=Zyh (n:=n) hlt;rw [hno,Bool.false_or] at hst;generalize ar[i]=x at *;by_cases hx:x < 0∨(n:Int)≤x
     ·have hb:(decide (x < 0) || decide ((n:Int)≤x))=true:=by simpa using hx
      rw [ZBo (hat hb)];clear hat hst hb;rcases hx with hx | hx
      ·exact wkld (w_8 e1 e2 m2 ea en ei hg hla) w_t w_t w_t w_z
      ·exact wkld (w_8 e1 e2 m2 ea en ei hg hla) w_t w_t w_t w_z
     ·have hb:(decide (x < 0) || decide ((n:Int)≤x))=false:=by simpa using hx
      rw [hb] at hst;clear hat hb
      (refine wkad (w_8 e1 e2 m2 ea en ei hg hla) w_t w_t (w_s ?_);intros)
      exact⟨i+1,⟨zo,gW e1,gW e2,gW m2,gW ea,gW en,gS,hst⟩,zo⟩
    ·have hi2:i=ar.length:=zo;subst hi2;rw [ZDc] at hno;rw [hno,ZBn zd];by_cases hk:k=9
     ·subst hk;cases ok
      ·rw [ZBo zs];exact wkld (w_7 e1 e2 m2 ea en ei hla) (w_2 cr cn) w_t w_t w_z
      ·rw [ZBn zs];exact wkld (w_7 e1 e2 m2 ea en ei hla) (w_2 cr cn) w_t w_t w_z
     ·cases no
      ·rw [ZBo (by simp [hk])];exact wkld (w_7 e1 e2 m2 ea en ei hla) (w_2 cr cn) w_t w_t w_z
      ·rw [ZBn (by simp [hk])];exact wkld (w_7 e1 e2 m2 ea en ei hla) (w_2 cr cn) w_t w_t w_z
   ·exact⟨ZBx _,gC,gC,gC,gC,gW hla,gC,by simp [outB]⟩
theorem lwRight (ss:List RS) (gs:List RG) (h1:ss.length≤1000000000) (h2:gs.length≤1000000000) (hs:∀s∈ss,s.sm) (hg:∀g∈gs,g.sm):Pure prog 102 [figA ss gs] (iv (figE ss gs)):=by
 have hls:(ss.map RS.av).length=ss.length:=ZBr ..;have hlg:(gs.map RG.av).length=gs.length:=ZBr ..;have eg:∀i (h:i < gs.length),(gs.map RG.av).getD i .u=gs[i].av:=λi h=>Zao RG.av h;have eg2:∀i (h:i < gs.length),gs.getD i ⟨0,[],⟨false,[],[]⟩⟩=gs[i]:=λi h=>by rw [ZB8,ZBz h];rfl
 have cc:∀i,i < ss.length→Pure prog 166 [.sl 6 (ss.map RS.av),iv i] (iv (errS ss i)):=λi hi=>lwCheck ss i hi h1 hs;have cg:∀i (h:i < gs.length),Pure prog 22 [gs[i].av,iv ss.length] (iv (errG gs[i] ss.length)):=λi h=>Zx9 gs[i] ss.length h1 (hg _ (ZB0 h));unfold figE;show Pure _ _ [.agg [.sl 6 (ss.map RS.av),.sl 5 (gs.map RG.av)]] _;generalize ss.map RS.av=M at *;generalize gs.map RG.av=N at *;by_cases hb:40 < ss.length∨8 < gs.length
 ·rw [ZBo hb];refine pI func102 rfl ntmps102 results102 call102 ?_;(focus (refine wklp (w_2 hls hlg) w_t w_t (w_r 0) ?_;(repeat' first|exact w_t|apply w_l);all_goals intros))
 ·rw [ZBn hb];refine pI func102 rfl ntmps102 results102 call102 ?_;(focus (refine wkap (w_2 hls hlg) w_t (w_r 0) ?_;(repeat' first|exact w_t|apply w_l);all_goals intros));rename_i g1;refine Zad (ι:=Nat) (λi e m=>i≤ss.length∧e 1=.pbox 1 g1 0∧m 1=some (.box g1 42 [.sl 6 M,.sl 5 N] false)∧e 20=iv ss.length∧e 21=iv i∧∀j,j < i→errS ss j=0) (λi=>ss.length - i) 0 zr ?_ ?_
  ·rintro i e m ⟨hi,e1,m1,e20,e21,hz⟩
   by_cases hlt:i < ss.length
   ·have c:=cc i hlt;by_cases he:errS ss i=0
    ·rw [he] at c;(focus (refine wkap (w_6 e1 m1 e20 e21 hls hlg) (w_1 c) (w_r 0) ?_;(repeat' first|exact w_t|apply w_l);all_goals intros));exact⟨i+1,⟨zo,gW e1,gW m1,gW e20,gS,λj hj=>by by_cases e:j=i;rw [e];exact he;exact hz j zo⟩,zo⟩
    ·rw [Zsd hz he hlt,ZBo he];generalize errS ss i=z at *;(focus (refine wklp (w_6 e1 m1 e20 e21 hls hlg) (w_1 c) w_t (w_r 0) ?_;(repeat' first|exact w_t|apply w_l);all_goals intros))
   ·have hi2:i=ss.length:=zo;subst hi2;rw [Ziy hz,ZBn zs];(focus (refine wkap (w_6 e1 m1 e20 e21 hls hlg) w_t (w_r 0) ?_;(repeat' first|exact w_t|apply w_l);all_goals intros));refine Zad (ι:=Nat) (λi e m=>i≤gs.length∧e 1=.pbox 1 g1 0∧m 1=some (.box g1 42 [.sl 6 M,.sl 5 N] false)∧e 33=.sl 5 N∧e 34=iv gs.length∧e 35=iv i∧∀j,j < i→errG (gs.getD j ⟨0,[],⟨false,[],[]⟩⟩) ss.length=0) (λi=>gs.length - i) 0 zr ?_ ?_
    ·rintro i e m ⟨hi,e1,m1,e33,e34,e35,hz⟩
     by_cases hlt:i < gs.length
     ·have c:=cg i hlt;have hgi:=eg i hlt;have hgj:=eg2 i hlt;have hfa:=@Zsd (λi=>errG (gs.getD i ⟨0,[],⟨false,[],[]⟩⟩) ss.length) i hz;simp only [hgj] at hfa;generalize gs[i]=G at *;by_cases he:errG G ss.length=0
      ·rw [he] at c;clear hfa;obtain⟨k,ar,r,rl,rd⟩:=G;(focus (refine wkap (w_8 e1 m1 e33 e34 e35 hls hlg hgi) (w_1 c) (w_r 0) ?_;(repeat' first|exact w_t|apply w_l);all_goals intros));exact⟨i+1,⟨zo,gW e1,gW m1,gW e33,gW e34,gS,λj hj=>by by_cases e:j=i;rw [e,hgj];exact he;exact hz j zo⟩,zo⟩
      ·rw [hfa he hlt];clear hfa;generalize errG G ss.length=z at *;obtain⟨k,ar,r,rl,rd⟩:=G;(focus (refine wklp (w_8 e1 m1 e33 e34 e35 hls hlg hgi) (w_1 c) w_t (w_r 0) ?_;(repeat' first|exact w_t|apply w_l);all_goals intros))
     ·have hi2:i=gs.length:=zo;subst hi2;rw [Ziy hz];(focus (refine wklp (w_7 e1 m1 e33 e34 e35 hls hlg) w_t w_t (w_r 0) ?_;(repeat' first|exact w_t|apply w_l);all_goals intros))
    ·exact⟨ZBx _,gW e1,gW m1,gC,gW hlg,gC,λj hj=>zo⟩
  ·exact⟨ZBx _,gC,gC,gW hls,gC,λj hj=>zo⟩
attribute [go_sem] underlying259 underlying103 underlying150 underlying102 underlying105 underlying145 underlying147 underlying143 underlying198 zVar zSlV zSlC zFnC
attribute [local go_sem] Zqx Zsm Zqy Zh1 Zid Zko Zqz Zgo Zjr Zku Zlr Zqp Zkt Zlq Zqo Zl5 Zuy Zu6
theorem Sub.nil (m:Nat):Sub (.v (.slice none 0 0)) (.sl m []):=λw imm x h=>by
 rw [h.v_inv];exact .pure ((Wk.nil m).rd (.v _))
theorem Zjj (σ:Mem) (KB KC KV g:Nat) (svC svV:Value) (vs:List Vt) (fr:Nat) (kind step number:Int) (hB:σ KB=some (.box g 145 [.own KC svC,.own KV svV,iv fr] false)) (hV:σ KV=some (.row svV 259 3 (vs.map Vt.av) 0)) (hl:vs.length≤200) (hBV:KB≠KV) :
 ACall prog 176 [.pbox KB g 0,iv kind,iv step,iv number] σ λr σ'=>∃sv,r=poA (varM vs.length)∧σ'=upd (upd σ KV (some (.row sv 259 3 ((vs++[(kind,step,number)]).map Vt.av) 0))) KB (some (.box g 145 [.own KC svC,.own KV sv,iv fr] false)):=by
 have mB:=Zaz hB;have mV:=Zaz hV;have cv:=poVar vs.length zo;have hln:(vs.map Vt.av).length=vs.length:=ZBr ..;have hm1:((vs.length+1:Nat):Int) - 1=(vs.length:Int):=zo;simp only [Ent.sh,AV.shL,AV.sh] at mB mV;simp only [ZCb,ZCs,ZDk];refine Zbe func176 rfl ntmps176 results176 call176 zr zs ?_;(focus (refine wkap (w_5 mB mV hln hm1 @Zzi) (w_1 cv) (w_r 0) ?_;(repeat' first|exact w_t|apply w_l);all_goals intros));simp (disch:=omega) only [go_sem];rename_i sv0 sv1;refine Zie (Sub.refl _) ⟨sv1,rfl,rfl⟩ ?_
 (repeat' (first|exact Agr.start _|(refine Agr.own ?_ zo)|(refine Agr.put ?_ rfl rfl)|(refine Agr.mark ?_ zo)|(rw [ZCb];rfl)))
theorem Sub.agg2 {a b a' b':AV} (h:Sub a a') (k:Sub b b'):Sub (.agg [a,b]) (.agg [a',b']):=Sub.agg _ _ rfl λj x y h1 h2=>by
 match j with
 | 0=>simp at h1 h2;subst h1;subst h2;exact h
 | 1=>simp at h1 h2;subst h1;subst h2;exact k
 | j+2=>simp at h1
theorem Zd9 {σ:Mem} {k:Nat} {e:Ent} (h:σ k=some e):upd σ k (some e)=σ:=by
 funext j;rw [Zam];split
 ·subst_vars;exact h.symm
 ·rfl
theorem cbPoint (σ:Mem) (KB KC KV g:Nat) (svC svV:Value) (vs:List Vt) (fr:Nat) (i:Nat) (hB:σ KB=some (.box g 145 [.own KC svC,.own KV svV,iv fr] false)) (hV:σ KV=some (.row svV 259 3 (vs.map Vt.av) 0)) (hl:vs.length≤100) (hBV:KB≠KV) (hf:fr≤1000) :
 ACall prog 172 [.pbox KB g 0,iv i] σ λr σ'=>∃sv,r=coA (if fr=0 then ([],[]) else if fr=1 then (varM vs.length,[]) else (varM vs.length,varM (vs.length+1))) ∧
  σ'=upd (upd σ KV (some (.row sv 259 3 ((vs++(if fr=0 then [] else if fr=1 then [(1,(i:Int),0)] else [(1,(i:Int),0),(1,(i:Int),1)])).map Vt.av) 0))) KB (some (.box g 145 [.own KC svC,.own KV sv,iv (fr+1:Nat)] false)):=by
 have mB:=Zaz hB;have mV:=Zaz hV;simp only [Ent.sh,AV.shL,AV.sh] at mB mV;by_cases h0:fr=0
 ·subst h0;simp only [ZCt,ZC4];refine Zbe func172 rfl ntmps172 results172 call172 zr zs ?_;(focus (refine wkap (w_2 mB mV) w_t (w_r 0) ?_;(repeat' first|exact w_t|apply w_l);all_goals intros));simp (disch:=omega) only [go_sem];refine Zie (Sub.agg2 (Sub.nil 4) (Sub.nil 4)) ⟨svV,rfl,rfl⟩ ?_;rw [Zd9 hV]
  (repeat' (first|exact Agr.start _|(refine Agr.own ?_ zo)|(refine Agr.put ?_ rfl rfl)|(refine Agr.mark ?_ zo)|(rw [ZCb];rfl)))
 ·by_cases h1:fr=1
  ·subst h1;simp only [ZBn h0,ZCt];refine Zbe func172 rfl ntmps172 results172 call172 zr zs ?_;(focus (refine wkap (w_2 mB mV) w_t (w_r 0) ?_;(repeat' first|exact w_t|apply w_l);all_goals intros));refine Zgw (Zjj _ (KB+1000) (KC+1000) (KV+1000) g svC svV vs 2 1 (i:Int) 0 (by(simp (disch:=omega) only [go_sem,mB,mV,ZBn,ZBo]<;>repeat' first|rfl|refine⟨?_,?_⟩)) (by(simp (disch:=omega) only [go_sem,mB,mV,ZBn,ZBo,ZCb,ZCs,ZDk]<;>repeat' first|rfl|refine⟨?_,?_⟩)) (by first|omega|(simp;omega)) zo) ?_;intro sv1;(focus (refine wkap (w_2 mB mV) w_t (w_r 0) ?_;(repeat' first|exact w_t|apply w_l);all_goals intros))
   simp (disch:=omega) only [go_sem];refine Zie (Sub.agg2 (Sub.refl _) (Sub.nil 4)) ⟨sv1,rfl,rfl⟩ ?_;simp only [ZCb,ZCs,ZDk];intro k;by_cases hk1:k=KB
   ·rw [hk1];simp (disch:=omega) only [Zam,ZBo,ZBn,ZC3,Ent.sh,AV.shL,AV.sh]
    try rfl
   ·by_cases hk2:k=KV
    ·rw [hk2];simp (disch:=omega) only [Zam,ZBo,ZBn,ZC3,Ent.sh,AV.shL,AV.sh]
     try rfl
    ·simp (disch:=omega) only [Zam,ZBn];exact Agr.start σ k
  ·simp only [ZBn h0,ZBn h1];have hl1:(vs++[((1:Int),(i:Int),(0:Int))]).length=vs.length+1:=by simp
   refine Zbe func172 rfl ntmps172 results172 call172 zr zs ?_;(focus (refine wkap (w_3 mB mV @Zbo) w_t (w_r 0) ?_;(repeat' first|exact w_t|apply w_l);all_goals intros));refine Zgw (Zjj _ (KB+1000) (KC+1000) (KV+1000) g svC svV vs (fr+1) 1 (i:Int) 0 (by(simp (disch:=omega) only [go_sem,mB,mV,ZBn,ZBo]<;>repeat' first|rfl|refine⟨?_,?_⟩)) (by(simp (disch:=omega) only [go_sem,mB,mV,ZBn,ZBo,ZCb,ZCs,ZDk]<;>repeat' first|rfl|refine⟨?_,?_⟩)) (by first|omega|(simp;omega)) zo) ?_;intro sv1;(focus (refine wkap (w_3 mB mV @Zbo) w_t (w_r 0) ?_;(repeat' first|exact w_t|apply w_l);all_goals intros))
   refine Zgw (Zjj _ (KB+1000) (KC+1000) (KV+1000) g svC sv1 (vs++[(1,(i:Int),0)]) (fr+1) 1 (i:Int) 1 (by(simp (disch:=omega) only [go_sem,mB,mV,ZBn,ZBo]<;>repeat' first|rfl|refine⟨?_,?_⟩)) (by(simp (disch:=omega) only [go_sem,mB,mV,ZBn,ZBo,ZCb,ZCs,ZDk]<;>repeat' first|rfl|refine⟨?_,?_⟩)) (by first|omega|(simp;omega)) zo) ?_;intro sv2;(focus (refine wkap (w_3 mB mV hl1) w_t (w_r 0) ?_;(repeat' first|exact w_t|apply w_l);all_goals intros));simp (disch:=omega) only [go_sem,hl1];refine Zie (Sub.refl _) ⟨sv2,rfl,rfl⟩ ?_;simp only [ZCz,ZFu,ZF3]
   intro k;by_cases hk1:k=KB
   ·rw [hk1];simp (disch:=omega) only [Zam,ZBo,ZBn,ZC3,Ent.sh,AV.shL,AV.sh]
    try rfl
   ·by_cases hk2:k=KV
    ·rw [hk2];simp (disch:=omega) only [Zam,ZBo,ZBn,ZC3,Ent.sh,AV.shL,AV.sh]
     try rfl
    ·simp (disch:=omega) only [Zam,ZBn];exact Agr.start σ k
theorem Zcw {K c:Nat} (h:c < 1000):(K+1000 == c)=false:=by rw [ZF8];omega
theorem Zsw {a b:List Nat} (h:u16s a=u16s b):a=b:=by
 induction a generalizing b with
 | nil=>cases b with
   | nil=>rfl
   | cons y b=>simp [u16s] at h
 | cons x a ih=>cases b with
   | nil=>simp [u16s] at h
   | cons y b =>
     rw [Zwn,Zwn] at h;simp only [List.cons.injEq,AV.v.injEq,Value.int.injEq,true_and] at h;rw [ih h.2,show x=y by omega]
theorem RQ.ok_eq {r:RQ} {k:Nat} (hl:r.lm k) (h:r.ok=true):r=⟨decide (r.q.num < 0),toL r.q.num.natAbs,toL r.q.den⟩:=by
 have h1:=(RQ.ok_av hl h).1;simp only [RQ.av,ratQ,AV.agg.injEq,List.cons.injEq,AV.v.injEq,Value.bool.injEq,lim,AV.sl.injEq,true_and,and_true] at h1;obtain⟨s,l,d⟩:=r;simp only at h1;rw [RQ.mk.injEq];exact⟨h1.1,Zsw h1.2.1,Zsw h1.2.2⟩
theorem coOf (c:Po × Po):Pure prog 171 [coA c] (coA c):=by
 obtain⟨p,q⟩:=c;refine pI func171 rfl ntmps171 results171 call171 ?_;(focus (refine wklp w_t w_t w_t (w_r 0) ?_;(repeat' first|exact w_t|apply w_l);all_goals intros))
theorem Zqh (f:Nat) (a b r:Po × Po) (c1:Pure prog f [poA a.1,poA b.1] (poA r.1)) (c2:Pure prog f [poA a.2,poA b.2] (poA r.2)):Pure prog 170 [coA a,coA b,.fn f []] (coA r):=by
 obtain⟨a1,a2⟩:=a;obtain⟨b1,b2⟩:=b;obtain⟨r1,r2⟩:=r;simp only at c1 c2;refine pI func170 rfl ntmps170 results170 call170 ?_;(focus (refine wkld w_t (w_2 c1 c2) w_t (w_1 (w_d 1 [(5,poA r1),(11,poA r2)] [] [6])) ?_;(repeat' first|exact w_t|apply w_l);all_goals intros))
theorem ZAp (a b:Po × Po) (h1:Pure prog 239 [poA b.1,poA a.1] (poA (subM b.1 a.1))) (h2:Pure prog 239 [poA b.2,poA a.2] (poA (subM b.2 a.2))):Pure prog 169 [coA a,coA b] (coA (subM b.1 a.1,subM b.2 a.2)):=by
 have c:=Zqh 239 b a (subM b.1 a.1,subM b.2 a.2) h1 h2;have oa:=coOf a;have ob:=coOf b;obtain⟨a1,a2⟩:=a;obtain⟨b1,b2⟩:=b;simp only at *;generalize subM b1 a1=x at *;generalize subM b2 a2=y at *;refine pI func169 rfl ntmps169 results169 call169 ?_;(focus (refine wkld w_t (w_3 oa ob c) w_t (w_1 (w_d 1 [(1,coA (b1,b2)),(3,coA (a1,a2)),(4,coA (x,y))] [] [4])) ?_;(repeat' first|exact w_t|apply w_l);all_goals intros))
theorem ZAw (K4 g4:Nat) (k:Int) (nm:ByteArray) (ar:List Int) (q:Rat) (p r:Po) (c:Pure prog 174 [poA p,ratQ q] (poA r)) :
 RdC prog [(K4,.box g4 81 [iv k,strA nm,ivs ar,.v (.bool (decide (q.num < 0))),lim (toL q.num.natAbs),lim (toL q.den)] false)] 173 [poA p,.pbox K4 g4 0] (poA r):=by
 intro σ hL;have m4:=Zaz hL.1;simp only [Ent.sh,AV.shL,AV.sh] at m4;refine Zbe func173 rfl ntmps173 results173 call173 zr zs ?_;(focus (refine wkap (w_1 m4) (w_1 c) (w_r 0) ?_;(repeat' first|exact w_t|apply w_l);all_goals intros));simp (disch:=omega) only [go_sem];exact Zie (Sub.refl _) ⟨rfl,rfl⟩ (Agr.start σ)
def atL (K3 K4 KB KC KV g3 g4 gB:Nat) (svC svV:Value) (z:AV) (sc:List AV) (cs:List (Po × Po)):List (Nat × Ent) :=
 [(K3,.box g3 143 [.pbox KB gB 0] false),(K4,.box g4 81 sc false),(KB,.box gB 145 [.own KC svC,.own KV svV,z] false),(KC,.row svC 150 2 (cs.map coA) 0)]
theorem ZA4 (K3 K4 KB KC KV g3 g4 gB:Nat) (svC svV:Value) (z:AV) (sc:List AV) (cs:List (Po × Po)):atL K3 K4 KB KC KV g3 g4 gB svC svV z sc cs =
 [(K3,.box g3 143 [.pbox KB gB 0] false),(K4,.box g4 81 sc false),(KB,.box gB 145 [.own KC svC,.own KV svV,z] false),(KC,.row svC 150 2 (cs.map coA) 0)]:=rfl
theorem cbAt (K3 K4 KB KC KV g3 g4 gB:Nat) (svC svV:Value) (fr:Nat) (k0:Int) (nm:ByteArray) (ar:List Int) (x y w:AV) (cs:List (Po × Po)) (k:Nat) (hx:x.sh=x∧y.sh=y∧w.sh=w) (hk:k < ar.length) (h0:0≤gI ar k∧gI ar k < (cs.length:Int)) :
 RdC prog (atL K3 K4 KB KC KV g3 g4 gB svC svV (iv fr) [iv k0,strA nm,ivs ar,x,y,w] cs) 167 [iv k,.pbox K3 g3 0,.pbox K4 g4 0] (coA (cs.getD (gI ar k).toNat ([],[]))):=by
 intro σ hL;simp only [atL,Zh9,Zji] at hL;obtain⟨h3,h4,hB,hC,-⟩:=hL;have m3:=Zaz h3;have m4:=Zaz h4;have mB:=Zaz hB;have mC:=Zaz hC;simp only [Ent.sh,AV.shL,AV.sh,hx.1,hx.2.1,hx.2.2] at m3 m4 mB mC;have hga:(ar.map iv).getD k .u=iv (gI ar k):=by rw [Zao iv hk,Zg2 hk]
 have hgc:(cs.map coA).getD (gI ar k).toNat .u=coA (cs.getD (gI ar k).toNat ([],[])):=Zp5 zo;have hll:(ar.map iv).length=ar.length:=ZBr ..;have hcl:(cs.map coA).length=cs.length:=ZBr ..;generalize cs.getD (gI ar k).toNat ([],[])=c at *;generalize gI ar k=a at *;obtain⟨c1,c2⟩:=c;refine Zbe func167 rfl ntmps167 results167 call167 zr zs ?_;(focus (refine wkad (w_10 m3 m4 mB mC hga hgc hll hcl @Zcg @Zcw) w_t (w_1 (w_d 1 [] [] [4])) ?_;(repeat' first|exact w_t|apply w_l);all_goals intros));simp (disch:=omega) only [go_sem];refine Zie (Sub.refl _) ⟨rfl,rfl⟩ ?_
 exact((Agr.start σ).own zo).own zo
def fitS (s:RS):Bool:=!(decide (2 < s.r.l.length) || decide (2 < s.r.d.length) || decide (8 < s.ar.length))
def fitsB (ss:List RS) (gs:List RG):Bool:=ss.all fitS && (decide (nfN ss ss.length≤12) && (decide (ss.length≤42) && decide (gs.length≤10)))
theorem cbAlongS (K3 K4 K7 KB KC KV g3 g4 g7 gB:Nat) (svC svV:Value) (fr:Nat) (k0:Int) (nm:ByteArray) (ar:List Int) (q:Rat) (cs:List (Po × Po)) (a b x r:Po × Po) (hk:2≤ar.length) (h0:0≤gI ar 0∧gI ar 0 < (cs.length:Int)) (h1:0≤gI ar 1∧gI ar 1 < (cs.length:Int)) (ha:cs.getD (gI ar 0).toNat ([],[])=a) (hb:cs.getD (gI ar 1).toNat ([],[])=b)
 (s1:Pure prog 239 [poA b.1,poA a.1] (poA (subM b.1 a.1))) (s2:Pure prog 239 [poA b.2,poA a.2] (poA (subM b.2 a.2)))
 (c1:Pure prog 174 [poA (subM b.1 a.1),ratQ q] (poA x.1)) (c2:Pure prog 174 [poA (subM b.2 a.2),ratQ q] (poA x.2))
 (a1:Pure prog 107 [poA a.1,poA x.1] (poA r.1)) (a2:Pure prog 107 [poA a.2,poA x.2] (poA r.2)) :
 RdC prog ((K7,.box g7 198 [.fn 167 [.pbox K3 g3 0,.pbox K4 g4 0]] false) :: atL K3 K4 KB KC KV g3 g4 gB svC svV (iv fr) [iv k0,strA nm,ivs ar,.v (.bool (decide (q.num < 0))),lim (toL q.num.natAbs),lim (toL q.den)] cs) 168 [.fn 173 [.pbox K4 g4 0],.pbox K7 g7 0] (coA r):=by
 intro σ hL;have t0:=cbAt (K3+1000) (K4+1000) (KB+1000) (KC+1000) (KV+1000) g3 g4 gB svC svV fr k0 nm ar (.v (.bool (decide (q.num < 0)))) (lim (toL q.num.natAbs)) (lim (toL q.den)) cs 0 ⟨rfl,rfl,rfl⟩ zo h0;have t1:=cbAt (K3+1000) (K4+1000) (KB+1000) (KC+1000) (KV+1000) g3 g4 gB svC svV fr k0 nm ar (.v (.bool (decide (q.num < 0)))) (lim (toL q.num.natAbs)) (lim (toL q.den)) cs 1 ⟨rfl,rfl,rfl⟩ zo h1;rw [ha] at t0;rw [hb] at t1;have cB:=ZAp a b s1 s2;have oa:=coOf a;have cC:=Zqh 107 a x r a1 a2;have p1:=ZAw (K4+1000) g4 k0 nm ar q (subM b.1 a.1) x.1 c1;have p2:=ZAw (K4+1000) g4 k0 nm ar q (subM b.2 a.2) x.2 c2
 simp only [atL,Zh9,Zji] at hL;obtain⟨h7,h3,h4,hB,hC,-⟩:=hL;have m3:=Zaz h3;have m4:=Zaz h4;have m7:=Zaz h7;have mB:=Zaz hB;have mC:=Zaz hC
 skip
 simp only [Ent.sh,AV.shL,AV.sh] at m3 m4 m7 mB mC;clear a1 a2 s1 s2 ha hb h0 h1;obtain⟨aa,ab⟩:=a;obtain⟨ba,bb⟩:=b;obtain⟨xa,xb⟩:=x;obtain⟨ra,rb⟩:=r;simp only at *;generalize subM ba aa=da at *;generalize subM bb ab=db at *;refine Zbe func168 rfl ntmps168 results168 call168 zr zs ?_;(focus (refine wkax (w_8 m3 m4 m7 mB mC @Zcg @Zcw @ZA4) (w_3 cB oa cC) (w_2 (w_d 1 [(1,coA (aa,ab)),(3,coA (ba,bb)),(4,coA (da,db))] [] []) (w_d 2 [(1,coA (aa,ab)),(2,coA (aa,ab)),(6,poA xa),(10,poA xb),(12,coA (ra,rb))] [] [3])) w_t w_t (w_4 t0 t1 p1 p2) w_y (w_r 0) ?_;(repeat' first|exact w_t|apply w_l);all_goals intros))
 simp (disch:=omega) only [go_sem];refine Zie (Sub.refl _) ⟨rfl,rfl⟩ ?_
 (repeat' (first|exact Agr.start _|(refine Agr.own ?_ zo)))
theorem PK.sub {p q:Po} {j k e:Nat} (hp:PK p j e) (hq:PK q k e):PK (subM p q) (j+k+1) e:=hp.add hq.neg
theorem PK.scl {p:Po} {j k e:Nat} {a:Rat} (hp:PK p j e) (ha:Sz a k):PK (sclM a p) (j+k) e:=by
 unfold sclM;split
 ·exact .nil
 ·exact hp.scale ha
theorem Zxb {a:Rat} {p:Po} (h:SrtM p):SrtM (sclM a p):=by
 unfold sclM;split
 ·exact .nil
 ·exact Zgr h ‹_›
theorem Zxc (a:Rat) (p:Po):(sclM a p).length≤p.length:=by
 unfold sclM;split
 ·simp
 ·rw [Zk0];exact ZBp _
theorem Zw1 (p q:Po):(subM p q).length≤p.length+q.length:=by
 have:=Zet (lt:=ltM) p (Zbh (-1) q);rw [Zk0] at this;exact this
structure Co (p:Po):Prop where
 pk:PK p 110 1
 st:SrtM p
 ln:p.length≤4000
structure StOk (cs:List (Po × Po)) (s:RS):Prop where
 k0:0≤arS s.k
 al:(s.ar.length:Int)=arS s.k
 ai:∀k,k < s.ar.length→0≤gI s.ar k∧gI s.ar k < (cs.length:Int)
 r2:s.k=2→s.r.ok=true
 rl:s.r.lm 2
theorem cbStep1 (σ:Mem) (KB KC KV g:Nat) (svC svV:Value) (cs:List (Po × Po)) (vs:List Vt) (fr:Nat) (i:Nat) (s:RS) (hB:σ KB=some (.box g 145 [.own KC svC,.own KV svV,iv fr] false)) (hV:σ KV=some (.row svV 259 3 (vs.map Vt.av) 0)) (hC:σ KC=some (.row svC 150 2 (cs.map coA) 0)) (hBV:KB≠KV) (hBC:KB≠KC) (hVC:KV≠KC) (hl:vs.length≤64) (hf:fr≤100) (hk:s.k=1):ACall prog 103 [.pbox KB g 0,s.av,iv i] σ λr σ'=>∃sv,r=coA (FS.nxt ⟨cs,vs,fr⟩ i s).2 ∧
 σ'=upd (upd σ KV (some (.row sv 259 3 ((vs++(FS.nxt ⟨cs,vs,fr⟩ i s).1).map Vt.av) 0))) KB (some (.box g 145 [.own KC svC,.own KV sv,iv (if s.k=1 then fr+1 else fr:Nat)] false)):=by
 have mB:=Zaz hB;have mV:=Zaz hV;have mC:=Zaz hC;simp only [Ent.sh,AV.shL,AV.sh] at mB mV mC
 have en:FS.nxt ⟨cs,vs,fr⟩ i s=((if fr=0 then [] else if fr=1 then [(1,(i:Int),0)] else [(1,(i:Int),0),(1,(i:Int),1)]),(if fr=0 then ([],[]) else if fr=1 then (varM vs.length,[]) else (varM vs.length,varM (vs.length+1)))):=by
  unfold FS.nxt;simp only;rw [ZBo hk];split
  ·rfl
  ·split<;>rfl
 rw [en];simp only [ZBo hk];generalize hnv:(if fr=0 then [] else if fr=1 then [((1:Int),(i:Int),(0:Int))] else [(1,(i:Int),0),(1,(i:Int),1)])=nv at *;generalize hnc:(if fr=0 then (([]:Po),([]:Po)) else if fr=1 then (varM vs.length,[]) else (varM vs.length,varM (vs.length+1)))=nc at *;obtain⟨k,nm,ar,r,rl,rd⟩:=s;simp only at hk;subst hk;refine Zbe func103 rfl ntmps103 results103 call103 zr zs ?_;(focus (refine wkad (w_4 mB mV mC @Zcg) w_t w_t ?_;(repeat' first|exact w_t|apply w_l);all_goals intros));refine Zgw ((cbPoint _ (KB+1000) (KC+1000) (KV+1000) g svC svV vs fr i (by(simp (disch:=omega) only [go_sem,mB,mV,ZBn,ZBo]<;>repeat' first|rfl|refine⟨?_,?_⟩)) (by(simp (disch:=omega) only [go_sem,mB,mV,ZBn,ZBo]<;>repeat' first|rfl|refine⟨?_,?_⟩)) zo zo zo)) ?_
 rw [hnv,hnc];intro sv1;obtain⟨n1,n2⟩:=nc;(focus (refine wkad (w_4 mB mV mC @Zcg) w_t w_t ?_;(repeat' first|exact w_t|apply w_l);all_goals intros));simp (disch:=omega) only [go_sem];refine Zie (Sub.refl _) ⟨sv1,rfl,rfl⟩ ?_;intro k;by_cases hk1:k=KB
 ·rw [hk1];simp (disch:=omega) only [Zam,ZBo,ZBn,ZC3,Ent.sh,AV.shL,AV.sh]
  try rfl
 ·by_cases hk2:k=KV
  ·rw [hk2];simp (disch:=omega) only [Zam,ZBo,ZBn,ZC3,Ent.sh,AV.shL,AV.sh]
   try rfl
  ·simp (disch:=omega) only [Zam,ZBn];exact Agr.start σ k
end Go.Proofs.YtkefeinbjbeidaaGreatDoor
