/- Contracts of the functions that the law reaches, and the rules by which they are walked. They say what a call hands back for every input within the bounds that each names; no other condition. -/
import Derived.Test.YtpkcophcldjboaaGreatDoorBg6
import Derived.Laws.RangeString
import Derived.Lib.OthersKept
import Derived.Laws.Strings
set_option linter.unusedSimpArgs false
set_option linter.unusedVariables false
set_option maxRecDepth 20000
set_option maxHeartbeats 16000000
section
namespace Go.Pol
structure CO {α:Type} (cmp:α→α→Int):Prop where
 eqz:∀a b,cmp a b=0→a=b
 refl:∀a,cmp a a=0
 flip:∀a b,cmp a b < 0↔0 < cmp b a
 tr:∀a b c,cmp a b < 0→cmp b c < 0→cmp a c < 0
structure CP {α:Type} (cmp:α→α→Int):Prop where
 tr:∀{a b c},cmp a b≤0→cmp b c≤0→cmp a c≤0
 tot:∀a b,¬cmp a b < 0→cmp b a≤0
theorem CP.key {α β:Type} {cmp:α→α→Int} (o:CP cmp) (f:β→α):CP (λs t=>cmp (f s) (f t)):=⟨λh k=>o.tr h k,λ_ _ h=>o.tot _ _ h⟩
namespace CO
variable {α:Type} {cmp:α→α→Int}
theorem le_tr (o:CO cmp) {a b c:α} (h:cmp a b≤0) (k:cmp b c≤0):cmp a c≤0:=by
 by_cases h0:cmp a b=0
 ·rw [o.eqz a b h0];exact k
 ·by_cases k0:cmp b c=0
  ·rw [←o.eqz b c k0];exact h
  ·have:=o.tr a b c zo zo;omega
theorem le_total (o:CO cmp) (a b:α) (h:¬cmp a b < 0):cmp b a≤0:=by
 have:=(o.flip b a);have:=(o.flip a b);omega
theorem anti (o:CO cmp) {a b:α} (h:cmp a b≤0) (k:cmp b a≤0):a=b:=by
 refine o.eqz a b ?_;have:=(o.flip b a);have:=(o.flip a b);omega
theorem cp (o:CO cmp):CP cmp:=⟨λh k=>o.le_tr h k,o.le_total⟩
theorem ko (o:CO cmp):KO (λ_=>True) (λx y=>cmp y x < 0) where
 irr x h:=by rw [o.refl] at h;omega
 tr x y z h k:=o.tr z y x k h
 tri x y _ _:=by
  by_cases h:cmp y x < 0
  ·exact .inl h
  ·by_cases h0:cmp x y < 0
   ·exact .inr (.inr h0)
   ·exact .inr (.inl (o.eqz x y (by have:=o.flip y x;omega)))
end CO
section
variable {α:Type} (cmp:α→α→Int)
def Asc (l:List α):Prop:=l.Pairwise λa b=>cmp a b≤0
def insI (P:List α) (x:α):Nat→List α
 | 0=>x :: P
 | j+1=>if cmp x (P.getD j x) < 0 then insI P x j else P.take (j+1)++x :: P.drop (j+1)
def srtN (L:List α):Nat→List α
 | 0=>[]
 | n+1=>match L[n]? with
   | some x=>insI cmp (srtN L n) x (srtN L n).length
   | none=>srtN L n
def srtQ (L:List α):List α:=srtN cmp L L.length
variable {cmp}
theorem Zlm (P:List α) (x:α):∀j,j≤P.length→(∀t (h:t < P.length),j≤t→cmp x P[t] < 0)→∃k,k≤P.length∧insI cmp P x j=P.take k++x :: P.drop k∧(∀t (h:t < P.length),k≤t→cmp x P[t] < 0)∧∀t (h:t < P.length),t+1=k→¬cmp x P[t] < 0
 | 0,_,h=>⟨0,ZCr _,by simp [insI],h,λt ht e=>zo⟩
 | j+1,hj,h=>by
   have hg:P.getD j x=P[j]'zo:=by rw [ZCx,ZCs zo];rfl
   unfold insI;rw [hg];split
   ·rename_i hc;refine Zlm P x j zo λt ht hjt=>?_;by_cases e:t=j
    ·subst e;exact hc
    ·exact h t ht zo
   ·rename_i hc
    exact⟨j+1,hj,rfl,h,λt ht e=>by have:t=j:=zo
                                   subst this;exact hc⟩
theorem ZAg (P:List α) (x:α):(insI cmp P x P.length).Perm (x :: P):=by
 obtain⟨k,_,e,_⟩:=Zlm (cmp:=cmp) P x P.length (ZCi _) (λt h1 h2=>zo);rw [e];refine(List.perm_middle).trans ?_;rw [ZEq]
theorem insI_asc (o:CP cmp) {P:List α} (hP:Asc cmp P) (x:α):Asc cmp (insI cmp P x P.length):=by
 obtain⟨k,hk,e,h1,h2⟩:=Zlm (cmp:=cmp) P x P.length (ZCi _) (λt h1 h2=>zo);rw [e];unfold Asc at *;have hle:∀a∈P.take k,cmp a x≤0:=λa ha=>by
  obtain⟨t,ht,rfl⟩:=List.mem_iff_getElem.1 ha;rw [ZCz] at ht;rw [List.getElem_take];have hn:=h2 (k - 1) zo zo;have hlast:=o.tot _ _ hn;by_cases et:t=k - 1
  ·subst et;exact hlast
  ·exact o.tr (List.pairwise_iff_getElem.1 hP t (k - 1) zo zo zo) hlast
 have hge:∀b∈P.drop k,cmp x b≤0:=λb hb=>by
  obtain⟨t,ht,rfl⟩:=List.mem_iff_getElem.1 hb;rw [ZEj] at ht;rw [List.getElem_drop];have:=h1 (k+t) zo zo;omega
 refine List.pairwise_append.2 ⟨hP.sublist (List.take_sublist _ _),List.pairwise_cons.2 ⟨hge,hP.sublist (List.drop_sublist _ _)⟩,λa ha b hb=>?_⟩;rcases List.mem_cons.1 hb with rfl | hb
 ·exact hle a ha
 ·exact o.tr (hle a ha) (hge b hb)
theorem Zo7 (L:List α):∀n,n≤L.length→(srtN cmp L n).Perm (L.take n)
 | 0,_=>by simp [srtN]
 | n+1,h=>by
   have hn:L[n]?=some (L[n]'zo):=ZCs zo;unfold srtN;rw [hn];simp only;rw [ZFp,hn];refine(ZAg _ _).trans ?_;refine(List.Perm.cons _ (Zo7 L n zo)).trans ?_;simp only [Option.toList_some];exact(List.perm_append_singleton _ _).symm
theorem Zne (o:CP cmp) (L:List α):∀n,Asc cmp (srtN cmp L n)
 | 0=>.nil
 | n+1=>by
   unfold srtN;split
   ·exact insI_asc o (Zne o L n) _
   ·exact Zne o L n
theorem Za3 (L:List α):(srtQ cmp L).Perm L:=by
 have:=Zo7 (cmp:=cmp) L L.length (ZCi _)
 rwa [ZDu] at this
theorem Zby (o:CP cmp) (L:List α):Asc cmp (srtQ cmp L):=Zne o L _
theorem srtQ_len (L:List α):(srtQ cmp L).length=L.length:=(Za3 L).length_eq
theorem Ze8 (o:CO cmp):∀{l m:List α},Asc cmp l→Asc cmp m→l.Perm m→l=m
 | [],m,_,_,p=>(List.nil_perm.1 p).symm
 | a :: l,[],_,_,p=>by have:=p.length_eq;simp at this
 | a :: l,b :: m,hl,hm,p=>by
   have hl':=List.pairwise_cons.1 hl;have hm':=List.pairwise_cons.1 hm
   have hab:a=b:=by
    have h1:a∈b :: m:=p.mem_iff.1 (.head _);have h2:b∈a :: l:=p.mem_iff.2 (.head _);rcases List.mem_cons.1 h1 with h | h1
    ·exact h
    ·rcases List.mem_cons.1 h2 with h | h2
     ·exact h.symm
     ·exact o.anti (hl'.1 b h2) (hm'.1 a h1)
   subst hab;rw [Ze8 o hl'.2 hm'.2 (List.Perm.cons_inv p)]
def putQ (cmp:α→α→Int):List α→α→List α
 | [],q=>[q]
 | a :: l,q=>if cmp a q≤0 then a :: putQ cmp l q else q :: a :: l
theorem Zfz (q:α):∀l:List α,(putQ cmp l q).Perm (q :: l)
 | []=>.refl _
 | a :: l=>by
   unfold putQ;split
   ·exact((Zfz q l).cons a).trans (.swap ..)
   ·exact .refl _
theorem Zkh (o:CP cmp) (q:α):∀{l:List α},Asc cmp l→Asc cmp (putQ cmp l q)
 | [],_=>ZGs ..
 | a :: l,h=>by
   have h':=List.pairwise_cons.1 h;unfold putQ;split
   ·rename_i hc;refine List.pairwise_cons.2 ⟨λb hb=>?_,Zkh o q h'.2⟩;rcases List.mem_cons.1 ((Zfz q l).mem_iff.1 hb) with rfl | hb
    ·exact hc
    ·exact h'.1 b hb
   ·rename_i hc;have hqa:cmp q a≤0:=o.tot a q zo;refine List.pairwise_cons.2 ⟨λb hb=>?_,h⟩;rcases List.mem_cons.1 hb with rfl | hb
    ·exact hqa
    ·exact o.tr hqa (h'.1 b hb)
theorem Zfs (L:List α):∀acc:List α,(L.foldl (putQ cmp) acc).Perm (L++acc):=by
 induction L with
 | nil=>intro acc;exact .refl _
 | cons a L ih =>
   intro acc;show(L.foldl (putQ cmp) (putQ cmp acc a)).Perm (a :: (L++acc));refine(ih _).trans (((Zfz a acc).append_left L).trans ?_);exact List.perm_middle
theorem Zoe (o:CP cmp) (L:List α):∀acc:List α,Asc cmp acc→Asc cmp (L.foldl (putQ cmp) acc):=by
 induction L with
 | nil=>intro acc h;exact h
 | cons a L ih=>intro acc h;exact ih _ (Zkh o a h)
theorem Zqm (o:CO cmp) (L:List α):L.foldl (putQ cmp) []=srtQ cmp L :=
 Ze8 o (Zoe o.cp L [] .nil) (Zby o.cp L) (by
  have:=Zfs (cmp:=cmp) L [];rw [ZDo] at this;exact this.trans (Za3 L).symm)
end
section
variable {α:Type} (cmp:α→α→Int)
def lexL:List α→List α→Int
 | [],[]=>0
 | [],_ :: _=>-1
 | _ :: _,[]=>1
 | a :: l,b :: m=>if cmp a b=0 then lexL l m else cmp a b
def ordL (l m:List α):Int:=if l.length < m.length then -1 else if m.length < l.length then 1 else lexL cmp l m
variable {cmp}
theorem Zb5 (a b:α) (l m:List α):lexL cmp (a :: l) (b :: m)=if cmp a b=0 then lexL cmp l m else cmp a b:=rfl
theorem Zn3 (o:CO cmp):CO (lexL cmp) where
 eqz:=by
  intro l
  induction l with
  | nil=>intro m h;cases m with
    | nil=>rfl
    | cons b m=>exact absurd h (by simp [lexL])
  | cons a l ih=>intro m h;cases m with
    | nil=>exact absurd h (by simp [lexL])
    | cons b m =>
      unfold lexL at h;split at h
      ·rename_i h0;rw [o.eqz a b h0,ih m h]
      ·contradiction
 refl:=by
  intro l
  induction l with
  | nil=>rfl
  | cons a l ih=>unfold lexL;rw [ZCh (o.refl a)];exact ih
 flip:=by
  intro l
  induction l with
  | nil=>intro m;cases m<;>simp [lexL]
  | cons a l ih=>intro m;cases m with
    | nil=>simp [lexL]
    | cons b m =>
      have h1:=o.flip a b;have h2:=o.flip b a;unfold lexL;by_cases h:cmp a b=0
      ·rw [ZCh h,ZCh (by rw [o.eqz a b h];exact o.refl b)];exact ih m
      ·rw [ZCg h,ZCg zo];exact h1
 tr:=by
  intro l
  induction l with
  | nil=>intro m n h k;cases n with
    | nil=>cases m with
      | nil=>exact h
      | cons b m=>simp [lexL] at k
    | cons c n=>simp [lexL]
  | cons a l ih=>intro m n h k;cases m with
    | nil=>simp [lexL] at h
    | cons b m=>cases n with
      | nil=>simp [lexL] at k
      | cons c n =>
        rw [Zb5] at *;by_cases hab:cmp a b=0
        ·rw [ZCh hab] at h;by_cases hbc:cmp b c=0
         ·rw [ZCh hbc] at k;rw [ZCh (by rw [o.eqz a b hab,hbc])];exact ih m n h k
         ·rw [ZCg hbc] at k;rw [o.eqz a b hab,ZCg hbc];exact k
        ·rw [ZCg hab] at h;by_cases hbc:cmp b c=0
         ·rw [←o.eqz b c hbc,ZCg hab];exact h
         ·rw [ZCg hbc] at k;have:=o.tr a b c h k;rw [ZCg zo];exact this
theorem ordL_co (o:CO cmp):CO (ordL cmp) where
 eqz l m h:=by
  unfold ordL at h;split at h
  ·omega
  ·split at h
   ·omega
   ·exact(Zn3 o).eqz l m h
 refl l:=by unfold ordL;rw [ZCg zo,ZCg zo];exact(Zn3 o).refl l
 flip l m:=by
  have:=(Zn3 o).flip l m;unfold ordL;by_cases h1:l.length < m.length
  ·rw [ZCh h1,ZCg zo,ZCh h1];omega
  ·by_cases h2:m.length < l.length
   ·rw [ZCg h1,ZCh h2,ZCh h2];omega
   ·rw [ZCg h1,ZCg h2,ZCg h2,ZCg h1];exact this
 tr l m n h k:=by
  have:=(Zn3 o).tr l m n;unfold ordL at *;by_cases h1:l.length < m.length
  ·by_cases k1:m.length < n.length
   ·rw [ZCh zo];omega
   ·by_cases k2:n.length < m.length
    ·rw [ZCg k1,ZCh k2] at k;omega
    ·rw [ZCh zo];omega
  ·by_cases h2:m.length < l.length
   ·rw [ZCg h1,ZCh h2] at h;omega
   ·by_cases k1:m.length < n.length
    ·rw [ZCh zo];omega
    ·by_cases k2:n.length < m.length
     ·rw [ZCg k1,ZCh k2] at k;omega
     ·rw [ZCg h1,ZCg h2] at h;rw [ZCg k1,ZCg k2] at k;rw [ZCg zo,ZCg zo];exact this h k
end
section
variable {κ:Type} [DecidableEq κ]
def addC:List (Rat × κ)→Rat × κ→List (Rat × κ)
 | [],t=>[t]
 | s :: l,t=>if s.2=t.2 then (s.1+t.1,s.2) :: l else s :: addC l t
theorem cof_addC (l:List (Rat × κ)) (t:Rat × κ) (x:κ):cof (addC l t) x=cof l x+if t.2=x then t.1 else 0:=by
 induction l with
 | nil=>show(if t.2=x then t.1 else 0)+0=0+_;rw [Rat.add_comm]
 | cons s l ih =>
   unfold addC;split
   ·rename_i h;simp only [cof];rw [h];split<;>grind
   ·simp only [cof];rw [ih];grind
theorem addC_key {l:List (Rat × κ)} {t u:Rat × κ} (h:u∈addC l t):u.2=t.2∨∃s∈l,s.2=u.2:=by
 induction l with
 | nil=>rw [List.mem_singleton.1 h];exact .inl rfl
 | cons s l ih =>
   unfold addC at h;split at h
   ·rename_i e;rcases List.mem_cons.1 h with rfl | h
    ·exact .inl e
    ·exact .inr ⟨u,.tail _ h,rfl⟩
   ·rcases List.mem_cons.1 h with rfl | h
    ·exact .inr ⟨u,.head _,rfl⟩
    ·rcases ih h with h | ⟨s',h1,h2⟩
     ·exact .inl h
     ·exact .inr ⟨s',.tail _ h1,h2⟩
def Dst (l:List (Rat × κ)):Prop:=l.Pairwise λs t=>s.2≠t.2
theorem addC_dst {l:List (Rat × κ)} (h:Dst l) (t:Rat × κ):Dst (addC l t):=by
 induction l with
 | nil=>exact ZGs ..
 | cons s l ih =>
   have h':=List.pairwise_cons.1 h;unfold addC;split
   ·exact List.pairwise_cons.2 ⟨λu hu=>h'.1 u hu,h'.2⟩
   ·rename_i hne;refine List.pairwise_cons.2 ⟨λu hu=>?_,ih h'.2⟩;rcases addC_key hu with e | ⟨v,hv,e⟩
    ·rw [e];exact hne
    ·rw [←e];exact h'.1 v hv
theorem Zm1 (l:List (Rat × κ)) (x:κ):cof (l.filter λt=>decide (t.1≠0)) x=cof l x:=by
 induction l with
 | nil=>rfl
 | cons t l ih =>
   rw [ZFo];split
   ·simp only [cof];rw [ih]
   ·rename_i h;have h0:t.1=0:=by simpa using h
    simp only [cof];rw [ih,h0];grind
theorem cof_perm {l m:List (Rat × κ)} (h:l.Perm m) (x:κ):cof l x=cof m x:=by
 induction h with
 | nil=>rfl
 | cons a _ ih=>simp only [cof];rw [ih]
 | swap a b l=>simp only [cof];grind
 | trans _ _ ih1 ih2=>rw [ih1,ih2]
end
section
variable {κ:Type} (cmp:κ→κ→Int)
def sumG (l:List (Rat × κ)):List (Rat × κ):=sumH (λx y=>cmp y x < 0) (l.map λt=>if t.1=0 then [] else [t])
variable {cmp}
theorem Znf (o:CO cmp):∀{l:List (Rat × κ)},Dst l→(srtQ (λs t:Rat × κ=>cmp s.2 t.2) l).Pairwise λs t=>cmp s.2 t.2 < 0:=by
 intro l hd;have hp:=Za3 (cmp:=λs t:Rat × κ=>cmp s.2 t.2) l
 have hd2:Dst (srtQ (λs t:Rat × κ=>cmp s.2 t.2) l):=by
  refine(List.Perm.pairwise_iff ?_ hp).2 hd;intro a b h e;exact h e.symm
 have ha:(srtQ (λs t:Rat × κ=>cmp s.2 t.2) l).Pairwise λs t=>cmp s.2 t.2≤0:=Zby (o.cp.key λs:Rat × κ=>s.2) l;exact(ha.and hd2).imp λ{a b} h=>by
  obtain⟨h1,h2⟩:=h;by_cases h0:cmp a.2 b.2=0
  ·exact absurd (o.eqz _ _ h0) h2
  ·omega
theorem Zmg (l:List (Rat × κ)):∀p∈l.map (λt=>if t.1=0 then [] else [t]),Srt (λ_=>True) (λx y=>cmp y x < 0) p:=λp hp=>by
 obtain⟨t,_,rfl⟩:=List.mem_map.1 hp;split
 ·exact .nil
 ·rename_i h;exact Srt.nil.cons h trivial (λu hu=>by cases hu)
theorem Zna (o:CO cmp) (l:List (Rat × κ)):Srt (λ_=>True) (λx y=>cmp y x < 0) (sumG cmp l):=Zhl o.ko _ (Zmg l)
end
section
variable {κ:Type} [DecidableEq κ]
variable (cmp:κ→κ→Int)
def sumC (l:List (Rat × κ)):List (Rat × κ):=srtQ (λs t=>cmp s.2 t.2) ((l.foldl addC []).filter λt=>decide (t.1≠0))
variable {cmp}
theorem Zl9 (L:List (Rat × κ)) (x:κ):∀acc:List (Rat × κ),cof (L.foldl addC acc) x=cof acc x+cof L x:=by
 induction L with
 | nil=>intro acc;show cof acc x=cof acc x+0;rw [ZEu]
 | cons t L ih =>
   intro acc;show cof (L.foldl addC (addC acc t)) x=cof acc x+((if t.2=x then t.1 else 0)+cof L x);rw [ih,cof_addC,Rat.add_assoc]
theorem Zft (L:List (Rat × κ)):∀acc:List (Rat × κ),Dst acc→Dst (L.foldl addC acc):=by
 induction L with
 | nil=>intro acc h;exact h
 | cons t L ih=>intro acc h;exact ih _ (addC_dst h t)
theorem sumC_srt (o:CO cmp) (l:List (Rat × κ)):Srt (λ_=>True) (λx y=>cmp y x < 0) (sumC cmp l):=by
 have hd:Dst ((l.foldl addC []).filter λt=>decide (t.1≠0)):=List.Pairwise.sublist (List.filter_sublist ..) (Zft l [] .nil);refine⟨λt ht=>⟨?_,trivial⟩,Znf o hd⟩;have:=((Za3 _).mem_iff.1 ht);have:=(List.mem_filter.1 this).2;exact ZH1 this
theorem sumC_cof (l:List (Rat × κ)) (x:κ):cof (sumC cmp l) x=cof l x:=by
 unfold sumC;rw [cof_perm (Za3 _),Zm1,Zl9];show 0+_=_;rw [ZGr]
theorem Znb (o:CO cmp) (l:List (Rat × κ)) (x:κ):cof (sumG cmp l) x=cof l x:=by
 unfold sumG;rw [sumH_cof o.ko x _ (Zmg l)]
 induction l with
 | nil=>rfl
 | cons t l ih =>
   show cof _ x+cofL (l.map _) x=(if t.2=x then t.1 else 0)+cof l x;rw [ih];congr 1;show cof (if t.1=0 then [] else [t]) x=_;by_cases h:t.1=0
   ·rw [ZCh h,h];show(0:Rat)=_;split<;>rfl
   ·rw [ZCg h];show _+(0:Rat)=_;rw [ZEu]
theorem Znc (o:CO cmp) (l:List (Rat × κ)):sumC cmp l=sumG cmp l:=Zjh o.ko (sumC_srt o l) (Zna o l) λx=>by rw [sumC_cof,Znb o]
end
end Go.Pol
end
namespace Go.Proofs.YtpkcophcldjboaaGreatDoor
open Go Go.RowKit Go.Pg Go.Pol Go.Proofs.Tryz
attribute [-bool_to_prop] Bool.and_eq_decide Bool.or_eq_decide Bool.decide_beq_decide decide_eq_decide
attribute [go_sem] zSlQ
attribute [local go_sem] Zbg Zcg Zah Zap Zai Bool.and_self Zal Zjw Zox Za8
abbrev qsA (l:List Qt):AV:=.sl 4 (l.map Qt.av)
def LTq (p q:Qt):Prop:=p.k < q.k∨(p.k=q.k∧(p.a < q.a∨(p.a=q.a∧(p.b < q.b∨(p.b=q.b∧p.c < q.c)))))
theorem Zhs (x y:Int):(ordI x y=-1∧x < y)∨(ordI x y=0∧x=y)∨(ordI x y=1∧y < x):=by
 unfold ordI;split
 ·exact .inl ⟨rfl,zo⟩
 ·split
  ·exact .inr (.inr ⟨rfl,zo⟩)
  ·exact .inr (.inl ⟨rfl,zo⟩)
theorem Zhe (p q:Qt):(Qt.cmp p q=-1∧LTq p q)∨(Qt.cmp p q=0∧p=q)∨(Qt.cmp p q=1∧LTq q p):=by
 obtain⟨k,a,b,c⟩:=p;obtain⟨k',a',b',c'⟩:=q;unfold Qt.cmp or4 LTq;simp only;rcases Zhs k k' with⟨h,g⟩ | ⟨h,g⟩ | ⟨h,g⟩
 ·rw [h];exact .inl ⟨rfl,zo⟩
 ·rw [h];rcases Zhs a a' with⟨i,f⟩ | ⟨i,f⟩ | ⟨i,f⟩
  ·rw [i];exact .inl ⟨rfl,zo⟩
  ·rw [i];rcases Zhs b b' with⟨j,e⟩ | ⟨j,e⟩ | ⟨j,e⟩
   ·rw [j];exact .inl ⟨rfl,zo⟩
   ·rw [j];rcases Zhs c c' with⟨m,d⟩ | ⟨m,d⟩ | ⟨m,d⟩
    ·rw [m];exact .inl ⟨rfl,zo⟩
    ·rw [m];exact .inr (.inl ⟨rfl,by rw [g,f,e,d]⟩)
    ·rw [m];exact .inr (.inr ⟨rfl,zo⟩)
   ·rw [j];exact .inr (.inr ⟨rfl,zo⟩)
  ·rw [i];exact .inr (.inr ⟨rfl,zo⟩)
 ·rw [h];exact .inr (.inr ⟨rfl,zo⟩)
theorem LTq.asymm {p q:Qt} (h:LTq p q) (k:LTq q p):False:=by unfold LTq at *;omega
theorem LTq.irr {p:Qt} (h:LTq p p):False:=h.asymm h
theorem cmp_lt (p q:Qt):Qt.cmp p q < 0↔LTq p q:=by
 rcases Zhe p q with⟨h,g⟩ | ⟨h,g⟩ | ⟨h,g⟩
 ·rw [h];exact⟨λ_=>g,λ_=>zo⟩
 ·rw [h];exact⟨λe=>zo,λe=>by rw [g] at e;exact e.irr.elim⟩
 ·rw [h];exact⟨λe=>zo,λe=>(g.asymm e).elim⟩
theorem cmp_gt (p q:Qt):0 < Qt.cmp p q↔LTq q p:=by
 rcases Zhe p q with⟨h,g⟩ | ⟨h,g⟩ | ⟨h,g⟩
 ·rw [h];exact⟨λe=>zo,λe=>(g.asymm e).elim⟩
 ·rw [h];exact⟨λe=>zo,λe=>by rw [g] at e;exact e.irr.elim⟩
 ·rw [h];exact⟨λ_=>g,λ_=>zo⟩
theorem qtO:CO Qt.cmp where
 eqz p q h:=by
  rcases Zhe p q with⟨e,_⟩ | ⟨_,g⟩ | ⟨e,_⟩
  ·omega
  ·exact g
  ·omega
 refl p:=by
  rcases Zhe p p with⟨_,g⟩ | ⟨e,_⟩ | ⟨_,g⟩
  ·exact g.irr.elim
  ·exact e
  ·exact g.irr.elim
 flip p q:=by rw [cmp_lt,cmp_gt]
 tr p q r h k:=by rw [cmp_lt] at *;unfold LTq at *;omega
abbrev ordQ:List Qt→List Qt→Int:=ordL Qt.cmp
theorem Zbb:CO ordQ:=ordL_co qtO
abbrev w8 (n:Int):Int:=IntKind.u8.wrap n
def keyN (l:List Qt):List Int:=l.flatMap λq=>[w8 q.k,w8 q.a,w8 q.b,w8 q.c]
def keyS (l:List Qt):ByteArray:=Zgu (keyN l)
abbrev u8A (n:Int):AV:=.v (.int .u8 n)
theorem Zxa (l:List Int):Zm8 (l.map u8A)=some l:=by
 induction l with
 | nil=>rfl
 | cons a l ih=>show(Zm8 (l.map u8A)).map (a :: ·)=_;rw [ih];rfl
theorem ZAd (l:List Qt) (q:Qt):keyN (l++[q])=keyN l++[w8 q.k,w8 q.a,w8 q.b,w8 q.c]:=by unfold keyN;rw [ZId];simp
theorem Zi4 (l:List Qt):(keyN l).length=4*l.length:=by
 induction l with
 | nil=>rfl
 | cons a l ih =>
   show([_,_,_,_]++keyN l).length=_;rw [ZDa,ih];simp only [ZCu,ZC6];omega
theorem Zrb (ns:List Int):(Zgu ns).data.toList=ns.map λn=>UInt8.ofNat n.toNat:=by
 have key:∀(ns:List Int) (acc:ByteArray),(ns.foldl (λr n=>r.push (UInt8.ofNat n.toNat)) acc).data.toList=acc.data.toList++ns.map λn=>UInt8.ofNat n.toNat:=by
  intro ns
  induction ns with
  | nil=>intro acc;simp
  | cons n ns ih=>intro acc;rw [ZHd,ih];simp [ByteArray.push]
 unfold Zgu;rw [key];rfl
theorem Zo0 {n:Int} (h0:0≤n) (h1:n < 256):w8 n=n:=by unfold w8 IntKind.wrap;simp [IntKind.signed,IntKind.bits];omega
def Qt.b8 (q:Qt):Prop:=(0≤q.k∧q.k < 256)∧(0≤q.a∧q.a < 256)∧(0≤q.b∧q.b < 256)∧0≤q.c∧q.c < 256
theorem ok_b8 {q:Qt} (h:q.ok=true):q.b8:=by
 unfold Qt.ok at h;have h:=ZH1 h;unfold Qt.b8;omega
theorem Zur:∀{l m:List Qt},(∀q∈l,q.b8)→(∀q∈m,q.b8)→keyN l=keyN m→l=m
 | [],[],_,_,_=>rfl
 | [],b :: m,_,_,h=>by have:=ZD2 List.length h;rw [Zi4,Zi4] at this;simp at this
 | a :: l,[],_,_,h=>by have:=ZD2 List.length h;rw [Zi4,Zi4] at this;simp at this
 | a :: l,b :: m,hl,hm,h=>by
   have h:w8 a.k :: w8 a.a :: w8 a.b :: w8 a.c :: keyN l=w8 b.k :: w8 b.a :: w8 b.b :: w8 b.c :: keyN m:=h;simp only [List.cons.injEq] at h;obtain⟨h1,h2,h3,h4,h5⟩:=h;obtain⟨⟨a1,a2⟩,⟨a3,a4⟩,⟨a5,a6⟩,a7,a8⟩:=hl a (.head _);obtain⟨⟨b1,b2⟩,⟨b3,b4⟩,⟨b5,b6⟩,b7,b8⟩:=hm b (.head _);rw [Zo0 a1 a2,Zo0 b1 b2] at h1;rw [Zo0 a3 a4,Zo0 b3 b4] at h2;rw [Zo0 a5 a6,Zo0 b5 b6] at h3;rw [Zo0 a7 a8,Zo0 b7 b8] at h4;rw [Zur (λq hq=>hl q (.tail _ hq)) (λq hq=>hm q (.tail _ hq)) h5];congr 1;obtain⟨_,_,_,_⟩:=a;obtain⟨_,_,_,_⟩:=b;simp only at h1 h2 h3 h4;rw [h1,h2,h3,h4]
theorem keyN_b (l:List Qt):∀n∈keyN l,0≤n∧n < 256:=by
 have hw:∀n,0≤w8 n∧w8 n < 256:=λn=>by unfold w8 IntKind.wrap;simp [IntKind.signed,IntKind.bits];omega
 intro n hn;unfold keyN at hn;simp only [List.mem_flatMap,ZF7,List.not_mem_nil,or_false] at hn;obtain⟨q,_,h | h | h | h⟩:=hn<;>(rw [h];exact hw _)
theorem Zqw:∀{a b:List Int},(∀n∈a,0≤n∧n < 256)→(∀n∈b,0≤n∧n < 256)→(a.map λn:Int=>UInt8.ofNat n.toNat)=(b.map λn:Int=>UInt8.ofNat n.toNat)→a=b
 | [],[],_,_,_=>rfl
 | [],_ :: _,_,_,h=>by simp at h
 | _ :: _,[],_,_,h=>by simp at h
 | x :: a,y :: b,ha,hb,h=>by
   simp only [ZDq,List.cons.injEq] at h;obtain⟨h1,h2⟩:=h;obtain⟨x0,x1⟩:=ha x (.head _);obtain⟨y0,y1⟩:=hb y (.head _);have e:=ZD2 UInt8.toNat h1;simp only [UInt8.toNat_ofNat'] at e;have:x=y:=zo;rw [this,Zqw (λn hn=>ha n (.tail _ hn)) (λn hn=>hb n (.tail _ hn)) h2]
theorem Zuq {l m:List Qt} (hl:∀q∈l,q.b8) (hm:∀q∈m,q.b8) (h:keyS l=keyS m):l=m:=by
 refine Zur hl hm (Zqw (keyN_b l) (keyN_b m) ?_);have:=ZD2 (λs:ByteArray=>s.data.toList) h;simp only [keyS,Zrb] at this;exact this
theorem qt_at {l:List Qt} {j:Nat} (h:j < l.length):(l.map Qt.av).getD j .u=Qt.av (l.getD j Qt.zero):=ZAm h
theorem exKey (l:List Qt) (hl:l.length≤1000):Pure prog 148 [qsA l] (strA (keyS l)):=by
 have hlm:(l.map Qt.av).length=l.length:=ZCj ..;have hg:∀j,j < l.length→(l.map Qt.av).getD j .u=Qt.av (l.getD j Qt.zero):=λj h=>qt_at h;have hz:(4*(l.length:Int)).toNat=4*l.length:=zo;show Pure _ _ [.sl 4 (l.map Qt.av)] _;generalize l.map Qt.av=M at *;refine pI func148 rfl ntmps148 results148 call148 ?_
 (refine wkap (w_2 hlm hz) w_t (w_r 0) (w_s ?_);intros)
 refine Zad (ι:=Nat) (λi e m=>i≤l.length∧(∃sv,e 3=.own 9 sv∧m 9=some (.row sv 5 1 ((keyN (l.take i)).map u8A) 0))∧e 10=.sl 4 M∧e 11=iv l.length∧e 12=iv i) (λi=>l.length - i) 0 zr ?_ ?_
 ·rintro i e m ⟨hi,⟨sv,e3,m9⟩,e10,e11,e12⟩
  by_cases hlt:i < l.length
  ·have hgi:=hg i hlt
   have hs:keyN (l.take (i+1))=keyN (l.take i)++[w8 (l.getD i Qt.zero).k,w8 (l.getD i Qt.zero).a,w8 (l.getD i Qt.zero).b,w8 (l.getD i Qt.zero).c]:=by
    rw [ZFp,ZCs hlt,ZCx,ZCs hlt];exact ZAd _ _
   have hkl:((keyN (l.take i)).map u8A).length=4*i:=by rw [ZCj,Zi4,ZCz];omega
   have hma:(keyN (l.take (i+1))).map u8A=(keyN (l.take i)).map u8A++[u8A (w8 (l.getD i Qt.zero).k),u8A (w8 (l.getD i Qt.zero).a),u8A (w8 (l.getD i Qt.zero).b),u8A (w8 (l.getD i Qt.zero).c)]:=by rw [hs,ZDd];rfl
   clear hg hs;generalize (keyN (l.take i)).map u8A=K at *;generalize l.getD i Qt.zero=q at *;obtain⟨k,a,b,c⟩:=q;simp only at *
   (refine wkap (w_8 e3 m9 e10 e11 e12 hlm hgi hkl) w_t (w_r 0) (w_s ?_);intros)
   exact⟨i+1,⟨zo,⟨_,gC,by rw [hma];exact gC⟩,gW e10,gW e11,gS⟩,zo⟩
  ·have hil:i=l.length:=zo;subst hil;have hu:Zm8 ((keyN l).map u8A)=some (keyN l):=Zxa _;rw [ZDu] at m9;unfold keyS;generalize (keyN l).map u8A=K at *
   (refine wkap (w_6 e3 m9 e10 e11 e12 hu) w_t (w_r 0) (w_s ?_);intros)
   all_goals exact gL
 ·exact⟨ZCr _,⟨_,gC,gC⟩,gC,gW hlm,gC⟩
attribute [go_sem] underlying57 underlying26 underlying27 szQT byQT zQT zSlT szQP zQP
attribute [local go_sem] Zba
theorem Zz7 {α:Type} {cmp:α→α→Int} {l m:List α} {i:Nat} (hl:i < l.length) (hm:i < m.length):lexL cmp (l.drop i) (m.drop i)=if cmp l[i] m[i]=0 then lexL cmp (l.drop (i+1)) (m.drop (i+1)) else cmp l[i] m[i]:=by
 rw [ZEg hl,ZEg hm,Zb5]
abbrev ordT (s t:Rat × List Qt):Int:=ordQ s.2 t.2
abbrev qtA (t:Rat × List Qt):AV:=.agg [.v (.bool (decide (t.1.num < 0))),lim (toL t.1.num.natAbs),lim (toL t.1.den),qsA t.2]
theorem slCmpQ (l m:List Qt) (hl:l.length≤1000000) (he:l.length=m.length):Pure prog 100 [qsA l,qsA m,.fn 43 []] (iv (lexL Qt.cmp l m)):=by
 have hlm:(l.map Qt.av).length=l.length:=ZCj ..;have hmm:(m.map Qt.av).length=l.length:=by rw [ZCj];omega
 have hgl:∀j (h:j < l.length),(l.map Qt.av).getD j .u=Qt.av l[j]:=λj h=>Zak Qt.av h;have hgm:∀j (h:j < m.length),(m.map Qt.av).getD j .u=Qt.av m[j]:=λj h=>Zak Qt.av h;show Pure _ _ [.sl 4 (l.map Qt.av),.sl 4 (m.map Qt.av),.fn 43 []] _;generalize l.map Qt.av=A at *;generalize m.map Qt.av=B at *;refine pI func100 rfl ntmps100 results100 call100 ?_
 (refine wkap (w_2 hlm hmm) w_t (w_r 0) (w_s ?_);intros)
 refine Zad (ι:=Nat) (λi e _=>i≤l.length∧lexL Qt.cmp l m=lexL Qt.cmp (l.drop i) (m.drop i)∧e 0=.sl 4 A∧e 1=.sl 4 B∧e 2=.fn 43 []∧e 11=.sl 4 A∧e 12=iv l.length∧e 13=iv i) (λi=>l.length - i) 0 zr ?_ ?_
 ·rintro i e m' ⟨hi,hx,e0,e1,e2,e11,e12,e13⟩
  by_cases hlt:i < l.length
  ·have g1:=hgl i hlt;have g2:=hgm i zo;have hs:=Zz7 (cmp:=Qt.cmp) hlt (show i < m.length by omega);have cc:=quCmp l[i].k l[i].a l[i].b l[i].c (m[i]'zo).k (m[i]'zo).a (m[i]'zo).b (m[i]'zo).c;rw [hx,hs];clear hgl hgm;by_cases hz:Qt.cmp l[i] (m[i]'zo)=0
   ·rw [ZCh hz];have hx2:lexL Qt.cmp l m=lexL Qt.cmp (l.drop (i+1)) (m.drop (i+1)):=by rw [hx,hs,ZCh hz]
    clear hx hs;rw [←hx2];generalize l[i]=x at *;generalize m[i]'zo=y at *;obtain⟨x1,x2,x3,x4⟩:=x;obtain⟨y1,y2,y3,y4⟩:=y;simp only at *;rw [hz] at cc
    (refine wkap (w_10 e0 e1 e2 e11 e12 e13 hlm hmm g1 g2) (w_1 cc) (w_r 0) (w_s ?_);intros)
    exact⟨i+1,⟨zo,hx2,gW e0,gW e1,gW e2,gW e11,gW e12,gS⟩,zo⟩
   ·rw [ZCg hz];clear hx hs;generalize l[i]=x at *;generalize m[i]'zo=y at *;obtain⟨x1,x2,x3,x4⟩:=x;obtain⟨y1,y2,y3,y4⟩:=y;simp only at *;generalize Qt.cmp _ _=z at *
    (refine wkap (w_10 e0 e1 e2 e11 e12 e13 hlm hmm g1 g2) (w_1 cc) (w_r 0) (w_s ?_);intros)
    all_goals exact gL
  ·have hil:i=l.length:=zo;subst hil;rw [hx,ZEx (ZCi _),ZEx zo];show _;clear hgl hgm hx
   (refine wkap (w_8 e0 e1 e2 e11 e12 e13 hlm hmm) w_t (w_r 0) (w_s ?_);intros)
   all_goals (all_goals (try simp (disch:=omega) only [go_sem,lexL,ZCp,ZCq,ZCh,ZCg,Int.reduceAdd,Int.reduceSub,Int.reduceToNat,ZC3]));(all_goals first|done|rfl|(congr 2;first|done|omega|(rw [ZDg];simp only [bool_to_prop,ZCy,ZDy,ZDz,ZD0,ZD1];omega))|skip)
 ·exact⟨ZCr _,rfl,gC,gC,gC,gC,gW hlm,gC⟩
theorem exCmpP (l m:List Qt) (hl:l.length≤1000000) (hm:m.length≤1000000):Pure prog 44 [qsA l,qsA m] (iv (ordQ l m)):=by
 have hlm:(l.map Qt.av).length=l.length:=ZCj ..;have hmm:(m.map Qt.av).length=m.length:=ZCj ..;unfold ordQ ordL;by_cases h1:l.length < m.length
 ·rw [ZCh h1];show Pure _ _ [.sl 4 (l.map Qt.av),.sl 4 (m.map Qt.av)] _;generalize l.map Qt.av=A at *;generalize m.map Qt.av=B at *;refine pI func44 rfl ntmps44 results44 call44 ?_
  (refine wkap (w_2 hlm hmm) w_t (w_r 0) (w_s ?_);intros)
  all_goals exact gL
 ·by_cases h2:m.length < l.length
  ·rw [ZCg h1,ZCh h2];show Pure _ _ [.sl 4 (l.map Qt.av),.sl 4 (m.map Qt.av)] _;generalize l.map Qt.av=A at *;generalize m.map Qt.av=B at *;refine pI func44 rfl ntmps44 results44 call44 ?_
   (refine wkap (w_2 hlm hmm) w_t (w_r 0) (w_s ?_);intros)
   all_goals exact gL
  ·rw [ZCg h1,ZCg h2];have cc:=slCmpQ l m hl zo;show Pure _ _ [.sl 4 (l.map Qt.av),.sl 4 (m.map Qt.av)] _;generalize lexL Qt.cmp l m=z at *;have cc:Pure prog 100 [.sl 4 (l.map Qt.av),.sl 4 (m.map Qt.av),.fn 43 []] (iv z):=cc;generalize l.map Qt.av=A at *;generalize m.map Qt.av=B at *;refine pI func44 rfl ntmps44 results44 call44 ?_
   (refine wkap (w_2 hlm hmm) (w_1 cc) (w_r 0) (w_s ?_);intros)
   all_goals exact gL
theorem exCmpT (s t:Rat × List Qt) (hl:s.2.length≤1000000) (hm:t.2.length≤1000000):Pure prog 154 [qtA s,qtA t] (iv (ordT s t)):=by
 have cc:=exCmpP s.2 t.2 hl hm;obtain⟨a,l⟩:=s;obtain⟨b,m⟩:=t;simp only at *;show Pure _ _ [.agg [.v (.bool (decide (a.num < 0))),lim (toL a.num.natAbs),lim (toL a.den),.sl 4 (l.map Qt.av)],.agg [.v (.bool (decide (b.num < 0))),lim (toL b.num.natAbs),lim (toL b.den),.sl 4 (m.map Qt.av)]] (iv (ordQ l m));have cc:Pure prog 44 [.sl 4 (l.map Qt.av),.sl 4 (m.map Qt.av)] (iv (ordQ l m)):=cc;generalize ordQ l m=z at *;generalize l.map Qt.av=A at *;generalize m.map Qt.av=B at *;generalize toL a.num.natAbs=a1 at *;generalize toL a.den=a2 at *;generalize toL b.num.natAbs=b1 at *;generalize toL b.den=b2 at *
 refine pI func154 rfl ntmps154 results154 call154 ?_
 (refine wkap w_t (w_1 cc) (w_r 0) (w_s ?_);intros)
 all_goals exact gL
theorem Zrk (l m:List Qt) (hl:l.length≤1000000) (hm:m.length≤1000000):Pure prog 73 [qsA l,qsA m] (iv (ordQ l m)):=by
 have hlm:(l.map Qt.av).length=l.length:=ZCj ..;have hmm:(m.map Qt.av).length=m.length:=ZCj ..;have hgl:∀j (h:j < l.length),(l.map Qt.av).getD j .u=Qt.av l[j]:=λj h=>Zak Qt.av h;have hgm:∀j (h:j < m.length),(m.map Qt.av).getD j .u=Qt.av m[j]:=λj h=>Zak Qt.av h;unfold ordQ ordL;show Pure _ _ [.sl 4 (l.map Qt.av),.sl 4 (m.map Qt.av)] _;by_cases h1:l.length < m.length
 ·rw [ZCh h1];clear hgl hgm;generalize l.map Qt.av=A at *;generalize m.map Qt.av=B at *;refine pI func73 rfl ntmps73 results73 call73 ?_
  (refine wkad (w_2 hlm hmm) w_t w_t (w_s ?_);intros)
  all_goals exact gL
 ·by_cases h2:m.length < l.length
  ·rw [ZCg h1,ZCh h2];clear hgl hgm;generalize l.map Qt.av=A at *;generalize m.map Qt.av=B at *;refine pI func73 rfl ntmps73 results73 call73 ?_
   (refine wkad (w_2 hlm hmm) w_t w_t (w_s ?_);intros)
   all_goals exact gL
  ·rw [ZCg h1,ZCg h2];have he:m.length=l.length:=zo;rw [he] at hmm;generalize l.map Qt.av=A at *;generalize m.map Qt.av=B at *;refine pI func73 rfl ntmps73 results73 call73 ?_
   (refine wkad (w_2 hlm hmm) w_t w_t (w_s ?_);intros)
   refine Zad (ι:=Nat) (λi e _=>i≤l.length∧lexL Qt.cmp l m=lexL Qt.cmp (l.drop i) (m.drop i)∧e 0=.sl 4 A∧e 1=.sl 4 B∧e 5=iv i) (λi=>l.length - i) 0 zr ?_ ?_
   ·rintro i e m' ⟨hi,hx,e0,e1,e5⟩
    by_cases hlt:i < l.length
    ·have g1:=hgl i hlt;have g2:=hgm i zo;have hs:=Zz7 (cmp:=Qt.cmp) hlt (show i < m.length by omega);have cc:=Zpg l[i].k l[i].a l[i].b l[i].c (m[i]'zo).k (m[i]'zo).a (m[i]'zo).b (m[i]'zo).c;rw [hx,hs];clear hgl hgm;by_cases hz:Qt.cmp l[i] (m[i]'zo)=0
     ·rw [ZCh hz];have hx2:lexL Qt.cmp l m=lexL Qt.cmp (l.drop (i+1)) (m.drop (i+1)):=by rw [hx,hs,ZCh hz]
      clear hx hs;rw [←hx2];generalize l[i]=x at *;generalize m[i]'zo=y at *;obtain⟨x1,x2,x3,x4⟩:=x;obtain⟨y1,y2,y3,y4⟩:=y;simp only at *;rw [hz] at cc
      (refine wkad (w_7 e0 e1 e5 hlm hmm g1 g2) (w_1 cc) (w_1 (w_d 8 [(8,iv 0)] [] [])) (w_s ?_);intros)
      exact⟨i+1,⟨zo,hx2,gW e0,gW e1,gS⟩,zo⟩
     ·rw [ZCg hz];clear hx hs;generalize l[i]=x at *;generalize m[i]'zo=y at *;obtain⟨x1,x2,x3,x4⟩:=x;obtain⟨y1,y2,y3,y4⟩:=y;simp only at *;generalize Qt.cmp _ _=z at *
      (refine wkad (w_7 e0 e1 e5 hlm hmm g1 g2) (w_1 cc) (w_1 (w_d 8 [(8,iv z)] [] [])) (w_s ?_);intros)
      all_goals exact gL
    ·have hil:i=l.length:=zo;subst hil;rw [hx,ZEx (ZCi _),ZEx zo];clear hgl hgm hx
     (refine wkad (w_5 e0 e1 e5 hlm hmm) w_t w_t (w_s ?_);intros)
     all_goals (all_goals (try simp (disch:=omega) only [go_sem,lexL,ZCp,ZCq,ZCh,ZCg,Int.reduceAdd,Int.reduceSub,Int.reduceToNat,ZC3]));(all_goals first|done|rfl|(congr 2;first|done|omega|(rw [ZDg];simp only [bool_to_prop,ZCy,ZDy,ZDz,ZD0,ZD1];omega))|skip)
   ·exact⟨ZCr _,rfl,gC,gC,gC⟩
abbrev Tm:=Rat × List Int
abbrev Po:=List Tm
abbrev tmA (t:Tm):AV:=.agg [.v (.bool (decide (t.1.num < 0))),lim (toL t.1.num.natAbs),lim (toL t.1.den),ivs t.2]
abbrev poA (p:Po):AV:=.sl 4 (p.map tmA)
abbrev SrtM (p:Po):Prop:=Srt Can ltM p
abbrev addM (p q:Po):Po:=addP ltM p q
abbrev subM (p q:Po):Po:=subP ltM p q
abbrev mlM (p q:Po):Po:=mulR ltM mulM p q
def sclM (a:Rat) (p:Po):Po:=if a=0 then [] else Zcv a p
def PK (p:Po) (k e:Nat):Prop:=∀t∈p,Sz t.1 k∧t.2.length≤1000∧∀j,0≤gI t.2 j∧gI t.2 j≤(e:Int)
theorem PK.mono {p:Po} {k j e f:Nat} (h:PK p k e) (hk:k≤j) (he:e≤f):PK p j f:=λt ht=>⟨(h t ht).1.mono hk,(h t ht).2.1,λi=>by have:=(h t ht).2.2 i;omega⟩
theorem PK.sm {p:Po} {k e:Nat} (h:PK p k e) (he:e≤16777216) {t:Tm} (ht:t∈p):Sm t.2:=⟨(h t ht).2.1,λi=>by have:=(h t ht).2.2 i;omega⟩
theorem PK.nil {k e:Nat}:PK [] k e:=λt ht=>by simp at ht
theorem PK.tail {t:Tm} {p:Po} {k e:Nat} (h:PK (t :: p) k e):PK p k e:=λu hu=>h u (.tail _ hu)
theorem PK.drop {p:Po} {k e:Nat} (h:PK p k e) (i:Nat):PK (p.drop i) k e:=λu hu=>h u (ZE2 hu)
theorem PK.add {p q:Po} {j k e:Nat} (hp:PK p j e) (hq:PK q k e):PK (addM p q) (j+k+1) e:=λt ht=>by
 rcases Zg8 ht with h | h | ⟨s,hs,u,hu,rfl⟩
 ·exact⟨(hp t h).1.mono zo,(hp t h).2⟩
 ·exact⟨(hq t h).1.mono zo,(hq t h).2⟩
 ·exact⟨(hp s hs).1.add (hq u hu).1,(hp s hs).2⟩
def Zj8 (v:Nat):List Int:=List.replicate v 0++[1]
theorem Zgx (v:Nat):(Zj8 v).length=v+1:=by simp [Zj8]
theorem Zoc (v j:Nat):gI (Zj8 v) j=if j=v then 1 else 0:=by
 by_cases h:j < v+1
 ·rw [Zfb (by rw [Zgx];exact h)];unfold Zj8;rw [List.getElem_append];by_cases hj:j < v
  ·rw [dif_pos (by simpa using hj),List.getElem_replicate,ZCg zo]
  ·rw [dif_neg (by simpa using hj),ZCh zo];simp
 ·rw [Ze5 (by rw [Zgx];omega),ZCg zo]
theorem can_unit (v:Nat):Can (Zj8 v):=by
 refine⟨λj=>by rw [Zoc];split<;>omega,.inr ?_⟩;rw [Zgx,Zoc,ZCh zo];omega
def varM (v:Nat):Po:=if v < 64 then [(1,Zj8 v)] else []
theorem Zs5 (v:Nat):SrtM (varM v):=by
 unfold varM;split
 ·exact Srt.nil.cons (by show(1:Rat)≠0;decide) (can_unit v) zs
 ·exact .nil
structure RS where
 k:Int
 nm:ByteArray
 ar:List Int
 r:RQ
structure RG where
 k:Int
 ar:List Int
 r:RQ
abbrev RS.av (s:RS):AV:=.agg [iv s.k,strA s.nm,ivs s.ar,.v (.bool s.r.s),lim s.r.l,lim s.r.d]
abbrev RG.av (g:RG):AV:=.agg [iv g.k,ivs g.ar,.v (.bool g.r.s),lim g.r.l,lim g.r.d]
abbrev figA (ss:List RS) (gs:List RG):AV:=.agg [.sl 6 (ss.map RS.av),.sl 5 (gs.map RG.av)]
def RQ.none (r:RQ):Bool:=!r.s && (decide (r.l.length=0) && decide (r.d.length=0))
structure FS where
 cs:List (Po × Po)
 vs:List Vt
 fr:Nat
abbrev coA (c:Po × Po):AV:=.agg [poA c.1,poA c.2]
def FS.at (f:FS) (s:RS) (k:Nat):Po × Po:=f.cs.getD (gI s.ar k).toNat ([],[])
def FS.nxt (f:FS) (i:Nat) (s:RS):List Vt × (Po × Po) :=
 let v:=f.vs.length
 let a:=f.at s 0
 let b:=f.at s 1
 let c:=f.at s 2
 if s.k=1 then
  (if f.fr=0 then ([],([],[]))
   else if f.fr=1 then ([(1,(i:Int),0)],(varM v,[]))
   else ([(1,(i:Int),0),(1,(i:Int),1)],(varM v,varM (v+1))))
 else if s.k=2 then ([],(addM a.1 (sclM s.r.q (subM b.1 a.1)),addM a.2 (sclM s.r.q (subM b.2 a.2))))
 else if s.k=3 then ([],(addM a.1 (subM c.1 b.1),addM a.2 (subM c.2 b.2)))
 else if s.k=4 then ([],(addM a.1 (subM b.2 c.2),addM a.2 (subM c.1 b.1)))
 else if s.k=5 then ([(1,(i:Int),0)],(addM a.1 (mlM (subM b.1 a.1) (varM v)),addM a.2 (mlM (subM b.2 a.2) (varM v))))
 else if s.k=6 then ([(1,(i:Int),0),(2,(i:Int),1),(2,(i:Int),2)],(varM (v+1),varM (v+2)))
 else ([(2,(i:Int),0),(2,(i:Int),1)],(varM v,varM (v+1)))
def FS.push (f:FS) (i:Nat) (s:RS):FS:=⟨f.cs++[(f.nxt i s).2],f.vs++(f.nxt i s).1,if s.k=1 then f.fr+1 else f.fr⟩
def frN (ss:List RS):Nat→FS
 | 0=>⟨[],[],0⟩
 | i+1=>(frN ss i).push i (ss.getD i ⟨0,.empty,[],⟨false,[],[]⟩⟩)
def bigN (ss:List RS) (i:Nat):Bool :=
 decide (64 < (frN ss (i+1)).vs.length) || decide (4000 < ((frN ss i).nxt i (ss.getD i ⟨0,.empty,[],⟨false,[],[]⟩⟩)).2.1.length) || decide (4000 < ((frN ss i).nxt i (ss.getD i ⟨0,.empty,[],⟨false,[],[]⟩⟩)).2.2.length)
def BB (n:Nat):Nat:=65536 ^ (3*n)
theorem BB_pos (n:Nat):1≤BB n:=Nat.one_le_pow _ _ zo
theorem BB_succ (n:Nat):BB (n+1)=BB n*65536 ^ 3:=by unfold BB;rw [←ZDj];rfl
def GP (n D v:Nat) (p:Po):Prop:=SrtM p∧∀t∈p,BQ D (BB n) t.1∧t.2.length≤v∧∀j,gI t.2 j≤1
theorem GP.nil {n D v:Nat}:GP n D v []:=⟨.nil,λt h=>by simp at h⟩
theorem GP.mono {n D v m E w:Nat} {p:Po} (h:GP n D v p) (hn:n≤m) (hd:D ∣ E) (hv:v≤w):GP m E w p :=
 ⟨h.1,λt ht=>⟨(h.2 t ht).1.mono hd (ZDl zo zo),by have:=(h.2 t ht).2.1;omega,(h.2 t ht).2.2⟩⟩
theorem bq_sz {D B d b:Nat} {q:Rat} (h:BQ D B q) (h0:D≠0) (hd:D < 65536 ^ d) (hb:B < 65536 ^ b):Sz q (d+b):=by
 have h1:q.den≤D:=Nat.le_of_dvd (ZEe h0) h.1;refine⟨Zaf.2 ?_,ZCk (Zaf.2 (ZG3 h1 hd)) zo⟩;have hp:0 < q.den:=q.den_pos
 calc q.num.natAbs≤B*q.den:=h.2
  _≤B*D:=ZEc _ h1
  _ < 65536 ^ b*65536 ^ d:=ZFt hb hd
  _=65536 ^ (d+b):=by rw [ZDh,←ZDj]
theorem GP.pk {n D v:Nat} {p:Po} (h:GP n D v p) (hv:v≤1000) (h0:D≠0) (hd:D < 65536 ^ (2*n+1)) (hn:n≤20):PK p 110 1:=λt ht=>by
 obtain⟨h1,h2,h3⟩:=h.2 t ht;refine⟨(bq_sz (b:=3*n+1) h1 h0 hd (by unfold BB;exact Nat.pow_lt_pow_right zo zo)).mono zo,zo,λj=>⟨(h.1.1 t ht).2.1 j,h3 j⟩⟩
def GB (B D v:Nat) (p:Po):Prop:=SrtM p∧∀t∈p,BQ D B t.1∧t.2.length≤v∧∀j,gI t.2 j≤1
theorem GB.mono {B D v C E w:Nat} {p:Po} (h:GB B D v p) (hn:B≤C) (hd:D ∣ E) (hv:v≤w):GB C E w p :=
 ⟨h.1,λt ht=>⟨(h.2 t ht).1.mono hd hn,by have:=(h.2 t ht).2.1;omega,(h.2 t ht).2.2⟩⟩
theorem GB.add {B C D v:Nat} {p q:Po} (h:GB B D v p) (k:GB C D v q):GB (B+C) D v (addM p q):=by
 refine⟨Zc1 ordM h.1 k.1,λt ht=>?_⟩;rcases Zg8 ht with h1 | h1 | ⟨s,hs,u,hu,rfl⟩
 ·exact⟨(h.2 t h1).1.mono (ZEv _) zo,(h.2 t h1).2⟩
 ·exact⟨(k.2 t h1).1.mono (ZEv _) zo,(k.2 t h1).2⟩
 ·exact⟨(h.2 s hs).1.add (k.2 u hu).1,(h.2 s hs).2⟩
theorem GB.neg {B D v:Nat} {p:Po} (h:GB B D v p):GB B D v (Zcv (-1) p):=by
 refine⟨Zpb h.1 neg1,λt ht=>?_⟩;obtain⟨s,hs,rfl⟩:=List.mem_map.1 ht;refine⟨?_,(h.2 s hs).2⟩;have e:s.1*-1=-s.1:=by grind
 show BQ D B (s.1*-1);rw [e];exact(h.2 s hs).1.neg
theorem GB.sub {B C D v:Nat} {p q:Po} (h:GB B D v p) (k:GB C D v q):GB (B+C) D v (subM p q):=h.add k.neg
theorem GB.scl {B C D E v:Nat} {p:Po} {a:Rat} (h:GB B D v p) (ha:BQ E C a):GB (B*C) (D*E) v (sclM a p):=by
 unfold sclM;split
 ·exact⟨.nil,λt h=>by simp at h⟩
 ·rename_i h0;refine⟨Zpb h.1 h0,λt ht=>?_⟩;obtain⟨s,hs,rfl⟩:=List.mem_map.1 ht;exact⟨(h.2 s hs).1.mul ha,(h.2 s hs).2⟩
theorem mul_var (p:Po) (v:Nat):mlM p (varM v)=if v < 64 then Zku mulM p (1,Zj8 v) else []:=by
 unfold varM;split
 ·show addP ltM [] (Zku mulM p (1,Zj8 v))=_;simp [addP]
 ·rfl
theorem GB.var {B D v:Nat} {p:Po} (h:GB B D v p):GB B D (v+1) (mlM p (varM v)):=by
 refine⟨mulR_srt ordM mulK h.1 (Zs5 v),λt ht=>?_⟩;rw [mul_var] at ht;split at ht
 ·obtain⟨s,hs,rfl⟩:=List.mem_map.1 ht;obtain⟨h1,h2,h3⟩:=h.2 s hs;refine⟨by show BQ D B (s.1*1);rw [ZGt];exact h1,by show(mulM s.2 (Zj8 v)).length≤v+1;rw [Zuh,Zgx];omega,λj=>?_⟩;show gI (mulM s.2 (Zj8 v)) j≤1;rw [Zlp _ rfl,Zoc];split
  ·rename_i hj;rw [Ze5 zo];omega
  ·have:=h3 j;omega
 ·simp at ht
theorem GB.one {B D v w:Nat} (hB:1≤B) (h:v < w):GB B D w (varM v):=by
 refine⟨Zs5 v,λt ht=>?_⟩;unfold varM at ht;split at ht
 ·rw [ZHb] at ht;subst ht;refine⟨BQ.int 1 (by simpa using hB),by show(Zj8 v).length≤w;rw [Zgx];omega,λj=>?_⟩;show gI (Zj8 v) j≤1;rw [Zoc];split<;>omega
 ·simp at ht
theorem GB.nil {B D v:Nat}:GB B D v []:=⟨.nil,λt h=>by simp at h⟩
structure FI (f:FS) (n D:Nat):Prop where
 D0:D≠0
 Dl:D < 65536 ^ (2*n+1)
 nv:f.vs.length≤64
 cs:∀c∈f.cs,GP n D f.vs.length c.1∧GP n D f.vs.length c.2
 ln:∀c∈f.cs,c.1.length≤4000∧c.2.length≤4000
theorem FI.at {f:FS} {n D:Nat} (h:FI f n D) (s:RS) (k:Nat):(GP n D f.vs.length (f.at s k).1∧GP n D f.vs.length (f.at s k).2)∧(f.at s k).1.length≤4000∧(f.at s k).2.length≤4000:=by
 unfold FS.at;by_cases hk:(gI s.ar k).toNat < f.cs.length
 ·have:=getD_mem (d:=(([],[]):Po × Po)) hk;exact⟨h.cs _ this,h.ln _ this⟩
 ·rw [ZCx,ZD6 zo];exact⟨⟨.nil,.nil⟩,by simp,by simp⟩
def RQ.bd (r:RQ):Prop:=r.ok=true→r.q.den < 65536 ^ 2∧r.q.num.natAbs < 65536 ^ 2
theorem FI.nxt {f:FS} {n D:Nat} (h:FI f n D) (i:Nat) (s:RS) (hr:s.k=2→s.r.ok=true) (hb:s.r.bd) :
 ∃E,E≠0∧D ∣ E∧E < 65536 ^ (2*(n+if s.k=1 then 0 else 1)+1) ∧
  GP (n+if s.k=1 then 0 else 1) E (f.vs++(f.nxt i s).1).length (f.nxt i s).2.1∧GP (n+if s.k=1 then 0 else 1) E (f.vs++(f.nxt i s).1).length (f.nxt i s).2.2:=by
 obtain⟨⟨a1,a2⟩,-⟩:=h.at s 0;obtain⟨⟨b1,b2⟩,-⟩:=h.at s 1;obtain⟨⟨c1,c2⟩,-⟩:=h.at s 2;have hB:=BB_pos n;have hS:=BB_succ n;unfold FS.nxt;simp only;have one:∀v w,v < w→GP n D w (varM v):=λv w hv=>GB.one hB hv;have up:∀{E v:Nat} {p:Po} {C:Nat},GB C E v p→C≤BB n*65536 ^ 3→GP (n+1) E v p:=λh hc=>GB.mono h (by rw [hS];exact hc) (ZEv _) (ZCi _);have dl:D < 65536 ^ (2*(n+1)+1):=ZEh h.Dl (ZDl zo zo)
 have b3:BB n+(BB n+BB n)≤BB n*65536 ^ 3:=by
  have:BB n*3≤BB n*65536 ^ 3:=ZEc _ zd;omega
 by_cases k1:s.k=1
 ·rw [ZCh k1,ZCh k1];refine⟨D,h.D0,ZEv _,h.Dl,?_⟩;split
  ·exact⟨.nil,.nil⟩
  ·split
   ·exact⟨one _ _ zs,.nil⟩
   ·exact⟨one _ _ zs,one _ _ zs⟩
 ·rw [ZCg k1,ZCg k1];by_cases k2:s.k=2
  ·rw [ZCh k2];obtain⟨h1,h2⟩:=hb (hr k2);refine⟨D*s.r.q.den,ZE8 h.D0 s.r.q.den_nz,ZF2 _ _,?_,?_⟩
   ·calc D*s.r.q.den < 65536 ^ (2*n+1)*65536 ^ 2:=ZFt h.Dl h1
     _=65536 ^ (2*(n+1)+1):=by rw [←ZDj];congr 1
   ·have hq:BQ s.r.q.den (65536 ^ 2) s.r.q:=⟨ZEv _,by have:=s.r.q.den_pos;have:=ZFn (65536 ^ 2) this;omega⟩
    have bd:BB n+(BB n+BB n)*65536 ^ 2≤BB n*65536 ^ 3:=by
     have e1:(BB n+BB n)*65536 ^ 2=BB n*(2*65536 ^ 2):=by rw [←Nat.mul_two,ZDm]
     rw [e1];have:BB n*(1+2*65536 ^ 2)≤BB n*65536 ^ 3:=ZEc _ zd;omega
    rw [ZDo];exact⟨up ((GB.mono a1 (ZCi _) (ZF2 _ _) (ZCi _)).add ((GB.sub b1 a1).scl hq)) bd,up ((GB.mono a2 (ZCi _) (ZF2 _ _) (ZCi _)).add ((GB.sub b2 a2).scl hq)) bd⟩
  ·rw [ZCg k2];refine⟨D,h.D0,ZEv _,dl,?_⟩;have one':∀v w,v < w→GP (n+1) D w (varM v):=λv w hv=>GB.one (BB_pos _) hv;by_cases k3:s.k=3
   ·rw [ZCh k3,ZDo];exact⟨up (GB.add a1 (GB.sub c1 b1)) b3,up (GB.add a2 (GB.sub c2 b2)) b3⟩
   ·rw [ZCg k3];by_cases k4:s.k=4
    ·rw [ZCh k4,ZDo];exact⟨up (GB.add a1 (GB.sub b2 c2)) b3,up (GB.add a2 (GB.sub c1 b1)) b3⟩
    ·rw [ZCg k4];by_cases k5:s.k=5
     ·rw [ZCh k5];have e:(f.vs++[(1,(i:Int),0)]).length=f.vs.length+1:=by simp
      rw [e];exact⟨up (GB.add (GB.mono a1 (ZCi _) (ZEv _) zo) (GB.sub b1 a1).var) b3,up (GB.add (GB.mono a2 (ZCi _) (ZEv _) zo) (GB.sub b2 a2).var) b3⟩
     ·rw [ZCg k5];by_cases k6:s.k=6
      ·rw [ZCh k6];exact⟨one' _ _ zs,one' _ _ zs⟩
      ·rw [ZCg k6];exact⟨one' _ _ zs,one' _ _ zs⟩
def nfN (ss:List RS):Nat→Nat
 | 0=>0
 | i+1=>nfN ss i+if (ss.getD i ⟨0,.empty,[],⟨false,[],[]⟩⟩).k=1 then 0 else 1
section
variable {N n:Nat} {cs:List AV}
theorem agInt:Zhi prog 3=false:=by kernel_rfl
theorem csInt:prog.cellsOf 3=1:=by kernel_rfl
theorem shIvs (h:Zcd prog N n 69 cs):∃l:List Int,cs=[ivs l]∧l.length≤N:=by
 obtain⟨bs,rfl,hl,_⟩:=Zct (g:=λk:Int=>[iv k]) (Q:=λ_=>True) underlying69 h λm x hx=>by
  obtain⟨i,rfl,_⟩:=Zdh underlying3 hx;exact⟨i,rfl,trivial⟩
 refine⟨bs,?_,hl⟩;rw [csInt];have:(bs.map λb:Int=>Zcy prog 3 [iv b])=bs.map iv:=ZE4 λb _=>Zkt agInt _;rw [this]
theorem shStep (h:Zcd prog N n 76 cs):∃s:RS,cs=[iv s.k,strA s.nm,ivs s.ar,.v (.bool s.r.s),lim s.r.l,lim s.r.d]∧s.r.lm N∧s.nm.size≤N∧s.ar.length≤N:=by
 obtain⟨m,rfl,hs⟩:=Zce underlying76 zk h;obtain⟨x,y,rfl,h1,hs⟩:=hs.inv;obtain⟨x2,y,rfl,h2,hs⟩:=hs.inv;obtain⟨x3,y,rfl,h3,hs⟩:=hs.inv;obtain⟨x4,y,rfl,h4,hs⟩:=hs.inv;obtain rfl:=hs.inv0;obtain⟨k,rfl,_⟩:=Zdh underlying3 h1;obtain⟨nm,rfl,hn⟩:=Zo8 underlying9 h2;obtain⟨ar,rfl,ha⟩:=shIvs h3;obtain⟨r,rfl,hr⟩:=shRat h4;exact⟨⟨k,nm,ar,r⟩,rfl,hr,hn,ha⟩
theorem shFact (h:Zcd prog N n 93 cs):∃g:RG,cs=[iv g.k,ivs g.ar,.v (.bool g.r.s),lim g.r.l,lim g.r.d]∧g.r.lm N∧g.ar.length≤N:=by
 obtain⟨m,rfl,hs⟩:=Zce underlying93 zk h;obtain⟨x,y,rfl,h1,hs⟩:=hs.inv;obtain⟨x3,y,rfl,h3,hs⟩:=hs.inv;obtain⟨x4,y,rfl,h4,hs⟩:=hs.inv;obtain rfl:=hs.inv0;obtain⟨k,rfl,_⟩:=Zdh underlying3 h1;obtain⟨ar,rfl,ha⟩:=shIvs h3;obtain⟨r,rfl,hr⟩:=shRat h4;exact⟨⟨k,ar,r⟩,rfl,hr,ha⟩
theorem shSteps (h:Zcd prog N n 22 cs):∃l:List RS,cs=[.sl 6 (l.map RS.av)]∧l.length≤N∧∀s∈l,s.r.lm N∧s.nm.size≤N∧s.ar.length≤N:=by
 obtain⟨bs,rfl,hl,hq⟩:=Zct (g:=λs:RS=>[iv s.k,strA s.nm,ivs s.ar,.v (.bool s.r.s),lim s.r.l,lim s.r.d]) (Q:=λs=>s.r.lm N∧s.nm.size≤N∧s.ar.length≤N) underlying22 h λm x hx=>shStep hx;refine⟨bs,?_,hl,hq⟩;rw [show prog.cellsOf 76=6 from by kernel_rfl];have:(bs.map λs:RS=>Zcy prog 76 [iv s.k,strA s.nm,ivs s.ar,.v (.bool s.r.s),lim s.r.l,lim s.r.d])=bs.map RS.av:=ZE4 λb _=>Zfw underlying76 _;rw [this]
theorem shFacts (h:Zcd prog N n 23 cs):∃l:List RG,cs=[.sl 5 (l.map RG.av)]∧l.length≤N∧∀s∈l,s.r.lm N∧s.ar.length≤N:=by
 obtain⟨bs,rfl,hl,hq⟩:=Zct (g:=λs:RG=>[iv s.k,ivs s.ar,.v (.bool s.r.s),lim s.r.l,lim s.r.d]) (Q:=λs=>s.r.lm N∧s.ar.length≤N) underlying23 h λm x hx=>shFact hx;refine⟨bs,?_,hl,hq⟩;rw [show prog.cellsOf 93=5 from by kernel_rfl];have:(bs.map λs:RG=>Zcy prog 93 [iv s.k,ivs s.ar,.v (.bool s.r.s),lim s.r.l,lim s.r.d])=bs.map RG.av:=ZE4 λb _=>Zfw underlying93 _;rw [this]
theorem shFigure (h:Zcd prog N n 25 cs):∃(ss:List RS) (gs:List RG),Zcy prog 25 cs=figA ss gs∧ss.length≤N∧gs.length≤N∧(∀s∈ss,s.r.lm N∧s.nm.size≤N∧s.ar.length≤N)∧∀s∈gs,s.r.lm N∧s.ar.length≤N:=by
 obtain⟨m,rfl,hs⟩:=Zce underlying25 zk h;obtain⟨x,y,rfl,h1,hs⟩:=hs.inv;obtain⟨x3,y,rfl,h3,hs⟩:=hs.inv;obtain rfl:=hs.inv0;obtain⟨ss,rfl,hl,hq⟩:=shSteps h1;obtain⟨gs,rfl,kl,kq⟩:=shFacts h3;exact⟨ss,gs,Zfw underlying25 _,hl,kl,hq,kq⟩
end
theorem Zn1 {r:RQ} {a b:Nat} (h:r.lm a) (hab:a≤b):r.lm b:=⟨h.1,h.2.1,ZCk h.2.2.1 hab,ZCk h.2.2.2 hab⟩
end Go.Proofs.YtpkcophcldjboaaGreatDoor
namespace Go.Proofs.YtpkcophcldjboaaGreatDoor
open Go Go.RowKit Go.Pg Go.Proofs.Tryz
attribute [-bool_to_prop] Bool.and_eq_decide Bool.or_eq_decide Bool.decide_beq_decide decide_eq_decide
theorem r_frzD {P:Program} {n:Nat} {Q:AE→St→Prop} {id:Nat} {ops:Array Oper} {st st':St} (h:Frz n st st') (k:Za5 P 0 n (.region id ops true) Q st'):Za5 P 0 n (.region id ops true) Q st:=λc a w imm hr=>by
 obtain⟨i,h1⟩:=h c a w imm hr;exact k c a w i h1
theorem szMapQ:szOf prog 97=some 1:=by kernel_rfl
theorem zInt3:Za0 prog 3=some (.int .i64 0):=by kernel_rfl
theorem stQ:stI prog 39 4=true:=by kernel_rfl
theorem mkQ (a b c d:Int):mkOf prog 39 (.agg [iv a,iv b,iv c,iv d])=some (.l [a,b,c,d]):=by
 unfold mkOf;rw [underlying39];show(if stI prog 39 4=true then _ else _)=_;rw [ZCh stQ]
end Go.Proofs.YtpkcophcldjboaaGreatDoor
namespace Go.Pg
open Go Go.RowKit Go.Lib
section
variable {P:Program} {n:Nat}
theorem Zsy {x y:Code} {Q:AE→St→Prop} {st:St} (h:AWP P n x (AE.then (AWP P n y Q) Q) st):AWP P n (.seq x y) Q st:=λc a w imm hr=>by
 refine wp_seq (ZF0 (λe a' w' hp=>?_) (h c a w imm hr));obtain⟨ae,st',imm',rfl,h2,h3⟩:=hp
 cases ae with
 | normal=>exact h2 c a' w' imm' h3
 | exit id=>exact⟨.exit id,st',imm',rfl,h2,h3⟩
 | ret=>exact⟨.ret,st',imm',rfl,h2,h3⟩
theorem Zvh {o:Oper} {a:Act} {w w':World} {ops:Array Oper} {Qp:Exit→Act→World→Prop} {l:List Oper} {y:Value} (hg:o.guard=none) (hr:(execOp a.eval o).run P w=.ok (.value y) w') (h:wpList P ops Qp l (a.put o.dst y) w'):wpList P ops Qp (o :: l) a w:=by
 unfold wpList;rw [ZCh (by simp [Region.wanted,hg])];refine .inl ?_;unfold Oper.wp;rw [hr];exact h
theorem rebase {c:Cx} {e:Nat→AV} {a:Act} {w:World} {imm:Imm} (h:Rel c n ⟨e,Zag⟩ a w imm):Rel ⟨w.heap.size,w,imm⟩ n ⟨e,Zag⟩ a w imm :=
 ⟨h.env,h.size,h.defers,⟨⟨λk e hk=>by simp [Zag] at hk,λk k' e e' b hk=>by simp [Zag] at hk,h.mem.ok.lt,h.mem.ok.spot⟩,Blw.refl _ _,ZCi _,λ_ h1=>h1,λ_ h1=>.inl h1,λ_ _=>rfl⟩⟩
theorem unbase {c:Cx} {st':St} {a':Act} {w w':World} {imm imm':Imm} (hm:Mx c Zag w imm) (h:Rel ⟨w.heap.size,w,imm⟩ n st' a' w' imm') (h0:st'.mem=Zag):Rel c n st' a' w' imm':=by
 refine⟨h.env,h.size,h.defers,?_⟩;have hm':=h.mem;rw [h0] at hm' ⊢;exact⟨⟨λk e hk=>by simp [Zag] at hk,λk k' e e' b hk=>by simp [Zag] at hk,hm'.ok.lt,hm'.ok.spot⟩,hm.below.trans (hm'.below.mono hm.lt),ZCk hm.lt hm'.lt,λad h1=>hm'.old ad (hm.old ad h1),λad h1=>(hm'.new ad h1).elim (hm.new ad) (λh2=>.inr (ZCk hm.lt h2)),λad h1=>(hm'.cells ad (hm.old ad h1)).trans (hm.cells ad h1)⟩
structure ItS (c:Cx) (n:Nat) (s:ByteArray) (tI:Nat) (J:Nat→(Nat→AV)→Prop) (pos:Nat) (a:Act) (w:World):Prop where
 h:∃e imm g,Rel c n ⟨e,Zag⟩ a w imm∧w.heap[g]?=some (.stringIter s pos)∧c.B≤g∧(∀ad,imm ad→ad.block≠g)∧e tI=.v (.pointer (some ⟨g,0,none⟩))∧J pos e
theorem ZB0 {s:ByteArray} {id1 id2 bid d1 tI d2 d3:Nat} {x:Operand} {ty1 ty2 ty3 ty4 tys:TypeId} {p1 p2 p3 p4:String} {f1 f2 f3 f4:Array Edge} {r2:Code} {Q:AE→St→Prop} {e:Nat→AV}
 (hx:St.ev ⟨e,Zag⟩ x=.v (.string s)) (hty:P.underlying tys=some .string) (h1:d1 < n) (hI:tI < n) (h2:d2 < n) (h3:d3 < n) (hne:tI≠d2) (hne3:tI≠d3) (hne1:d2≠d3) (hf:Zbi n r2=true)
 (J:Nat→(Nat→AV)→Prop) (h0:∀pv,J 0 (upd (upd e d1 (.v (.string s))) tI (.v pv)))
 (hstep:∀pos e pv,J pos e→e tI=.v pv→pos < s.size→Za5 P 0 n r2 (AE.then (λst'=>st'.mem=Zag∧J (pos+(Utf8.decode s pos).2) st'.env∧st'.env tI=.v pv) λae st'=>st'.mem=Zag∧AE.inBlock bid Q ae st')
  ⟨upd (upd e d2 (.tup [.v (.bool true),.v (.int .i64 pos),.v (.int .i32 (Utf8.decode s pos).1)])) d3 (.v (.bool true)),Zag⟩)
 (hw:∀pos,pos < s.size→0 < (Utf8.decode s pos).2)
 (hend:∀pos e pv,J pos e→e tI=.v pv→¬pos < s.size→Za5 P 0 n r2 (AE.then (λ_=>False) λae st'=>st'.mem=Zag∧AE.inBlock bid Q ae st')
  ⟨upd (upd e d2 (.tup [.v (.bool false)])) d3 (.v (.bool false)),Zag⟩) :
 AWP P n (.seq (.region id1 #[⟨some d1,.move x,ty1,p1,f1,none⟩,⟨some tI,.range tys (.tmp d1),ty2,p2,f2,none⟩] false)
  (.block bid (.loop (.seq (.region id2 #[⟨some d2,.next (.tmp tI) true,ty3,p3,f3,none⟩,⟨some d3,.extract (.tmp d2) 0,ty4,p4,f4,none⟩] false) r2)))) Q ⟨e,Zag⟩:=by
 intro c a w imm hr;refine wp_seq (wp_region_list ?_);have ex:=hr.ev x;rw [hx] at ex;have ex:=ex.v_inv;refine Zvh rfl (y:=.string s) (w':=w) (by simp [execOp,ex]) ?_;have r1:=hr.step (dst:=some d1) (av:=.v (.string s)) (x:=.string s) (Keeps.refl w imm) hr.mem (λd hd=>by cases hd;exact h1) (.pure (.v _));have e1:=(r1.ev (.tmp d1))
 have e1:(a.put (some d1) (.string s)).eval (.tmp d1)=.string s:=by
  have h9:St.ev (St.put ⟨e,Zag⟩ (some d1) (.v (.string s))) (.tmp d1)=.v (.string s):=by simp [St.ev,St.put,Zaq]
  rw [h9] at e1;exact e1.v_inv
 refine Zvh rfl (y:=.pointer (some ⟨w.heap.size,0,none⟩)) (w':=w.iter s 0) (by
  simp only [execOp,e1];exact Zka (run_range_string w tys s hty)) ?_
 have hcell:∀ad,imm ad→(w.iter s 0).cell? ad=w.cell? ad:=λad h9=>ZHs w _ ad (hr.mem.ok.lt ad h9);have hm2:Mx c Zag (w.iter s 0) imm:=⟨⟨λk e hk=>by simp [Zag] at hk,λk k' e e' b hk=>by simp [Zag] at hk,λad h9=>ZEh (hr.mem.ok.lt ad h9) (ZG8 w (.stringIter s 0) none).size,hr.mem.ok.spot⟩,
  hr.mem.below.grown (ZG8 w (.stringIter s 0) none) (ZCi _) hr.mem.lt (λg hg=>by cases hg),ZCk hr.mem.lt (ZG8 w (.stringIter s 0) none).size,hr.mem.old,hr.mem.new,λad h9=>(hcell ad (hr.mem.old ad h9)).trans (hr.mem.cells ad h9)⟩
 have r2':=r1.step (dst:=some tI) (av:=.v (.pointer (some ⟨w.heap.size,0,none⟩))) (x:=.pointer (some ⟨w.heap.size,0,none⟩)) (w':=w.iter s 0) (imm':=imm) (λad h9=>⟨h9,hcell ad h9⟩) hm2 (λd hd=>by cases hd;exact hI) (.pure (.v _));show(Code.block bid _).wp P (post c n Q) _ _;refine wp_block ?_;have start:ItS c n s tI J 0 ((a.put (some d1) (.string s)).put (some tI) (.pointer (some ⟨w.heap.size,0,none⟩))) (w.iter s 0) :=
  ⟨_,imm,w.heap.size,r2',World.iter_heap w s 0,hr.mem.lt,λad h9=>Nat.ne_of_lt (hr.mem.ok.lt ad h9),by simp [St.put,Zaq],h0 _⟩
 generalize (a.put (some d1) (.string s)).put (some tI) (.pointer (some ⟨w.heap.size,0,none⟩))=a1 at start;generalize w.iter s 0=w1 at start;clear r2' r1 hm2 hcell e1 ex hr
 let Qp:Exit→Act→World→Prop:=Exit.inBlock bid (post c n Q)
 have lift:∀(ae:AE) (st':St) (a':Act) (w w':World) (imm imm':Imm),Mx c Zag w imm→Rel ⟨w.heap.size,w,imm⟩ n st' a' w' imm'→st'.mem=Zag→AE.inBlock bid Q ae st'→ae≠.normal→Qp ae.to a' w':=by
  intro ae st' a' w w' imm imm' hm hr h9 hq hn;have hr':=unbase hm hr h9
  cases ae with
  | normal=>exact absurd rfl hn
  | exit i =>
    show Exit.inBlock bid (post c n Q) (.exit i) a' w';simp only [AE.inBlock] at hq;by_cases hi:i=bid
    ·subst hi;rw [ZCh rfl] at hq;simp only [Exit.inBlock,ZDf];exact⟨.normal,st',imm',rfl,hq,hr'⟩
    ·rw [ZCg hi] at hq;simp only [Exit.inBlock,ZCg hi];exact⟨.exit i,st',imm',rfl,hq,hr'⟩
  | ret=>exact⟨.ret,st',imm',rfl,hq,hr'⟩
 have round:∀pos a w,ItS c n s tI J pos a w→(Code.seq (.region id2 #[⟨some d2,.next (.tmp tI) true,ty3,p3,f3,none⟩,⟨some d3,.extract (.tmp d2) 0,ty4,p4,f4,none⟩] false) r2).wp P
  (Exit.then (λa w=>∃pos',ItS c n s tI J pos' a w∧s.size - pos' < s.size - pos) Qp) a w:=by
  rintro pos a w ⟨e,imm,g,hr,hg,hB,hng,heI,hJ⟩
  have eI:=hr.ev (.tmp tI)
  have eI:a.eval (.tmp tI)=.pointer (some ⟨g,0,none⟩):=by
   rw [show St.ev ⟨e,Zag⟩ (.tmp tI)=_ from heI] at eI;exact eI.v_inv
  refine wp_seq (wp_region_list ?_);have glt:g < w.heap.size:=(Array.getElem?_eq_some_iff.1 hg).1;by_cases hp:pos < s.size
  ·refine Zvh rfl (y:=.tuple #[.bool true,.int .i64 pos,.int .i32 (Utf8.decode s pos).1]) (w':=w.iterAt g s (pos+(Utf8.decode s pos).2)) (by
    simp only [execOp,eI];exact Zka (run_next_any_at w g s pos _ hg hp)) ?_
   have hgrow:w.grownBy (w.iterAt g s (pos+(Utf8.decode s pos).2)) (some g):=by
    refine⟨rfl,rfl,rfl,?_,λk hk hne=>?_⟩
    ·simp [World.iterAt]
    ·simp only [World.iterAt];rw [ZH9 (λh9=>hne (by rw [h9]))]
   have hcell:∀ad,imm ad→(w.iterAt g s (pos+(Utf8.decode s pos).2)).cell? ad=w.cell? ad:=λad h9=>Zc9 hgrow (hr.mem.ok.lt ad h9) (λh8=>hng ad h9 (by cases h8;rfl));have hm2:Mx c Zag (w.iterAt g s (pos+(Utf8.decode s pos).2)) imm:=⟨⟨λk e hk=>by simp [Zag] at hk,λk k' e e' b hk=>by simp [Zag] at hk,λad h9=>ZEh (hr.mem.ok.lt ad h9) hgrow.size,hr.mem.ok.spot⟩,
    hr.mem.below.grown hgrow (ZCi _) hr.mem.lt (λg' hg'=>by cases hg';exact hB),ZCk hr.mem.lt hgrow.size,hr.mem.old,hr.mem.new,λad h9=>(hcell ad (hr.mem.old ad h9)).trans (hr.mem.cells ad h9)⟩
   have q1:=hr.step (dst:=some d2) (av:=.tup [.v (.bool true),.v (.int .i64 pos),.v (.int .i32 (Utf8.decode s pos).1)]) (x:=.tuple #[.bool true,.int .i64 pos,.int .i32 (Utf8.decode s pos).1]) (imm':=imm) (λad h9=>⟨h9,hcell ad h9⟩) hm2 (λd hd=>by cases hd;exact h2)
    (.pure (.tup _ _ rfl λj a x k1 k2=>by
     match j with
     | 0=>simp at k1 k2;subst k1;subst k2;exact .v _
     | 1=>simp at k1 k2;subst k1;subst k2;exact .v _
     | 2=>simp at k1 k2;subst k1;subst k2;exact .v _
     | j+3=>simp at k1))
   have v2:=q1.env d2
   have v2:(a.put (some d2) (.tuple #[.bool true,.int .i64 pos,.int .i32 (Utf8.decode s pos).1])).eval (.tmp d2)=.tuple #[.bool true,.int .i64 pos,.int .i32 (Utf8.decode s pos).1]:=by
    show(a.put (some d2) _).tmps.getD d2 undef=_;rw [Act.put_getD a d2 _ (by rw [hr.size];exact h2),ZCh rfl]
   refine Zvh rfl (y:=.bool true) (w':=w.iterAt g s (pos+(Utf8.decode s pos).2)) (by
    simp only [execOp,v2];simp [Instr.extract]) ?_
   have q2:=q1.step (dst:=some d3) (av:=.v (.bool true)) (x:=.bool true) (Keeps.refl _ imm) hm2 (λd hd=>by cases hd;exact h3) (.pure (.v _));have hst:=hstep pos e _ hJ heI hp;have q3:=rebase q2;refine ZF0 (λee a' w' hpost=>?_) (Zbf r2 _ _ hf hst _ _ _ _ q3);obtain⟨ae,st',imm',rfl,hq,hrel⟩:=hpost
   cases ae with
   | normal =>
     obtain⟨hm,hJ',hpv⟩:=hq;have hr':=unbase hm2 hrel hm;refine⟨pos+(Utf8.decode s pos).2,⟨st'.env,imm',g,?_,?_,hB,λad h9=>?_,hpv,hJ'⟩,by have:=hw pos hp;omega⟩
     ·obtain⟨en,me⟩:=st';simp only at hm;subst hm;exact hr'
     ·rw [hrel.mem.below.block g (ZEh glt hgrow.size)];exact iterAt_heap w g s pos _ hg
     ·rcases hrel.mem.new ad h9 with h8 | h8
      ·exact hng ad h8
      ·have:(w.iterAt g s (pos+(Utf8.decode s pos).2)).heap.size≤ad.block:=h8;have:=hgrow.size;omega
   | exit i=>exact lift (.exit i) st' a' _ w' imm imm' hm2 hrel hq.1 hq.2 zs
   | ret=>exact lift .ret st' a' _ w' imm imm' hm2 hrel hq.1 hq.2 zs
  ·refine Zvh rfl (y:=.tuple #[.bool false]) (w':=w) (by
    simp only [execOp,eI];exact Zka (run_next_end_at w g s pos _ hg hp)) ?_
   have q1:=hr.step (dst:=some d2) (av:=.tup [.v (.bool false)]) (x:=.tuple #[.bool false]) (Keeps.refl w imm) hr.mem (λd hd=>by cases hd;exact h2)
    (.pure (.tup _ _ rfl λj a x k1 k2=>by
     match j with
     | 0=>simp at k1 k2;subst k1;subst k2;exact .v _
     | j+1=>simp at k1))
   have v2:(a.put (some d2) (.tuple #[.bool false])).eval (.tmp d2)=.tuple #[.bool false]:=by
    show(a.put (some d2) _).tmps.getD d2 undef=_;rw [Act.put_getD a d2 _ (by rw [hr.size];exact h2),ZCh rfl]
   refine Zvh rfl (y:=.bool false) (w':=w) (by
    simp only [execOp,v2];simp [Instr.extract]) ?_
   have q2:=q1.step (dst:=some d3) (av:=.v (.bool false)) (x:=.bool false) (Keeps.refl _ imm) hr.mem (λd hd=>by cases hd;exact h3) (.pure (.v _));have hst:=hend pos e _ hJ heI hp;have q3:=rebase q2;refine ZF0 (λee a' w' hpost=>?_) (Zbf r2 _ _ hf hst _ _ _ _ q3);obtain⟨ae,st',imm',rfl,hq,hrel⟩:=hpost
   cases ae with
   | normal=>exact hq.elim
   | exit i=>exact lift (.exit i) st' a' _ w' imm imm' hr.mem hrel hq.1 hq.2 zs
   | ret=>exact lift .ret st' a' _ w' imm imm' hr.mem hrel hq.1 hq.2 zs
 intro b k cs;have key:∀m pos a w,s.size - pos=m→ItS c n s tI J pos a w →
  ∃ee a' w',Qp ee a' w'∧Arrives P (lone (b.at a (.code (Code.seq (.region id2 #[⟨some d2,.next (.tmp tI) true,ty3,p3,f3,none⟩,⟨some d3,.extract (.tmp d2) 0,ty4,p4,f4,none⟩] false) r2) :: .inLoop (Code.seq (.region id2 #[⟨some d2,.next (.tmp tI) true,ty3,p3,f3,none⟩,⟨some d3,.extract (.tmp d2) 0,ty4,p4,f4,none⟩] false) r2) :: k)) cs w) b k cs ee a' w':=by
  intro m
  induction m using Nat.strongRecOn with
  | _ m ih =>
    intro pos a w hm hI';obtain⟨ee,a₁,w₁,hq,harr⟩:=round pos a w hI' b (.inLoop _ :: k) cs
    cases ee with
    | normal =>
      obtain⟨pos',h8,h9⟩:=hq;obtain⟨e₂,a₂,w₂,hq₂,harr₂⟩:=ih (s.size - pos') (hm ▸ h9) pos' a₁ w₁ rfl h8;exact⟨e₂,a₂,w₂,hq₂,.of_steps (Steps.trans harr (.one step_inLoop)) harr₂⟩
    | exit id=>exact⟨.exit id,a₁,w₁,hq,.pass (x:=.inLoop _) rfl (λ_ _=>.inl zs) harr⟩
    | goto l=>exact⟨.goto l,a₁,w₁,hq,.pass (x:=.inLoop _) rfl (λ_ _=>.inl zs) harr⟩
    | ret=>exact⟨.ret,a₁,w₁,hq,.pass (x:=.inLoop _) rfl (λ_ _=>.inl zs) harr⟩
    | panic ch=>exact⟨.panic ch,a₁,w₁,hq,.pass (x:=.inLoop _) rfl (λ_ _=>.inl zs) harr⟩
    | outgrown=>exact⟨.outgrown,a₁,w₁,hq,.pass (x:=.inLoop _) rfl (λ_ _=>.inl zs) harr⟩
 obtain⟨ee,a',w',hq,harr⟩:=key _ 0 a1 w1 rfl start;exact⟨ee,a',w',hq,.of_steps (.one step_loop) harr⟩
theorem Zru {f:FuncId} {fn:Func} {code:Code} {rs:List ResultVar} {args:List AV} {r:AV} (hf:P.funcs[f]?=some fn) (hb:fn.body=some code) (hn:fn.ntmps=n) (hrs:fn.results=rs.toArray)
 (hc:∀(vs:Array Value) (w:World),(callFunc f vs).run P w=.ok (.enter f vs) w) (hal:args.length≤n)
 (h:AWP P n code (Done P rs λst=>Zt2 st r) ⟨λt=>args.getD t .u,Zag⟩):Pure P f args r:=by
 refine⟨hc,λw imm vs himm hl hr=>?_⟩;refine calls_of_wp hf hb ?_
 let c:Cx:=⟨w.heap.size,w,imm⟩
 have hrel:Rel c n ⟨λt=>args.getD t .u,Zag⟩ { tmps:=vs++Array.replicate (fn.ntmps - vs.size) undef,defers:=[] } w imm:=by
  refine⟨λt=>?_,by simp [hn];omega,rfl,⟨⟨λk e hk=>by simp [Zag] at hk,λk k' e e' b hk=>by simp [Zag] at hk,λad h1=>(himm ad h1).1,λad h1=>(himm ad h1).2⟩,Blw.refl _ _,ZCi _,λ_ h1=>h1,λ_ h1=>.inl h1,λ_ _=>rfl⟩⟩;simp only [ZCx];rcases ZC5 t args.length with ht | ht
  ·have ht2:t < vs.size:=zo;rw [ZCs ht,ZEd,ZH7 ht2,ZDs ht2];exact .pure (hr t _ _ (ZCs ht) (ZDs ht2))
  ·rw [ZD6 ht];exact .pure (.u _)
 refine ZF0 (λe a' w' hp=>?_) (h c _ w imm hrel);obtain⟨ae,st',imm',rfl,hdone,hrel'⟩:=hp;have hret:=Zoi hdone;have hae:∀id,ae≠.exit id:=by rintro id rfl;exact hdone
 obtain⟨y,b,hrun,⟨hpo,hpv⟩,hrs'⟩:=Zrn hrs hrel' hret;obtain⟨i2,hm2,hk2⟩:=Zc0 b.toks hrel'.mem;have hrd:=Zg3 hm2 (hk2.rs hrs') hpo;rw [hpv] at hrd;have fin:a'.defers=[]∧∃v,(results fn a'.tmps).run P w'=.ok v w'∧(λe w'=>∃x imm',e=Ending.returned x∧Rd w' imm' r x∧(∀ad,imm ad→imm' ad)∧(∀ad,imm' ad→(imm ad∨w.heap.size≤ad.block)∧ad.block < w'.heap.size∧ad.spot=none)∧Blw w.heap.size w w') (Ending.returned v) w' :=
  ⟨hrel'.defers,y,hrun,y,i2,rfl,hrd,hm2.old,λad h1=>⟨hm2.new ad h1,hm2.ok.lt ad h1,hm2.ok.spot ad h1⟩,hm2.below⟩
 cases ae with
 | normal=>exact fin
 | ret=>exact fin
 | exit id=>exact absurd rfl (hae id)
theorem Zwr (s:ByteArray) (i:Nat):0 < (Utf8.decode s i).2:=by
 unfold Utf8.decode;simp only
 repeat' split
 all_goals simp
end
end Go.Pg
namespace Go.Proofs.YtpkcophcldjboaaGreatDoor
open Go Go.RowKit Go.Pg Go.Proofs.Tryz
attribute [-bool_to_prop] Bool.and_eq_decide Bool.or_eq_decide Bool.decide_beq_decide decide_eq_decide
attribute [local go_sem] Zbg Zcg
def kwL:List ByteArray:=[
 ⟨#[97,110,103,108,101]⟩,
 ⟨#[97,112,101,120]⟩,
 ⟨#[98,105,115,101,99,116,111,114]⟩,
 ⟨#[99,101,110,116,101,114]⟩,
 ⟨#[99,105,114,99,108,101]⟩,
 ⟨#[99,105,114,99,117,109]⟩,
 ⟨#[99,111,108,108,105,110,101,97,114]⟩,
 ⟨#[99,111,109,109,111,110]⟩,
 ⟨#[99,111,110,99,121,99,108,105,99]⟩,
 ⟨#[99,111,110,103,114,117,101,110,116]⟩,
 ⟨#[99,114,111,115,115]⟩,
 ⟨#[99,117,116]⟩,
 ⟨#[100,105,118,105,100,101]⟩,
 ⟨#[102,111,111,116]⟩,
 ⟨#[108,105,110,101]⟩,
 ⟨#[109,101,101,116]⟩,
 ⟨#[109,105,100,112,111,105,110,116]⟩,
 ⟨#[109,105,114,114,111,114]⟩,
 ⟨#[111,110]⟩,
 ⟨#[111,116,104,101,114]⟩,
 ⟨#[112,97,114,97,108,108,101,108]⟩,
 ⟨#[112,101,114,112,101,110,100,105,99,117,108,97,114]⟩,
 ⟨#[112,111,105,110,116,115]⟩,
 ⟨#[112,114,111,118,101]⟩,
 ⟨#[114,97,116,105,111]⟩,
 ⟨#[114,101,102,108,101,99,116]⟩,
 ⟨#[115,97,109,101]⟩,
 ⟨#[115,104,105,102,116]⟩,
 ⟨#[116,117,114,110]⟩]
def letB (c:Nat):Bool:=decide (97≤c∧c≤122) || decide (65≤c∧c≤90)
def digB (c:Nat):Bool:=decide (48≤c∧c≤57)
def gB (s:ByteArray) (k:Nat):Nat:=(s.data.toList.getD k 0).toNat
theorem gB_lt (s:ByteArray) (k:Nat):gB s k < 256:=UInt8.toNat_lt _
def namB (s:ByteArray):Bool:=decide (0 < s.size∧s.size≤20) && (letB (gB s 0) && ((List.range s.size).all (λk=>letB (gB s k) || digB (gB s k)) && !(kwL.any λw=>w.toList == s.toList)))
theorem Zkw (s:ByteArray):(s.toList == (⟨#[]⟩:ByteArray).toList)=decide (s.size=0):=by
 rw [ByteArray.toList_eq,ByteArray.toList_eq,ZDg,ZEk,ZDb];constructor
 ·intro h;have:=ZD2 List.length h;exact this
 ·intro h;exact List.length_eq_zero_iff.1 h
theorem gB_at (s:ByteArray) (k:Nat):((s.data.toList.getD k 0).toNat:Int)=(gB s k:Int):=rfl
theorem Zmz (s:ByteArray):∀n,n≤s.size→∃k,k≤n∧(∀j,j < k→(letB (gB s j) || digB (gB s j))=true)∧(k < n→(letB (gB s k) || digB (gB s k))=false)
 | 0,_=>⟨0,zo,λj h=>zo,λh=>zo⟩
 | n+1,h=>by
   obtain⟨k,h1,h2,h3⟩:=Zmz s n zo;by_cases hk:k < n
   ·exact⟨k,zo,h2,λ_=>h3 hk⟩
   ·have:k=n:=zo;subst this
    cases hb:(letB (gB s k) || digB (gB s k)) with
    | true=>exact⟨k+1,zo,λj hj=>by by_cases e:j=k;rw [e];exact hb;exact h2 j zo,λh=>zo⟩
    | false=>exact⟨k,zo,h2,λ_=>hb⟩
theorem rnKeys:Pure prog 220 [] (.sl 1 (kwL.map strA)):=by
 unfold kwL;refine pI func220 rfl ntmps220 results220 call220 ?_;exact wklp w_t w_t w_t (w_r 0) w_z
theorem Ztp (c:Nat) (hc:c < 256):Pure prog 218 [.v (.int .u8 (c:Int))] (.v (.bool (letB c))):=by
 unfold letB;refine pI func218 rfl ntmps218 results218 call218 ?_;exact wklp w_t w_t w_t (w_r 0) w_z
theorem rnDigit (c:Nat) (hc:c < 256):Pure prog 219 [.v (.int .u8 (c:Int))] (.v (.bool (digB c))):=by
 unfold digB;refine pI func219 rfl ntmps219 results219 call219 ?_;exact wklp w_t w_t w_t (w_r 0) w_z
theorem Zjm:kwL.length=29:=rfl
theorem decode_1 (s:ByteArray) (k:Nat) (hk:k < s.size) (h:gB s k < 128):(Utf8.decode s k).2=1:=by
 have e:(s[k]'hk).toNat=gB s k:=by
  unfold gB;rw [ZCx,ZCs (by simpa using hk)];rfl
 rw [decode_ascii s k hk zo]
theorem ld_ascii {c:Nat} (h:(letB c || digB c)=true):c < 128:=by
 unfold letB digB at h;simp only [ZFg,ZDb] at h;omega
theorem rnName (s:ByteArray) (hs:s.size≤1000000000):Pure prog 169 [strA s] (.v (.bool (namB s))):=by
 have he:=Zkw s;unfold namB;by_cases h0:0 < s.size∧s.size≤20
 ·rw [ZCp h0,ZEf];have h00:(decide (s.size=0))=false:=ZCq zo;rw [h00] at he;have hk:=Ztp (gB s 0) (gB_lt s 0);have hg:=gB_at s 0
  cases hl:letB (gB s 0) with
  | false =>
    rw [hl] at hk;rw [ZDi];refine pI func169 rfl ntmps169 results169 call169 ?_;exact wklp (w_2 he hg) (w_1 hk) w_t (w_r 0) w_z
  | true =>
    rw [hl] at hk;rw [ZEf];obtain⟨n,h1,h2,h3⟩:=Zmz s s.size (ZCi _)
    have hall:(List.range s.size).all (λk=>letB (gB s k) || digB (gB s k))=decide (n=s.size):=by
     rw [ZDg,ZFk,ZDb];constructor
     ·intro h;rcases ZC5 n s.size with h4 | h4
      ·have:=h n (List.mem_range.2 h4);rw [h3 h4] at this;cases this
      ·omega
     ·intro h x hx;exact h2 x (by rw [h];exact List.mem_range.1 hx)
    rw [hall];have ck:=rnKeys;refine Zru (rs:=[.tmp 2]) func169 rfl ntmps169 results169 call169 zs ?_;refine Zsy (Zbf (tok:=0) _ _ _ zr ?_)
    (refine wkap w_t w_t (w_r 0) (w_s ?_);intros)
    refine Zsy (Zbf (tok:=0) _ _ _ zr ?_)
    (refine wkap (w_2 he hg) (w_1 hk) (w_r 0) (w_s ?_);intros)
    refine Zsy ?_;clear hk hg he hall;refine ZB0 (s:=s) (gC) underlying9 zo zo zo zo zo zo zo zr (λpos e=>pos≤n∧e 0=strA s) ?_ ?_ (λpos _=>Zwr s pos) ?_
    ·intro pv;exact⟨ZCr _,gC⟩
    ·rintro pos e pv ⟨hp,e0⟩ epv hlt
     have hkl:=Ztp (gB s pos) (gB_lt s pos);have hkd:=rnDigit (gB s pos) (gB_lt s pos);have hg:=gB_at s pos;by_cases hpn:pos < n
     ·have hb:=h2 pos hpn;have hd:=decode_1 s pos hlt (ld_ascii hb);rw [hd];generalize (Utf8.decode s pos).1=cc
      cases hl2:letB (gB s pos) with
      | true =>
        rw [hl2] at hkl
        (refine wkap (w_2 e0 hg) (w_2 hkl hkd) (w_r 0) (w_s ?_);intros)
        exact⟨rfl,⟨zo,gW e0⟩,gW epv⟩
      | false =>
        rw [hl2,Bool.false_or] at hb;rw [hl2] at hkl;rw [hb] at hkd
        (refine wkap (w_2 e0 hg) (w_2 hkl hkd) (w_r 0) (w_s ?_);intros)
        exact⟨rfl,⟨zo,gW e0⟩,gW epv⟩
     ·have hpe:pos=n:=zo;subst hpe;have hb:=h3 hlt;rw [ZHh] at hb;rw [hb.1] at hkl;rw [hb.2] at hkd;have hne:decide (pos=s.size)=false:=ZCq zo;rw [hne];generalize (Utf8.decode s pos).1=cc;generalize (Utf8.decode s pos).2=cw
      (refine wkap (w_2 e0 hg) (w_2 hkl hkd) (w_r 0) (w_s ?_);intros)
      refine⟨rfl,?_⟩;exact wklp w_t w_t w_t (w_r 0) w_z
    ·rintro pos e pv ⟨hp,e0⟩ epv hlt
     have hpe:n=s.size:=zo;rw [ZCp hpe,ZEf]
     (refine wkap (w_1 e0) w_t (w_r 0) (w_s ?_);intros)
     refine⟨rfl,?_⟩;refine Zo4 (t_then ?_);refine Zbf (tok:=0) _ _ _ zr ?_
     (refine wkap (w_3 e0 @Zn7 @Zjm) (w_1 ck) (w_r 0) (w_s ?_);intros)
     refine Zad (ι:=Nat) (λi e m=>i≤29∧e 0=strA s∧e 36=.sl 1 (kwL.map strA)∧e 37=iv 29∧e 38=iv i∧(kwL.take i).any (λw=>w.toList == s.toList)=false) (λi=>29 - i) 0 zr ?_ ?_
     ·rintro i e m ⟨hi,e0,e25,e26,e27,hno⟩
      by_cases hlt:i < 29
      ·have hlt':i < kwL.length:=by rw [Zjm];exact hlt
       have hgk:=Zak strA hlt';have hsn:kwL.take (i+1)=kwL.take i++[kwL[i]]:=ZEs hlt';have hmem:kwL[i]∈kwL:=ZCt hlt';generalize kwL[i]=w at *;have hsy:(s.toList == w.toList)=(w.toList == s.toList):=by rw [ZDg,ZEk,ZEk];exact eq_comm
       cases hw:(w.toList == s.toList) with
       | true =>
         have:kwL.any (λw=>w.toList == s.toList)=true:=List.any_eq_true.2 ⟨w,hmem,hw⟩;rw [this];rw [hw] at hsy;exact wklp (w_8 e0 e25 e26 e27 hgk hsy @Zn7 @Zjm) w_t (w_1 @ZHc) (w_r 0) w_z
       | false =>
         rw [hw] at hsy
         (refine wkap (w_8 e0 e25 e26 e27 hgk hsy @Zn7 @Zjm) w_t (w_r 0) (w_s ?_);intros)
         exact⟨i+1,⟨zo,gW e0,gW e25,gW e26,gS,by rw [hsn,List.any_append,hno];simp [hw]⟩,zo⟩
      ·have hi2:i=29:=zo;subst hi2;rw [show kwL.take 29=kwL from by rw [←Zjm,ZDu]] at hno;rw [hno];exact wklp (w_4 e0 e25 e26 e27) w_t (w_1 @ZHg) (w_r 0) w_z
     ·exact⟨ZCr _,gW e0,gC,by(simp (disch:=omega) only [go_sem,ZCj,Zjm]<;>repeat' first|rfl|refine⟨?_,?_⟩),gC,by simp⟩
 ·rw [ZCq h0,ZDi];by_cases h1:s.size=0
  ·rw [ZCp h1] at he;refine pI func169 rfl ntmps169 results169 call169 ?_;exact wklp (w_1 he) w_t w_t (w_r 0) w_z
  ·rw [ZCq h1] at he;refine pI func169 rfl ntmps169 results169 call169 ?_;exact wklp (w_1 he) w_t w_t (w_r 0) w_z
end Go.Proofs.YtpkcophcldjboaaGreatDoor
namespace Go.Proofs.YtpkcophcldjboaaGreatDoor
open Go Go.RowKit Go.Pg Go.Pol Go.Proofs.Tryz
attribute [-bool_to_prop] Bool.and_eq_decide Bool.or_eq_decide Bool.decide_beq_decide decide_eq_decide
def arS (k:Int):Int :=
 if k=1 then 0 else if k=2∨k=5∨k=6∨k=14 then 2 else if k=3∨k=4∨k=7∨k=8∨k=10∨k=11 then 3 else if k=9∨k=12∨k=13 then 4 else -1
def arG (k:Int):Int :=
 if k=8 then 2 else if k=1∨k=5 then 3 else if k=2∨k=3∨k=4∨k=6∨k=9 then 4 else if k=7 then 8 else 0
def outB (n:Int) (l:List Int):Bool:=l.any λa=>decide (a < 0) || decide (n≤a)
abbrev RS.zero:RS:=⟨0,.empty,[],⟨false,[],[]⟩⟩
def errS (ss:List RS) (i:Nat):Int :=
 let s:=ss.getD i RS.zero
 if arS s.k < 0 then 8
 else if (s.ar.length:Int)≠arS s.k then 1
 else if outB (i:Int) s.ar=true then 2
 else if (s.k=2∧s.r.ok=false)∨(s.k≠2∧s.r.none=false) then 1
 else if s.nm.size=0 then 0
 else if namB s.nm=false then 6
 else if (ss.take i).any (λt=>t.nm.toList == s.nm.toList)=true then 7
 else 0
def errG (g:RG) (n:Nat):Int :=
 if arG g.k=0 then 8
 else if (g.ar.length:Int)≠arG g.k then 1
 else if outB (n:Int) g.ar=true then 2
 else if (g.k=9∧g.r.ok=false)∨(g.k≠9∧g.r.none=false) then 1
 else 0
def fstE (f:Nat→Int):Nat→Int
 | 0=>0
 | n+1=>if fstE f n≠0 then fstE f n else f n
theorem Zi7 {f:Nat→Int}:∀{n:Nat},(∀j,j < n→f j=0)→fstE f n=0
 | 0,_=>rfl
 | n+1,h=>by
   unfold fstE;rw [ZCg (by rw [Zi7 λj hj=>h j zo];simp)];exact h n zo
theorem Zsp {f:Nat→Int} {i:Nat} (h:∀j,j < i→f j=0) (hi:f i≠0):∀{n:Nat},i < n→fstE f n=f i
 | 0,hn=>zo
 | n+1,hn=>by
   unfold fstE;by_cases e:i=n
   ·subst e;rw [ZCg (by rw [Zi7 h];simp)]
   ·have:=Zsp h hi (n:=n) zo;rw [this,ZCh hi]
theorem Zod {f:Nat→Int}:∀{n:Nat},fstE f n=0→∀j,j < n→f j=0
 | 0,_,j,hj=>zo
 | n+1,h,j,hj=>by
   unfold fstE at h;split at h
   ·rename_i h1;exact absurd h h1
   ·rename_i h1;by_cases e:j=n
    ·subst e;exact h
    ·exact Zod (n:=n) (by rcases Decidable.em (fstE f n=0) with h2 | h2;exact h2;exact absurd h2 h1) j zo
def figE (ss:List RS) (gs:List RG):Int :=
 if 40 < ss.length∨8 < gs.length then 4
 else if fstE (errS ss) ss.length≠0 then fstE (errS ss) ss.length
 else fstE (λi=>errG (gs.getD i ⟨0,[],⟨false,[],[]⟩⟩) ss.length) gs.length
def frame (ss:List RS) (gs:List RG):List (Po × Po) × List Vt × Int :=
 if figE ss gs≠0 then ([],[],figE ss gs)
 else if (List.range ss.length).any (bigN ss)=true then ([],[],4)
 else ((frN ss ss.length).cs,(frN ss ss.length).vs,0)
theorem Zzg {n:Int} {l:List Int} (h:outB n l=false) {k:Nat} (hk:k < l.length):0≤gI l k∧gI l k < n:=by
 unfold outB at h;rw [List.any_eq_false] at h;have:=h (gI l k) (by rw [Zfb hk];exact ZCt hk);simp only [ZFg,ZDb] at this;omega
theorem Zls {ss:List RS} {i:Nat} (hi:i < ss.length) (h:errS ss i=0):0≤arS ss[i].k∧(ss[i].ar.length:Int)=arS ss[i].k∧(∀k,k < ss[i].ar.length→0≤gI ss[i].ar k∧gI ss[i].ar k < (i:Int))∧(ss[i].k=2→ss[i].r.ok=true):=by
 unfold errS at h;rw [show ss.getD i RS.zero=ss[i] from by rw [ZCx,ZCs hi];rfl] at h;generalize ss[i]=s at *;simp only at h;split at h
 ·omega
 ·split at h
  ·omega
  ·split at h
   ·omega
   ·split at h
    ·omega
    ·rename_i h1 h2 h3 h4;refine⟨zo,zo,λk hk=>Zzg (by simpa using h3) hk,λh5=>?_⟩
     cases h6:s.r.ok with
     | true=>rfl
     | false=>exact absurd (.inl ⟨h5,h6⟩) h4
attribute [local go_sem] Zaw Zay Zax
theorem Zd8 {q:Rat}:(q.num.sign=0)=(q=0):=by rw [Int.sign_eq_zero_iff_zero,Rat.num_eq_zero]
section
attribute [local go_sem] underlying3 underlying4 underlying54 underlying52 underlying50 sz3 by3 z3 Zaw zRat Zay zInt Zax zNat
end
section
attribute [local go_sem] underlying3 underlying4 underlying54 underlying52 underlying50 sz3 by3 z3 Zaw zRat Zay zInt Zax zNat
end
theorem qSign (q:Rat) {k:Nat} (h:Sz q k) (hk:k≤10000000):Pure prog 102 [ratQ q] (.v (.int .i64 q.num.sign)):=by
 have c:=zSign q.num (by have:=h.1;omega);have cn:=Zy4 q h hk;generalize q.num.sign=z at *;refine pI func102 rfl ntmps102 results102 call102 ?_;exact wklp w_t (w_2 cn c) w_t (w_r 0) w_z
attribute [local go_sem] Zah Zap Zai Bool.and_self Zal Za8 Zba
abbrev QTs:=List (Rat × List Qt)
abbrev qpA (p:QTs):AV:=.sl 4 (p.map qtA)
theorem Zpn {l:List Qt} {q:Qt}:∀{i:Nat},(∀t (h:t < l.length),t < i→Qt.cmp l[t] q≤0)→i≤l.length→putQ Qt.cmp l q=l.take i++putQ Qt.cmp (l.drop i) q:=by
 induction l with
 | nil=>intro i _ h;have:i=0:=by simpa using h
        subst this;rfl
 | cons a l ih =>
   intro i h hi
   cases i with
   | zero=>rfl
   | succ i =>
     show(if Qt.cmp a q≤0 then a :: putQ Qt.cmp l q else q :: a :: l)=a :: (l.take i++putQ Qt.cmp (l.drop i) q);have h0:Qt.cmp a q≤0:=h 0 zs zo;rw [ZCh h0,ih (i:=i) (λt ht hti=>h (t+1) (Nat.succ_lt_succ ht) (Nat.succ_lt_succ hti)) (Nat.le_of_succ_le_succ hi)]
theorem Ztz {l:List Qt} {q:Qt} (h:∀a t,l=a :: t→¬Qt.cmp a q≤0):putQ Qt.cmp l q=q :: l:=by
 cases l with
 | nil=>rfl
 | cons a t=>show(if Qt.cmp a q≤0 then _ else _)=_;rw [ZCg (h a t rfl)]
theorem rxPut (l:List Qt) (q:Qt) (hl:l.length≤1000):Pure prog 191 [qsA l,q.av] (qsA (putQ Qt.cmp l q)):=by
 have hlm:(l.map Qt.av).length=l.length:=ZCj ..;have hg:∀j (h:j < l.length),(l.map Qt.av).getD j .u=Qt.av l[j]:=λj h=>Zak Qt.av h;have hmd:∀i,(l.map Qt.av).drop i=(l.drop i).map Qt.av:=λi=>List.map_drop.symm;show Pure _ _ [.sl 4 (l.map Qt.av),.agg [iv q.k,iv q.a,iv q.b,iv q.c]] _;generalize l.map Qt.av=A at *;refine pI func191 rfl ntmps191 results191 call191 ?_
 (refine wkad (w_1 hlm) w_t w_t (w_s ?_);intros)
 rename_i g3;refine Zdj (Frz.nilOwn (d:=5) 26 4 39 (gC)) ?_;refine Zad (ι:=Nat) (λi e m=>i≤l.length∧(∀t (h:t < l.length),t < i→Qt.cmp l[t] q≤0)∧e 0=.sl 4 A∧e 3=.pbox 3 g3 0∧m 3=some (.box g3 39 [iv q.k,iv q.a,iv q.b,iv q.c] false)∧e 6=iv i∧∃sv,e 5=.own 26 sv∧m 26=some (.row sv 39 4 ((l.take i).map Qt.av) 0)) (λi=>l.length - i) 0 zr ?_ ?_
 ·rintro i e m ⟨hi,hc,e0,e3,m3,e6,sv,e5,m26⟩
  have htl:((l.take i).map Qt.av).length=i:=by rw [ZCj,ZCz];omega
  have hsp:=Zpn hc hi;have htk:A.take l.length=A:=ZEb zo;have hmdi:=hmd i;by_cases hlt:i < l.length
  ·have g1:=hg i hlt;have cc:=Zpg l[i].k l[i].a l[i].b l[i].c q.k q.a q.b q.c;have hta:(l.take (i+1)).map Qt.av=(l.take i).map Qt.av++[Qt.av l[i]]:=by rw [ZFp,ZCs hlt,ZDd];rfl
   by_cases hz:Qt.cmp l[i] q≤0
   ·have hc2:∀t (h:t < l.length),t < i+1→Qt.cmp l[t] q≤0:=λt h hti=>by
     by_cases e:t=i
     ·subst e;exact hz
     ·exact hc t h zo
    clear hsp hc hmd hg;obtain⟨q1,q2,q3,q4⟩:=q;generalize l[i]=x at *;obtain⟨x1,x2,x3,x4⟩:=x;simp only at *;generalize Qt.cmp _ _=z at *;generalize (l.take i).map Qt.av=T at *
    (refine wkad (w_10 e0 e3 m3 e5 e6 m26 hlm g1 hz htl) (w_1 cc) (w_1 (w_d 3 [(10,iv z)] [] [])) (w_s ?_);intros)
    exact⟨i+1,⟨zo,hc2,gW e0,gW e3,gW m3,gS,_,gC,by rw [hta];exact gC⟩,zo⟩
   ·have hst:putQ Qt.cmp (l.drop i) q=q :: l.drop i:=Ztz λa t e=>by
     have:l.drop i=l[i] :: l.drop (i+1):=ZEg hlt;rw [this] at e;injection e with e1 _
     rw [←e1];exact hz
    have hfin:qsA (putQ Qt.cmp l q)=.sl 4 (((l.take i).map Qt.av++[.agg [iv q.k,iv q.a,iv q.b,iv q.c]])++(l.drop i).map Qt.av):=by unfold qsA;rw [hsp,hst];simp
    rw [hfin];have hdl:((l.drop i).map Qt.av).length=l.length - i:=by rw [ZCj,ZEj]
    have hnl:(i:Int).toNat=i:=ZE9 i;clear hfin hsp hst hc hmd hg hta;obtain⟨q1,q2,q3,q4⟩:=q;generalize l[i]=x at *;obtain⟨x1,x2,x3,x4⟩:=x;simp only at *;generalize Qt.cmp _ _=z at *;generalize (l.take i).map Qt.av=T at *;generalize (l.drop i).map Qt.av=R at *
    (refine wkad (w_14 e0 e3 m3 e5 e6 m26 hlm g1 hz htl htk hmdi hdl @l_app) (w_1 cc) (w_1 (w_d 3 [(10,iv z)] [] [])) (w_s ?_);intros)
    all_goals exact gL
  ·have hil:i=l.length:=zo;have hst:putQ Qt.cmp (l.drop i) q=[q]:=by rw [ZEx zo];rfl
   have hfin:qsA (putQ Qt.cmp l q)=.sl 4 (((l.take i).map Qt.av++[.agg [iv q.k,iv q.a,iv q.b,iv q.c]])++[]):=by unfold qsA;rw [hsp,hst];simp
   rw [hfin];have hdn:A.drop i=[]:=by rw [hmdi,ZEx zo];rfl
   clear hfin hsp hst hc hmd hg;obtain⟨q1,q2,q3,q4⟩:=q;simp only at *;generalize (l.take i).map Qt.av=T at *;subst hil
   (refine wkad (w_11 e0 e3 m3 e5 e6 m26 hlm htl htk hdn @l_app) w_t w_t (w_s ?_);intros)
   all_goals exact gL
 ·exact⟨ZCr _,λt h hti=>zo,gC,gC,gC,gC,_,gC,gC⟩
abbrev Zav (p q:QTs):QTs:=addP (λx y=>ordQ y x < 0) p q
def QK (p:QTs) (j n:Nat):Prop:=∀t∈p,Sz t.1 j∧t.2.length≤n
theorem QK.mono {p:QTs} {j n k m:Nat} (h:QK p j n) (hj:j≤k) (hn:n≤m):QK p k m:=λt ht=>⟨(h t ht).1.mono hj,ZCk (h t ht).2 hn⟩
theorem Zqi {p q:QTs} {i k:Nat} (hi:i < p.length) (hk:k < q.length):Zav (p.drop i) (q.drop k) =
 if ordQ p[i].2 q[k].2 < 0 then p[i] :: Zav (p.drop (i+1)) (q.drop k) else if ordQ q[k].2 p[i].2 < 0 then q[k] :: Zav (p.drop i) (q.drop (k+1))
 else if p[i].1+q[k].1=0 then Zav (p.drop (i+1)) (q.drop (k+1)) else (p[i].1+q[k].1,p[i].2) :: Zav (p.drop (i+1)) (q.drop (k+1)):=by
 rw [ZEg hi,ZEg hk];rw [show Zav (p[i] :: p.drop (i+1)) (q[k] :: q.drop (k+1))=_ from by unfold Zav;rw [addP]]
theorem Zfk {p q:QTs} {i k:Nat} (h:p.length≤i∨q.length≤k):Zav (p.drop i) (q.drop k)=p.drop i++q.drop k:=by
 rcases h with h | h
 ·rw [ZD7 h];simp [Zav,addP]
 ·rw [ZD7 h,ZDo];exact Zvd _
theorem join_QK {p q:QTs} {j k n:Nat} (hp:QK p j n) (hq:QK q k n):QK (Zav p q) (j+k+1) n:=λt ht=>by
 rcases Zg8 ht with h | h | ⟨s,hs,u,hu,rfl⟩
 ·exact⟨(hp t h).1.mono zo,(hp t h).2⟩
 ·exact⟨(hq t h).1.mono zo,(hq t h).2⟩
 ·exact⟨(hp s hs).1.add (hq u hu).1,(hp s hs).2⟩
theorem Zpv (l m:List Qt):(ordQ l m=-1∧ordQ l m < 0)∨(ordQ l m=0∧¬ordQ l m < 0∧¬ordQ m l < 0)∨(ordQ l m=1∧¬ordQ l m < 0∧ordQ m l < 0):=by
 have hf:=Zbb.flip m l
 have h3:ordQ l m=-1∨ordQ l m=0∨ordQ l m=1:=by
  unfold ordQ ordL;split
  ·exact .inl rfl
  ·split
   ·exact .inr (.inr rfl)
   ·clear hf;rename_i h1 h2;clear h1 h2
    induction l generalizing m with
    | nil=>cases m<;>simp [lexL]
    | cons a l ih=>cases m with
      | nil=>simp [lexL]
      | cons b m =>
        rw [Zb5];split
        ·exact ih m
        ·rcases Zhe a b with⟨h,_⟩ | ⟨h,_⟩ | ⟨h,_⟩
         ·exact .inl h
         ·exact .inr (.inl h)
         ·exact .inr (.inr h)
 rcases h3 with h | h | h
 ·exact .inl ⟨h,zo⟩
 ·exact .inr (.inl ⟨h,zo,zo⟩)
 ·exact .inr (.inr ⟨h,zo,zo⟩)
theorem rxJoin (p q:QTs) {j k n:Nat} (hp:QK p j n) (hq:QK q k n) (lp:p.length≤100000000) (lq:q.length≤100000000) (hj:j≤1000000) (hk:k≤1000000) (hn:n≤1000000) :
 Pure prog 132 [qpA p,qpA q] (qpA (Zav p q)):=by
 have hlp:(p.map qtA).length=p.length:=ZCj ..;have hlq:(q.map qtA).length=q.length:=ZCj ..;have gp:∀i (h:i < p.length),(p.map qtA).getD i .u=qtA p[i]:=λi h=>Zak qtA h;have gq:∀i (h:i < q.length),(q.map qtA).getD i .u=qtA q[i]:=λi h=>Zak qtA h;show Pure _ _ [.sl 4 (p.map qtA),.sl 4 (q.map qtA)] _;generalize p.map qtA=A at *;generalize q.map qtA=B at *;have hz:((p.length:Int)+(q.length:Int)).toNat=p.length+q.length:=zo;refine pI func132 rfl ntmps132 results132 call132 ?_
 (refine wkad (w_3 hlp hlq hz) w_t w_t (w_s ?_);intros)
 refine Zad (ι:=Nat × Nat) (λx e m=>x.1≤p.length∧x.2≤q.length∧e 0=.sl 4 A∧e 1=.sl 4 B∧e 6=iv x.1∧e 7=iv x.2∧∃sv out,e 5=.own 15 sv∧m 15=some (.row sv 57 4 (out.map qtA) 0)∧out.length≤x.1+x.2∧Zav p q=out++Zav (p.drop x.1) (q.drop x.2)) (λx=>p.length+q.length - (x.1+x.2)) (0,0) zr ?_ ?_
 ·rintro ⟨i,l⟩ e m ⟨hi,hl,e0,e1,e6,e7,sv,out,e5,em,ho,hs⟩
  simp only at hi hl e6 e7 ho hs;have hlen:(out.map qtA).length=out.length:=ZCj ..;by_cases hil:i < p.length∧l < q.length
  ·obtain⟨hi2,hl2⟩:=hil;have hg:=gp i hi2;have hh:=gq l hl2;have st:=Zqi hi2 hl2;have ms:=hp _ (ZCt hi2);have mt:=hq _ (ZCt hl2);clear gp gq hp hq;generalize p[i]=s at *;generalize q[l]=t at *;have cl:=Zrk s.2 t.2 (by have:=ms.2;omega) (by have:=mt.2;omega);have ca:=qAdd s.1 t.1 ms.1 mt.1 zo zo;have cz:=qSign (s.1+t.1) (ms.1.add mt.1) zo;have h3:=Zpv s.2 t.2;rw [st] at hs;clear st ms mt;have hout:∀x:Rat × List Qt,(out++[x]).map qtA=out.map qtA++[qtA x]:=λx=>by rw [ZDd];rfl
   obtain⟨s1,s2⟩:=s;obtain⟨t1,t2⟩:=t;simp only at *;have hou1:=hout (s1,s2);have hou2:=hout (t1,t2);have hou3:=hout (s1+t1,s2);clear hout;rcases h3 with⟨h1,h2⟩ | ⟨h1,h2,h4⟩ | ⟨h1,h2,h4⟩
   ·rw [ZCh h2] at hs;rw [h1] at cl;clear ca cz h1 h2 hou2 hou3;generalize out.map qtA=O at *;generalize s2.map Qt.av=S2 at *;generalize t2.map Qt.av=T2 at *
    (refine wkad (w_11 e0 e1 e6 e7 e5 em hlp hlq hlen hg hh) (w_1 cl) (w_1 (w_d 8 [(10,iv (-1))] [] [])) (w_s ?_);intros)
    refine⟨(i+1,l),⟨by simp only;omega,by simp only;omega,gW e0,gW e1,gS,gW e7,_,out++[(s1,s2)],gC,by rw [hou1];exact gC,by simp only [ZDa,ZCu,ZC6];omega,by rw [hs,ZDv];rfl⟩,by simp only;omega⟩
   ·rw [ZCg h2,ZCg h4] at hs;rw [h1] at cl;by_cases hz0:s1+t1=0
    ·rw [ZCh hz0] at hs;have hz2:(s1+t1).num.sign=0:=by rw [Zd8];exact hz0
     clear h1 h2 h4 hou1 hou2 hou3;generalize (s1+t1)=z at *;generalize hO:out.map qtA=O at *;generalize s2.map Qt.av=S2 at *;generalize t2.map Qt.av=T2 at *
     (refine wkad (w_12 e0 e1 e6 e7 e5 em hlp hlq hlen hg hh hz2) (w_3 cl ca cz) (w_2 (w_d 8 [(10,iv 0)] [] []) (w_d 9 [(10,ratQ z)] [] [9])) (w_s ?_);intros)
     refine⟨(i+1,l+1),⟨by simp only;omega,by simp only;omega,gW e0,gW e1,gS,gS,_,out,gW e5,by rw [hO];exact gW em,by simp only;omega,hs⟩,by simp only;omega⟩
    ·rw [ZCg hz0] at hs;have hz2:¬(s1+t1).num.sign=0:=by rw [Zd8];exact hz0
     clear h1 h2 h4 hou1 hou2;generalize (s1+t1)=z at *;generalize out.map qtA=O at *;generalize s2.map Qt.av=S2 at *;generalize t2.map Qt.av=T2 at *
     (refine wkax (w_12 e0 e1 e6 e7 e5 em hlp hlq hlen hg hh hz2) (w_3 cl ca cz) (w_3 (w_d 8 [(10,iv 0)] [] []) (w_d 9 [(10,ratQ z)] [] [9]) (w_d 11 [] [9,1009] [15,67])) w_t w_t w_t w_y (w_r 0) (w_s ?_);intros)
     refine⟨(i+1,l+1),⟨by simp only;omega,by simp only;omega,gW e0,gW e1,gS,gS,_,out++[(z,s2)],gC,by rw [hou3];exact gC,by simp only [ZDa,ZCu,ZC6];omega,by rw [hs,ZDv];rfl⟩,by simp only;omega⟩
   ·rw [ZCg h2,ZCh h4] at hs;rw [h1] at cl;clear ca cz h1 h2 h4 hou1 hou3;generalize out.map qtA=O at *;generalize s2.map Qt.av=S2 at *;generalize t2.map Qt.av=T2 at *
    (refine wkad (w_11 e0 e1 e6 e7 e5 em hlp hlq hlen hg hh) (w_1 cl) (w_1 (w_d 8 [(10,iv 1)] [] [])) (w_s ?_);intros)
    refine⟨(i,l+1),⟨by simp only;omega,by simp only;omega,gW e0,gW e1,gW e6,gS,_,out++[(t1,t2)],gC,by rw [hou2];exact gC,by simp only [ZDa,ZCu,ZC6];omega,by rw [hs,ZDv];rfl⟩,by simp only;omega⟩
  ·rw [Zfk zo] at hs;by_cases hi2:i < p.length
   ·have hl2:l=q.length:=zo;subst hl2;have hg:=gp i hi2;have hd:p.drop i=p[i] :: p.drop (i+1):=ZEg hi2;rw [hd] at hs
    have hs:Zav p q=(out++[p[i]])++Zav (p.drop (i+1)) (q.drop q.length):=by
     rw [Zfk (.inr (ZCi _)),hs];simp
    have hou:(out++[p[i]]).map qtA=out.map qtA++[qtA p[i]]:=by rw [ZDd];rfl
    clear hd gp gq hp hq;generalize p[i]=s at *;obtain⟨s1,s2⟩:=s;generalize out.map qtA=O at *
    (refine wkad (w_10 e0 e1 e6 e7 e5 em hg hlp hlq hlen) w_t w_t (w_s ?_);intros)
    refine⟨(i+1,q.length),⟨by simp only;omega,by simp only;omega,gW e0,gW e1,gS,gW e7,_,out++[(s1,s2)],gC,by rw [hou];exact gC,by simp only [ZDa,ZCu,ZC6];omega,hs⟩,by simp only;omega⟩
   ·have hi3:i=p.length:=zo;subst hi3;by_cases hl2:l < q.length
    ·have hg:=gq l hl2;have hd:q.drop l=q[l] :: q.drop (l+1):=ZEg hl2;rw [hd] at hs
     have hs:Zav p q=(out++[q[l]])++Zav (p.drop p.length) (q.drop (l+1)):=by
      rw [Zfk (.inl (ZCi _)),hs];simp
     have hou:(out++[q[l]]).map qtA=out.map qtA++[qtA q[l]]:=by rw [ZDd];rfl
     clear hd gp gq hp hq;generalize q[l]=s at *;obtain⟨s1,s2⟩:=s;generalize out.map qtA=O at *
     (refine wkad (w_10 e0 e1 e6 e7 e5 em hg hlp hlq hlen) w_t w_t (w_s ?_);intros)
     refine⟨(p.length,l+1),⟨by simp only;omega,by simp only;omega,gW e0,gW e1,gW e6,gS,_,out++[(s1,s2)],gC,by rw [hou];exact gC,by simp only [ZDa,ZCu,ZC6];omega,hs⟩,by simp only;omega⟩
    ·have hl3:l=q.length:=zo;subst hl3;rw [ZHz,ZHz,ZDo,ZDo] at hs;rw [hs];clear gp gq hp hq hs;generalize hO:out.map qtA=O at *;rw [show qpA out=.sl 4 O from ZD2 _ hO]
     (refine wkad (w_9 e0 e1 e6 e7 e5 em hlp hlq hlen) w_t w_t (w_s ?_);intros)
     all_goals exact gM (w_1 em)
 ·exact⟨ZCr _,ZCr _,gC,gC,gC,gC,_,[],gC,gC,ZCr _,by simp⟩
attribute [go_sem] underlying76 underlying22 underlying93 underlying23 underlying25 zFig zSlI zSlS zSlF
attribute [local go_sem] Zca Zbg Zcg Zb0 Zb2 Zdc Zb8 Zb9 Zdt Zdf Zde Zdd Zdu
theorem irRaw (s:Bool) (l:List Nat) (hl:Lm l) (hs:l.length≤100000000):Pure prog 93 [.agg [.v (.bool s),lim l]] (.v (.bool (RQ.zok s l))):=by
 unfold RQ.zok valL;by_cases h:l.length=0
 ·rw [ZCp h,Bool.true_or,ZEf,ZG1];cases s
  ·refine pI func93 rfl ntmps93 results93 call93 ?_;exact wklp (w_1 @Za7) w_t w_t (w_r 0) w_z
  ·refine pI func93 rfl ntmps93 results93 call93 ?_;exact wklp (w_1 @Za7) w_t w_t (w_r 0) w_z
 ·rw [ZCq h,Bool.false_or,ZGk,ZHg,ZG1];have ei:(l.length:Int) - 1=((l.length - 1:Nat):Int):=zo;have hlm:=Zbr hl (l.length - 1);by_cases hg:gN l (l.length - 1)=0
  ·rw [ZCp hg];cases s
   ·refine pI func93 rfl ntmps93 results93 call93 ?_;exact wklp (w_2 ei @Za7) w_t (w_1 @ZHc) (w_r 0) w_z
   ·refine pI func93 rfl ntmps93 results93 call93 ?_;exact wklp (w_2 ei @Za7) w_t (w_1 @ZHc) (w_r 0) w_z
  ·rw [ZCq hg];cases s
   ·refine pI func93 rfl ntmps93 results93 call93 ?_;exact wklp (w_2 ei @Za7) w_t (w_1 @ZHg) (w_r 0) w_z
   ·refine pI func93 rfl ntmps93 results93 call93 ?_;exact wklp (w_2 ei @Za7) w_t (w_1 @ZHg) (w_r 0) w_z
theorem rtRight (r:RQ) (h:r.lm 100000000):Pure prog 41 [r.av] (.v (.bool r.ok)):=by
 obtain⟨s,l,d⟩:=r;obtain⟨h1,h2,h3,h4⟩:=h;simp only at h1 h2 h3 h4;have c1:=irRaw s l h1 h3;unfold RQ.ok;simp only;generalize RQ.zok s l=z at *;by_cases hd:d.length=0
 ·have:decide (0 < d.length)=false:=ZCq zo;rw [this,ZGk];cases z
  ·refine pI func41 rfl ntmps41 results41 call41 ?_;exact wklp (w_1 @Za7) (w_1 c1) w_t (w_r 0) w_z
  ·refine pI func41 rfl ntmps41 results41 call41 ?_;exact wklp (w_1 @Za7) (w_1 c1) w_t (w_r 0) w_z
 ·have:decide (0 < d.length)=true:=ZCp zo;rw [this,ZG1];have ei:(d.length:Int) - 1=((d.length - 1:Nat):Int):=zo;have hlm:=Zbr h2 (d.length - 1)
  cases z with
  | false =>
    rw [ZDi,ZDi];refine pI func41 rfl ntmps41 results41 call41 ?_;exact wklp (w_1 @Za7) (w_1 c1) w_t (w_r 0) w_z
  | true =>
    rw [ZEf];by_cases hg:gN d (d.length - 1)=0
    ·have:valL d=false:=by unfold valL;rw [ZCq hd,ZCp hg];rfl
     rw [this,ZDi];refine pI func41 rfl ntmps41 results41 call41 ?_;exact wklp (w_2 ei @Za7) (w_1 c1) w_t (w_r 0) w_z
    ·have hv:valL d=true:=by unfold valL;rw [ZCq hd,ZCq hg];rfl
     rw [hv,ZEf];have hdt:=(Zip h2).1 hv;have l4:(toL (nv d)).length≤100000000:=by rw [←hdt];exact h4
     have c2:=Zk9 (nv d) l4;have c3:=natGcd l d zo zo h1 h2
     have n0:nv d≠0:=by
      intro h0;rw [h0,Zaz] at hdt;rw [hdt] at hd;exact hd rfl
     have gl:(toL (Nat.gcd (nv l) (nv d))).length≤100000000:=ZCk (Zc5 (Nat.gcd_le_right _ zo)) l4;have c4:=Zk9 (Nat.gcd (nv l) (nv d)) gl;rw [←hdt] at c2;have hb:(Nat.gcd (nv l) (nv d) == 1)=decide (Nat.gcd (nv l) (nv d)=1):=by rw [ZDg,ZEk,ZDb]
     rw [hb];by_cases h1d:nv d=1
     ·rw [ZCp h1d] at c2;rw [ZCp (show Nat.gcd (nv l) (nv d)=1 by rw [h1d,Nat.gcd_one_right])];clear c3 c4 hdt;refine pI func41 rfl ntmps41 results41 call41 ?_;exact wklp (w_2 ei @Za7) (w_2 c1 c2) (w_1 @decide_true) (w_r 0) w_z
     ·rw [ZCq h1d] at c2;clear hdt hb gl;generalize decide (Nat.gcd (nv l) (nv d)=1)=v at *;generalize toL (Nat.gcd (nv l) (nv d))=lg' at *;refine pI func41 rfl ntmps41 results41 call41 ?_;exact wklp (w_2 ei @Za7) (w_4 c1 c2 c3 c4) w_t (w_r 0) w_z
theorem rlAr (k:Int):Pure prog 167 [iv k] (iv (arS k)):=by
 unfold arS;refine pI func167 rfl ntmps167 results167 call167 ?_;exact wklp w_t w_t w_t (w_r 0) w_z;all_goals (congr 2;repeat' split)
 all_goals (first|rfl|omega)
theorem rlNone (r:RQ):Pure prog 168 [r.av] (.v (.bool r.none)):=by
 obtain⟨s,l,d⟩:=r;unfold RQ.none;simp only;cases s
 ·refine pI func168 rfl ntmps168 results168 call168 ?_;exact wklp (w_1 @Za7) w_t w_t (w_r 0) w_z
 ·refine pI func168 rfl ntmps168 results168 call168 ?_;exact wklp (w_1 @Za7) w_t w_t (w_r 0) w_z
theorem rrAr (k:Int):Pure prog 170 [iv k] (iv (arG k)):=by
 unfold arG;refine pI func170 rfl ntmps170 results170 call170 ?_;exact wklp w_t w_t w_t (w_r 0) w_z;all_goals (congr 2;repeat' split)
 all_goals (first|rfl|omega)
theorem rrNone (r:RQ):Pure prog 171 [r.av] (.v (.bool r.none)):=by
 obtain⟨s,l,d⟩:=r;unfold RQ.none;simp only;cases s
 ·refine pI func171 rfl ntmps171 results171 call171 ?_;exact wklp (w_1 @Za7) w_t w_t (w_r 0) w_z
 ·refine pI func171 rfl ntmps171 results171 call171 ?_;exact wklp (w_1 @Za7) w_t w_t (w_r 0) w_z
def RS.sm (s:RS):Prop:=s.r.lm 100000000∧s.nm.size≤1000000000∧s.ar.length≤1000000000
def RG.sm (g:RG):Prop:=g.r.lm 100000000∧g.ar.length≤1000000000
theorem Zpu {n:Int} {l:List Int} {k:Nat} (hk:k < l.length):outB n (l.take (k+1))=(outB n (l.take k) || (decide (l[k] < 0) || decide (n≤l[k]))):=by
 unfold outB;rw [ZEs hk,List.any_append,List.any_cons,List.any_nil,Bool.or_false]
theorem Zzh {n:Int} {l:List Int} {k:Nat} (hk:k < l.length) (h:(decide (l[k] < 0) || decide (n≤l[k]))=true):outB n l=true:=List.any_eq_true.2 ⟨l[k],ZCt hk,h⟩
theorem rrRight (g:RG) (n:Nat) (hn:n≤1000000000) (hs:g.sm):Pure prog 105 [g.av,iv n] (iv (errG g n)):=by
 obtain⟨h1,h3⟩:=hs;unfold errG;have ca:=rrAr g.k;have cr:Pure prog 101 [g.r.av] (.v (.bool g.r.ok)):=Zpm g.r.s g.r.l g.r.d h1.1 h1.2.1 h1.2.2.1 h1.2.2.2;have cn:=rrNone g.r;have hla:(g.ar.map iv).length=g.ar.length:=ZCj ..;obtain⟨k,ar,r,rl,rd⟩:=g;simp only at *;generalize arG k=a at *;generalize RQ.ok ⟨r,rl,rd⟩=ok at *;generalize RQ.none ⟨r,rl,rd⟩=no at *;by_cases w1:a=0
 ·rw [ZCh w1];subst w1;refine pI func105 rfl ntmps105 results105 call105 ?_;exact wkld (w_1 hla) (w_1 ca) w_t w_t w_z
 ·rw [ZCg w1];by_cases w2:(ar.length:Int)≠a
  ·rw [ZCh w2];refine pI func105 rfl ntmps105 results105 call105 ?_;exact wkld (w_1 hla) (w_1 ca) w_t (w_1 (w_d 3 [(5,iv a)] [] [])) w_z
  ·rw [ZCg w2];refine pI func105 rfl ntmps105 results105 call105 ?_
   (refine wkad (w_1 hla) (w_1 ca) (w_1 (w_d 3 [(5,iv a)] [] [])) (w_s ?_);intros)
   rename_i g2;refine Zad (ι:=Nat) (λi e m=>i≤ar.length∧e 1=iv n∧e 2=.pbox 2 g2 0∧m 2=some (.box g2 93 [iv k,ivs ar,.v (.bool r),lim rl,lim rd] false)∧e 19=ivs ar∧e 20=iv ar.length∧e 21=iv i∧outB n (ar.take i)=false) (λi=>ar.length - i) 0 zr ?_ ?_
   ·rintro i e m ⟨hi,e1,e2,m2,ea,en,ei,hno⟩
    by_cases hlt:i < ar.length
    ·have hg:=Zak iv hlt;have hst:=Zpu (n:=n) hlt;have hat:=Zzh (n:=n) hlt;rw [hno,Bool.false_or] at hst;generalize ar[i]=x at *;by_cases hx:x < 0∨(n:Int)≤x
     ·have hb:(decide (x < 0) || decide ((n:Int)≤x))=true:=by simpa using hx
      rw [ZCh (hat hb)];clear hat hst hb;rcases hx with hx | hx
      ·exact wkld (w_8 e1 e2 m2 ea en ei hg hla) w_t w_t w_t w_z
      ·exact wkld (w_8 e1 e2 m2 ea en ei hg hla) w_t w_t w_t w_z
     ·have hb:(decide (x < 0) || decide ((n:Int)≤x))=false:=by simpa using hx
      rw [hb] at hst;clear hat hb
      (refine wkad (w_8 e1 e2 m2 ea en ei hg hla) w_t w_t (w_s ?_);intros)
      exact⟨i+1,⟨zo,gW e1,gW e2,gW m2,gW ea,gW en,gS,hst⟩,zo⟩
    ·have hi2:i=ar.length:=zo;subst hi2;rw [ZDu] at hno;rw [hno,ZCg zd];by_cases hk:k=9
     ·subst hk;cases ok
      ·rw [ZCh zs];exact wkld (w_7 e1 e2 m2 ea en ei hla) (w_2 cr cn) w_t w_t w_z
      ·rw [ZCg zs];exact wkld (w_7 e1 e2 m2 ea en ei hla) (w_2 cr cn) w_t w_t w_z
     ·cases no
      ·rw [ZCh (by simp [hk])];exact wkld (w_7 e1 e2 m2 ea en ei hla) (w_2 cr cn) w_t w_t w_z
      ·rw [ZCg (by simp [hk])];exact wkld (w_7 e1 e2 m2 ea en ei hla) (w_2 cr cn) w_t w_t w_z
   ·exact⟨ZCr _,gC,gC,gC,gC,gW hla,gC,by simp [outB]⟩
theorem rlCheck (ss:List RS) (i:Nat) (hi:i < ss.length) (hl:ss.length≤1000000000) (hs:∀s∈ss,s.sm):Pure prog 104 [.sl 6 (ss.map RS.av),iv i] (iv (errS ss i)):=by
 have hg:=Zak RS.av hi;have hsm:=hs _ (ZCt hi);unfold errS;rw [show ss.getD i RS.zero=ss[i] from by rw [ZCx,ZCs hi];rfl];have hgt:∀k,k < i→∃t:RS,((ss.map RS.av).take i).getD k .u=t.av∧(ss.take i)[k]?=some t:=λk hk=>by
  refine⟨ss[k],?_,?_⟩
  ·rw [ZCx,ZEm,ZCh hk,ZDn,ZCs zo];rfl
  ·rw [ZEm,ZCh hk,ZCs zo]
 have hlm:(ss.map RS.av).length=ss.length:=ZCj ..;have hlt:(ss.take i).length=i:=by rw [ZCz];omega
 generalize ss.map RS.av=M at *;generalize ss[i]=s at *;generalize ss.take i=T at *;clear hs;obtain⟨h1,h2,h3⟩:=hsm;have ca:=rlAr s.k;have cr:Pure prog 101 [s.r.av] (.v (.bool s.r.ok)):=Zpm s.r.s s.r.l s.r.d h1.1 h1.2.1 h1.2.2.1 h1.2.2.2;have cn:=rlNone s.r;have cm:=rnName s.nm h2;have hst:=Zkw s.nm;have hla:(s.ar.map iv).length=s.ar.length:=ZCj ..;obtain⟨k,nm,ar,r,rl,rd⟩:=s;simp only at *;generalize arS k=a at *;generalize RQ.ok ⟨r,rl,rd⟩=ok at *;generalize RQ.none ⟨r,rl,rd⟩=no at *;generalize namB nm=nb at *;by_cases w1:a < 0
 ·rw [ZCh w1];refine pI func104 rfl ntmps104 results104 call104 ?_;exact wkld (w_3 hg hlm hla) (w_1 ca) w_t w_t w_z
 ·rw [ZCg w1];by_cases w2:(ar.length:Int)≠a
  ·rw [ZCh w2];refine pI func104 rfl ntmps104 results104 call104 ?_;exact wkld (w_3 hg hlm hla) (w_1 ca) w_t (w_1 (w_d 4 [(5,iv a)] [] [])) w_z
  ·rw [ZCg w2];refine pI func104 rfl ntmps104 results104 call104 ?_
   (refine wkad (w_3 hg hlm hla) (w_1 ca) (w_1 (w_d 4 [(5,iv a)] [] [])) (w_s ?_);intros)
   rename_i g5;refine Zad (ι:=Nat) (λx e m=>x≤ar.length∧e 0=.sl 6 M∧e 1=iv i∧e 5=.pbox 5 g5 0∧m 5=some (.box g5 76 [iv k,strA nm,ivs ar,.v (.bool r),lim rl,lim rd] false)∧e 26=ivs ar∧e 27=iv ar.length∧e 28=iv x∧outB i (ar.take x)=false) (λx=>ar.length - x) 0 zr ?_ ?_
   ·rintro x e m ⟨hx,e0,e1,e5,m5,e26,e27,e28,hno⟩
    by_cases hlt2:x < ar.length
    ·have hga:=Zak iv hlt2;have hso:=Zpu (n:=(i:Int)) hlt2;have hat:=Zzh (n:=(i:Int)) hlt2;rw [hno,Bool.false_or] at hso;generalize ar[x]=y at *;by_cases hy:y < 0∨(i:Int)≤y
     ·have hb:(decide (y < 0) || decide ((i:Int)≤y))=true:=by simpa using hy
      rw [ZCh (hat hb)];clear hat hso hb;rcases hy with hy | hy
      ·exact wkld (w_9 e0 e1 e5 m5 e26 e27 e28 hga hla) w_t w_t w_t w_z
      ·exact wkld (w_9 e0 e1 e5 m5 e26 e27 e28 hga hla) w_t w_t w_t w_z
     ·have hb:(decide (y < 0) || decide ((i:Int)≤y))=false:=by simpa using hy
      rw [hb] at hso;clear hat hb
      (refine wkad (w_9 e0 e1 e5 m5 e26 e27 e28 hga hla) w_t w_t (w_s ?_);intros)
      exact⟨x+1,⟨zo,gW e0,gW e1,gW e5,gW m5,gW e26,gW e27,gS,hso⟩,zo⟩
    ·have hi2:x=ar.length:=zo;subst hi2;rw [ZDu] at hno;rw [hno,ZCg zd];by_cases w3:(k=2∧ok=false)∨(k≠2∧no=false)
     ·rw [ZCh w3];rcases w3 with⟨hk,rfl⟩ | ⟨hk,rfl⟩
      ·subst hk;exact wkld (w_8 e0 e1 e5 m5 e26 e27 e28 hla) (w_1 cr) w_t w_t w_z
      ·exact wkld (w_8 e0 e1 e5 m5 e26 e27 e28 hla) (w_1 cn) w_t w_t w_z
     ·rw [ZCg w3]
      have w4:(k=2∧ok=true)∨(k≠2∧no=true):=by
       by_cases hk:k=2
       ·cases ok
        ·exact absurd (.inl ⟨hk,rfl⟩) w3
        ·exact .inl ⟨hk,rfl⟩
       ·cases no
        ·exact absurd (.inr ⟨hk,rfl⟩) w3
        ·exact .inr ⟨hk,rfl⟩
      clear w3;have rest:∀(e:Nat→AV) (m:Mem),e 0=.sl 6 M→e 1=iv i→e 5=.pbox 5 g5 0→m 5=some (.box g5 76 [iv k,strA nm,ivs ar,.v (.bool r),lim rl,lim rd] false)→True:=λ_ _ _ _ _ _=>trivial;clear rest;by_cases w5:nm.size=0
      ·rw [ZCh w5];rw [ZCp w5] at hst;rcases w4 with⟨hk,rfl⟩ | ⟨hk,rfl⟩
       ·subst hk;exact wkld (w_9 e0 e1 e5 m5 e26 e27 e28 hla hst) (w_1 cr) w_t w_t w_z
       ·exact wkld (w_9 e0 e1 e5 m5 e26 e27 e28 hla hst) (w_1 cn) w_t w_t w_z
      ·rw [ZCg w5];rw [ZCq w5] at hst
       cases nb with
       | false =>
         rw [ZCh rfl];rcases w4 with⟨hk,rfl⟩ | ⟨hk,rfl⟩
         ·subst hk;exact wkld (w_9 e0 e1 e5 m5 e26 e27 e28 hla hst) (w_2 cr cm) w_t w_t w_z
         ·exact wkld (w_9 e0 e1 e5 m5 e26 e27 e28 hla hst) (w_2 cn cm) w_t w_t w_z
       | true =>
         rw [ZCg zd];rcases w4 with⟨hk,rfl⟩ | ⟨hk,rfl⟩
         all_goals first|(subst hk;(refine wkad (w_12 e0 e1 e5 m5 e26 e27 e28 hla hlm hst @Zn8 @l_take) (w_2 cr cm) w_t (w_s ?_);intros))|(refine wkad (w_12 e0 e1 e5 m5 e26 e27 e28 hla hlm hst @Zn8 @l_take) (w_2 cn cm) w_t (w_s ?_);intros)
         all_goals
          refine Zad (ι:=Nat) (λx e m=>x≤i∧e 5=.pbox 5 g5 0∧(∃k,m 5=some (.box g5 76 [iv k,strA nm,ivs ar,.v (.bool r),lim rl,lim rd] false))∧e 69=.sl 6 (M.take i)∧e 70=iv i∧e 71=iv x∧(T.take x).any (λt=>t.nm.toList == nm.toList)=false) (λx=>i - x) 0 zr ?_ ?_
          ·rintro x e m ⟨hx,e5,⟨k,m5⟩,e69,e70,e71,hnq⟩
           by_cases hlt2:x < i
           ·obtain⟨t,ht,ht2⟩:=hgt x hlt2;have htl:x < T.length:=zo;have htx:T[x]=t:=by rw [ZCs htl] at ht2;cases ht2;rfl
            have hsn:T.take (x+1)=T.take x++[t]:=by rw [ZEs htl,htx]
            have hmem:t∈T:=by rw [←htx];exact ZCt htl
            obtain⟨tk,tn,ta,tr,tl,td⟩:=t;have hll:(M.take i).length=i:=by rw [ZCz];omega
            cases hw:(tn.toList == nm.toList) with
            | true =>
              have hany:T.any (λt=>t.nm.toList == nm.toList)=true:=List.any_eq_true.2 ⟨_,hmem,hw⟩;rw [ZCh hany];exact wkld (w_8 e5 m5 e69 e70 e71 ht hw hll) w_t w_t w_t w_z
            | false =>
              (refine wkad (w_8 e5 m5 e69 e70 e71 ht hw hll) w_t w_t (w_s ?_);intros)
              exact⟨x+1,⟨zo,gW e5,⟨k,gW m5⟩,gW e69,gW e70,gS,by rw [hsn,List.any_append,hnq];simp [hw]⟩,zo⟩
           ·have hxi:x=i:=zo;subst hxi;rw [show T.take x=T from by rw [←hlt,ZDu]] at hnq;rw [hnq,ZCg zd];exact wkld (w_5 e5 m5 e69 e70 e71) w_t w_t w_t w_z
          ·exact⟨ZCr _,gW e5,⟨_,gW m5⟩,gC,by(simp (disch:=omega) only [go_sem,ZCz,hlm,ZE1]<;>repeat' first|rfl|refine⟨?_,?_⟩),gC,by simp⟩
   ·exact⟨ZCr _,gC,gC,gC,gC,gC,gW hla,gC,by simp [outB]⟩
theorem rlRight (ss:List RS) (gs:List RG) (h1:ss.length≤1000000000) (h2:gs.length≤1000000000) (hs:∀s∈ss,s.sm) (hg:∀g∈gs,g.sm):Pure prog 47 [figA ss gs] (iv (figE ss gs)):=by
 have hls:(ss.map RS.av).length=ss.length:=ZCj ..;have hlg:(gs.map RG.av).length=gs.length:=ZCj ..;have eg:∀i (h:i < gs.length),(gs.map RG.av).getD i .u=gs[i].av:=λi h=>Zak RG.av h;have eg2:∀i (h:i < gs.length),gs.getD i ⟨0,[],⟨false,[],[]⟩⟩=gs[i]:=λi h=>by rw [ZCx,ZCs h];rfl
 have cc:∀i,i < ss.length→Pure prog 104 [.sl 6 (ss.map RS.av),iv i] (iv (errS ss i)):=λi hi=>rlCheck ss i hi h1 hs;have cg:∀i (h:i < gs.length),Pure prog 105 [gs[i].av,iv ss.length] (iv (errG gs[i] ss.length)):=λi h=>rrRight gs[i] ss.length h1 (hg _ (ZCt h));unfold figE;show Pure _ _ [.agg [.sl 6 (ss.map RS.av),.sl 5 (gs.map RG.av)]] _;generalize ss.map RS.av=M at *;generalize gs.map RG.av=N at *;by_cases hb:40 < ss.length∨8 < gs.length
 ·rw [ZCh hb];refine pI func47 rfl ntmps47 results47 call47 ?_;exact wklp (w_2 hls hlg) w_t w_t (w_r 0) w_z
 ·rw [ZCg hb];refine pI func47 rfl ntmps47 results47 call47 ?_
  (refine wkap (w_2 hls hlg) w_t (w_r 0) (w_s ?_);intros)
  rename_i g1;refine Zad (ι:=Nat) (λi e m=>i≤ss.length∧e 1=.pbox 1 g1 0∧m 1=some (.box g1 25 [.sl 6 M,.sl 5 N] false)∧e 20=iv ss.length∧e 21=iv i∧∀j,j < i→errS ss j=0) (λi=>ss.length - i) 0 zr ?_ ?_
  ·rintro i e m ⟨hi,e1,m1,e20,e21,hz⟩
   by_cases hlt:i < ss.length
   ·have c:=cc i hlt;by_cases he:errS ss i=0
    ·rw [he] at c
     (refine wkap (w_6 e1 m1 e20 e21 hls hlg) (w_1 c) (w_r 0) (w_s ?_);intros)
     exact⟨i+1,⟨zo,gW e1,gW m1,gW e20,gS,λj hj=>by by_cases e:j=i;rw [e];exact he;exact hz j zo⟩,zo⟩
    ·rw [Zsp hz he hlt,ZCh he];generalize errS ss i=z at *;exact wklp (w_6 e1 m1 e20 e21 hls hlg) (w_1 c) w_t (w_r 0) w_z
   ·have hi2:i=ss.length:=zo;subst hi2;rw [Zi7 hz,ZCg zs]
    (refine wkap (w_6 e1 m1 e20 e21 hls hlg) w_t (w_r 0) (w_s ?_);intros)
    refine Zad (ι:=Nat) (λi e m=>i≤gs.length∧e 1=.pbox 1 g1 0∧m 1=some (.box g1 25 [.sl 6 M,.sl 5 N] false)∧e 33=.sl 5 N∧e 34=iv gs.length∧e 35=iv i∧∀j,j < i→errG (gs.getD j ⟨0,[],⟨false,[],[]⟩⟩) ss.length=0) (λi=>gs.length - i) 0 zr ?_ ?_
    ·rintro i e m ⟨hi,e1,m1,e33,e34,e35,hz⟩
     by_cases hlt:i < gs.length
     ·have c:=cg i hlt;have hgi:=eg i hlt;have hgj:=eg2 i hlt;have hfa:=@Zsp (λi=>errG (gs.getD i ⟨0,[],⟨false,[],[]⟩⟩) ss.length) i hz;simp only [hgj] at hfa;generalize gs[i]=G at *;by_cases he:errG G ss.length=0
      ·rw [he] at c;clear hfa;obtain⟨k,ar,r,rl,rd⟩:=G
       (refine wkap (w_8 e1 m1 e33 e34 e35 hls hlg hgi) (w_1 c) (w_r 0) (w_s ?_);intros)
       exact⟨i+1,⟨zo,gW e1,gW m1,gW e33,gW e34,gS,λj hj=>by by_cases e:j=i;rw [e,hgj];exact he;exact hz j zo⟩,zo⟩
      ·rw [hfa he hlt];clear hfa;generalize errG G ss.length=z at *;obtain⟨k,ar,r,rl,rd⟩:=G;exact wklp (w_8 e1 m1 e33 e34 e35 hls hlg hgi) (w_1 c) w_t (w_r 0) w_z
     ·have hi2:i=gs.length:=zo;subst hi2;rw [Zi7 hz];exact wklp (w_7 e1 m1 e33 e34 e35 hls hlg) w_t w_t (w_r 0) w_z
    ·exact⟨ZCr _,gW e1,gW m1,gC,gW hlg,gC,λj hj=>zo⟩
  ·exact⟨ZCr _,gC,gC,gW hls,gC,λj hj=>zo⟩
theorem Sub.nil (m:Nat):Sub (.v (.slice none 0 0)) (.sl m []):=λw imm x h=>by
 rw [h.v_inv];exact .pure ((Wk.nil m).rd (.v _))
theorem Zgw {σ:Mem} {k:Nat} {e:Ent} (h:σ k=some e):upd σ k (some e)=σ:=by
 funext j;rw [Zaq];split
 ·subst_vars;exact h.symm
 ·rfl
theorem Zds {K c:Nat} (h:c < 1000):(K+1000 == c)=false:=by rw [ZG2];omega
theorem Zta {a b:List Nat} (h:u16s a=u16s b):a=b:=by
 induction a generalizing b with
 | nil=>cases b with
   | nil=>rfl
   | cons y b=>simp [u16s] at h
 | cons x a ih=>cases b with
   | nil=>simp [u16s] at h
   | cons y b =>
     rw [Zxe,Zxe] at h;simp only [List.cons.injEq,AV.v.injEq,Value.int.injEq,true_and] at h;rw [ih h.2,show x=y by omega]
theorem RQ.ok_eq {r:RQ} {k:Nat} (hl:r.lm k) (h:r.ok=true):r=⟨decide (r.q.num < 0),toL r.q.num.natAbs,toL r.q.den⟩:=by
 have h1:=(RQ.ok_av hl h).1;simp only [RQ.av,ratQ,AV.agg.injEq,List.cons.injEq,AV.v.injEq,Value.bool.injEq,lim,AV.sl.injEq,true_and,and_true] at h1;obtain⟨s,l,d⟩:=r;simp only at h1;rw [RQ.mk.injEq];exact⟨h1.1,Zta h1.2.1,Zta h1.2.2⟩
theorem ar2 {ar:List Int} {n:Nat} (hl:(ar.length:Int)=2) (h:∀k,k < ar.length→0≤gI ar k∧gI ar k < (n:Int)):∃a b:Nat,ar=[(a:Int),(b:Int)]∧a < n∧b < n:=by
 match ar,hl,h with
 | [x,y],_,h =>
   have h0:=h 0 zs;have h1:=h 1 zs;simp only [gI,ZGw,ZGx] at h0 h1;exact⟨x.toNat,y.toNat,by rw [ZHp h0.1,ZHp h1.1],zo,zo⟩
theorem ar3 {ar:List Int} {n:Nat} (hl:(ar.length:Int)=3) (h:∀k,k < ar.length→0≤gI ar k∧gI ar k < (n:Int)):∃a b c:Nat,ar=[(a:Int),(b:Int),(c:Int)]∧a < n∧b < n∧c < n:=by
 match ar,hl,h with
 | [x,y,z],_,h =>
   have h0:=h 0 zs;have h1:=h 1 zs;have h2:=h 2 zs;simp only [gI,ZGw,ZGx] at h0 h1 h2;exact⟨x.toNat,y.toNat,z.toNat,by rw [ZHp h0.1,ZHp h1.1,ZHp h2.1],zo,zo,zo⟩
def wOf (w:List Int) (s:RS):Int :=
 if s.k=2 then gI w (gI s.ar 0).toNat+gI w (gI s.ar 1).toNat
 else if s.k=3∨s.k=4 then gI w (gI s.ar 0).toNat+gI w (gI s.ar 1).toNat+gI w (gI s.ar 2).toNat
 else if s.k=5 then 2*gI w (gI s.ar 0).toNat+gI w (gI s.ar 1).toNat
 else 1
def wts (ss:List RS):Nat→List Int
 | 0=>[]
 | i+1=>wts ss i++[wOf (wts ss i) (ss.getD i RS.zero)]
theorem Zks (ss:List RS):∀i,(wts ss i).length=i
 | 0=>rfl
 | i+1=>by show(wts ss i++[_]).length=i+1;rw [ZDa,Zks ss i];rfl
theorem gI_app (l:List Int) (x:Int) (n:Nat):gI (l++[x]) n=if n < l.length then gI l n else if n=l.length then x else 0:=by
 split
 ·rename_i h;rw [Zfb (by simp;omega),Zfb h,List.getElem_append_left h]
 ·split
  ·rename_i h1 h2;subst h2;rw [Zfb zs];simp
  ·rw [Ze5 (by simp;omega)]
theorem Zmd (ss:List RS):∀i n,0≤gI (wts ss i) n∧gI (wts ss i) n≤((3 ^ i:Nat):Int)
 | 0,n=>by rw [Ze5 (ZCr _)];omega
 | i+1,n=>by
   show 0≤gI (wts ss i++[_]) n∧gI (wts ss i++[_]) n≤_;have hp:(3 ^ (i+1):Nat)=3*3 ^ i:=by rw [ZDk,ZDh]
   have hq:1≤3 ^ i:=Nat.one_le_pow _ _ zo;rw [gI_app,hp];have h0:=Zmd ss i n;have h1:=Zmd ss i (gI (ss.getD i RS.zero).ar 0).toNat;have h2:=Zmd ss i (gI (ss.getD i RS.zero).ar 1).toNat;have h3:=Zmd ss i (gI (ss.getD i RS.zero).ar 2).toNat;unfold wOf;generalize (3 ^ i:Nat)=z at *;split
   ·omega
   ·split
    ·split
     ·omega
     ·split
      ·omega
      ·split<;>omega
    ·omega
def Zxh (ss:List RS) (gs:List RG):Bool :=
 (wts ss ss.length).all (λw=>decide (w≤8)) && gs.all λg=>!(decide (g.k=6) || decide (g.k=7)) || g.ar.all λa=>decide (gI (wts ss ss.length) a.toNat≤3)
def rat2 (r:RQ):Bool:=decide (r.l.length≤2) && decide (r.d.length≤2)
def fewB (ss:List RS) (gs:List RG):Bool :=
 decide (ss.length≤8) && (decide (gs.length≤3) && (decide (figE ss gs=0) && (Zxh ss gs && (ss.all (λs=>rat2 s.r) && gs.all λg=>rat2 g.r))))
theorem few_34 {ss:List RS} {gs:List RG} (hs:∀s∈ss,s.sm) (h:fewB ss gs=true):ss.length≤8∧figE ss gs=0∧∀s∈ss,s.r.lm 2:=by
 unfold fewB at h;simp only [ZC2,ZDb,ZFk] at h;obtain⟨h1,h2,h3,h4,h5,h6⟩:=h;refine⟨h1,h3,λs hm=>?_⟩;have:=h5 s hm;unfold rat2 at this;simp only [ZC2,ZDb] at this;obtain⟨k1,k2,k3,k4⟩:=(hs s hm).1;exact⟨k1,k2,this.1,this.2⟩
def fitS (s:RS):Bool:=!(decide (2 < s.r.l.length) || decide (2 < s.r.d.length) || decide (8 < s.ar.length))
def fitsB (ss:List RS) (gs:List RG):Bool:=ss.all fitS && (decide (nfN ss ss.length≤12) && (decide (ss.length≤42) && decide (gs.length≤10)))
theorem Zq0 {α:Type} {p:α→Bool} {l:List α} {i:Nat} (h:i < l.length) (hp:p l[i]=false):l.all p=false:=by
 rw [Bool.eq_false_iff];intro ha;rw [ZFk] at ha;rw [ha _ (ZCt h)] at hp;cases hp
theorem all_of {α:Type} {p:α→Bool} {l:List α} (h:∀j (hj:j < l.length),p l[j]=true):l.all p=true:=by
 rw [ZFk];intro x hx;obtain⟨j,hj,rfl⟩:=List.mem_iff_getElem.1 hx;exact h j hj
theorem wts_at {ss:List RS} {i a:Nat} (h:a < i):((wts ss i).map iv).getD a .u=iv (gI (wts ss i) a):=by
 rw [Zak iv (by rw [Zks];exact h),Zfb (by rw [Zks];exact h)]
theorem wts_succ {ss:List RS} {i:Nat} (hi:i < ss.length):(wts ss (i+1)).map iv=(wts ss i).map iv++[iv (wOf (wts ss i) ss[i])]:=by
 show(wts ss i++[_]).map iv=_;rw [ZDd,show ss.getD i RS.zero=ss[i] from by rw [ZCx,ZCs hi];rfl];rfl
theorem Zyb (ss:List RS) (gs:List RG) (hl:ss.length≤8) (he:∀i,i < ss.length→errS ss i=0):Pure prog 106 [figA ss gs] (ivs (wts ss ss.length)):=by
 have hg:∀i (h:i < ss.length),(ss.map RS.av).getD i .u=ss[i].av:=λi h=>Zak RS.av h;have hls:(ss.map RS.av).length=ss.length:=ZCj ..;have hok:∀i (h:i < ss.length),(ss[i].ar.length:Int)=arS ss[i].k∧∀k,k < ss[i].ar.length→0≤gI ss[i].ar k∧gI ss[i].ar k < (i:Int):=λi h=>⟨(Zls h (he i h)).2.1,(Zls h (he i h)).2.2.1⟩;have hws:∀i (h:i < ss.length),(wts ss (i+1)).map iv=(wts ss i).map iv++[iv (wOf (wts ss i) ss[i])]:=λi h=>wts_succ h;have hwl:∀i,((wts ss i).map iv).length=i:=λi=>by rw [ZCj,Zks]
 have hbd:∀i n,i≤8→0≤gI (wts ss i) n∧gI (wts ss i) n≤6561:=λi n h=>by
  have:=Zmd ss i n;have h3:(3 ^ i:Nat)≤3 ^ 8:=ZDl zo h;omega
 show Pure _ _ [.agg [.sl 6 (ss.map RS.av),.sl 5 (gs.map RG.av)]] (.sl 1 ((wts ss ss.length).map iv));generalize ss.map RS.av=M at *;generalize gs.map RG.av=N at *;refine pI func106 rfl ntmps106 results106 call106 ?_
 (refine wkad (w_1 hls) w_t w_t (w_s ?_);intros)
 rename_i g1;refine Zdj (Frz.nilOwn (d:=3) 83 1 3 (gC)) ?_;refine Zad (ι:=Nat) (λi e m=>i≤ss.length∧e 1=.pbox 1 g1 0∧m 1=some (.box g1 25 [.sl 6 M,.sl 5 N] false)∧e 4=iv i∧∃sv,e 3=.own 83 sv∧m 83=some (.row sv 3 1 ((wts ss i).map iv) 0)) (λi=>ss.length - i) 0 zr ?_ ?_
 ·rintro i e m ⟨hi,e1,m1,e4,sv,e3,m83⟩
  by_cases hlt:i < ss.length
  ·have hgi:=hg i hlt;obtain⟨ha,hr⟩:=hok i hlt;have hwi:=hwl i;have hn:=hws i hlt;have hx:=λa (h:a < i)=>wts_at (ss:=ss) h;have hb:=λn=>hbd i n zo;clear hg hok hws hwl hbd;generalize wts ss i=w at *;generalize ss[i]=s at *;obtain⟨k,nm,ar,⟨rs,rl,rd⟩⟩:=s;unfold wOf at hn;unfold arS at ha;simp only at *;generalize w.map iv=W at *;by_cases k2:k=2
   ·subst k2;obtain⟨a,b,rfl,h1,h2⟩:=ar2 (by simpa using ha) hr;have b1:=hb a;have b2:=hb b;have x1:=hx a h1;have x2:=hx b h2;simp only [ZCh,gI,ZGw,ZGx,ZE9] at hn x1 x2 b1 b2;generalize w.getD a 0=x at *;generalize w.getD b 0=y at *;clear hb hx hr ha
    (refine wkad (w_10 e1 m1 e4 e3 m83 hls hgi hwi x1 x2) w_t w_t (w_s ?_);intros)
    exact⟨i+1,⟨zo,gW e1,gW m1,gS,_,gC,by rw [hn];exact gC⟩,zo⟩
   ·by_cases k34:k=3∨k=4
    ·obtain⟨a,b,c,rfl,h1,h2,h3⟩:=ar3 (by rcases k34 with rfl | rfl<;>simpa using ha) hr;have b1:=hb a;have b2:=hb b;have b3:=hb c;have x1:=hx a h1;have x2:=hx b h2;have x3:=hx c h3;rw [ZCg k2,ZCh k34] at hn;simp only [gI,ZGw,ZGx,ZE9] at hn x1 x2 x3 b1 b2 b3;generalize w.getD a 0=x at *;generalize w.getD b 0=y at *;generalize w.getD c 0=z at *;clear hb hx hr ha k2;rcases k34 with rfl | rfl
     all_goals
      (refine wkad (w_11 e1 m1 e4 e3 m83 hls hgi hwi x1 x2 x3) w_t w_t (w_s ?_);intros)
      exact⟨i+1,⟨zo,gW e1,gW m1,gS,_,gC,by rw [hn];exact gC⟩,zo⟩
    ·rw [ZCg k2,ZCg k34] at hn;by_cases k5:k=5
     ·subst k5;obtain⟨a,b,rfl,h1,h2⟩:=ar2 (by simpa using ha) hr;have b1:=hb a;have b2:=hb b;have x1:=hx a h1;have x2:=hx b h2;simp only [ZCh,gI,ZGw,ZGx,ZE9] at hn x1 x2 b1 b2;generalize w.getD a 0=x at *;generalize w.getD b 0=y at *;clear hb hx hr ha k2 k34
      (refine wkad (w_10 e1 m1 e4 e3 m83 hls hgi hwi x1 x2) w_t w_t (w_s ?_);intros)
      exact⟨i+1,⟨zo,gW e1,gW m1,gS,_,gC,by rw [hn];exact gC⟩,zo⟩
     ·have k3:¬k=3:=λh=>k34 (.inl h);have k4:¬k=4:=λh=>k34 (.inr h);rw [ZCg k5] at hn;clear hb hx hr ha k34
      (refine wkad (w_8 e1 m1 e4 e3 m83 hls hgi hwi) w_t w_t (w_s ?_);intros)
      exact⟨i+1,⟨zo,gW e1,gW m1,gS,_,gC,by rw [hn];exact gC⟩,zo⟩
  ·have hin:i=ss.length:=zo;subst hin;clear hws hg hok hbd;have hwi:=hwl ss.length;generalize (wts ss ss.length).map iv=W at *;exact wkld (w_7 e1 m1 e4 e3 m83 hls hwi) w_t (w_1 m83) w_t w_z
 ·exact⟨ZCr _,gC,gC,gC,_,gC,by(simp (disch:=omega) only [go_sem,wts,ZE3]<;>repeat' first|rfl|refine⟨?_,?_⟩)⟩
def Zj9 (w:List Int) (g:RG):Bool:=!(decide (g.k=6) || decide (g.k=7)) || g.ar.all λa=>decide (gI w a.toNat≤3)
theorem Zjd {α:Type} {p:α→Bool} {l:List α} (h:∀j (hj:j < l.length),p l[j]=true):l.all p=true:=all_of h
theorem rlThin (ss:List RS) (gs:List RG) (hl:ss.length≤8) (hlg:gs.length≤1000) (he:∀i,i < ss.length→errS ss i=0) (heg:∀g∈gs,g.ar.length≤100∧∀k,k < g.ar.length→0≤gI g.ar k∧gI g.ar k < (ss.length:Int)):Pure prog 48 [figA ss gs] (.v (.bool (Zxh ss gs))):=by
 have cw:Pure prog 106 [.agg [.sl 6 (ss.map RS.av),.sl 5 (gs.map RG.av)]] (.sl 1 ((wts ss ss.length).map iv)):=Zyb ss gs hl he;have hlen:=Zks ss ss.length;have hbd:∀n,0≤gI (wts ss ss.length) n∧gI (wts ss ss.length) n≤6561:=λn=>by
  have:=Zmd ss ss.length n;have h3:(3 ^ ss.length:Nat)≤3 ^ 8:=ZDl zo hl;omega
 have hg:∀i (h:i < gs.length),(gs.map RG.av).getD i .u=gs[i].av:=λi h=>Zak RG.av h;have hlm:(gs.map RG.av).length=gs.length:=ZCj ..;show Pure _ _ [.agg [.sl 6 (ss.map RS.av),.sl 5 (gs.map RG.av)]] _;have hT:Zxh ss gs=((wts ss ss.length).all (λw=>decide (w≤8)) && gs.all (Zj9 (wts ss ss.length))):=rfl;rw [hT];have hx:∀a,a < ss.length→((wts ss ss.length).map iv).getD a .u=iv (gI (wts ss ss.length) a):=λa h=>wts_at h;clear hT;generalize ss.map RS.av=M at *;generalize gs.map RG.av=N at *;generalize wts ss ss.length=w at *;generalize ss.length=n at *;have hwl:(w.map iv).length=n:=by rw [ZCj,hlen]
 generalize hW:w.map iv=W at *;refine pI func48 rfl ntmps48 results48 call48 ?_
 (refine wkap w_t (w_1 cw) (w_r 0) (w_s ?_);intros)
 rename_i g1;refine Zad (ι:=Nat) (λi e m=>i≤n∧e 1=.pbox 1 g1 0∧m 1=some (.box g1 25 [.sl 6 M,.sl 5 N] false)∧e 3=.sl 1 W∧e 4=iv i∧∀j,j < i→gI w j≤8) (λi=>n - i) 0 zr ?_ ?_
 ·rintro i e m ⟨hi,e1,m1,e3,e4,hj⟩
  by_cases hlt:i < n
  ·have x1:=hx i hlt;have b1:=hbd i;have hgw:gI w i=w[i]'zo:=Zfb zo;by_cases h8:8 < gI w i
   ·have:(w.all λw=>decide (w≤8))=false:=Zq0 (i:=i) zo (by rw [←hgw];simpa using h8);rw [this,ZDi];generalize gI w i=x at *;exact wklp (w_6 e1 m1 e3 e4 hwl x1) w_t w_t (w_r 0) w_z
   ·have hnx:∀j,j < i+1→gI w j≤8:=λj hjj=>by
     by_cases e:j=i
     ·rw [e];omega
     ·exact hj j zo
    clear hj hgw;generalize gI w i=x at *
    (refine wkap (w_6 e1 m1 e3 e4 hwl x1) w_t (w_r 0) (w_s ?_);intros)
    exact⟨i+1,⟨zo,gW e1,gW m1,gW e3,gS,hnx⟩,zo⟩
  ·have hin:n=i:=zo;subst hin;have:(w.all λw=>decide (w≤8))=true:=Zjd λj hjj=>by have:=hj j zo;rw [Zfb hjj] at this;simpa using this
   rw [this,ZEf];clear hj
   (refine wkap (w_5 e1 m1 e3 e4 hwl) w_t (w_r 0) (w_s ?_);intros)
   refine Zad (ι:=Nat) (λi e m=>i≤gs.length∧e 1=.pbox 1 g1 0∧m 1=some (.box g1 25 [.sl 6 M,.sl 5 N] false)∧e 3=.sl 1 W∧e 5=iv i∧∀j (hj:j < gs.length),j < i→Zj9 w gs[j]=true) (λi=>gs.length - i) 0 zr ?_ ?_
   ·rintro i e m ⟨hi,e1,m1,e3,e5,hj⟩
    by_cases hlt:i < gs.length
    ·have hgi:=hg i hlt;obtain⟨ha,hr⟩:=heg _ (ZCt hlt);have hno:Zj9 w gs[i]=false→gs.all (Zj9 w)=false:=λh=>Zq0 hlt h;have hnx:Zj9 w gs[i]=true→∀j (hj:j < gs.length),j < i+1→Zj9 w gs[j]=true:=λh j hjj h2=>by
      by_cases e:j=i
      ·subst e;exact h
      ·exact hj j hjj zo
     clear hj hg heg;generalize gs.all (Zj9 w)=v at *;generalize gs[i]=g at *;obtain⟨k,ar,⟨rs,rl,rd⟩⟩:=g;simp only at *;have hla:(ar.map iv).length=ar.length:=ZCj ..;have hga:∀j (h:j < ar.length),(ar.map iv).getD j .u=iv ar[j]:=λj h=>Zak iv h
     (refine wkap (w_6 e1 m1 e3 e5 hlm hgi) w_t (w_r 0) (w_s ?_);intros)
     rename_i g6;refine Zad (ι:=Nat) (λy e m=>y≤ar.length∧e 1=.pbox 1 g1 0∧m 1=some (.box g1 25 [.sl 6 M,.sl 5 N] false)∧e 3=.sl 1 W∧e 5=iv i∧e 6=.pbox 6 g6 0∧m 6=some (.box g6 93 [iv k,ivs ar,.v (.bool rs),lim rl,lim rd] false)∧e 7=iv y∧((k=6∨k=7)→∀j (hj:j < ar.length),j < y→gI w ar[j].toNat≤3)) (λy=>ar.length - y) 0 zr ?_ ?_
     ·rintro y e m ⟨hy,e1,m1,e3,e5,e6,m6,e7,hq⟩
      by_cases hly:y < ar.length
      ·have hgy:=hga y hly;have hry:=hr y hly;rw [Zfb hly] at hry;obtain⟨a,hae⟩:∃a:Nat,ar[y]=a:=⟨ar[y].toNat,zo⟩;have han:a < n:=zo;have hxa:=hx a han;have hba:=hbd a;rw [hae] at hgy;by_cases hk:k=6∨k=7
       ·by_cases h3:3 < gI w a
        ·have:Zj9 w ⟨k,ar,⟨rs,rl,rd⟩⟩=false:=by
          unfold Zj9;have h1:(decide (k=6) || decide (k=7))=true:=by simpa using hk
          have h2:(ar.all λa=>decide (gI w a.toNat≤3))=false:=Zq0 hly (by rw [hae,ZE9];simpa using h3);simp only [h1,h2];rfl
         rw [hno this];clear hq hno hnx hga hr hx hbd this;generalize gI w a=x at *;rcases hk with rfl | rfl
         all_goals
          exact wklp (w_11 e1 m1 e3 e5 e6 m6 e7 hla hgy hwl hxa) w_t w_t (w_r 0) w_z
        ·have hq2:∀j (hj:j < ar.length),j < y+1→gI w ar[j].toNat≤3:=λj hjj h2=>by
          by_cases e:j=y
          ·subst e;rw [hae,ZE9];omega
          ·exact hq hk j hjj zo
         clear hq hno hnx hga hr hx hbd;generalize gI w a=x at *;rcases hk with rfl | rfl
         all_goals
          (refine wkap (w_11 e1 m1 e3 e5 e6 m6 e7 hla hgy hwl hxa) w_t (w_r 0) (w_s ?_);intros)
          exact⟨y+1,⟨zo,gW e1,gW m1,gW e3,gW e5,gW e6,gW m6,gS,λ_=>hq2⟩,zo⟩
       ·have k6:¬k=6:=λh=>hk (.inl h);have k7:¬k=7:=λh=>hk (.inr h);clear hq hno hnx hga hr hx hbd
        (refine wkap (w_8 e1 m1 e3 e5 e6 m6 e7 hla) w_t (w_r 0) (w_s ?_);intros)
        exact⟨y+1,⟨zo,gW e1,gW m1,gW e3,gW e5,gW e6,gW m6,gS,λh=>absurd h hk⟩,zo⟩
      ·have:Zj9 w ⟨k,ar,⟨rs,rl,rd⟩⟩=true:=by
        unfold Zj9;by_cases hk:k=6∨k=7
        ·have h2:(ar.all λa=>decide (gI w a.toNat≤3))=true:=Zjd λj hjj=>by have:=hq hk j hjj zo;simpa using this
         simp only [h2,Bool.or_true]
        ·have h1:(decide (k=6) || decide (k=7))=false:=by simpa using hk
         simp only [h1];rfl
       have:=hnx this;clear hq hno hnx hga hr hx hbd
       (refine wkap (w_8 e1 m1 e3 e5 e6 m6 e7 hla) w_t (w_r 0) (w_s ?_);intros)
       exact⟨i+1,⟨zo,gW e1,gW m1,gW e3,gS,this⟩,zo⟩
     ·exact⟨ZCr _,gW e1,gW m1,gW e3,gW e5,gC,gC,gC,λ_ j _ h=>zo⟩
    ·have:gs.all (Zj9 w)=true:=Zjd λj hjj=>hj j hjj zo;rw [this];clear hj hg heg hx hbd;exact wklp (w_5 e1 m1 e3 e5 hlm) w_t w_t (w_r 0) w_z
   ·exact⟨ZCr _,gW e1,gW m1,gW e3,gC,λj _ h=>zo⟩
 ·exact⟨ZCr _,gC,gC,gC,gC,λj h=>zo⟩
theorem arG_le (k:Int):arG k≤8:=by
 unfold arG
 repeat' split
 all_goals omega
theorem Zwi {ss:List RS} {gs:List RG} (h:figE ss gs=0):∀g∈gs,g.ar.length≤100∧∀k,k < g.ar.length→0≤gI g.ar k∧gI g.ar k < (ss.length:Int):=λg hg=>by
 unfold figE at h;split at h
 ·omega
 ·split at h
  ·rename_i h2;exact absurd h h2
  ·obtain⟨j,hj,rfl⟩:=List.mem_iff_getElem.1 hg;have h1:=Zod h j hj;rw [show gs.getD j ⟨0,[],⟨false,[],[]⟩⟩=gs[j] from by rw [ZCx,ZCs hj];rfl] at h1;have hle:=arG_le gs[j].k;generalize gs[j]=g at *;unfold errG at h1;split at h1
   ·omega
   ·split at h1
    ·omega
    ·split at h1
     ·omega
     ·rename_i h2 h3 h4;exact⟨zo,λk hk=>Zzg (by simpa using h4) hk⟩
theorem Zmy {ss:List RS} {gs:List RG} (h:figE ss gs=0):∀i,i < ss.length→errS ss i=0:=by
 unfold figE at h;split at h
 ·omega
 ·split at h
  ·rename_i h2;exact absurd h h2
  ·rename_i h2;exact Zod (Decidable.byContradiction λh3=>h2 h3)
theorem rlFew (ss:List RS) (gs:List RG) (cR:Pure prog 47 [figA ss gs] (iv (figE ss gs))):Pure prog 15 [figA ss gs] (.v (.bool (fewB ss gs))):=by
 have cR:Pure prog 47 [.agg [.sl 6 (ss.map RS.av),.sl 5 (gs.map RG.av)]] (iv (figE ss gs)):=cR;have hls:(ss.map RS.av).length=ss.length:=ZCj ..;have hlg:(gs.map RG.av).length=gs.length:=ZCj ..;have hgS:∀i (h:i < ss.length),(ss.map RS.av).getD i .u=ss[i].av:=λi h=>Zak RS.av h;have hgG:∀i (h:i < gs.length),(gs.map RG.av).getD i .u=gs[i].av:=λi h=>Zak RG.av h;have cT:ss.length≤8→gs.length≤3→figE ss gs=0→Pure prog 48 [.agg [.sl 6 (ss.map RS.av),.sl 5 (gs.map RG.av)]] (.v (.bool (Zxh ss gs))):=λa b h=>rlThin ss gs a zo (Zmy h) (Zwi h);show Pure _ _ [.agg [.sl 6 (ss.map RS.av),.sl 5 (gs.map RG.av)]] _
 unfold fewB;have noS:∀i (h:i < ss.length),rat2 ss[i].r=false→(ss.all λs=>rat2 s.r)=false:=λi h e=>Zq0 h e;have noG:∀i (h:i < gs.length),rat2 gs[i].r=false→(gs.all λs=>rat2 s.r)=false:=λi h e=>Zq0 h e;have yeS:(∀i (h:i < ss.length),rat2 ss[i].r=true)→(ss.all λs=>rat2 s.r)=true:=λe=>Zjd e;have yeG:(∀i (h:i < gs.length),rat2 gs[i].r=true)→(gs.all λs=>rat2 s.r)=true:=λe=>Zjd e;generalize (ss.all λs=>rat2 s.r)=vS at *;generalize (gs.all λs=>rat2 s.r)=vG at *;generalize Zxh ss gs=vT at *;generalize figE ss gs=z at *;generalize ss.map RS.av=M at *;generalize gs.map RG.av=N at *;by_cases h8:ss.length≤8
 ·by_cases h3:gs.length≤3
  ·rw [ZCp h8,ZCp h3,ZEf,ZEf];by_cases hz:z=0
   ·subst hz;have cT:=cT h8 h3 rfl;rw [ZCp rfl,ZEf]
    cases vT with
    | false =>
      rw [ZDi];refine pI func15 rfl ntmps15 results15 call15 ?_;exact wklp (w_2 hls hlg) (w_2 cR cT) w_t (w_r 0) w_z
    | true =>
      rw [ZEf];refine pI func15 rfl ntmps15 results15 call15 ?_
      (refine wkap (w_2 hls hlg) (w_2 cR cT) (w_r 0) (w_s ?_);intros)
      rename_i g1;clear cR cT;refine Zad (ι:=Nat) (λi e m=>i≤ss.length∧e 1=.pbox 1 g1 0∧m 1=some (.box g1 25 [.sl 6 M,.sl 5 N] false)∧e 3=iv i∧∀j (h:j < ss.length),j < i→rat2 ss[j].r=true) (λi=>ss.length - i) 0 zr ?_ ?_
      ·rintro i e m ⟨hi,e1,m1,e3,hj⟩
       by_cases hlt:i < ss.length
       ·have hg:=hgS i hlt;have no:=noS i hlt;have nx:rat2 ss[i].r=true→∀j (h:j < ss.length),j < i+1→rat2 ss[j].r=true:=λh j hjj h2=>by
         by_cases e:j=i
         ·subst e;exact h
         ·exact hj j hjj zo
        clear hj noS yeS hgS hgG noG yeG;unfold rat2 at no nx;generalize ss[i]=s at *;obtain⟨k,nm,ar,⟨rs,rl,rd⟩⟩:=s;simp only at *;by_cases a1:rl.length≤2∧rd.length≤2
        ·have:=nx (by simp [a1.1,a1.2]);obtain⟨a1,a2⟩:=a1;clear nx no
         (refine wkap (w_6 e1 m1 e3 hls hg @Za7) w_t (w_r 0) (w_s ?_);intros)
         exact⟨i+1,⟨zo,gW e1,gW m1,gS,this⟩,zo⟩
        ·rw [no (by simp only [Bool.and_eq_false_iff,ZFm];omega),ZDi];clear nx no;(focus (refine wkap (w_6 e1 m1 e3 hls hg @Za7) w_t (w_r 0) ?_;(repeat' first|exact w_t|apply w_l);all_goals intros));all_goals first|((all_goals (try simp (disch:=omega) only [go_sem,ZCp,ZCq,ZCh,ZCg,Int.reduceAdd,Int.reduceSub,Int.reduceToNat,ZC3]));(all_goals first|done|rfl|(congr 2;first|done|omega|(rw [ZDg];simp only [bool_to_prop,ZCy,ZDy,ZDz,ZD0,ZD1];omega))|skip))|omega
       ·rw [yeS λj h=>hj j h zo,ZEf];clear hj noS yeS hgS
        (refine wkap (w_4 e1 m1 e3 hls) w_t (w_r 0) (w_s ?_);intros)
        refine Zad (ι:=Nat) (λi e m=>i≤gs.length∧e 1=.pbox 1 g1 0∧m 1=some (.box g1 25 [.sl 6 M,.sl 5 N] false)∧e 4=iv i∧∀j (h:j < gs.length),j < i→rat2 gs[j].r=true) (λi=>gs.length - i) 0 zr ?_ ?_
        ·rintro i e m ⟨hi,e1,m1,e4,hj⟩
         by_cases hlt:i < gs.length
         ·have hg:=hgG i hlt;have no:=noG i hlt;have nx:rat2 gs[i].r=true→∀j (h:j < gs.length),j < i+1→rat2 gs[j].r=true:=λh j hjj h2=>by
           by_cases e:j=i
           ·subst e;exact h
           ·exact hj j hjj zo
          clear hj hgG noG yeG;unfold rat2 at no nx;generalize gs[i]=s at *;obtain⟨k,ar,⟨rs,rl,rd⟩⟩:=s;simp only at *;by_cases a1:rl.length≤2∧rd.length≤2
          ·have:=nx (by simp [a1.1,a1.2]);obtain⟨a1,a2⟩:=a1;clear nx no
           (refine wkap (w_6 e1 m1 e4 hlg hg @Za7) w_t (w_r 0) (w_s ?_);intros)
           exact⟨i+1,⟨zo,gW e1,gW m1,gS,this⟩,zo⟩
          ·rw [no (by simp only [Bool.and_eq_false_iff,ZFm];omega)];clear nx no;(focus (refine wkap (w_6 e1 m1 e4 hlg hg @Za7) w_t (w_r 0) ?_;(repeat' first|exact w_t|apply w_l);all_goals intros));all_goals first|((all_goals (try simp (disch:=omega) only [go_sem,ZCp,ZCq,ZCh,ZCg,Int.reduceAdd,Int.reduceSub,Int.reduceToNat,ZC3]));(all_goals first|done|rfl|(congr 2;first|done|omega|(rw [ZDg];simp only [bool_to_prop,ZCy,ZDy,ZDz,ZD0,ZD1];omega))|skip))|omega
         ·rw [yeG λj h=>hj j h zo];clear hj hgG noG yeG;exact wklp (w_4 e1 m1 e4 hlg) w_t w_t (w_r 0) w_z
        ·exact⟨ZCr _,gW e1,gW m1,gC,λj h h2=>zo⟩
      ·exact⟨ZCr _,gC,gC,gC,λj h h2=>zo⟩
   ·rw [ZCq hz,ZDi];clear cT;refine pI func15 rfl ntmps15 results15 call15 ?_;exact wklp (w_3 hls hlg hz) (w_1 cR) w_t (w_r 0) w_z
  ·rw [ZCp h8,ZCq h3,ZEf,ZDi];clear cT;refine pI func15 rfl ntmps15 results15 call15 ?_;exact wklp (w_2 hls hlg) (w_1 cR) w_t (w_r 0) w_z
 ·rw [ZCq h8,ZDi];clear cT;refine pI func15 rfl ntmps15 results15 call15 ?_;exact wklp (w_2 hls hlg) (w_1 cR) w_t (w_r 0) w_z
end Go.Proofs.YtpkcophcldjboaaGreatDoor
namespace Go.Pol
section
def cl (q:Rat):Nat:=(q.num.natAbs+q.den - 1)/q.den
theorem ZBn {q:Rat} {B:Nat}:cl q≤B↔q.num.natAbs≤B*q.den:=by
 have h:0 < q.den:=ZEe q.den_nz;unfold cl;rw [←Nat.lt_succ_iff,ZFr h,ZD8];omega
theorem cl_self (q:Rat):q.num.natAbs≤cl q*q.den:=ZBn.1 (ZCi _)
theorem Zoo {q:Rat} {D:Nat} (h:q.den ∣ D):BQ D (cl q) q:=⟨h,cl_self q⟩
theorem cl_add (a b:Rat):cl (a+b)≤cl a+cl b:=ZBn.2 ((Zoo (ZF2 a.den b.den)).add (Zoo (ZH2 b.den a.den))).2
theorem cl_mul (a b:Rat):cl (a*b)≤cl a*cl b:=ZBn.2 ((Zoo (ZEv a.den)).mul (Zoo (ZEv b.den))).2
theorem ZBi {a b:Rat} {D:Nat} (h:a.den ∣ D) (k:b.den ∣ D):(a+b).den ∣ D:=((Zoo h).add (Zoo k)).1
theorem den_mul {a b:Rat} {D E:Nat} (h:a.den ∣ D) (k:b.den ∣ E):(a*b).den ∣ D*E:=((Zoo h).mul (Zoo k)).1
variable {κ:Type}
def n1 (l:List (Rat × κ)):Nat:=(l.map λt=>cl t.1).sum
theorem Zbd (t:Rat × κ) (l:List (Rat × κ)):n1 (t :: l)=cl t.1+n1 l:=rfl
theorem Zp5 (l m:List (Rat × κ)):n1 (l++m)=n1 l+n1 m:=by unfold n1;rw [ZDd,List.sum_append]
theorem n1_mem {l:List (Rat × κ)} {t:Rat × κ} (h:t∈l):cl t.1≤n1 l:=by
 induction l with
 | nil=>cases h
 | cons s l ih =>
   rw [Zbd];rcases List.mem_cons.1 h with rfl | h
   ·omega
   ·have:=ih h;omega
theorem Zzy (f:Rat × κ→Bool) (l:List (Rat × κ)):n1 (l.filter f)≤n1 l:=by
 induction l with
 | nil=>exact ZCi _
 | cons t l ih =>
   rw [ZFo];split
   ·rw [Zbd,Zbd];omega
   ·rw [Zbd];omega
theorem n1_take (l:List (Rat × κ)) (i:Nat):n1 (l.take i)≤n1 l:=by
 have:=Zp5 (l.take i) (l.drop i);rw [ZEq] at this;omega
def NB (D B:Nat) (l:List (Rat × κ)):Prop:=(∀t∈l,t.1.den ∣ D)∧n1 l≤B
theorem NB.nil (D B:Nat):NB D B ([]:List (Rat × κ)):=⟨λt h=>(by cases h),ZCr _⟩
theorem NB.mono {D B E C:Nat} {l:List (Rat × κ)} (h:NB D B l) (hd:D ∣ E) (hb:B≤C):NB E C l:=⟨λt ht=>Nat.dvd_trans (h.1 t ht) hd,ZCk h.2 hb⟩
theorem NB.bq {D B:Nat} {l:List (Rat × κ)} (h:NB D B l) {t:Rat × κ} (ht:t∈l):BQ D B t.1:=(Zoo (h.1 t ht)).mono (ZEv _) (ZCk (n1_mem ht) h.2)
theorem NB.filter {D B:Nat} {l:List (Rat × κ)} (h:NB D B l) (f:Rat × κ→Bool):NB D B (l.filter f):=⟨λt ht=>h.1 t (List.mem_filter.1 ht).1,ZCk (Zzy f l) h.2⟩
theorem NB.take {D B:Nat} {l:List (Rat × κ)} (h:NB D B l) (i:Nat):NB D B (l.take i):=⟨λt ht=>h.1 t (ZDw ht),ZCk (n1_take l i) h.2⟩
theorem NB.app {D B C:Nat} {l m:List (Rat × κ)} (h:NB D B l) (k:NB D C m):NB D (B+C) (l++m) :=
 ⟨λt ht=>(List.mem_append.1 ht).elim (h.1 t) (k.1 t),by rw [Zp5];exact ZDt h.2 k.2⟩
end
section
variable {κ:Type} [DecidableEq κ]
theorem n1_addC (l:List (Rat × κ)) (t:Rat × κ):n1 (addC l t)≤n1 l+cl t.1:=by
 induction l with
 | nil=>show cl t.1+0≤0+cl t.1;omega
 | cons s l ih =>
   unfold addC;split
   ·rw [Zbd,Zbd];have:=cl_add s.1 t.1;simp only;omega
   ·rw [Zbd,Zbd];omega
theorem den_addC {D:Nat} {l:List (Rat × κ)} {t:Rat × κ} (h:∀s∈l,s.1.den ∣ D) (ht:t.1.den ∣ D):∀s∈addC l t,s.1.den ∣ D:=by
 induction l with
 | nil=>intro s hs;rw [List.mem_singleton.1 hs];exact ht
 | cons u l ih =>
   intro s hs;unfold addC at hs;split at hs
   ·rcases List.mem_cons.1 hs with rfl | hs
    ·exact ZBi (h u (.head _)) ht
    ·exact h s (.tail _ hs)
   ·rcases List.mem_cons.1 hs with rfl | hs
    ·exact h _ (.head _)
    ·exact ih (λv hv=>h v (.tail _ hv)) s hs
theorem NB.addC {D B C:Nat} {l:List (Rat × κ)} (h:NB D B l) {t:Rat × κ} (ht:t.1.den ∣ D) (hc:cl t.1≤C):NB D (B+C) (addC l t) :=
 ⟨den_addC h.1 ht,ZCk (n1_addC l t) (ZDt h.2 hc)⟩
end
section
variable {κ:Type} {lt:κ→κ→Prop} [DecidableRel lt]
theorem NB.addP {D B C:Nat} {p q:List (Rat × κ)} (hp:NB D B p) (hq:NB D C q):NB D (B+C) (addP lt p q):=by
 suffices h:(∀t∈Go.Pol.addP lt p q,t.1.den ∣ D)∧n1 (Go.Pol.addP lt p q)≤n1 p+n1 q from⟨h.1,ZCk h.2 (ZDt hp.2 hq.2)⟩
 replace hp:=hp.1
 replace hq:=hq.1
 fun_induction Go.Pol.addP lt p q with
 | case1 q=>exact⟨hq,by show n1 q≤0+n1 q;omega⟩
 | case2 s p=>exact⟨hp,ZHq _ _⟩
 | case3 s p u q h1 ih =>
   obtain⟨a,b⟩:=ih (λt h=>hp t (.tail _ h)) hq;exact⟨λt ht=>by
    rcases List.mem_cons.1 ht with rfl | ht
    ·exact hp _ (.head _)
    ·exact a t ht,by rw [Zbd,Zbd];omega⟩
 | case4 s p u q h1 h2 ih =>
   obtain⟨a,b⟩:=ih hp (λt h=>hq t (.tail _ h));exact⟨λt ht=>by
    rcases List.mem_cons.1 ht with rfl | ht
    ·exact hq _ (.head _)
    ·exact a t ht,by rw [Zbd,Zbd u];omega⟩
 | case5 s p u q h1 h2 h3 ih =>
   obtain⟨a,b⟩:=ih (λt h=>hp t (.tail _ h)) (λt h=>hq t (.tail _ h));exact⟨a,by rw [Zbd,Zbd];omega⟩
 | case6 s p u q h1 h2 h3 ih =>
   obtain⟨a,b⟩:=ih (λt h=>hp t (.tail _ h)) (λt h=>hq t (.tail _ h));exact⟨λt ht=>by
    rcases List.mem_cons.1 ht with rfl | ht
    ·exact ZBi (hp _ (.head _)) (hq _ (.head _))
    ·exact a t ht,by rw [Zbd,Zbd,Zbd];have:=cl_add s.1 u.1;simp only;omega⟩
theorem sumH_nb {D:Nat} (l:List (List (Rat × κ))) (h:∀p∈l,∀t∈p,t.1.den ∣ D):NB D ((l.map n1).sum) (sumH lt l):=by
 fun_induction sumH lt l with
 | case1=>exact .nil _ _
 | case2 p=>exact⟨h p (.head _),by simp⟩
 | case3 p q l ih1 ih2 =>
   have:=(ih1 λu hu=>h u (ZDw hu)).addP (lt:=lt) (ih2 λu hu=>h u (ZE2 hu))
   rwa [←List.sum_append,←ZDd,ZEq] at this
end
section
variable {κ:Type} {cmp:κ→κ→Int}
theorem NB.sumG {D B:Nat} {l:List (Rat × κ)} (h:NB D B l):NB D B (sumG cmp l):=by
 have:=sumH_nb (lt:=λx y=>cmp y x < 0) (D:=D) (l.map λt=>if t.1=0 then [] else [t]) λp hp t ht=>by
  obtain⟨s,hs,rfl⟩:=List.mem_map.1 hp;split at ht
  ·cases ht
  ·rw [List.mem_singleton.1 ht];exact h.1 s hs
 refine this.mono (ZEv _) (ZCk ?_ h.2);clear this h
 induction l with
 | nil=>exact ZCi _
 | cons t l ih =>
   rw [ZDq,ZDq,List.sum_cons,Zbd];refine ZDt ?_ ih;split
   ·exact ZCr _
   ·show cl t.1+0≤_;omega
def prodL (mu:κ→κ→κ) (l m:List (Rat × κ)):List (Rat × κ):=l.flatMap λs=>m.map λt=>(s.1*t.1,mu s.2 t.2)
theorem Zf1 (mu:κ→κ→κ) (s:Rat × κ) (l m:List (Rat × κ)):prodL mu (s :: l) m=(m.map λt=>(s.1*t.1,mu s.2 t.2))++prodL mu l m:=rfl
theorem Ziu (mu:κ→κ→κ) (l m:List (Rat × κ)):(prodL mu l m).length=l.length*m.length:=by
 induction l with
 | nil=>simp [prodL]
 | cons s l ih=>rw [Zf1,ZDa,ZCj,ih,ZCu,ZD8,ZFq]
theorem Zf0 {mu:κ→κ→κ} {l m:List (Rat × κ)} {u:Rat × κ} (h:u∈prodL mu l m):∃s∈l,∃t∈m,u=(s.1*t.1,mu s.2 t.2):=by
 obtain⟨s,hs,hu⟩:=List.mem_flatMap.1 h;obtain⟨t,ht,rfl⟩:=List.mem_map.1 hu;exact⟨s,hs,t,ht,rfl⟩
theorem NB.prodL {mu:κ→κ→κ} {D B E C:Nat} {l m:List (Rat × κ)} (h:NB D B l) (k:NB E C m):NB (D*E) (B*C) (prodL mu l m):=by
 refine⟨λu hu=>?_,ZCk ?_ (ZDe h.2 k.2)⟩
 ·obtain⟨s,hs,t,ht,rfl⟩:=Zf0 hu;exact den_mul (h.1 s hs) (k.1 t ht)
 ·clear h k
  induction l with
  | nil=>exact ZCr _
  | cons s l ih =>
    rw [Zf1,Zp5,Zbd,ZC8];refine ZDt ?_ ih;clear ih
    induction m with
    | nil=>exact ZCr _
    | cons t m ih =>
      rw [ZDq,Zbd,Zbd,ZDp];exact ZDt (cl_mul _ _) ih
end
section
variable {κ:Type}
theorem evl_lin (a:Rat) (f g:κ→Rat) (l:List (Rat × κ)):evl (λk=>a*f k+g k) l=a*evl f l+evl g l:=by
 induction l with
 | nil=>show(0:Rat)=a*0+0;rw [ZGu,ZEu]
 | cons t l ih=>simp only [evl];rw [ih];grind
theorem evl_zero (l:List (Rat × κ)):evl (λ_=>0) l=0:=by
 induction l with
 | nil=>rfl
 | cons t l ih=>simp only [evl];rw [ih,ZGu,ZEu]
theorem evl_swap (ψ:κ→κ→Rat) (l m:List (Rat × κ)):evl (λk=>evl (ψ k) m) l=evl (λk'=>evl (λk=>ψ k k') l) m:=by
 induction l with
 | nil=>show(0:Rat)=evl (λ_=>0) m;rw [evl_zero]
 | cons s l ih =>
   show s.1*evl (ψ s.2) m+evl (λk=>evl (ψ k) m) l=evl (λk'=>s.1*ψ s.2 k'+evl (λk=>ψ k k') l) m;rw [ih,evl_lin]
theorem evl_row (φ:κ→Rat) (mu:κ→κ→κ) (s:Rat × κ) (m:List (Rat × κ)):evl φ (m.map λt=>(s.1*t.1,mu s.2 t.2))=s.1*evl (λk=>φ (mu s.2 k)) m:=by
 induction m with
 | nil=>show(0:Rat)=s.1*0;rw [ZGu]
 | cons t m ih=>simp only [ZDq,evl];rw [ih];grind
theorem ZA0 (φ:κ→Rat) (mu:κ→κ→κ) (l m:List (Rat × κ)):evl φ (prodL mu l m)=evl (λk=>evl (λk'=>φ (mu k k')) m) l:=by
 induction l with
 | nil=>rfl
 | cons s l ih=>rw [Zf1,ZA2,ih,evl_row];rfl
theorem ZA1 [DecidableEq κ] (l:List (Rat × κ)) (x:κ):cof l x=evl (λk=>if k=x then 1 else 0) l:=by
 induction l with
 | nil=>rfl
 | cons t l ih =>
   simp only [cof,evl];rw [ih];split<;>grind
end
section
variable {κ:Type} {lt:κ→κ→Prop} [DecidableRel lt] {D:κ→Prop}
theorem evl_sumH (o:KO D lt) (φ:κ→Rat) (l:List (List (Rat × κ))) (h:∀p∈l,Srt D lt p):evl φ (sumH lt l)=(l.map (evl φ)).sum:=by
 fun_induction sumH lt l with
 | case1=>rfl
 | case2 p=>show evl φ p=evl φ p+0;rw [ZEu]
 | case3 p q l ih1 ih2 =>
   have h1:∀u∈(p :: q :: l).take ((p :: q :: l).length/2),Srt D lt u:=λu hu=>h u (ZDw hu);have h2:∀u∈(p :: q :: l).drop ((p :: q :: l).length/2),Srt D lt u:=λu hu=>h u (ZE2 hu);have happ:∀l m:List Rat,(l++m).sum=l.sum+m.sum:=λl m=>by
    induction l with
    | nil=>show m.sum=0+m.sum;rw [ZGr]
    | cons a l ih=>show a+(l++m).sum=a+l.sum+m.sum;rw [ih,Rat.add_assoc]
   rw [Zu2 o φ (Zhl o _ h1).dom (Zhl o _ h2).dom,ih1 h1,ih2 h2,←happ,←ZDd,ZEq]
end
structure RG {κ:Type} (D:κ→Prop) (cmp:κ→κ→Int) (mu:κ→κ→κ) (e:κ):Prop where
 o:CO cmp
 comm:∀a b,mu a b=mu b a
 assoc:∀a b c,mu (mu a b) c=mu a (mu b c)
 one:∀a,D a→mu a e=a
 cl:∀a b,D a→D b→D (mu a b)
 de:D e
section
variable {κ:Type} {D:κ→Prop} {cmp:κ→κ→Int} {mu:κ→κ→κ} {e:κ}
theorem CO.koD (o:CO cmp):KO D (λx y=>cmp y x < 0):=⟨o.ko.irr,o.ko.tr,λx y _ _=>o.ko.tri x y trivial trivial⟩
abbrev SQ (D:κ→Prop) (cmp:κ→κ→Int) (p:List (Rat × κ)):Prop:=Srt D (λx y=>cmp y x < 0) p
abbrev adG (cmp:κ→κ→Int) (p q:List (Rat × κ)):List (Rat × κ):=addP (λx y=>cmp y x < 0) p q
def mlG (cmp:κ→κ→Int) (mu:κ→κ→κ) (p q:List (Rat × κ)):List (Rat × κ):=sumG cmp (prodL mu p q)
theorem Zkz {l:List (Rat × κ)} (h:∀t∈l,D t.2):∀p∈l.map (λt=>if t.1=0 then [] else [t]),SQ D cmp p:=λp hp=>by
 obtain⟨t,ht,rfl⟩:=List.mem_map.1 hp;split
 ·exact .nil
 ·rename_i h0;exact Srt.nil.cons h0 (h t ht) (λu hu=>by cases hu)
theorem Zgy (o:CO cmp) {l:List (Rat × κ)} (h:∀t∈l,D t.2):SQ D cmp (sumG cmp l):=Zhl o.koD _ (Zkz h)
theorem Zu1 (o:CO cmp) (φ:κ→Rat) (l:List (Rat × κ)):evl φ (sumG cmp l)=evl φ l:=by
 unfold sumG;rw [evl_sumH (D:=λ_=>True) o.koD φ _ (Zkz λ_ _=>trivial)]
 induction l with
 | nil=>rfl
 | cons t l ih =>
   rw [ZDq,ZDq,List.sum_cons,ih];show _=t.1*φ t.2+evl φ l;congr 1;split
   ·rename_i h;rw [h,Rat.zero_mul];rfl
   ·show t.1*φ t.2+0=_;rw [ZEu]
theorem Zhb (o:CO cmp) {p q:List (Rat × κ)} (hp:SQ D cmp p) (hq:SQ D cmp q) (h:∀φ,evl φ p=evl φ q):p=q:=by
 classical exact Zjh o.koD hp hq λx=>by rw [ZA1,ZA1,h]
theorem Zil (o:CO cmp) (φ:κ→Rat) (p q:List (Rat × κ)):evl φ (adG cmp p q)=evl φ p+evl φ q:=Zu2 (D:=λ_=>True) o.koD φ (λ_ _=>trivial) (λ_ _=>trivial)
theorem Zgp (o:CO cmp) {p q:List (Rat × κ)} (hp:SQ D cmp p) (hq:SQ D cmp q):SQ D cmp (adG cmp p q):=Zc1 o.koD hp hq
theorem adG_comm (o:CO cmp) {p q:List (Rat × κ)} (hp:SQ D cmp p) (hq:SQ D cmp q):adG cmp p q=adG cmp q p:=by classical exact ZB5 o.koD hp hq
theorem ZB8 (o:CO cmp) {p q r:List (Rat × κ)} (hp:SQ D cmp p) (hq:SQ D cmp q) (hr:SQ D cmp r):adG cmp (adG cmp p q) r=adG cmp p (adG cmp q r):=by classical exact Zw2 o.koD hp hq hr
theorem adG_nil (p:List (Rat × κ)):adG cmp p []=p:=Zvd p
theorem adG_nil' (p:List (Rat × κ)):adG cmp [] p=p:=by cases p<;>simp [adG,addP]
theorem Zfu (o:CO cmp) (φ:κ→Rat) (p q:List (Rat × κ)):evl φ (mlG cmp mu p q)=evl (λk=>evl (λk'=>φ (mu k k')) q) p:=by
 unfold mlG;rw [Zu1 o,ZA0]
theorem Zbh (r:RG D cmp mu e) {p q:List (Rat × κ)} (hp:SQ D cmp p) (hq:SQ D cmp q):SQ D cmp (mlG cmp mu p q):=Zgy r.o λu hu=>by
 obtain⟨s,hs,t,ht,rfl⟩:=Zf0 hu;exact r.cl _ _ (hp.dom s hs) (hq.dom t ht)
theorem Zuj (r:RG D cmp mu e) {p q:List (Rat × κ)} (hp:SQ D cmp p) (hq:SQ D cmp q):mlG cmp mu p q=mlG cmp mu q p :=
 Zhb r.o (Zbh r hp hq) (Zbh r hq hp) λφ=>by
  rw [Zfu r.o,Zfu r.o,evl_swap];simp only [r.comm]
theorem Zix (r:RG D cmp mu e) {p q s:List (Rat × κ)} (hp:SQ D cmp p) (hq:SQ D cmp q) (hs:SQ D cmp s):mlG cmp mu (mlG cmp mu p q) s=mlG cmp mu p (mlG cmp mu q s) :=
 Zhb r.o (Zbh r (Zbh r hp hq) hs) (Zbh r hp (Zbh r hq hs)) λφ=>by
  simp only [Zfu r.o,r.assoc]
theorem mlG_add (r:RG D cmp mu e) {p q s:List (Rat × κ)} (hp:SQ D cmp p) (hq:SQ D cmp q) (hs:SQ D cmp s):mlG cmp mu (adG cmp p q) s=adG cmp (mlG cmp mu p s) (mlG cmp mu q s) :=
 Zhb r.o (Zbh r (Zgp r.o hp hq) hs) (Zgp r.o (Zbh r hp hs) (Zbh r hq hs)) λφ=>by
  rw [Zfu r.o,Zil r.o,Zil r.o,Zfu r.o,Zfu r.o]
theorem Zz1 (p:List (Rat × κ)):mlG cmp mu [] p=[]:=by
 show sumG cmp []=[];unfold sumG;simp [sumH]
theorem Zzq (r:RG D cmp mu e):SQ D cmp [((1:Rat),e)]:=Srt.nil.cons (show(1:Rat)≠0 by decide) r.de (λu hu=>by cases hu)
theorem Zz0 (r:RG D cmp mu e) {p:List (Rat × κ)} (hp:SQ D cmp p):mlG cmp mu p [((1:Rat),e)]=p :=
 Zhb r.o (Zbh r hp (Zzq r)) hp λφ=>by
  rw [Zfu r.o];have hd:=hp.dom;clear hp
  induction p with
  | nil=>rfl
  | cons t p ih =>
    show t.1*(1*φ (mu t.2 e)+0)+_=t.1*φ t.2+_;rw [ih λu hu=>hd u (.tail _ hu),r.one _ (hd t (.head _)),ZGl,ZEu]
def pwG (cmp:κ→κ→Int) (mu:κ→κ→κ) (e:κ) (a:List (Rat × κ)):Nat→List (Rat × κ)
 | 0=>[((1:Rat),e)]
 | n+1=>mlG cmp mu (pwG cmp mu e a n) a
theorem Zig (r:RG D cmp mu e) {a:List (Rat × κ)} (ha:SQ D cmp a):∀n,SQ D cmp (pwG cmp mu e a n)
 | 0=>Zzq r
 | n+1=>Zbh r (Zig r ha n) ha
def rfG (cmp:κ→κ→Int) (mu:κ→κ→κ) (e:κ) (P:Nat→List (Rat × κ)) (a d:List (Rat × κ)) (m:Nat):Nat→List (Rat × κ)
 | 0=>[]
 | k+1=>adG cmp (rfG cmp mu e P a d m k) (mlG cmp mu (mlG cmp mu (P k) (pwG cmp mu e a k)) (pwG cmp mu e d (m - k)))
def hnG (cmp:κ→κ→Int) (mu:κ→κ→κ) (e:κ) (P:Nat→List (Rat × κ)) (a d:List (Rat × κ)) (m:Nat):Nat→List (Rat × κ)
 | 0=>[]
 | n+1=>adG cmp (mlG cmp mu (hnG cmp mu e P a d m n) a) (mlG cmp mu (P (m - n)) (pwG cmp mu e d n))
theorem Zyq (r:RG D cmp mu e) {P:Nat→List (Rat × κ)} {a d:List (Rat × κ)} (hP:∀k,SQ D cmp (P k)) (ha:SQ D cmp a) (hd:SQ D cmp d) (m:Nat):∀k,SQ D cmp (rfG cmp mu e P a d m k)
 | 0=>.nil
 | k+1=>Zgp r.o (Zyq r hP ha hd m k) (Zbh r (Zbh r (hP k) (Zig r ha k)) (Zig r hd _))
theorem Zsm (r:RG D cmp mu e) {P:Nat→List (Rat × κ)} {a d:List (Rat × κ)} (hP:∀k,SQ D cmp (P k)) (ha:SQ D cmp a) (hd:SQ D cmp d) (m:Nat):∀n,SQ D cmp (hnG cmp mu e P a d m n)
 | 0=>.nil
 | n+1=>Zgp r.o (Zbh r (Zsm r hP ha hd m n) ha) (Zbh r (hP _) (Zig r hd _))
theorem horner (r:RG D cmp mu e) {P:Nat→List (Rat × κ)} {a d:List (Rat × κ)} (hP:∀k,SQ D cmp (P k)) (ha:SQ D cmp a) (hd:SQ D cmp d) (m:Nat):hnG cmp mu e P a d m (m+1)=rfG cmp mu e P a d m (m+1):=by
 have key:∀n,n≤m+1→adG cmp (rfG cmp mu e P a d m (m+1 - n)) (mlG cmp mu (hnG cmp mu e P a d m n) (pwG cmp mu e a (m+1 - n)))=rfG cmp mu e P a d m (m+1):=by
  intro n
  induction n with
  | zero=>intro _;show adG cmp _ (mlG cmp mu [] _)=_;rw [Zz1,adG_nil];rfl
  | succ n ih =>
    intro hn;rw [←ih zo];obtain⟨k,hk⟩:∃k,m=n+k:=⟨m - n,zo⟩;have e1:m+1 - (n+1)=k:=zo;have e2:m+1 - n=k+1:=zo;have e3:m - k=n:=zo;have e4:m - n=k:=zo;rw [e1,e2];show adG cmp _ (mlG cmp mu (adG cmp (mlG cmp mu _ a) (mlG cmp mu (P (m - n)) _)) _)=adG cmp (adG cmp _ (mlG cmp mu (mlG cmp mu (P k) _) (pwG cmp mu e d (m - k)))) (mlG cmp mu _ (mlG cmp mu (pwG cmp mu e a k) a));rw [e3,e4];have s1:=Zyq r hP ha hd m k;have s2:=Zsm r hP ha hd m n;have s3:=Zig r ha k;have s4:=Zig r hd n;have s5:=hP k;generalize rfG cmp mu e P a d m k=R at *;generalize hnG cmp mu e P a d m n=H at *;generalize pwG cmp mu e a k=A at *
    generalize pwG cmp mu e d n=N at *;generalize P k=Q at *;rw [mlG_add r (Zbh r s2 ha) (Zbh r s5 s4) s3,Zix r s2 ha s3,Zuj r ha s3,Zix r s5 s4 s3,Zuj r s4 s3,←Zix r s5 s3 s4,
     ZB8 r.o s1 (Zbh r (Zbh r s5 s3) s4) (Zbh r s2 (Zbh r s3 ha)),adG_comm r.o (Zbh r s2 (Zbh r s3 ha)) (Zbh r (Zbh r s5 s3) s4)]
 have h:=key (m+1) (ZCi _);rw [ZFz] at h;rw [←h];show _=adG cmp [] (mlG cmp mu _ [((1:Rat),e)]);rw [Zz0 r (Zsm r hP ha hd m _),adG_nil']
end
end Go.Pol
