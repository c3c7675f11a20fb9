/- Contracts of the functions that the law reaches, and the rules by which they are walked. They say what a call hands back for every input within the bounds that each names; no other condition. -/
import Derived.Test.YtpkcophcldjboaaGreatDoorBf3
import Derived.Sort.AssemblyPlain
import Derived.Shelf.SlSortCmp.PdqK
import Derived.Shelf.SlSortCmp.NoneTotal
import Derived.Sort.LotD5
import Derived.Lib.Builder
import Derived.Lib.UnsafeStr
import Derived.Laws.Externs
import Derived.Shelf.RegionOpenPlain
set_option linter.unusedSimpArgs false
set_option linter.unusedVariables false
set_option maxRecDepth 20000
set_option maxHeartbeats 16000000
namespace Go.Pol
section
def cl (q:Rat):Nat:=(q.num.natAbs+q.den - 1)/q.den
theorem Zzg {q:Rat} {B:Nat}:cl q≤B↔q.num.natAbs≤B*q.den:=by
 have h:0 < q.den:=Nat.pos_of_ne_zero q.den_nz;unfold cl;rw [←Nat.lt_succ_iff,Nat.div_lt_iff_lt_mul h,Nat.succ_mul];omega
theorem cl_self (q:Rat):q.num.natAbs≤cl q*q.den:=Zzg.1 (Nat.le_refl _)
theorem Znr {q:Rat} {D:Nat} (h:q.den ∣ D):BQ D (cl q) q:=⟨h,cl_self q⟩
theorem cl_add (a b:Rat):cl (a+b)≤cl a+cl b:=Zzg.2 ((Znr (Nat.dvd_mul_right a.den b.den)).add (Znr (Nat.dvd_mul_left b.den a.den))).2
theorem cl_mul (a b:Rat):cl (a*b)≤cl a*cl b:=Zzg.2 ((Znr (Nat.dvd_refl a.den)).mul (Znr (Nat.dvd_refl b.den))).2
theorem Zzc {a b:Rat} {D:Nat} (h:a.den ∣ D) (k:b.den ∣ D):(a+b).den ∣ D:=((Znr h).add (Znr k)).1
theorem den_mul {a b:Rat} {D E:Nat} (h:a.den ∣ D) (k:b.den ∣ E):(a*b).den ∣ D*E:=((Znr h).mul (Znr k)).1
variable {κ:Type}
def n1 (l:List (Rat × κ)):Nat:=(l.map λt=>cl t.1).sum
theorem Zba (t:Rat × κ) (l:List (Rat × κ)):n1 (t :: l)=cl t.1+n1 l:=rfl
theorem Zxn (l m:List (Rat × κ)):n1 (l++m)=n1 l+n1 m:=by unfold n1;rw [List.map_append,List.sum_append]
theorem n1_mem {l:List (Rat × κ)} {t:Rat × κ} (h:t∈l):cl t.1≤n1 l:=by
 induction l with
 | nil=>cases h
 | cons s l ih =>
   rw [Zba];rcases List.mem_cons.1 h with rfl | h
   ·omega
   ·have:=ih h;omega
theorem Zxm (f:Rat × κ→Bool) (l:List (Rat × κ)):n1 (l.filter f)≤n1 l:=by
 induction l with
 | nil=>exact Nat.le_refl _
 | cons t l ih =>
   rw [List.filter_cons];split
   ·rw [Zba,Zba];omega
   ·rw [Zba];omega
theorem n1_take (l:List (Rat × κ)) (i:Nat):n1 (l.take i)≤n1 l:=by
 have:=Zxn (l.take i) (l.drop i);rw [List.take_append_drop] at this;omega
def NB (D B:Nat) (l:List (Rat × κ)):Prop:=(∀t∈l,t.1.den ∣ D)∧n1 l≤B
theorem NB.nil (D B:Nat):NB D B ([]:List (Rat × κ)):=⟨λt h=>(by cases h),Nat.zero_le _⟩
theorem NB.mono {D B E C:Nat} {l:List (Rat × κ)} (h:NB D B l) (hd:D ∣ E) (hb:B≤C):NB E C l:=⟨λt ht=>Nat.dvd_trans (h.1 t ht) hd,Nat.le_trans h.2 hb⟩
theorem NB.bq {D B:Nat} {l:List (Rat × κ)} (h:NB D B l) {t:Rat × κ} (ht:t∈l):BQ D B t.1:=(Znr (h.1 t ht)).mono (Nat.dvd_refl _) (Nat.le_trans (n1_mem ht) h.2)
theorem NB.filter {D B:Nat} {l:List (Rat × κ)} (h:NB D B l) (f:Rat × κ→Bool):NB D B (l.filter f):=⟨λt ht=>h.1 t (List.mem_filter.1 ht).1,Nat.le_trans (Zxm f l) h.2⟩
theorem NB.take {D B:Nat} {l:List (Rat × κ)} (h:NB D B l) (i:Nat):NB D B (l.take i):=⟨λt ht=>h.1 t (List.mem_of_mem_take ht),Nat.le_trans (n1_take l i) h.2⟩
theorem NB.app {D B C:Nat} {l m:List (Rat × κ)} (h:NB D B l) (k:NB D C m):NB D (B+C) (l++m) :=
 ⟨λt ht=>(List.mem_append.1 ht).elim (h.1 t) (k.1 t),by rw [Zxn];exact Nat.add_le_add h.2 k.2⟩
end
section
variable {κ:Type} [DecidableEq κ]
theorem n1_addC (l:List (Rat × κ)) (t:Rat × κ):n1 (addC l t)≤n1 l+cl t.1:=by
 induction l with
 | nil=>show cl t.1+0≤0+cl t.1;omega
 | cons s l ih =>
   unfold addC;split
   ·rw [Zba,Zba];have:=cl_add s.1 t.1;simp only;omega
   ·rw [Zba,Zba];omega
theorem den_addC {D:Nat} {l:List (Rat × κ)} {t:Rat × κ} (h:∀s∈l,s.1.den ∣ D) (ht:t.1.den ∣ D):∀s∈addC l t,s.1.den ∣ D:=by
 induction l with
 | nil=>intro s hs;rw [List.mem_singleton.1 hs];exact ht
 | cons u l ih =>
   intro s hs;unfold addC at hs;split at hs
   ·rcases List.mem_cons.1 hs with rfl | hs
    ·exact Zzc (h u (.head _)) ht
    ·exact h s (.tail _ hs)
   ·rcases List.mem_cons.1 hs with rfl | hs
    ·exact h _ (.head _)
    ·exact ih (λv hv=>h v (.tail _ hv)) s hs
theorem NB.addC {D B C:Nat} {l:List (Rat × κ)} (h:NB D B l) {t:Rat × κ} (ht:t.1.den ∣ D) (hc:cl t.1≤C):NB D (B+C) (addC l t) :=
 ⟨den_addC h.1 ht,Nat.le_trans (n1_addC l t) (Nat.add_le_add h.2 hc)⟩
end
section
variable {κ:Type} {lt:κ→κ→Prop} [DecidableRel lt]
theorem NB.addP {D B C:Nat} {p q:List (Rat × κ)} (hp:NB D B p) (hq:NB D C q):NB D (B+C) (addP lt p q):=by
 suffices h:(∀t∈Go.Pol.addP lt p q,t.1.den ∣ D)∧n1 (Go.Pol.addP lt p q)≤n1 p+n1 q from⟨h.1,Nat.le_trans h.2 (Nat.add_le_add hp.2 hq.2)⟩
 replace hp:=hp.1
 replace hq:=hq.1
 fun_induction Go.Pol.addP lt p q with
 | case1 q=>exact⟨hq,by show n1 q≤0+n1 q;omega⟩
 | case2 s p=>exact⟨hp,Nat.le_add_right _ _⟩
 | case3 s p u q h1 ih =>
   obtain⟨a,b⟩:=ih (λt h=>hp t (.tail _ h)) hq;exact⟨λt ht=>by
    rcases List.mem_cons.1 ht with rfl | ht
    ·exact hp _ (.head _)
    ·exact a t ht,by rw [Zba,Zba];omega⟩
 | case4 s p u q h1 h2 ih =>
   obtain⟨a,b⟩:=ih hp (λt h=>hq t (.tail _ h));exact⟨λt ht=>by
    rcases List.mem_cons.1 ht with rfl | ht
    ·exact hq _ (.head _)
    ·exact a t ht,by rw [Zba,Zba u];omega⟩
 | case5 s p u q h1 h2 h3 ih =>
   obtain⟨a,b⟩:=ih (λt h=>hp t (.tail _ h)) (λt h=>hq t (.tail _ h));exact⟨a,by rw [Zba,Zba];omega⟩
 | case6 s p u q h1 h2 h3 ih =>
   obtain⟨a,b⟩:=ih (λt h=>hp t (.tail _ h)) (λt h=>hq t (.tail _ h));exact⟨λt ht=>by
    rcases List.mem_cons.1 ht with rfl | ht
    ·exact Zzc (hp _ (.head _)) (hq _ (.head _))
    ·exact a t ht,by rw [Zba,Zba,Zba];have:=cl_add s.1 u.1;simp only;omega⟩
theorem sumH_nb {D:Nat} (l:List (List (Rat × κ))) (h:∀p∈l,∀t∈p,t.1.den ∣ D):NB D ((l.map n1).sum) (sumH lt l):=by
 fun_induction sumH lt l with
 | case1=>exact .nil _ _
 | case2 p=>exact⟨h p (.head _),by simp⟩
 | case3 p q l ih1 ih2 =>
   have:=(ih1 λu hu=>h u (List.mem_of_mem_take hu)).addP (lt:=lt) (ih2 λu hu=>h u (List.mem_of_mem_drop hu))
   rwa [←List.sum_append,←List.map_append,List.take_append_drop] at this
end
section
variable {κ:Type} {cmp:κ→κ→Int}
theorem NB.sumG {D B:Nat} {l:List (Rat × κ)} (h:NB D B l):NB D B (sumG cmp l):=by
 have:=sumH_nb (lt:=λx y=>cmp y x < 0) (D:=D) (l.map λt=>if t.1=0 then [] else [t]) λp hp t ht=>by
  obtain⟨s,hs,rfl⟩:=List.mem_map.1 hp;split at ht
  ·cases ht
  ·rw [List.mem_singleton.1 ht];exact h.1 s hs
 refine this.mono (Nat.dvd_refl _) (Nat.le_trans ?_ h.2);clear this h
 induction l with
 | nil=>exact Nat.le_refl _
 | cons t l ih =>
   rw [List.map_cons,List.map_cons,List.sum_cons,Zba];refine Nat.add_le_add ?_ ih;split
   ·exact Nat.zero_le _
   ·show cl t.1+0≤_;omega
def prodL (mu:κ→κ→κ) (l m:List (Rat × κ)):List (Rat × κ):=l.flatMap λs=>m.map λt=>(s.1*t.1,mu s.2 t.2)
theorem Zft (mu:κ→κ→κ) (s:Rat × κ) (l m:List (Rat × κ)):prodL mu (s :: l) m=(m.map λt=>(s.1*t.1,mu s.2 t.2))++prodL mu l m:=rfl
theorem Zko (mu:κ→κ→κ) (l m:List (Rat × κ)):(prodL mu l m).length=l.length*m.length:=by
 induction l with
 | nil=>simp [prodL]
 | cons s l ih=>rw [Zft,List.length_append,List.length_map,ih,List.length_cons,Nat.succ_mul,Nat.add_comm]
theorem Zfs {mu:κ→κ→κ} {l m:List (Rat × κ)} {u:Rat × κ} (h:u∈prodL mu l m):∃s∈l,∃t∈m,u=(s.1*t.1,mu s.2 t.2):=by
 obtain⟨s,hs,hu⟩:=List.mem_flatMap.1 h;obtain⟨t,ht,rfl⟩:=List.mem_map.1 hu;exact⟨s,hs,t,ht,rfl⟩
theorem NB.prodL {mu:κ→κ→κ} {D B E C:Nat} {l m:List (Rat × κ)} (h:NB D B l) (k:NB E C m):NB (D*E) (B*C) (prodL mu l m):=by
 refine⟨λu hu=>?_,Nat.le_trans ?_ (Nat.mul_le_mul h.2 k.2)⟩
 ·obtain⟨s,hs,t,ht,rfl⟩:=Zfs hu;exact den_mul (h.1 s hs) (k.1 t ht)
 ·clear h k
  induction l with
  | nil=>exact Nat.zero_le _
  | cons s l ih =>
    rw [Zft,Zxn,Zba,Nat.add_mul];refine Nat.add_le_add ?_ ih;clear ih
    induction m with
    | nil=>exact Nat.zero_le _
    | cons t m ih =>
      rw [List.map_cons,Zba,Zba,Nat.mul_add];exact Nat.add_le_add (cl_mul _ _) ih
end
section
variable {κ:Type}
theorem evl_lin (a:Rat) (f g:κ→Rat) (l:List (Rat × κ)):evl (λk=>a*f k+g k) l=a*evl f l+evl g l:=by
 induction l with
 | nil=>show(0:Rat)=a*0+0;rw [Rat.mul_zero,Rat.add_zero]
 | cons t l ih=>simp only [evl];rw [ih];grind
theorem evl_zero (l:List (Rat × κ)):evl (λ_=>0) l=0:=by
 induction l with
 | nil=>rfl
 | cons t l ih=>simp only [evl];rw [ih,Rat.mul_zero,Rat.add_zero]
theorem evl_swap (ψ:κ→κ→Rat) (l m:List (Rat × κ)):evl (λk=>evl (ψ k) m) l=evl (λk'=>evl (λk=>ψ k k') l) m:=by
 induction l with
 | nil=>show(0:Rat)=evl (λ_=>0) m;rw [evl_zero]
 | cons s l ih =>
   show s.1*evl (ψ s.2) m+evl (λk=>evl (ψ k) m) l=evl (λk'=>s.1*ψ s.2 k'+evl (λk=>ψ k k') l) m;rw [ih,evl_lin]
theorem evl_row (φ:κ→Rat) (mu:κ→κ→κ) (s:Rat × κ) (m:List (Rat × κ)):evl φ (m.map λt=>(s.1*t.1,mu s.2 t.2))=s.1*evl (λk=>φ (mu s.2 k)) m:=by
 induction m with
 | nil=>show(0:Rat)=s.1*0;rw [Rat.mul_zero]
 | cons t m ih=>simp only [List.map_cons,evl];rw [ih];grind
theorem Zyu (φ:κ→Rat) (mu:κ→κ→κ) (l m:List (Rat × κ)):evl φ (prodL mu l m)=evl (λk=>evl (λk'=>φ (mu k k')) m) l:=by
 induction l with
 | nil=>rfl
 | cons s l ih=>rw [Zft,Zyw,ih,evl_row];rfl
theorem Zyv [DecidableEq κ] (l:List (Rat × κ)) (x:κ):cof l x=evl (λk=>if k=x then 1 else 0) l:=by
 induction l with
 | nil=>rfl
 | cons t l ih =>
   simp only [cof,evl];rw [ih];split<;>grind
end
section
variable {κ:Type} {lt:κ→κ→Prop} [DecidableRel lt] {D:κ→Prop}
theorem evl_sumH (o:KO D lt) (φ:κ→Rat) (l:List (List (Rat × κ))) (h:∀p∈l,Srt D lt p):evl φ (sumH lt l)=(l.map (evl φ)).sum:=by
 fun_induction sumH lt l with
 | case1=>rfl
 | case2 p=>show evl φ p=evl φ p+0;rw [Rat.add_zero]
 | case3 p q l ih1 ih2 =>
   have h1:∀u∈(p :: q :: l).take ((p :: q :: l).length/2),Srt D lt u:=λu hu=>h u (List.mem_of_mem_take hu);have h2:∀u∈(p :: q :: l).drop ((p :: q :: l).length/2),Srt D lt u:=λu hu=>h u (List.mem_of_mem_drop hu);have happ:∀l m:List Rat,(l++m).sum=l.sum+m.sum:=λl m=>by
    induction l with
    | nil=>show m.sum=0+m.sum;rw [Rat.zero_add]
    | cons a l ih=>show a+(l++m).sum=a+l.sum+m.sum;rw [ih,Rat.add_assoc]
   rw [Ztf o φ (Zg8 o _ h1).dom (Zg8 o _ h2).dom,ih1 h1,ih2 h2,←happ,←List.map_append,List.take_append_drop]
end
structure RG {κ:Type} (D:κ→Prop) (cmp:κ→κ→Int) (mu:κ→κ→κ) (e:κ):Prop where
 o:CO cmp
 comm:∀a b,mu a b=mu b a
 assoc:∀a b c,mu (mu a b) c=mu a (mu b c)
 one:∀a,D a→mu a e=a
 cl:∀a b,D a→D b→D (mu a b)
 de:D e
section
variable {κ:Type} {D:κ→Prop} {cmp:κ→κ→Int} {mu:κ→κ→κ} {e:κ}
theorem CO.koD (o:CO cmp):KO D (λx y=>cmp y x < 0):=⟨o.ko.irr,o.ko.tr,λx y _ _=>o.ko.tri x y trivial trivial⟩
abbrev SQ (D:κ→Prop) (cmp:κ→κ→Int) (p:List (Rat × κ)):Prop:=Srt D (λx y=>cmp y x < 0) p
abbrev adG (cmp:κ→κ→Int) (p q:List (Rat × κ)):List (Rat × κ):=addP (λx y=>cmp y x < 0) p q
def mlG (cmp:κ→κ→Int) (mu:κ→κ→κ) (p q:List (Rat × κ)):List (Rat × κ):=sumG cmp (prodL mu p q)
theorem Zkc {l:List (Rat × κ)} (h:∀t∈l,D t.2):∀p∈l.map (λt=>if t.1=0 then [] else [t]),SQ D cmp p:=λp hp=>by
 obtain⟨t,ht,rfl⟩:=List.mem_map.1 hp;split
 ·exact .nil
 ·rename_i h0;exact Srt.nil.cons h0 (h t ht) (λu hu=>by cases hu)
theorem Zgo (o:CO cmp) {l:List (Rat × κ)} (h:∀t∈l,D t.2):SQ D cmp (sumG cmp l):=Zg8 o.koD _ (Zkc h)
theorem Zte (o:CO cmp) (φ:κ→Rat) (l:List (Rat × κ)):evl φ (sumG cmp l)=evl φ l:=by
 unfold sumG;rw [evl_sumH (D:=λ_=>True) o.koD φ _ (Zkc λ_ _=>trivial)]
 induction l with
 | nil=>rfl
 | cons t l ih =>
   rw [List.map_cons,List.map_cons,List.sum_cons,ih];show _=t.1*φ t.2+evl φ l;congr 1;split
   ·rename_i h;rw [h,Rat.zero_mul];rfl
   ·show t.1*φ t.2+0=_;rw [Rat.add_zero]
theorem Zh5 (o:CO cmp) {p q:List (Rat × κ)} (hp:SQ D cmp p) (hq:SQ D cmp q) (h:∀φ,evl φ p=evl φ q):p=q:=by
 classical exact Ziy o.koD hp hq λx=>by rw [Zyv,Zyv,h]
theorem Zrf (o:CO cmp) (φ:κ→Rat) (p q:List (Rat × κ)):evl φ (adG cmp p q)=evl φ p+evl φ q:=Ztf (D:=λ_=>True) o.koD φ (λ_ _=>trivial) (λ_ _=>trivial)
theorem Zgh (o:CO cmp) {p q:List (Rat × κ)} (hp:SQ D cmp p) (hq:SQ D cmp q):SQ D cmp (adG cmp p q):=Zc1 o.koD hp hq
theorem adG_comm (o:CO cmp) {p q:List (Rat × κ)} (hp:SQ D cmp p) (hq:SQ D cmp q):adG cmp p q=adG cmp q p:=by classical exact Zzv o.koD hp hq
theorem Zzy (o:CO cmp) {p q r:List (Rat × κ)} (hp:SQ D cmp p) (hq:SQ D cmp q) (hr:SQ D cmp r):adG cmp (adG cmp p q) r=adG cmp p (adG cmp q r):=by classical exact Zvb o.koD hp hq hr
theorem adG_nil (p:List (Rat × κ)):adG cmp p []=p:=Ztt p
theorem adG_nil' (p:List (Rat × κ)):adG cmp [] p=p:=by cases p<;>simp [adG,addP]
theorem Zfn (o:CO cmp) (φ:κ→Rat) (p q:List (Rat × κ)):evl φ (mlG cmp mu p q)=evl (λk=>evl (λk'=>φ (mu k k')) q) p:=by
 unfold mlG;rw [Zte o,Zyu]
theorem Zbe (r:RG D cmp mu e) {p q:List (Rat × κ)} (hp:SQ D cmp p) (hq:SQ D cmp q):SQ D cmp (mlG cmp mu p q):=Zgo r.o λu hu=>by
 obtain⟨s,hs,t,ht,rfl⟩:=Zfs hu;exact r.cl _ _ (hp.dom s hs) (hq.dom t ht)
theorem Zsv (r:RG D cmp mu e) {p q:List (Rat × κ)} (hp:SQ D cmp p) (hq:SQ D cmp q):mlG cmp mu p q=mlG cmp mu q p :=
 Zh5 r.o (Zbe r hp hq) (Zbe r hq hp) λφ=>by
  rw [Zfn r.o,Zfn r.o,evl_swap];simp only [r.comm]
theorem Zig (r:RG D cmp mu e) {p q s:List (Rat × κ)} (hp:SQ D cmp p) (hq:SQ D cmp q) (hs:SQ D cmp s):mlG cmp mu (mlG cmp mu p q) s=mlG cmp mu p (mlG cmp mu q s) :=
 Zh5 r.o (Zbe r (Zbe r hp hq) hs) (Zbe r hp (Zbe r hq hs)) λφ=>by
  simp only [Zfn r.o,r.assoc]
theorem mlG_add (r:RG D cmp mu e) {p q s:List (Rat × κ)} (hp:SQ D cmp p) (hq:SQ D cmp q) (hs:SQ D cmp s):mlG cmp mu (adG cmp p q) s=adG cmp (mlG cmp mu p s) (mlG cmp mu q s) :=
 Zh5 r.o (Zbe r (Zgh r.o hp hq) hs) (Zgh r.o (Zbe r hp hs) (Zbe r hq hs)) λφ=>by
  rw [Zfn r.o,Zrf r.o,Zrf r.o,Zfn r.o,Zfn r.o]
theorem Zxr (p:List (Rat × κ)):mlG cmp mu [] p=[]:=by
 show sumG cmp []=[];unfold sumG;simp [sumH]
theorem Zxc (r:RG D cmp mu e):SQ D cmp [((1:Rat),e)]:=Srt.nil.cons (show(1:Rat)≠0 by decide) r.de (λu hu=>by cases hu)
theorem Zxq (r:RG D cmp mu e) {p:List (Rat × κ)} (hp:SQ D cmp p):mlG cmp mu p [((1:Rat),e)]=p :=
 Zh5 r.o (Zbe r hp (Zxc r)) hp λφ=>by
  rw [Zfn r.o];have hd:=hp.dom;clear hp
  induction p with
  | nil=>rfl
  | cons t p ih =>
    show t.1*(1*φ (mu t.2 e)+0)+_=t.1*φ t.2+_;rw [ih λu hu=>hd u (.tail _ hu),r.one _ (hd t (.head _)),Rat.one_mul,Rat.add_zero]
def pwG (cmp:κ→κ→Int) (mu:κ→κ→κ) (e:κ) (a:List (Rat × κ)):Nat→List (Rat × κ)
 | 0=>[((1:Rat),e)]
 | n+1=>mlG cmp mu (pwG cmp mu e a n) a
theorem Zh0 (r:RG D cmp mu e) {a:List (Rat × κ)} (ha:SQ D cmp a):∀n,SQ D cmp (pwG cmp mu e a n)
 | 0=>Zxc r
 | n+1=>Zbe r (Zh0 r ha n) ha
def rfG (cmp:κ→κ→Int) (mu:κ→κ→κ) (e:κ) (P:Nat→List (Rat × κ)) (a d:List (Rat × κ)) (m:Nat):Nat→List (Rat × κ)
 | 0=>[]
 | k+1=>adG cmp (rfG cmp mu e P a d m k) (mlG cmp mu (mlG cmp mu (P k) (pwG cmp mu e a k)) (pwG cmp mu e d (m - k)))
def hnG (cmp:κ→κ→Int) (mu:κ→κ→κ) (e:κ) (P:Nat→List (Rat × κ)) (a d:List (Rat × κ)) (m:Nat):Nat→List (Rat × κ)
 | 0=>[]
 | n+1=>adG cmp (mlG cmp mu (hnG cmp mu e P a d m n) a) (mlG cmp mu (P (m - n)) (pwG cmp mu e d n))
theorem Zwi (r:RG D cmp mu e) {P:Nat→List (Rat × κ)} {a d:List (Rat × κ)} (hP:∀k,SQ D cmp (P k)) (ha:SQ D cmp a) (hd:SQ D cmp d) (m:Nat):∀k,SQ D cmp (rfG cmp mu e P a d m k)
 | 0=>.nil
 | k+1=>Zgh r.o (Zwi r hP ha hd m k) (Zbe r (Zbe r (hP k) (Zh0 r ha k)) (Zh0 r hd _))
theorem Zq8 (r:RG D cmp mu e) {P:Nat→List (Rat × κ)} {a d:List (Rat × κ)} (hP:∀k,SQ D cmp (P k)) (ha:SQ D cmp a) (hd:SQ D cmp d) (m:Nat):∀n,SQ D cmp (hnG cmp mu e P a d m n)
 | 0=>.nil
 | n+1=>Zgh r.o (Zbe r (Zq8 r hP ha hd m n) ha) (Zbe r (hP _) (Zh0 r hd _))
theorem horner (r:RG D cmp mu e) {P:Nat→List (Rat × κ)} {a d:List (Rat × κ)} (hP:∀k,SQ D cmp (P k)) (ha:SQ D cmp a) (hd:SQ D cmp d) (m:Nat):hnG cmp mu e P a d m (m+1)=rfG cmp mu e P a d m (m+1):=by
 have key:∀n,n≤m+1→adG cmp (rfG cmp mu e P a d m (m+1 - n)) (mlG cmp mu (hnG cmp mu e P a d m n) (pwG cmp mu e a (m+1 - n)))=rfG cmp mu e P a d m (m+1):=by
  intro n
  induction n with
  | zero=>intro _;show adG cmp _ (mlG cmp mu [] _)=_;rw [Zxr,adG_nil];rfl
  | succ n ih =>
    intro hn;rw [←ih (by omega)];obtain⟨k,hk⟩:∃k,m=n+k:=⟨m - n,by omega⟩;have e1:m+1 - (n+1)=k:=by omega
    have e2:m+1 - n=k+1:=by omega
    have e3:m - k=n:=by omega
    have e4:m - n=k:=by omega
    rw [e1,e2];show adG cmp _ (mlG cmp mu (adG cmp (mlG cmp mu _ a) (mlG cmp mu (P (m - n)) _)) _)=adG cmp (adG cmp _ (mlG cmp mu (mlG cmp mu (P k) _) (pwG cmp mu e d (m - k)))) (mlG cmp mu _ (mlG cmp mu (pwG cmp mu e a k) a));rw [e3,e4];have s1:=Zwi r hP ha hd m k;have s2:=Zq8 r hP ha hd m n;have s3:=Zh0 r ha k;have s4:=Zh0 r hd n;have s5:=hP k;generalize rfG cmp mu e P a d m k=R at *;generalize hnG cmp mu e P a d m n=H at *;generalize pwG cmp mu e a k=A at *;generalize pwG cmp mu e d n=N at *;generalize P k=Q at *;rw [mlG_add r (Zbe r s2 ha) (Zbe r s5 s4) s3,Zig r s2 ha s3,Zsv r ha s3,Zig r s5 s4 s3,Zsv r s4 s3,←Zig r s5 s3 s4,
     Zzy r.o s1 (Zbe r (Zbe r s5 s3) s4) (Zbe r s2 (Zbe r s3 ha)),adG_comm r.o (Zbe r s2 (Zbe r s3 ha)) (Zbe r (Zbe r s5 s3) s4)]
 have h:=key (m+1) (Nat.le_refl _);rw [Nat.sub_self] at h;rw [←h];show _=adG cmp [] (mlG cmp mu _ [((1:Rat),e)]);rw [Zxq r (Zq8 r hP ha hd m _),adG_nil']
end
end Go.Pol
namespace Go.Proofs.YtpkcophcldjboaaGreatDoor
open Go Go.RowKit Go.Pg Go.Pol Go.Proofs.Tryz
attribute [-bool_to_prop] Bool.and_eq_decide Bool.or_eq_decide Bool.decide_beq_decide decide_eq_decide
attribute [local go_sem] underlying3 underlying4 underlying128 underlying50 underlying52 underlying54 underlying39 underlying55 underlying57 underlying26 underlying27 sz3 by3 z3 szB zB Zas zRat Zay zInt Zax zNat Zah Zan Zai Bool.and_self Zal Za7 zSlQ szQT byQT zQT Za9 zSlT szQP zQP
abbrev gatM (l:QTs):QTs:=sumG ordQ l
theorem gat_nil:gatM []=[]:=by simp [gatM,sumG,sumH]
theorem Znd (t:Rat × List Qt):gatM [t]=if t.1=0 then [] else [t]:=by simp [gatM,sumG,sumH]
theorem gat_two {l:QTs} (h:2≤l.length):gatM l=Za6 (gatM (l.take (l.length/2))) (gatM (l.drop (l.length/2))):=by
 match l,h with
 | a :: b :: r,_ =>
   unfold gatM sumG;rw [List.map_take,List.map_drop];show sumH _ (_ :: _ :: r.map _)=_;rw [sumH];simp only [List.length_cons,List.length_map];rfl
theorem Zyh:∀(n:Nat) (l:QTs) {j m:Nat},l.length=n→QK l j m→QK (gatM l) (n*(j+1) - 1) m∧(gatM l).length≤n:=by
 intro n
 induction n using Nat.strongRecOn with
 | _ n ih =>
   intro l j m hl hq
   match n,l,hl with
   | 0,[],_=>rw [gat_nil];exact⟨λt ht=>by(cases ht),Nat.le_refl _⟩
   | 1,[t],_ =>
     rw [Znd];split
     ·exact⟨λt ht=>by(cases ht),Nat.zero_le _⟩
     ·exact⟨hq.mono (by omega) (Nat.le_refl _),by simp⟩
   | n+2,l,hl =>
     rw [gat_two (by omega)];have ht:(l.take (l.length/2)).length=(n+2)/2:=by rw [List.length_take];omega
     have hd:(l.drop (l.length/2)).length=n+2 - (n+2)/2:=by rw [List.length_drop];omega
     obtain⟨a1,a2⟩:=ih _ (by omega) (l.take (l.length/2)) ht (λt h=>hq t (List.mem_of_mem_take h));obtain⟨b1,b2⟩:=ih _ (by omega) (l.drop (l.length/2)) hd (λt h=>hq t (List.mem_of_mem_drop h));have e:(n+2)*(j+1)=(n+2)/2*(j+1)+(n+2 - (n+2)/2)*(j+1):=by rw [←Nat.add_mul];congr 1;omega
     have p1:1*(j+1)≤(n+2)/2*(j+1):=Nat.mul_le_mul_right _ (by omega);have p2:1*(j+1)≤(n+2 - (n+2)/2)*(j+1):=Nat.mul_le_mul_right _ (by omega);refine⟨(join_QK a1 b1).mono (by omega) (Nat.le_refl _),?_⟩;refine Nat.le_trans (Zfe _ _) ?_;omega
def GH (l:QTs) (k m:Nat):Prop:=∀s:QTs,s <:+: l→QK s k m∧QK (gatM s) k m
theorem GH.part {l s:QTs} {k m:Nat} (h:GH l k m) (hs:s <:+: l):GH s k m:=λu hu=>h u (hu.trans hs)
theorem nb_qk {D B a b:Nat} {l:QTs} (h:NB D B l) (h0:D≠0) (hd:D < 65536 ^ a) (hb:B < 65536 ^ b) {m:Nat} (hm:∀t∈l,t.2.length≤m):QK l (a+b) m :=
 λt ht=>⟨bq_sz (h.bq ht) h0 hd hb,hm t ht⟩
theorem Zj1 {l:QTs} {m:Nat} (hm:∀t∈l,t.2.length≤m):∀t∈gatM l,t.2.length≤m:=by
 have:∃j,QK l j m:=by
  induction l with
  | nil=>exact⟨0,λt ht=>by cases ht⟩
  | cons a l ih =>
    obtain⟨j,hj⟩:=ih λt ht=>hm t (.tail _ ht);refine⟨max j (max (toL a.1.num.natAbs).length (toL a.1.den).length),λt ht=>?_⟩;rcases List.mem_cons.1 ht with rfl | ht
    ·exact⟨⟨by omega,by omega⟩,hm _ (.head _)⟩
    ·exact⟨(hj t ht).1.mono (by omega),(hj t ht).2⟩
 obtain⟨j,hj⟩:=this;exact λt ht=>((Zyh _ l rfl hj).1 t ht).2
end Go.Proofs.YtpkcophcldjboaaGreatDoor
namespace Go.Proofs.YtpkcophcldjboaaGreatDoor
open Go Go.RowKit Go.Pg Go.Proofs.Tryz
attribute [-bool_to_prop] Bool.and_eq_decide Bool.or_eq_decide Bool.decide_beq_decide decide_eq_decide
attribute [local go_sem] underlying3 underlying4 underlying5 underlying9 underlying45 sz3 by3 z3 Zbh Zcm zStr
theorem Zi3:kwL.length=29:=rfl
theorem decode_1 (s:ByteArray) (k:Nat) (hk:k < s.size) (h:gB s k < 128):(Utf8.decode s k).2=1:=by
 have e:(s[k]'hk).toNat=gB s k:=by
  unfold gB;rw [List.getD_eq_getElem?_getD,List.getElem?_eq_getElem (by simpa using hk)];rfl
 rw [decode_ascii s k hk (by omega)]
theorem ld_ascii {c:Nat} (h:(letB c || digB c)=true):c < 128:=by
 unfold letB digB at h;simp only [Bool.or_eq_true,decide_eq_true_eq] at h;omega
theorem rnName (s:ByteArray) (hs:s.size≤1000000000):Pure prog 169 [strA s] (.v (.bool (namB s))):=by
 have he:=Zj9 s;unfold namB;by_cases h0:0 < s.size∧s.size≤20
 ·rw [decide_eq_true h0,Bool.true_and];have h00:(decide (s.size=0))=false:=decide_eq_false (by omega);rw [h00] at he;have hk:=Zr4 (gB s 0) (gB_lt s 0);have hg:=gB_at s 0
  cases hl:letB (gB s 0) with
  | false =>
    rw [hl] at hk;rw [Bool.false_and];refine Zaa (tok:=0) func169 rfl ntmps169 results169 call169 (by rfl) (by simp) ?_;(focus (refine wklp (w_2 he hg) (w_1 hk) w_t (w_r 0) ?_;(repeat' first|exact w_t|apply w_l);all_goals intros))
  | true =>
    rw [hl] at hk;rw [Bool.true_and];obtain⟨n,h1,h2,h3⟩:=Zl3 s s.size (Nat.le_refl _)
    have hall:(List.range s.size).all (λk=>letB (gB s k) || digB (gB s k))=decide (n=s.size):=by
     rw [Bool.eq_iff_iff,List.all_eq_true,decide_eq_true_eq];constructor
     ·intro h;rcases Nat.lt_or_ge n s.size with h4 | h4
      ·have:=h n (List.mem_range.2 h4);rw [h3 h4] at this;cases this
      ·omega
     ·intro h x hx;exact h2 x (by rw [h];exact List.mem_range.1 hx)
    rw [hall];have ck:=rnKeys;refine Zqg (rs:=[.tmp 2]) func169 rfl ntmps169 results169 call169 (by simp) ?_;refine Zrj (Zbc (tok:=0) _ _ _ (by rfl) ?_);(focus (refine wkap w_t w_t (w_r 0) ?_;(repeat' first|exact w_t|apply w_l);all_goals intros));refine Zrj (Zbc (tok:=0) _ _ _ (by rfl) ?_);(focus (refine wkap (w_2 he hg) (w_1 hk) (w_r 0) ?_;(repeat' first|exact w_t|apply w_l);all_goals intros));refine Zrj ?_;clear hk hg he hall;refine Zzr (s:=s) (by exact gC) underlying9 (by omega) (by omega) (by omega) (by omega) (by omega) (by omega) (by omega) (by rfl) (λpos e=>pos≤n∧e 0=strA s) ?_ ?_ (λpos _=>Zu1 s pos) ?_
    ·intro pv;exact⟨Nat.zero_le _,by exact gC⟩
    ·rintro pos e pv ⟨hp,e0⟩ epv hlt
     have hkl:=Zr4 (gB s pos) (gB_lt s pos);have hkd:=rnDigit (gB s pos) (gB_lt s pos);have hg:=gB_at s pos;by_cases hpn:pos < n
     ·have hb:=h2 pos hpn;have hd:=decode_1 s pos hlt (ld_ascii hb);rw [hd];generalize (Utf8.decode s pos).1=cc
      cases hl2:letB (gB s pos) with
      | true =>
        rw [hl2] at hkl;(focus (refine wkap (w_2 e0 hg) (w_2 hkl hkd) (w_r 0) ?_;(repeat' first|exact w_t|apply w_l);all_goals intros));exact⟨rfl,⟨by omega,by exact gW e0⟩,by exact gW epv⟩
      | false =>
        rw [hl2,Bool.false_or] at hb;rw [hl2] at hkl;rw [hb] at hkd;(focus (refine wkap (w_2 e0 hg) (w_2 hkl hkd) (w_r 0) ?_;(repeat' first|exact w_t|apply w_l);all_goals intros));exact⟨rfl,⟨by omega,by exact gW e0⟩,by exact gW epv⟩
     ·have hpe:pos=n:=by omega
      subst hpe;have hb:=h3 hlt;rw [Bool.or_eq_false_iff] at hb;rw [hb.1] at hkl;rw [hb.2] at hkd;have hne:decide (pos=s.size)=false:=decide_eq_false (by omega);rw [hne];generalize (Utf8.decode s pos).1=cc;generalize (Utf8.decode s pos).2=cw;(focus (refine wkap (w_2 e0 hg) (w_2 hkl hkd) (w_r 0) ?_;(repeat' first|exact w_t|apply w_l);all_goals intros));refine⟨rfl,?_⟩;(focus (refine wklp w_t w_t w_t (w_r 0) ?_;(repeat' first|exact w_t|apply w_l);all_goals intros))
    ·rintro pos e pv ⟨hp,e0⟩ epv hlt
     have hpe:n=s.size:=by omega
     rw [decide_eq_true hpe,Bool.true_and];(focus (refine wkap (w_1 e0) w_t (w_r 0) ?_;(repeat' first|exact w_t|apply w_l);all_goals intros));refine⟨rfl,?_⟩;refine Zn3 (t_then ?_);refine Zbc (tok:=0) _ _ _ (by rfl) ?_;(focus (refine wkap (w_3 e0 @Zm9 @Zi3) (w_1 ck) (w_r 0) ?_;(repeat' first|exact w_t|apply w_l);all_goals intros));refine Zae (ι:=Nat) (λi e m=>i≤29∧e 0=strA s∧e 36=.sl 1 (kwL.map strA)∧e 37=iv 29∧e 38=iv i∧(kwL.take i).any (λw=>w.toList == s.toList)=false) (λi=>29 - i) 0 (by rfl) ?_ ?_
     ·rintro i e m ⟨hi,e0,e25,e26,e27,hno⟩
      by_cases hlt:i < 29
      ·have hlt':i < kwL.length:=by rw [Zi3];exact hlt
       have hgk:=Zat strA hlt';have hsn:kwL.take (i+1)=kwL.take i++[kwL[i]]:=List.take_succ_eq_append_getElem hlt';have hmem:kwL[i]∈kwL:=List.getElem_mem hlt';generalize kwL[i]=w at *;have hsy:(s.toList == w.toList)=(w.toList == s.toList):=by rw [Bool.eq_iff_iff,beq_iff_eq,beq_iff_eq];exact eq_comm
       cases hw:(w.toList == s.toList) with
       | true =>
         have:kwL.any (λw=>w.toList == s.toList)=true:=List.any_eq_true.2 ⟨w,hmem,hw⟩;rw [this];rw [hw] at hsy;(focus (refine wklp (w_8 e0 e25 e26 e27 hgk hsy @Zm9 @Zi3) w_t (w_1 @Bool.not_true) (w_r 0) ?_;(repeat' first|exact w_t|apply w_l);all_goals intros))
       | false =>
         rw [hw] at hsy;(focus (refine wkap (w_8 e0 e25 e26 e27 hgk hsy @Zm9 @Zi3) w_t (w_r 0) ?_;(repeat' first|exact w_t|apply w_l);all_goals intros));exact⟨i+1,⟨by omega,by exact gW e0,by exact gW e25,by exact gW e26,by exact gS,by rw [hsn,List.any_append,hno];simp [hw]⟩,by omega⟩
      ·have hi2:i=29:=by omega
       subst hi2;rw [show kwL.take 29=kwL from by rw [←Zi3,List.take_length]] at hno;rw [hno];(focus (refine wklp (w_4 e0 e25 e26 e27) w_t (w_1 @Bool.not_false) (w_r 0) ?_;(repeat' first|exact w_t|apply w_l);all_goals intros))
     ·exact⟨Nat.zero_le _,by exact gW e0,by exact gC,by(simp (disch:=omega) only [go_sem,List.length_map,Zi3]<;>repeat' first|rfl|refine⟨?_,?_⟩),by exact gC,by simp⟩
 ·rw [decide_eq_false h0,Bool.false_and];by_cases h1:s.size=0
  ·rw [decide_eq_true h1] at he;refine Zaa (tok:=0) func169 rfl ntmps169 results169 call169 (by rfl) (by simp) ?_;(focus (refine wklp (w_1 he) w_t w_t (w_r 0) ?_;(repeat' first|exact w_t|apply w_l);all_goals intros))
  ·rw [decide_eq_false h1] at he;refine Zaa (tok:=0) func169 rfl ntmps169 results169 call169 (by rfl) (by simp) ?_;(focus (refine wklp (w_1 he) w_t w_t (w_r 0) ?_;(repeat' first|exact w_t|apply w_l);all_goals intros))
end Go.Proofs.YtpkcophcldjboaaGreatDoor
namespace Go.Proofs.YtpkcophcldjboaaGreatDoor
open Go Go.RowKit Go.Pg Go.Pol Go.Proofs.Tryz
attribute [-bool_to_prop] Bool.and_eq_decide Bool.or_eq_decide Bool.decide_beq_decide decide_eq_decide
attribute [local go_sem] underlying3 underlying4 underlying128 underlying9 underlying69 underlying33 underlying54 underlying52 underlying50 underlying76 underlying22 underlying93 underlying23 underlying25 sz3 by3 z3 szB zB szL byL zL Zce zErr Zbh Zcm zStr Zas zRat Zay zInt Zax zNat Zb3 Zb4 Zdh Zcc Zcd Zd0 Zdk zFig Zdj zSlI Zdi zSlS Zd2 zSlF
theorem irRaw (s:Bool) (l:List Nat) (hl:Lm l) (hs:l.length≤100000000):Pure prog 93 [.agg [.v (.bool s),lim l]] (.v (.bool (RQ.zok s l))):=by
 unfold RQ.zok valL;by_cases h:l.length=0
 ·rw [decide_eq_true h,Bool.true_or,Bool.true_and,Bool.and_true];cases s
  ·refine Zaa (tok:=0) func93 rfl ntmps93 results93 call93 (by rfl) (by simp) ?_;(focus (refine wklp (w_1 @Zbd) w_t w_t (w_r 0) ?_;(repeat' first|exact w_t|apply w_l);all_goals intros))
  ·refine Zaa (tok:=0) func93 rfl ntmps93 results93 call93 (by rfl) (by simp) ?_;(focus (refine wklp (w_1 @Zbd) w_t w_t (w_r 0) ?_;(repeat' first|exact w_t|apply w_l);all_goals intros))
 ·rw [decide_eq_false h,Bool.false_or,Bool.and_false,Bool.not_false,Bool.and_true];have ei:(l.length:Int) - 1=((l.length - 1:Nat):Int):=by omega
  have hlm:=Zbv hl (l.length - 1);by_cases hg:gN l (l.length - 1)=0
  ·rw [decide_eq_true hg];cases s
   ·refine Zaa (tok:=0) func93 rfl ntmps93 results93 call93 (by rfl) (by simp) ?_;(focus (refine wklp (w_2 ei @Zbd) w_t (w_1 @Bool.not_true) (w_r 0) ?_;(repeat' first|exact w_t|apply w_l);all_goals intros))
   ·refine Zaa (tok:=0) func93 rfl ntmps93 results93 call93 (by rfl) (by simp) ?_;(focus (refine wklp (w_2 ei @Zbd) w_t (w_1 @Bool.not_true) (w_r 0) ?_;(repeat' first|exact w_t|apply w_l);all_goals intros))
  ·rw [decide_eq_false hg];cases s
   ·refine Zaa (tok:=0) func93 rfl ntmps93 results93 call93 (by rfl) (by simp) ?_;(focus (refine wklp (w_2 ei @Zbd) w_t (w_1 @Bool.not_false) (w_r 0) ?_;(repeat' first|exact w_t|apply w_l);all_goals intros))
   ·refine Zaa (tok:=0) func93 rfl ntmps93 results93 call93 (by rfl) (by simp) ?_;(focus (refine wklp (w_2 ei @Zbd) w_t (w_1 @Bool.not_false) (w_r 0) ?_;(repeat' first|exact w_t|apply w_l);all_goals intros))
theorem Zwd (r:RQ) (h:r.lm 100000000):Pure prog 41 [r.av] (.v (.bool r.ok)):=by
 obtain⟨s,l,d⟩:=r;obtain⟨h1,h2,h3,h4⟩:=h;simp only at h1 h2 h3 h4;have c1:=irRaw s l h1 h3;unfold RQ.ok;simp only;generalize RQ.zok s l=z at *;by_cases hd:d.length=0
 ·have:decide (0 < d.length)=false:=decide_eq_false (by omega);rw [this,Bool.and_false];cases z
  ·refine Zaa (tok:=0) func41 rfl ntmps41 results41 call41 (by rfl) (by simp) ?_;(focus (refine wklp (w_1 @Zbd) (w_1 c1) w_t (w_r 0) ?_;(repeat' first|exact w_t|apply w_l);all_goals intros))
  ·refine Zaa (tok:=0) func41 rfl ntmps41 results41 call41 (by rfl) (by simp) ?_;(focus (refine wklp (w_1 @Zbd) (w_1 c1) w_t (w_r 0) ?_;(repeat' first|exact w_t|apply w_l);all_goals intros))
 ·have:decide (0 < d.length)=true:=decide_eq_true (by omega);rw [this,Bool.and_true];have ei:(d.length:Int) - 1=((d.length - 1:Nat):Int):=by omega
  have hlm:=Zbv h2 (d.length - 1)
  cases z with
  | false =>
    rw [Bool.false_and,Bool.false_and];refine Zaa (tok:=0) func41 rfl ntmps41 results41 call41 (by rfl) (by simp) ?_;(focus (refine wklp (w_1 @Zbd) (w_1 c1) w_t (w_r 0) ?_;(repeat' first|exact w_t|apply w_l);all_goals intros))
  | true =>
    rw [Bool.true_and];by_cases hg:gN d (d.length - 1)=0
    ·have:valL d=false:=by unfold valL;rw [decide_eq_false hd,decide_eq_true hg];rfl
     rw [this,Bool.false_and];refine Zaa (tok:=0) func41 rfl ntmps41 results41 call41 (by rfl) (by simp) ?_;(focus (refine wklp (w_2 ei @Zbd) (w_1 c1) w_t (w_r 0) ?_;(repeat' first|exact w_t|apply w_l);all_goals intros))
    ·have hv:valL d=true:=by unfold valL;rw [decide_eq_false hd,decide_eq_false hg];rfl
     rw [hv,Bool.true_and];have hdt:=(Zh9 h2).1 hv;have l4:(toL (nv d)).length≤100000000:=by rw [←hdt];exact h4
     have c2:=Zkk (nv d) l4;have c3:=natGcd l d (by omega) (by omega) h1 h2
     have n0:nv d≠0:=by
      intro h0;rw [h0,Zaw] at hdt;rw [hdt] at hd;exact hd rfl
     have gl:(toL (Nat.gcd (nv l) (nv d))).length≤100000000:=Nat.le_trans (Zed (Nat.gcd_le_right _ (by omega))) l4;have c4:=Zkk (Nat.gcd (nv l) (nv d)) gl;rw [←hdt] at c2;have hb:(Nat.gcd (nv l) (nv d) == 1)=decide (Nat.gcd (nv l) (nv d)=1):=by rw [Bool.eq_iff_iff,beq_iff_eq,decide_eq_true_eq]
     rw [hb];by_cases h1d:nv d=1
     ·rw [decide_eq_true h1d] at c2;rw [decide_eq_true (show Nat.gcd (nv l) (nv d)=1 by rw [h1d,Nat.gcd_one_right])];clear c3 c4 hdt;refine Zaa (tok:=0) func41 rfl ntmps41 results41 call41 (by rfl) (by simp) ?_;(focus (refine wklp (w_2 ei @Zbd) (w_2 c1 c2) (w_1 @decide_true) (w_r 0) ?_;(repeat' first|exact w_t|apply w_l);all_goals intros))
     ·rw [decide_eq_false h1d] at c2;clear hdt hb gl;generalize decide (Nat.gcd (nv l) (nv d)=1)=v at *;generalize toL (Nat.gcd (nv l) (nv d))=lg' at *;refine Zaa (tok:=0) func41 rfl ntmps41 results41 call41 (by rfl) (by simp) ?_;(focus (refine wklp (w_2 ei @Zbd) (w_4 c1 c2 c3 c4) w_t (w_r 0) ?_;(repeat' first|exact w_t|apply w_l);all_goals intros))
theorem rlAr (k:Int):Pure prog 167 [iv k] (iv (arS k)):=by
 unfold arS;refine Zaa (tok:=0) func167 rfl ntmps167 results167 call167 (by rfl) (by simp) ?_;(focus (refine wklp w_t w_t w_t (w_r 0) ?_;(repeat' first|exact w_t|apply w_l);all_goals intros));all_goals (congr 2;repeat' split)
 all_goals (first|rfl|omega)
theorem rlNone (r:RQ):Pure prog 168 [r.av] (.v (.bool r.none)):=by
 obtain⟨s,l,d⟩:=r;unfold RQ.none;simp only;cases s
 ·refine Zaa (tok:=0) func168 rfl ntmps168 results168 call168 (by rfl) (by simp) ?_;(focus (refine wklp (w_1 @Zbd) w_t w_t (w_r 0) ?_;(repeat' first|exact w_t|apply w_l);all_goals intros))
 ·refine Zaa (tok:=0) func168 rfl ntmps168 results168 call168 (by rfl) (by simp) ?_;(focus (refine wklp (w_1 @Zbd) w_t w_t (w_r 0) ?_;(repeat' first|exact w_t|apply w_l);all_goals intros))
theorem rrAr (k:Int):Pure prog 170 [iv k] (iv (arG k)):=by
 unfold arG;refine Zaa (tok:=0) func170 rfl ntmps170 results170 call170 (by rfl) (by simp) ?_;(focus (refine wklp w_t w_t w_t (w_r 0) ?_;(repeat' first|exact w_t|apply w_l);all_goals intros));all_goals (congr 2;repeat' split)
 all_goals (first|rfl|omega)
theorem rrNone (r:RQ):Pure prog 171 [r.av] (.v (.bool r.none)):=by
 obtain⟨s,l,d⟩:=r;unfold RQ.none;simp only;cases s
 ·refine Zaa (tok:=0) func171 rfl ntmps171 results171 call171 (by rfl) (by simp) ?_;(focus (refine wklp (w_1 @Zbd) w_t w_t (w_r 0) ?_;(repeat' first|exact w_t|apply w_l);all_goals intros))
 ·refine Zaa (tok:=0) func171 rfl ntmps171 results171 call171 (by rfl) (by simp) ?_;(focus (refine wklp (w_1 @Zbd) w_t w_t (w_r 0) ?_;(repeat' first|exact w_t|apply w_l);all_goals intros))
def RS.sm (s:RS):Prop:=s.r.lm 100000000∧s.nm.size≤1000000000∧s.ar.length≤1000000000
def RG.sm (g:RG):Prop:=g.r.lm 100000000∧g.ar.length≤1000000000
theorem Zoo {n:Int} {l:List Int} {k:Nat} (hk:k < l.length):outB n (l.take (k+1))=(outB n (l.take k) || (decide (l[k] < 0) || decide (n≤l[k]))):=by
 unfold outB;rw [List.take_succ_eq_append_getElem hk,List.any_append,List.any_cons,List.any_nil,Bool.or_false]
theorem Zw2 {n:Int} {l:List Int} {k:Nat} (hk:k < l.length) (h:(decide (l[k] < 0) || decide (n≤l[k]))=true):outB n l=true:=List.any_eq_true.2 ⟨l[k],List.getElem_mem hk,h⟩
theorem rrRight (g:RG) (n:Nat) (hn:n≤1000000000) (hs:g.sm):Pure prog 105 [g.av,iv n] (iv (errG g n)):=by
 obtain⟨h1,h3⟩:=hs;unfold errG;have ca:=rrAr g.k;have cr:Pure prog 101 [g.r.av] (.v (.bool g.r.ok)):=Zse g.r.s g.r.l g.r.d h1.1 h1.2.1 h1.2.2.1 h1.2.2.2;have cn:=rrNone g.r;have hla:(g.ar.map iv).length=g.ar.length:=List.length_map ..;obtain⟨k,ar,r,rl,rd⟩:=g;simp only at *;generalize arG k=a at *;generalize RQ.ok ⟨r,rl,rd⟩=ok at *;generalize RQ.none ⟨r,rl,rd⟩=no at *;by_cases w1:a=0
 ·rw [if_pos w1];subst w1;refine Zaa (tok:=0) func105 rfl ntmps105 results105 call105 (by rfl) (by simp) ?_;(focus (refine wkld (w_1 hla) (w_1 ca) w_t w_t ?_;(repeat' first|exact w_t|apply w_l);all_goals intros))
 ·rw [if_neg w1];by_cases w2:(ar.length:Int)≠a
  ·rw [if_pos w2];refine Zaa (tok:=0) func105 rfl ntmps105 results105 call105 (by rfl) (by simp) ?_;(focus (refine wkld (w_1 hla) (w_1 ca) w_t (w_1 (w_d 3 [(5,iv a)] [] [])) ?_;(repeat' first|exact w_t|apply w_l);all_goals intros))
  ·rw [if_neg w2];refine Zaa (tok:=0) func105 rfl ntmps105 results105 call105 (by rfl) (by simp) ?_;(focus (refine wkad (w_1 hla) (w_1 ca) (w_1 (w_d 3 [(5,iv a)] [] [])) ?_;(repeat' first|exact w_t|apply w_l);all_goals intros));rename_i g2;refine Zae (ι:=Nat) (λi e m=>i≤ar.length∧e 1=iv n∧e 2=.pbox 2 g2 0∧m 2=some (.box g2 93 [iv k,ivs ar,.v (.bool r),lim rl,lim rd] false)∧e 19=ivs ar∧e 20=iv ar.length∧e 21=iv i∧outB n (ar.take i)=false) (λi=>ar.length - i) 0 (by rfl) ?_ ?_
   ·rintro i e m ⟨hi,e1,e2,m2,ea,en,ei,hno⟩
    by_cases hlt:i < ar.length
    ·have hg:=Zat iv hlt;have hst:=Zoo (n:=n) hlt;have hat:=Zw2 (n:=n) hlt;rw [hno,Bool.false_or] at hst;generalize ar[i]=x at *;by_cases hx:x < 0∨(n:Int)≤x
     ·have hb:(decide (x < 0) || decide ((n:Int)≤x))=true:=by simpa using hx
      rw [if_pos (hat hb)];clear hat hst hb;rcases hx with hx | hx
      ·(focus (refine wkld (w_8 e1 e2 m2 ea en ei hg hla) w_t w_t w_t ?_;(repeat' first|exact w_t|apply w_l);all_goals intros))
      ·(focus (refine wkld (w_8 e1 e2 m2 ea en ei hg hla) w_t w_t w_t ?_;(repeat' first|exact w_t|apply w_l);all_goals intros))
     ·have hb:(decide (x < 0) || decide ((n:Int)≤x))=false:=by simpa using hx
      rw [hb] at hst;clear hat hb;(focus (refine wkad (w_8 e1 e2 m2 ea en ei hg hla) w_t w_t ?_;(repeat' first|exact w_t|apply w_l);all_goals intros));exact⟨i+1,⟨by omega,by exact gW e1,by exact gW e2,by exact gW m2,by exact gW ea,by exact gW en,by exact gS,hst⟩,by omega⟩
    ·have hi2:i=ar.length:=by omega
     subst hi2;rw [List.take_length] at hno;rw [hno,if_neg (by decide)];by_cases hk:k=9
     ·subst hk;cases ok
      ·rw [if_pos (by simp)];(focus (refine wkld (w_7 e1 e2 m2 ea en ei hla) (w_2 cr cn) w_t w_t ?_;(repeat' first|exact w_t|apply w_l);all_goals intros))
      ·rw [if_neg (by simp)];(focus (refine wkld (w_7 e1 e2 m2 ea en ei hla) (w_2 cr cn) w_t w_t ?_;(repeat' first|exact w_t|apply w_l);all_goals intros))
     ·cases no
      ·rw [if_pos (by simp [hk])];(focus (refine wkld (w_7 e1 e2 m2 ea en ei hla) (w_2 cr cn) w_t w_t ?_;(repeat' first|exact w_t|apply w_l);all_goals intros))
      ·rw [if_neg (by simp [hk])];(focus (refine wkld (w_7 e1 e2 m2 ea en ei hla) (w_2 cr cn) w_t w_t ?_;(repeat' first|exact w_t|apply w_l);all_goals intros))
   ·exact⟨Nat.zero_le _,by exact gC,by exact gC,by exact gC,by exact gC,by exact gW hla,by exact gC,by simp [outB]⟩
theorem rlCheck (ss:List RS) (i:Nat) (hi:i < ss.length) (hl:ss.length≤1000000000) (hs:∀s∈ss,s.sm):Pure prog 104 [.sl 6 (ss.map RS.av),iv i] (iv (errS ss i)):=by
 have hg:=Zat RS.av hi;have hsm:=hs _ (List.getElem_mem hi);unfold errS;rw [show ss.getD i RS.zero=ss[i] from by rw [List.getD_eq_getElem?_getD,List.getElem?_eq_getElem hi];rfl];have hgt:∀k,k < i→∃t:RS,((ss.map RS.av).take i).getD k .u=t.av∧(ss.take i)[k]?=some t:=λk hk=>by
  refine⟨ss[k],?_,?_⟩
  ·rw [List.getD_eq_getElem?_getD,List.getElem?_take,if_pos hk,List.getElem?_map,List.getElem?_eq_getElem (by omega)];rfl
  ·rw [List.getElem?_take,if_pos hk,List.getElem?_eq_getElem (by omega)]
 have hlm:(ss.map RS.av).length=ss.length:=List.length_map ..;have hlt:(ss.take i).length=i:=by rw [List.length_take];omega
 generalize ss.map RS.av=M at *;generalize ss[i]=s at *;generalize ss.take i=T at *;clear hs;obtain⟨h1,h2,h3⟩:=hsm;have ca:=rlAr s.k;have cr:Pure prog 101 [s.r.av] (.v (.bool s.r.ok)):=Zse s.r.s s.r.l s.r.d h1.1 h1.2.1 h1.2.2.1 h1.2.2.2;have cn:=rlNone s.r;have cm:=rnName s.nm h2;have hst:=Zj9 s.nm;have hla:(s.ar.map iv).length=s.ar.length:=List.length_map ..;obtain⟨k,nm,ar,r,rl,rd⟩:=s;simp only at *;generalize arS k=a at *;generalize RQ.ok ⟨r,rl,rd⟩=ok at *;generalize RQ.none ⟨r,rl,rd⟩=no at *;generalize namB nm=nb at *;by_cases w1:a < 0
 ·rw [if_pos w1];refine Zaa (tok:=0) func104 rfl ntmps104 results104 call104 (by rfl) (by simp) ?_;(focus (refine wkld (w_3 hg hlm hla) (w_1 ca) w_t w_t ?_;(repeat' first|exact w_t|apply w_l);all_goals intros))
 ·rw [if_neg w1];by_cases w2:(ar.length:Int)≠a
  ·rw [if_pos w2];refine Zaa (tok:=0) func104 rfl ntmps104 results104 call104 (by rfl) (by simp) ?_;(focus (refine wkld (w_3 hg hlm hla) (w_1 ca) w_t (w_1 (w_d 4 [(5,iv a)] [] [])) ?_;(repeat' first|exact w_t|apply w_l);all_goals intros))
  ·rw [if_neg w2];refine Zaa (tok:=0) func104 rfl ntmps104 results104 call104 (by rfl) (by simp) ?_;(focus (refine wkad (w_3 hg hlm hla) (w_1 ca) (w_1 (w_d 4 [(5,iv a)] [] [])) ?_;(repeat' first|exact w_t|apply w_l);all_goals intros));rename_i g5;refine Zae (ι:=Nat) (λx e m=>x≤ar.length∧e 0=.sl 6 M∧e 1=iv i∧e 5=.pbox 5 g5 0∧m 5=some (.box g5 76 [iv k,strA nm,ivs ar,.v (.bool r),lim rl,lim rd] false)∧e 26=ivs ar∧e 27=iv ar.length∧e 28=iv x∧outB i (ar.take x)=false) (λx=>ar.length - x) 0 (by rfl) ?_ ?_
   ·rintro x e m ⟨hx,e0,e1,e5,m5,e26,e27,e28,hno⟩
    by_cases hlt2:x < ar.length
    ·have hga:=Zat iv hlt2;have hso:=Zoo (n:=(i:Int)) hlt2;have hat:=Zw2 (n:=(i:Int)) hlt2;rw [hno,Bool.false_or] at hso;generalize ar[x]=y at *;by_cases hy:y < 0∨(i:Int)≤y
     ·have hb:(decide (y < 0) || decide ((i:Int)≤y))=true:=by simpa using hy
      rw [if_pos (hat hb)];clear hat hso hb;rcases hy with hy | hy
      ·(focus (refine wkld (w_9 e0 e1 e5 m5 e26 e27 e28 hga hla) w_t w_t w_t ?_;(repeat' first|exact w_t|apply w_l);all_goals intros))
      ·(focus (refine wkld (w_9 e0 e1 e5 m5 e26 e27 e28 hga hla) w_t w_t w_t ?_;(repeat' first|exact w_t|apply w_l);all_goals intros))
     ·have hb:(decide (y < 0) || decide ((i:Int)≤y))=false:=by simpa using hy
      rw [hb] at hso;clear hat hb;(focus (refine wkad (w_9 e0 e1 e5 m5 e26 e27 e28 hga hla) w_t w_t ?_;(repeat' first|exact w_t|apply w_l);all_goals intros));exact⟨x+1,⟨by omega,by exact gW e0,by exact gW e1,by exact gW e5,by exact gW m5,by exact gW e26,by exact gW e27,by exact gS,hso⟩,by omega⟩
    ·have hi2:x=ar.length:=by omega
     subst hi2;rw [List.take_length] at hno;rw [hno,if_neg (by decide)];by_cases w3:(k=2∧ok=false)∨(k≠2∧no=false)
     ·rw [if_pos w3];rcases w3 with⟨hk,rfl⟩ | ⟨hk,rfl⟩
      ·subst hk;(focus (refine wkld (w_8 e0 e1 e5 m5 e26 e27 e28 hla) (w_1 cr) w_t w_t ?_;(repeat' first|exact w_t|apply w_l);all_goals intros))
      ·(focus (refine wkld (w_8 e0 e1 e5 m5 e26 e27 e28 hla) (w_1 cn) w_t w_t ?_;(repeat' first|exact w_t|apply w_l);all_goals intros))
     ·rw [if_neg w3]
      have w4:(k=2∧ok=true)∨(k≠2∧no=true):=by
       by_cases hk:k=2
       ·cases ok
        ·exact absurd (.inl ⟨hk,rfl⟩) w3
        ·exact .inl ⟨hk,rfl⟩
       ·cases no
        ·exact absurd (.inr ⟨hk,rfl⟩) w3
        ·exact .inr ⟨hk,rfl⟩
      clear w3;have rest:∀(e:Nat→AV) (m:Mem),e 0=.sl 6 M→e 1=iv i→e 5=.pbox 5 g5 0→m 5=some (.box g5 76 [iv k,strA nm,ivs ar,.v (.bool r),lim rl,lim rd] false)→True:=λ_ _ _ _ _ _=>trivial;clear rest;by_cases w5:nm.size=0
      ·rw [if_pos w5];rw [decide_eq_true w5] at hst;rcases w4 with⟨hk,rfl⟩ | ⟨hk,rfl⟩
       ·subst hk;(focus (refine wkld (w_9 e0 e1 e5 m5 e26 e27 e28 hla hst) (w_1 cr) w_t w_t ?_;(repeat' first|exact w_t|apply w_l);all_goals intros))
       ·(focus (refine wkld (w_9 e0 e1 e5 m5 e26 e27 e28 hla hst) (w_1 cn) w_t w_t ?_;(repeat' first|exact w_t|apply w_l);all_goals intros))
      ·rw [if_neg w5];rw [decide_eq_false w5] at hst
       cases nb with
       | false =>
         rw [if_pos rfl];rcases w4 with⟨hk,rfl⟩ | ⟨hk,rfl⟩
         ·subst hk;(focus (refine wkld (w_9 e0 e1 e5 m5 e26 e27 e28 hla hst) (w_2 cr cm) w_t w_t ?_;(repeat' first|exact w_t|apply w_l);all_goals intros))
         ·(focus (refine wkld (w_9 e0 e1 e5 m5 e26 e27 e28 hla hst) (w_2 cn cm) w_t w_t ?_;(repeat' first|exact w_t|apply w_l);all_goals intros))
       | true =>
         rw [if_neg (by decide)];rcases w4 with⟨hk,rfl⟩ | ⟨hk,rfl⟩
         all_goals first|(subst hk;(focus (refine wkad (w_12 e0 e1 e5 m5 e26 e27 e28 hla hlm hst @Zna @l_take) (w_2 cr cm) w_t ?_;(repeat' first|exact w_t|apply w_l);all_goals intros)))|(focus (refine wkad (w_12 e0 e1 e5 m5 e26 e27 e28 hla hlm hst @Zna @l_take) (w_2 cn cm) w_t ?_;(repeat' first|exact w_t|apply w_l);all_goals intros))
         all_goals
          refine Zae (ι:=Nat) (λx e m=>x≤i∧e 5=.pbox 5 g5 0∧(∃k,m 5=some (.box g5 76 [iv k,strA nm,ivs ar,.v (.bool r),lim rl,lim rd] false))∧e 69=.sl 6 (M.take i)∧e 70=iv i∧e 71=iv x∧(T.take x).any (λt=>t.nm.toList == nm.toList)=false) (λx=>i - x) 0 (by rfl) ?_ ?_
          ·rintro x e m ⟨hx,e5,⟨k,m5⟩,e69,e70,e71,hnq⟩
           by_cases hlt2:x < i
           ·obtain⟨t,ht,ht2⟩:=hgt x hlt2;have htl:x < T.length:=by omega
            have htx:T[x]=t:=by rw [List.getElem?_eq_getElem htl] at ht2;cases ht2;rfl
            have hsn:T.take (x+1)=T.take x++[t]:=by rw [List.take_succ_eq_append_getElem htl,htx]
            have hmem:t∈T:=by rw [←htx];exact List.getElem_mem htl
            obtain⟨tk,tn,ta,tr,tl,td⟩:=t;have hll:(M.take i).length=i:=by rw [List.length_take];omega
            cases hw:(tn.toList == nm.toList) with
            | true =>
              have hany:T.any (λt=>t.nm.toList == nm.toList)=true:=List.any_eq_true.2 ⟨_,hmem,hw⟩;rw [if_pos hany];(focus (refine wkld (w_8 e5 m5 e69 e70 e71 ht hw hll) w_t w_t w_t ?_;(repeat' first|exact w_t|apply w_l);all_goals intros))
            | false =>
              (focus (refine wkad (w_8 e5 m5 e69 e70 e71 ht hw hll) w_t w_t ?_;(repeat' first|exact w_t|apply w_l);all_goals intros));exact⟨x+1,⟨by omega,by exact gW e5,⟨k,by exact gW m5⟩,by exact gW e69,by exact gW e70,by exact gS,by rw [hsn,List.any_append,hnq];simp [hw]⟩,by omega⟩
           ·have hxi:x=i:=by omega
            subst hxi;rw [show T.take x=T from by rw [←hlt,List.take_length]] at hnq;rw [hnq,if_neg (by decide)];(focus (refine wkld (w_5 e5 m5 e69 e70 e71) w_t w_t w_t ?_;(repeat' first|exact w_t|apply w_l);all_goals intros))
          ·exact⟨Nat.zero_le _,by exact gW e5,⟨_,by exact gW m5⟩,by exact gC,by(simp (disch:=omega) only [go_sem,List.length_take,hlm,Nat.min_eq_left]<;>repeat' first|rfl|refine⟨?_,?_⟩),by exact gC,by simp⟩
   ·exact⟨Nat.zero_le _,by exact gC,by exact gC,by exact gC,by exact gC,by exact gC,by exact gW hla,by exact gC,by simp [outB]⟩
theorem rlRight (ss:List RS) (gs:List RG) (h1:ss.length≤1000000000) (h2:gs.length≤1000000000) (hs:∀s∈ss,s.sm) (hg:∀g∈gs,g.sm):Pure prog 47 [figA ss gs] (iv (figE ss gs)):=by
 have hls:(ss.map RS.av).length=ss.length:=List.length_map ..;have hlg:(gs.map RG.av).length=gs.length:=List.length_map ..;have eg:∀i (h:i < gs.length),(gs.map RG.av).getD i .u=gs[i].av:=λi h=>Zat RG.av h;have eg2:∀i (h:i < gs.length),gs.getD i ⟨0,[],⟨false,[],[]⟩⟩=gs[i]:=λi h=>by rw [List.getD_eq_getElem?_getD,List.getElem?_eq_getElem h];rfl
 have cc:∀i,i < ss.length→Pure prog 104 [.sl 6 (ss.map RS.av),iv i] (iv (errS ss i)):=λi hi=>rlCheck ss i hi h1 hs;have cg:∀i (h:i < gs.length),Pure prog 105 [gs[i].av,iv ss.length] (iv (errG gs[i] ss.length)):=λi h=>rrRight gs[i] ss.length h1 (hg _ (List.getElem_mem h));unfold figE;show Pure _ _ [.agg [.sl 6 (ss.map RS.av),.sl 5 (gs.map RG.av)]] _;generalize ss.map RS.av=M at *;generalize gs.map RG.av=N at *;by_cases hb:40 < ss.length∨8 < gs.length
 ·rw [if_pos hb];refine Zaa (tok:=0) func47 rfl ntmps47 results47 call47 (by rfl) (by simp) ?_;(focus (refine wklp (w_2 hls hlg) w_t w_t (w_r 0) ?_;(repeat' first|exact w_t|apply w_l);all_goals intros))
 ·rw [if_neg hb];refine Zaa (tok:=0) func47 rfl ntmps47 results47 call47 (by rfl) (by simp) ?_;(focus (refine wkap (w_2 hls hlg) w_t (w_r 0) ?_;(repeat' first|exact w_t|apply w_l);all_goals intros));rename_i g1;refine Zae (ι:=Nat) (λi e m=>i≤ss.length∧e 1=.pbox 1 g1 0∧m 1=some (.box g1 25 [.sl 6 M,.sl 5 N] false)∧e 20=iv ss.length∧e 21=iv i∧∀j,j < i→errS ss j=0) (λi=>ss.length - i) 0 (by rfl) ?_ ?_
  ·rintro i e m ⟨hi,e1,m1,e20,e21,hz⟩
   by_cases hlt:i < ss.length
   ·have c:=cc i hlt;by_cases he:errS ss i=0
    ·rw [he] at c;(focus (refine wkap (w_6 e1 m1 e20 e21 hls hlg) (w_1 c) (w_r 0) ?_;(repeat' first|exact w_t|apply w_l);all_goals intros));exact⟨i+1,⟨by omega,by exact gW e1,by exact gW m1,by exact gW e20,by exact gS,λj hj=>by by_cases e:j=i;rw [e];exact he;exact hz j (by omega)⟩,by omega⟩
    ·rw [Zrb hz he hlt,if_pos he];generalize errS ss i=z at *;(focus (refine wklp (w_6 e1 m1 e20 e21 hls hlg) (w_1 c) w_t (w_r 0) ?_;(repeat' first|exact w_t|apply w_l);all_goals intros))
   ·have hi2:i=ss.length:=by omega
    subst hi2;rw [Ziq hz,if_neg (by simp)];(focus (refine wkap (w_6 e1 m1 e20 e21 hls hlg) w_t (w_r 0) ?_;(repeat' first|exact w_t|apply w_l);all_goals intros));refine Zae (ι:=Nat) (λi e m=>i≤gs.length∧e 1=.pbox 1 g1 0∧m 1=some (.box g1 25 [.sl 6 M,.sl 5 N] false)∧e 33=.sl 5 N∧e 34=iv gs.length∧e 35=iv i∧∀j,j < i→errG (gs.getD j ⟨0,[],⟨false,[],[]⟩⟩) ss.length=0) (λi=>gs.length - i) 0 (by rfl) ?_ ?_
    ·rintro i e m ⟨hi,e1,m1,e33,e34,e35,hz⟩
     by_cases hlt:i < gs.length
     ·have c:=cg i hlt;have hgi:=eg i hlt;have hgj:=eg2 i hlt;have hfa:=@Zrb (λi=>errG (gs.getD i ⟨0,[],⟨false,[],[]⟩⟩) ss.length) i hz;simp only [hgj] at hfa;generalize gs[i]=G at *;by_cases he:errG G ss.length=0
      ·rw [he] at c;clear hfa;obtain⟨k,ar,r,rl,rd⟩:=G;(focus (refine wkap (w_8 e1 m1 e33 e34 e35 hls hlg hgi) (w_1 c) (w_r 0) ?_;(repeat' first|exact w_t|apply w_l);all_goals intros));exact⟨i+1,⟨by omega,by exact gW e1,by exact gW m1,by exact gW e33,by exact gW e34,by exact gS,λj hj=>by by_cases e:j=i;rw [e,hgj];exact he;exact hz j (by omega)⟩,by omega⟩
      ·rw [hfa he hlt];clear hfa;generalize errG G ss.length=z at *;obtain⟨k,ar,r,rl,rd⟩:=G;(focus (refine wklp (w_8 e1 m1 e33 e34 e35 hls hlg hgi) (w_1 c) w_t (w_r 0) ?_;(repeat' first|exact w_t|apply w_l);all_goals intros))
     ·have hi2:i=gs.length:=by omega
      subst hi2;rw [Ziq hz];(focus (refine wklp (w_7 e1 m1 e33 e34 e35 hls hlg) w_t w_t (w_r 0) ?_;(repeat' first|exact w_t|apply w_l);all_goals intros))
    ·exact⟨Nat.zero_le _,by exact gW e1,by exact gW m1,by exact gC,by exact gW hlg,by exact gC,λj hj=>by omega⟩
  ·exact⟨Nat.zero_le _,by exact gC,by exact gC,by exact gW hls,by exact gC,λj hj=>by omega⟩
end Go.Proofs.YtpkcophcldjboaaGreatDoor
namespace Go.Proofs.YtpkcophcldjboaaGreatDoor
attribute [-bool_to_prop] Bool.and_eq_decide Bool.or_eq_decide Bool.decide_beq_decide decide_eq_decide
section
open Go Go.RowKit Go.Pg
end
end Go.Proofs.YtpkcophcldjboaaGreatDoor
namespace Go.Proofs.YtpkcophcldjboaaGreatDoor
open Go Go.RowKit Go.Pg Go.Pol Go.Proofs.Tryz
attribute [-bool_to_prop] Bool.and_eq_decide Bool.or_eq_decide Bool.decide_beq_decide decide_eq_decide
attribute [local go_sem] underlying3 underlying4 underlying128 underlying9 underlying69 underlying33 underlying54 underlying52 underlying50 underlying76 underlying22 underlying25 sz3 by3 z3 szB zB Zce zErr Zbh Zcm zStr Zas zRat Zay zInt Zax zNat Zb3 Zb4 Zdh Zdk zFig Zdj zSlI Zdi zSlS
theorem Sub.nil (m:Nat):Sub (.v (.slice none 0 0)) (.sl m []):=λw imm x h=>by
 rw [h.v_inv];exact .pure ((Wk.nil m).rd (.v _))
theorem Zgm {σ:Mem} {k:Nat} {e:Ent} (h:σ k=some e):upd σ k (some e)=σ:=by
 funext j;rw [Zam];split
 ·subst_vars;exact h.symm
 ·rfl
theorem Zdg {K c:Nat} (h:c < 1000):(K+1000 == c)=false:=by rw [beq_eq_false_iff_ne];omega
theorem Zru {a b:List Nat} (h:u16s a=u16s b):a=b:=by
 induction a generalizing b with
 | nil=>cases b with
   | nil=>rfl
   | cons y b=>simp [u16s] at h
 | cons x a ih=>cases b with
   | nil=>simp [u16s] at h
   | cons y b =>
     rw [Zvm,Zvm] at h;simp only [List.cons.injEq,AV.v.injEq,Value.int.injEq,true_and] at h;rw [ih h.2,show x=y by omega]
theorem RQ.ok_eq {r:RQ} {k:Nat} (hl:r.lm k) (h:r.ok=true):r=⟨decide (r.q.num < 0),toL r.q.num.natAbs,toL r.q.den⟩:=by
 have h1:=(RQ.ok_av hl h).1;simp only [RQ.av,ratQ,AV.agg.injEq,List.cons.injEq,AV.v.injEq,Value.bool.injEq,lim,AV.sl.injEq,true_and,and_true] at h1;obtain⟨s,l,d⟩:=r;simp only at h1;rw [RQ.mk.injEq];exact⟨h1.1,Zru h1.2.1,Zru h1.2.2⟩
attribute [local go_sem] underlying39 underlying55 underlying57 underlying26 underlying27 Zah Zan Zai Bool.and_self Zal Za7 zSlQ szQT byQT zQT Za9 zSlT szQP zQP
structure RE where
 r:RQ
 q:List Qt
abbrev RE.av (t:RE):AV:=.agg [.v (.bool t.r.s),lim t.r.l,lim t.r.d,qsA t.q]
def RE.ok (t:RE):Bool:=t.r.ok && t.q.all Qt.ok
def sgP (l:List Qt):Int:=l.foldl (λs q=>s*q.norm.2) 1
def nzP (l:List Qt):List Qt:=(l.filter λq=>decide (q.norm.2≠0)).map λq=>q.norm.1
def putP (l:List Qt):List Qt:=(nzP l).foldl (putQ Qt.cmp) []
def RE.t (t:RE):Rat × List Qt:=(t.r.q*(sgP t.q:Rat),putP t.q)
theorem sgP_snoc (l:List Qt) (q:Qt):sgP (l++[q])=sgP l*q.norm.2:=by unfold sgP;rw [List.foldl_append];rfl
theorem putP_y (l:List Qt) {q:Qt} (h:q.norm.2≠0):putP (l++[q])=putQ Qt.cmp (putP l) q.norm.1:=by
 unfold putP nzP;rw [List.filter_append,List.map_append,List.foldl_append,List.filter_cons,if_pos (decide_eq_true h)];rfl
theorem Zsg (l:List Qt):(putP l).length≤l.length:=by
 unfold putP;rw [(Zfl (cmp:=Qt.cmp) (nzP l) []).length_eq,List.append_nil];unfold nzP;rw [List.length_map];exact List.length_filter_le _ _
theorem Zh2 (q:Qt):q.norm.2=-1∨q.norm.2=0∨q.norm.2=1:=by
 unfold Qt.norm Zec Zfi
 repeat' split
 all_goals first|exact .inl rfl|exact .inr (.inl rfl)|exact .inr (.inr rfl)
theorem sg_mul {a b:Int} (ha:a=-1∨a=0∨a=1) (hb:b=-1∨b=0∨b=1):a*b=-1∨a*b=0∨a*b=1:=by
 rcases ha with rfl | rfl | rfl<;>rcases hb with rfl | rfl | rfl<;>decide
theorem sgP_sg (l:List Qt):sgP l=-1∨sgP l=0∨sgP l=1:=by
 have key:∀(l:List Qt) (s:Int),(s=-1∨s=0∨s=1)→(l.foldl (λs q=>s*q.norm.2) s=-1∨l.foldl (λs q=>s*q.norm.2) s=0∨l.foldl (λs q=>s*q.norm.2) s=1):=by
  intro l
  induction l with
  | nil=>intro s h;exact h
  | cons a l ih=>intro s h;exact ih _ (sg_mul h (Zh2 a))
 exact key l 1 (.inr (.inr rfl))
theorem Zt5 {z:Int} (h:z=-1∨z=0∨z=1):Sz (z:Rat) 1:=by
 refine Sz.int ?_ (Nat.le_refl _);rcases h with rfl | rfl | rfl
 ·exact Nat.le_of_eq Zfu
 ·show(toL 0).length≤1;rw [Zaw];exact Nat.zero_le _
 ·exact Nat.le_of_eq Zfu
def nrmR (l:List RE):AV:=if l.all RE.ok=true then qpA (gatM (l.map RE.t)) else .v (.slice none 0 0)
theorem Zk9 {α:Type} {p:α→Bool} {l:List α} {i:Nat} (h:i < l.length) (h1:(l.take i).all p=true) (h2:p l[i]=true):(l.take (i+1)).all p=true:=by
 rw [List.take_add_one,List.getElem?_eq_getElem h,List.all_append,h1];simp [h2]
theorem Ztr {α:Type} {p:α→Bool} {l:List α} {i:Nat} (h:i < l.length) (h2:p l[i]=false):l.all p=false:=by
 rw [List.all_eq_false];exact⟨l[i],List.getElem_mem h,by simp [h2]⟩
end Go.Proofs.YtpkcophcldjboaaGreatDoor
namespace Go.Pg
open Go Go.RowKit
def EntSub (e e':Ent):Prop:=e'.blk=e.blk∧∀(B:Nat) (w:World) (imm:Imm),EntOk B w imm e→EntOk B w imm e'
theorem EntSub.refl (e:Ent):EntSub e e:=⟨rfl,λ_ _ _ h=>h⟩
theorem EntSub.box {g:Nat} {t:TypeId} {cs cs':List AV} {pub:Bool} (hl:cs'.length=cs.length) (h1:∀x∈cs',x.one=true) (h:∀(j:Nat) (a b:AV),cs[j]?=some a→cs'[j]?=some b→Sub a b):EntSub (.box g t cs pub) (.box g t cs' pub):=by
 refine⟨rfl,λB w imm h0=>?_⟩;obtain⟨cur,k1,k2,k3,k4,k5,k6,k7⟩:=h0;refine⟨cur,k1,k2,by rw [hl];exact k3,h1,λj a x ha hx=>?_,k6,λhp off ho=>k7 hp off (by rw [←hl];exact ho)⟩;have hj:j < cs.length:=by rw [←hl];exact(List.getElem?_eq_some_iff.1 ha).1
 exact h j cs[j] a (List.getElem?_eq_getElem hj) ha w imm x (k5 j cs[j] x (List.getElem?_eq_getElem hj) hx)
def Zz5 (R:AV→Mem→Prop) (b:AV) (m:Mem):Prop:=∃(r:AV) (σ':Mem) (ρ:Nat→Nat),Sub b r∧R r σ'∧(∀k e,σ' k=some e→∃e0,m (ρ k)=some e0∧EntSub e0 e)∧(∀k k',σ' k≠none→σ' k'≠none→ρ k=ρ k'→k=k')
theorem Mx.renameG {c:Cx} {m σ':Mem} {w:World} {imm:Imm} (h:Mx c m w imm) (ρ:Nat→Nat) (h3:∀k e,σ' k=some e→∃e0,m (ρ k)=some e0∧EntSub e0 e) (h4:∀k k',σ' k≠none→σ' k'≠none→ρ k=ρ k'→k=k'):Mx c σ' w imm:=by
 refine⟨⟨λk e hk=>?_,λk k' e e' b k1 k2 k3 k4=>?_,h.ok.lt,h.ok.spot⟩,h.below,h.lt,h.old,h.new,h.cells⟩
 ·obtain⟨e0,hm,hs⟩:=h3 k e hk;exact hs.2 _ _ _ (h.ok.ent _ _ hm)
 ·obtain⟨e0,hm,hs⟩:=h3 k e k1;obtain⟨e1,hm',hs'⟩:=h3 k' e' k2;refine h4 k k' (by rw [k1];simp) (by rw [k2];simp) (h.ok.apart _ _ _ _ b hm hm' ?_ ?_)
  ·rw [←hs.1];exact k3
  ·rw [←hs'.1];exact k4
theorem Zrk {P:Program} {f n:Nat} {fn:Func} {code:Code} {rs:List ResultVar} {args args':List AV} {σ:Mem} {R:AV→Mem→Prop} (hf:P.funcs[f]?=some fn) (hb:fn.body=some code) (hn:fn.ntmps=n) (hrs:fn.results=rs.toArray)
 (hc:∀(vs:Array Value) (w:World),(callFunc f vs).run P w=.ok (.enter f vs) w) (hfit:Zbj n code=true) (hal:args'.length≤n) (hsub:Subs args args')
 (h:Za3 P 0 n code (Done P rs λst b=>Zz5 R b st.mem) ⟨λt=>args'.getD t .u,lent σ⟩):ACall P f args σ R:=by
 have key:=Zbu (σ:=lent σ) (R:=Zz5 R) hf hb hn hrs hc hfit hal h;refine⟨hc,λc w imm vs hm hl hr=>?_⟩;have hm':Mx c (lent σ) w imm:=hm.rename (λk=>k - 1000) (λk e hk=>by
  unfold lent at hk;split at hk
  ·cases hk
  ·exact hk) λk k' h1 h2 h3=>by
  unfold lent at h1 h2;split at h1<;>split at h2<;>first|omega|exact absurd rfl h1|exact absurd rfl h2
 refine(key.2 c w imm vs hm' (by rw [←hsub.len];exact hl) λj a x h1 h2=>?_).mono λe w' he=>?_
 ·have hj:j < args.length:=by rw [hsub.len];exact(List.getElem?_eq_some_iff.1 h1).1
  exact hsub.get j args[j] a (List.getElem?_eq_getElem hj) h1 w imm x (hr j args[j] x (List.getElem?_eq_getElem hj) h2)
 ·obtain⟨b,m,imm',x,rfl,⟨r,σ',ρ,h1,h2,h3,h4⟩,h5,h6,h7⟩:=he;exact⟨r,σ',imm',x,rfl,h2,h1 _ _ _ h5,h6.renameG ρ h3 h4,h7⟩
end Go.Pg
namespace Go.Proofs.YtpkcophcldjboaaGreatDoor
open Go Go.RowKit Go.Pg Go.Proofs.Tryz
attribute [-bool_to_prop] Bool.and_eq_decide Bool.or_eq_decide Bool.decide_beq_decide decide_eq_decide
attribute [local go_sem] underlying50 underlying3 underlying128 underlying198 underlying160 underlying21 underlying9 underlying5 underlying149 sz3 by3 z3 szL byL zL
theorem Zzq (x:Nat) (hx:x < 256):Pure prog 189 [.v (.int .u64 (x:Int))] (iv (len8 x:Nat)):=by
 refine Zaa (tok:=0) (rs:=[.tmp 2]) func189 rfl ntmps189 results189 call189 (by rfl) (by simp) ?_;have b:=Zgb (i:=x) (by omega)
 (repeat' (first|(apply Zqm (g:=len8) (n:=256) (by kernel_rfl) (by kernel_rfl) (by omega))|(with_reducible first|refine stp ?_|apply gx1|apply gx2|apply gx3|apply gx4|apply gx5|apply gx6|apply gx7)|(with_reducible refine Zcb ?_;intro _)|((with_reducible refine gE ?_);(try simp (disch:=omega) only [go_sem])<;>first|rfl|omega)|with_reducible refine Zaj (by decide) ?_))
 simp (disch:=omega) only [go_sem,Int.zero_add]
theorem bitsLen (x:Nat) (hx:x < 256):Pure prog 114 [.v (.int .u64 (x:Int))] (iv (len8 x:Nat)):=by
 have c:=Zzq x hx;generalize ((len8 x:Nat):Int)=r at *;refine Zaa (tok:=0) func114 rfl ntmps114 results114 call114 (by rfl) (by simp) ?_;(focus (refine wkap w_t (w_1 c) (w_r 0) ?_;(repeat' first|exact w_t|apply w_l);all_goals intros));all_goals exact gL
end Go.Proofs.YtpkcophcldjboaaGreatDoor
namespace Go.Pol
open Go.Sort
def ltC {α:Type} (cmp:α→α→Int) (x y:α):Bool:=decide (cmp x y < 0)
theorem Zsk {α β:Type} {cmp:α→α→Int} (o:CO cmp) (f:β→α):∀{l m:List β},(∀s∈l,∀t∈l,f s=f t→s=t)→(l.Pairwise λs t=>cmp (f s) (f t)≤0)→(m.Pairwise λs t=>cmp (f s) (f t)≤0)→l.Perm m→l=m
 | [],m,_,_,_,p=>(List.nil_perm.1 p).symm
 | a :: l,[],_,_,_,p=>by have:=p.length_eq;simp at this
 | a :: l,b :: m,hi,hl,hm,p=>by
   have hl':=List.pairwise_cons.1 hl;have hm':=List.pairwise_cons.1 hm
   have hab:a=b:=by
    have h1:a∈b :: m:=p.mem_iff.1 (.head _);have h2:b∈a :: l:=p.mem_iff.2 (.head _);rcases List.mem_cons.1 h1 with h | h1
    ·exact h
    ·rcases List.mem_cons.1 h2 with h | h2
     ·exact h.symm
     ·exact hi a (.head _) b (.tail _ h2) (o.anti (hl'.1 b h2) (hm'.1 a h1))
   subst hab;rw [Zsk o f (λs hs t ht=>hi s (.tail _ hs) t (.tail _ ht)) hl'.2 hm'.2 (List.Perm.cons_inv p)]
theorem dst_inj {κ:Type} {l:List (Rat × κ)} (h:Dst l):∀s∈l,∀t∈l,s.2=t.2→s=t:=by
 induction l with
 | nil=>intro s hs;cases hs
 | cons a l ih =>
   have h':=List.pairwise_cons.1 h;intro s hs t ht e;rcases List.mem_cons.1 hs with rfl | hs
   ·rcases List.mem_cons.1 ht with rfl | ht
    ·rfl
    ·exact absurd e (h'.1 t ht)
   ·rcases List.mem_cons.1 ht with ht | ht
    ·rw [ht] at e;exact absurd e.symm (h'.1 s hs)
    ·exact ih h'.2 s hs t ht e
section
variable {α:Type} {β:Type} (f:α→β)
variable [Inhabited α]
end
end Go.Pol
namespace Go.Pg
open Go Go.RowKit
theorem blw_grow {w w':World} (h:Blw w.heap.size w w'):∃q os,w'=Go.Sort.grow (w.drewN q) os:=by
 refine⟨w'.drawn - w.drawn,w'.heap.extract w.heap.size w'.heap.size,?_⟩;obtain⟨⟨h1,h2,h3,h4,h5⟩,h6⟩:=h;obtain⟨hp,tp,dr,os,op⟩:=w;obtain⟨hp',tp',dr',os',op'⟩:=w';simp only at h1 h2 h3 h4 h5 h6;subst h1;subst h2;subst h3;unfold Go.Sort.grow World.drewN;simp only [World.mk.injEq,and_true,true_and];refine⟨?_,by omega⟩;apply Array.ext_getElem?;intro i;rw [Array.getElem?_append];by_cases hi:i < hp.size
 ·rw [if_pos hi];exact h5 i hi
 ·rw [if_neg hi,Array.getElem?_extract];by_cases hj:i < hp'.size
  ·rw [if_pos (by omega)];congr 1;omega
  ·rw [if_neg (by omega),Array.getElem?_eq_none (by omega)]
section
variable {α:Type} [Inhabited α] {enc:α→List Value} {k:Nat} {w:World} {b m:Nat} {d:Array α} {os:Array Obj}
theorem Zvz:(Go.Proofs.sortWorldK enc k w b 0 m d os).heap.size=w.heap.size+os.size:=by
 simp [Go.Proofs.sortWorldK,Go.Sort.grow,Go.Sort.putRowK,Go.Sort.putRow,Go.Sort.mapBlock,Go.Sort.ahead]
theorem Zrw {i:Nat} (hi:i < w.heap.size) (hb:i≠b):(Go.Proofs.sortWorldK enc k w b 0 m d os).heap[i]?=w.heap[i]?:=by
 simp only [Go.Proofs.sortWorldK,Go.Sort.grow,Go.Sort.putRowK,Go.Sort.putRow,Go.Sort.mapBlock,Go.Sort.ahead];rw [Array.getElem?_append,if_pos (by simpa using hi),Array.getElem?_modify,if_neg (Ne.symm hb)]
theorem sw_row {cur:Array Value} {e:TypeId} (hh:w.heap[b]?=some (.cells cur e (0,0))):(Go.Proofs.sortWorldK enc k w b 0 m d os).heap[b]?=some (.cells (Go.Sort.putCells id 0 (Go.Sort.flatK enc k d) cur) e (0,0)):=by
 have hb:b < w.heap.size:=(Array.getElem?_eq_some_iff.1 hh).1;simp only [Go.Proofs.sortWorldK,Go.Sort.grow,Go.Sort.putRowK,Go.Sort.putRow,Go.Sort.mapBlock,Go.Sort.ahead];rw [Array.getElem?_append,if_pos (by simpa using hb),Array.getElem?_modify,if_pos rfl,hh];rfl
theorem sw_grown (hb:b < w.heap.size):w.grownBy (Go.Proofs.sortWorldK enc k w b 0 m d os) (some b) :=
 ⟨rfl,rfl,rfl,by rw [Zvz];omega,λi hi hne=>Zrw hi λe=>hne (by rw [e])⟩
theorem sw_drawn:w.drawn≤(Go.Proofs.sortWorldK enc k w b 0 m d os).drawn:=Nat.le_add_right _ _
end
def Zcx (xs:List Value) (k n i:Nat):List Value:=(xs.drop ((if i < n then i else 0)*k)).take k
theorem Zri {xs:List Value} {k n:Nat} (hl:xs.length=n*k) (hn:0 < n) (i:Nat):(Zcx xs k n i).length=k:=by
 unfold Zcx;rw [List.length_take,List.length_drop,hl];have h:(if i < n then i else 0)+1≤n:=by split<;>omega
 have:=Nat.mul_le_mul_right k h;rw [Nat.add_mul,Nat.one_mul] at this;omega
theorem Zh7 {xs:List Value} {k n:Nat} {i j:Nat} (hj:j < k):(Zcx xs k n i)[j]?=xs[(if i < n then i else 0)*k+j]?:=by
 unfold Zcx;rw [List.getElem?_take,if_pos hj,List.getElem?_drop]
theorem Zlo {P:Program} {ρ:Go.Shelf.Ren} (L:Go.Proofs.SlLaysF0.n14 P ρ) {k:Nat} (aE:∀w,(isAgg (ρ.t 24)).run P w=.ok true w) (zE:∀w,(Go.sizeOf (ρ.t 24)).run P w=.ok k w) (hk0:0 < k)
 {β:Type} (f:β→List AV) (cmp:β→β→Int) {ty:TypeId} {g:FuncId} {σ:Mem} {K:Nat} {sv:Value} (l:List β) (hf:∀x,(f x).length=k) (hK:σ K=some (.row sv ty k (l.map λx=>.agg (f x)) 0)) (hl:l.length < 4611686018427387904)
 (h1:∀x y,cmp x x=0∧(cmp x y < 0↔0 < cmp y x)) (h2:∀x y z,cmp x y≤0→cmp y z≤0→cmp x z≤0)
 (hc:∀x∈l,∀y∈l,Pure P g [.agg (f x),.agg (f y)] (.v (.int .i64 (cmp x y)))) (he:∀(vs:Array Value) (w:World),(callFunc (ρ.f 14) vs).run P w=.ok (.enter (ρ.f 14) vs) w) (lim:Nat) (hlim:lim < 4611686018427387904)
 (hnil:∀(p:Option Addr) (cap:Nat) (w:World),Calls P (ρ.f 14) #[.slice p 0 cap,.int .i64 0,.int .i64 0,.int .i64 lim,.func (.func g) #[] #[]] w λe w'=>e=.returned (.tuple #[])∧w'=w) :
 ACall P (ρ.f 14) [.own K sv,.v (.int .i64 0),.v (.int .i64 l.length),.v (.int .i64 lim),.fn g []] σ λr σ'=>∃l':List β,l'.Perm l∧l'.Pairwise (λx y=>cmp x y≤0)∧r=.tup []∧σ'=upd σ K (some (.row sv ty k (l'.map λx=>.agg (f x)) 0)):=by
 refine⟨he,λc w imm vs hm hlen hr=>?_⟩
 obtain⟨v0,v2,v3,v4,v1,rfl⟩:∃v0 v2 v3 v4 v1,vs=#[v0,v2,v3,v4,v1]:=by
  have h2:vs.size=5:=by simpa using hlen.symm
  exact⟨vs[0],vs[1],vs[2],vs[3],vs[4],by
   refine Array.ext (by simp [h2]) λi h3 h4=>?_
   match i,(by omega:i < 5) with
   | 0,_=>rfl
   | 1,_=>rfl
   | 2,_=>rfl
   | 3,_=>rfl
   | 4,_=>rfl⟩
 have r0:=hr 0 _ v0 rfl rfl;have r1:=hr 4 _ v1 rfl rfl;obtain rfl:=r0.own_inv;obtain rfl:=(hr 1 _ v2 rfl rfl).v_inv;obtain rfl:=(hr 2 _ v3 rfl rfl).v_inv;obtain rfl:=(hr 3 _ v4 rfl rfl).v_inv;obtain⟨cv,rfl,hcl,-⟩:=r1.fn_inv;obtain rfl:cv=#[]:=Array.eq_empty_of_size_eq_zero (by simpa using hcl.symm);obtain⟨xs,hown,hmm,hok,hrd,hpl,hp,hq⟩:=hm.ok.ent K _ hK;rw [List.length_map] at hown;have nop:∀ad,imm ad→v0.ownBlock≠some ad.block:=λad ha h=>by have:=hp ad ha h;omega
 by_cases hn:l.length=0
 ·obtain⟨p,cap,rfl⟩:∃p cap,v0=.slice p 0 cap:=by
   rcases hown.2 with⟨h,-⟩ | ⟨b,cap,cur,h,-⟩
   ·exact⟨_,_,h⟩
   ·rw [hn] at h;exact⟨_,_,h⟩
  obtain rfl:=List.length_eq_zero_iff.1 hn;refine(hnil p cap w).mono λe w' h=>?_;obtain⟨rfl,rfl⟩:=h;have e1:upd σ K (some (.row (.slice p 0 cap) ty k (([]:List β).map λx=>.agg (f x)) 0))=σ:=funext λj=>by
   rw [Zam];split
   ·rename_i hj;rw [hj,hK]
   ·rfl
  exact⟨.tup [],_,imm,_,rfl,⟨[],.nil,.nil,rfl,rfl⟩,.pure (.tup [] #[] rfl λj a x h1 _=>by simp at h1),by rw [e1];exact hm,Keeps.refl _ _⟩
 have hn:0 < l.length:=Nat.pos_of_ne_zero hn;rcases hown.2 with⟨-,h⟩ | ⟨b,cap,cur,rfl,hB,hh,hnc,hcm,hcs,htake⟩
 ·omega
 obtain⟨n,hnd⟩:∃n,n=l.length:=⟨_,rfl⟩;rw [←hnd] at hn hown hnc htake hl;have ixl:∀i,(if i < n then i else 0) < l.length:=λi=>by split<;>omega
 obtain⟨el,hel⟩:∃el:Nat→β,el=λi=>l[if i < n then i else 0]'(ixl i):=⟨_,rfl⟩;have el_mem:∀i,el i∈l:=λi=>by rw [hel];exact List.getElem_mem _
 have hk:=λi=>Zri (xs:=xs) (k:=k) hown.1 hn i;have hfl:∀i j,j < k→(flat (l.map λx=>AV.agg (f x)))[(if i < n then i else 0)*k+j]?=(f (el i))[j]?:=λi j hj=>by
  rw [Zdx hmm _ _ hj (by rw [List.length_map];exact ixl i),List.getD_eq_getElem?_getD,List.getElem?_map,List.getElem?_eq_getElem (ixl i),hel];rfl
 have rdx:∀i,Rd w imm (.agg (f (el i))) (.agg (Zcx xs k n i).toArray):=λi=>by
  refine .agg _ _ (by rw [hf,List.size_toArray,hk]) λj a x g1 g2=>?_;have hj:j < k:=by rw [←hf (el i)];exact(List.getElem?_eq_some_iff.1 g1).1
  rw [List.getElem?_toArray,Zh7 hj] at g2;exact hrd _ a x (by rw [hfl i j hj];exact g1) g2
 have h1':∀x,∀v∈Zcx xs k n x,v.oneCell'=true:=λi v hv=>by
  obtain⟨j,hj,rfl⟩:=List.mem_iff_getElem.1 hv;rw [hk] at hj;have g2:(Zcx xs k n i)[j]?=some _:=List.getElem?_eq_getElem (by rw [hk];exact hj);rw [Zh7 hj] at g2;have hlt:j < (f (el i)).length:=by rw [hf];exact hj
  have g1:=hfl i j hj;rw [List.getElem?_eq_getElem hlt] at g1;exact(hrd _ _ _ g1 g2).one_of (Zni hok _ (List.mem_of_getElem? g1))
 have hcell:∀(m:Nat) (dk:Array Nat) (os:Array Obj) (ad:Addr),imm ad→(Go.Proofs.sortWorldK (Zcx xs k n) k w b 0 m dk os).cell? ad=w.cell? ad:=λm dk os ad ha=>World.cell?_of_block (Zrw (hm.ok.lt ad ha) λe=>nop ad ha (by rw [←e];rfl))
 have hO:Go.Sort.SWO (Go.Proofs.ltOf λi j=>cmp (el i) (el j)):=by
  refine⟨λx=>?_,λx y z g1 g2=>?_,λx y z g1 g2=>?_⟩
  ·simp [Go.Proofs.ltOf,(h1 (el x) (el x)).1]
  ·simp only [Go.Proofs.ltOf,decide_eq_true_eq] at g1 g2 ⊢;rcases Int.lt_trichotomy (cmp (el x) (el z)) 0 with h | h | h
   ·exact h
   ·have a1:=(h1 (el x) (el y)).2.1 g1;have a2:=h2 (el y) (el z) (el x) (by omega) (by have:=(h1 (el z) (el x)).2;have:=(h1 (el x) (el z)).2;omega);omega
   ·have a1:=(h1 (el x) (el y)).2.1 g1;have a2:=h2 (el y) (el z) (el x) (by omega) (by have:=(h1 (el z) (el x)).2.2 h;omega);omega
  ·simp only [Go.Proofs.ltOf,decide_eq_false_iff_not,Int.not_lt] at g1 g2 ⊢;have a1:cmp (el y) (el x)≤0:=by have:=(h1 (el x) (el y)).2;have:=(h1 (el y) (el x)).2;omega
   have a2:cmp (el z) (el y)≤0:=by have:=(h1 (el y) (el z)).2;have:=(h1 (el z) (el y)).2;omega
   have a3:=h2 (el z) (el y) (el x) a2 a1;have:=(h1 (el x) (el z)).2;have:=(h1 (el z) (el x)).2;omega
 have hcmp:Go.Proofs.CmpLays P g #[] (Zcx xs k n) k (λi j=>cmp (el i) (el j)) b 0 (Array.range n).size w:=λm os dk hs x y=>by
  refine((hc _ (el_mem x) _ (el_mem y)).2 (Go.Proofs.sortWorldK (Zcx xs k n) k w b 0 m dk os) imm _ (λad ha=>⟨by rw [Zvz];have:=hm.ok.lt ad ha;omega,hm.ok.spot ad ha⟩) rfl λj a z g1 g2=>?_).mono λe w' h=>?_
  ·match j with
   | 0=>simp at g1 g2;subst g1;subst g2;exact(rdx x).keep (λ_ h=>h) (hcell m dk os)
   | 1=>simp at g1 g2;subst g1;subst g2;exact(rdx y).keep (λ_ h=>h) (hcell m dk os)
   | j+2=>simp at g1
  ·obtain⟨x,i2,rfl,hx,-,-,hb⟩:=h;cases hx;exact⟨rfl,blw_grow hb⟩
 have hxl:xs.length=n*k:=hown.1;have hcl:n*k≤cur.size:=by rw [hcs];exact Nat.mul_le_mul_right _ hnc
 have curx:∀j,j < n*k→cur[j]?=xs[j]?:=λj hj=>by rw [←htake,List.getElem?_take,if_pos hj,Array.getElem?_toList]
 have dk:∀(d:Array Nat),d.size=n→∀j,j < n*k→d[j/k]! < n→(Go.Sort.flatK (Zcx xs k n) k d)[j]! = (xs[d[j/k]!*k+j%k]?).getD default:=λd hd j hj hlt=>by
  rw [Go.Sort.get_flatK _ _ _ _ (by rw [hd];exact hj),List.getElem!_eq_getElem?_getD,Zh7 (Nat.mod_lt _ hk0),if_pos hlt]
 have rng:∀i,i < n→(Array.range n)[i]! = i:=λi hi=>by rw [getElem!_pos _ i (by simpa using hi)];simp
 have dvl:∀j,j < n*k→j/k < n:=λj hj=>(Nat.div_lt_iff_lt_mul hk0).2 hj
 have hH:Go.Sort.HoldsK (Zcx xs k n) k w b 0 (Array.range n):=by
  intro j hj;rw [Go.Sort.size_flatK,Array.size_range] at hj;have hj2:=dvl j hj;have e1:=dk (Array.range n) (by simp) j hj (by rw [rng _ hj2];exact hj2);rw [rng _ hj2,Nat.mul_comm (j/k) k,Nat.div_add_mod] at e1;refine⟨?_,by simp [World.frozen?,hh]⟩;rw [Nat.zero_add];have:w.cell? ⟨b,j,none⟩=cur[j]?:=by simp [World.cell?,hh]
  rw [this,curx j hj,e1,List.getElem?_eq_getElem (by omega)];rfl
 have hblk:b < w.heap.size:=(Array.getElem?_eq_some_iff.1 hh).1;have hcall:=Go.Proofs.AnyQ.pdqsortCmpFunc_all L k aE zE (Zcx xs k n) (λi j=>cmp (el i) (el j)) g #[] hO b 0 cap (Array.range n) w (hc _ (el_mem 0) _ (el_mem 0)).1 hcmp ⟨hk,h1',hH,hblk⟩ (n+1) 0 n lim (Array.range n) w (by omega) rfl (Go.Proofs.SWK.start hH) (Nat.zero_le _) (by simp) (by rw [Array.size_range];exact hl) hlim (.inl rfl);rw [Array.size_range] at hcall;rw [←hnd];refine hcall.mono λe w' h=>?_;obtain⟨rfl,n1,os,rfl⟩:=h;have hps:=Go.Sort.pdq_sorts (Go.Proofs.ltOf λi j=>cmp (el i) (el j)) hO (Array.range n) 0 n lim true true (Nat.zero_le _) (by simp) (.inl rfl)
 obtain⟨hpm,hsd⟩:=hps;generalize Go.Sort.pdq (Go.Proofs.ltOf λi j=>cmp (el i) (el j)) (Array.range n) 0 n lim true true=d' at hpm hsd;have hds:d'.size=n:=by rw [hpm.1,Array.size_range]
 have hperm:d'.toList.Perm (List.range n):=by
  have h3:=hpm.2.2;rw [show d'.extract 0 n=d' from by rw [←hds];simp,show(Array.range n).extract 0 n=Array.range n from by simp] at h3
  simpa using h3
 have hmap:(List.range n).map el=l:=by
  refine List.ext_getElem (by simp [hnd]) λi g1 g2=>?_;rw [List.getElem_map,List.getElem_range,hel];simp only [hnd];congr 1;rw [if_pos g2]
 have hdl:∀i,i < n→d'[i]! < n:=λi hi=>by
  rw [getElem!_pos _ i (by omega)];have:d'[i]∈d'.toList:=by rw [Array.mem_toList_iff];exact Array.getElem_mem _
  exact List.mem_range.1 (hperm.mem_iff.1 this)
 obtain⟨l',hl'⟩:∃l',l'=d'.toList.map el:=⟨_,rfl⟩;have hll:l'.length=n:=by rw [hl',List.length_map,Array.length_toList,hds]
 obtain⟨cur',hcur'⟩:∃c',c'=Go.Sort.putCells id 0 (Go.Sort.flatK (Zcx xs k n) k d') cur:=⟨_,rfl⟩;have hcs':cur'.size=cap*k:=by rw [hcur',Go.Sort.putCells,Array.size_mapIdx,hcs]
 have hmm':∀x∈l'.map (λx=>AV.agg (f x)),x.cells.length=k:=λx hx=>by
  obtain⟨y,-,rfl⟩:=List.mem_map.1 hx;exact hf y
 have hok':∀x∈l'.map (λx=>AV.agg (f x)),x.ok=true:=λx hx=>by
  obtain⟨y,hy,rfl⟩:=List.mem_map.1 hx;rw [hl'] at hy;obtain⟨i,-,rfl⟩:=List.mem_map.1 hy;exact hok _ (List.mem_map.2 ⟨_,el_mem i,rfl⟩)
 have hsw:=sw_row (enc:=Zcx xs k n) (k:=k) (m:=n1) (d:=d') (os:=os) hh;rw [←hcur'] at hsw;obtain⟨mx,kp⟩:=Zdf hm (sw_grown (enc:=Zcx xs k n) (k:=k) (m:=n1) (d:=d') (os:=os) hblk) sw_drawn (λg' hg'=>by cases hg';exact hB) (hcell n1 d' os) K (.row (.slice (some ⟨b,0,none⟩) n cap) ty k (l'.map λx=>.agg (f x)) 0)
  ⟨cur'.toList.take (n*k),⟨by rw [List.length_take,Array.length_toList,hcs',List.length_map,hll];exact Nat.min_eq_left (Nat.mul_le_mul_right _ hnc),.inr ⟨b,cap,cur',by rw [List.length_map,hll],hB,hsw,by rw [List.length_map,hll];exact hnc,hcm,hcs',by rw [List.length_map,hll]⟩⟩,hmm',hok',λj a x g1 g2=>by
   have hj:j < n*k:=by
    have:=(List.getElem?_eq_some_iff.1 g2).1;rw [List.length_take] at this;omega
   rw [List.getElem?_take,if_pos hj,Array.getElem?_toList,hcur',Go.Sort.putCells,Array.getElem?_mapIdx,curx j hj,List.getElem?_eq_getElem (by rw [hxl];exact hj)] at g2;simp only [Option.map_some,Option.some.injEq,Nat.zero_le,true_and,Nat.zero_add,Nat.sub_zero,Go.Sort.size_flatK,hds,hj,if_true,id] at g2;have hj2:=dvl j hj;rw [dk d' hds j hj (hdl _ hj2)] at g2;have hjm:=Nat.mod_lt j hk0
   have hdt:d'.toList[j/k]?=some d'[j/k]!:=by
    have hjd:j/k < d'.size:=by rw [hds];exact hj2
    rw [Array.getElem?_toList,Array.getElem?_eq_getElem hjd,getElem!_pos d' (j/k) hjd]
   have hfg:=Zdx hmm' (j/k) (j%k) hjm (by rw [List.length_map,hll];exact hj2);rw [Nat.mul_comm (j/k) k,Nat.div_add_mod,g1,List.getD_eq_getElem?_getD,List.getElem?_map,hl',List.getElem?_map,hdt] at hfg;have g3:=hfl (d'[j/k]!) (j%k) hjm;rw [if_pos (hdl _ hj2)] at g3;have g4:(f (el d'[j/k]!))[j%k]?=some a:=hfg.symm
   have hxj:d'[j/k]!*k+j%k < xs.length:=by
    rw [hxl];have:=Nat.mul_le_mul_right k (show d'[j/k]!+1≤n from hdl _ hj2);rw [Nat.add_mul,Nat.one_mul] at this;omega
   rw [List.getElem?_eq_getElem hxj] at g2;refine(hrd (d'[j/k]!*k+j%k) a x (by rw [g3];exact g4) (by rw [List.getElem?_eq_getElem hxj,←g2];rfl)).keep (λ_ h=>h) (hcell n1 d' os),Nat.zero_le _,λad ha h=>absurd h (nop ad ha),λg off _ h=>absurd h (by omega)⟩
  (λj e2 bb hj hje hb=>⟨λe=>hj (hm.ok.apart j K e2 _ bb hje hK hb (by rw [e];rfl)),λe=>hj (hm.ok.apart j K e2 _ bb hje hK hb e)⟩)
 refine⟨.tup [],_,imm,_,rfl,⟨l',?_,?_,rfl,rfl⟩,.pure (.tup [] #[] rfl λj a x h1 _=>by simp at h1),mx,kp⟩
 ·rw [hl'];have:=hperm.map el
  rwa [hmap] at this
 ·rw [hl',List.pairwise_map];refine List.pairwise_iff_getElem.2 λi j g1 g2 hij=>?_;have:=hsd i j (Nat.zero_le _) hij (by simpa [hds] using g2);rw [Array.length_toList] at g1 g2;rw [getElem!_pos d' i g1,getElem!_pos d' j g2] at this;simp only [Go.Proofs.ltOf,decide_eq_false_iff_not,Int.not_lt] at this;simp only [Array.getElem_toList];have h3:=(h1 (el d'[i]) (el d'[j])).2;have h4:=(h1 (el d'[j]) (el d'[i])).2;omega
end Go.Pg
namespace Go.Proofs.YtpkcophcldjboaaGreatDoor
open Go Go.RowKit Go.Pg Go.Pol Go.Proofs.Tryz
attribute [-bool_to_prop] Bool.and_eq_decide Bool.or_eq_decide Bool.decide_beq_decide decide_eq_decide
theorem Zcu {P:Program} {t:TypeId} {w:World} (h:(P.underlying t).map Zfw=some false):(isAgg t).run P w=.ok false w:=by
 obtain⟨d,hd,h⟩:=Option.map_eq_some_iff.1 h;simp only [isAgg,Sem.run_bind,run_underlying hd,Result.andThen_ok];cases d<;>first|rfl|cases h
theorem ag_st {P:Program} {t:TypeId} {w:World} (h:(P.underlying t).map Zfw=some true):(isAgg t).run P w=.ok true w:=by
 obtain⟨d,hd,h⟩:=Option.map_eq_some_iff.1 h;simp only [isAgg,Sem.run_bind,run_underlying hd,Result.andThen_ok];cases d<;>first|rfl|cases h
def sqR:Go.Shelf.Ren:=⟨fun | 14=>113 | 15=>114 | 20=>180 | 21=>181 | 22=>182 | 23=>183 | 24=>184 | 25=>185 | 26=>186 | 27=>187 | 28=>188 | 29=>189 | 46=>226 | 47=>227 | 48=>228 | 49=>229 | 50=>230 | 57=>253 | n=>n,fun | 0=>0 | 3=>3 | 4=>4 | 5=>5 | 9=>9 | 22=>55 | 24=>39 | 25=>89 | 39=>149 | 45=>191 | 46=>192 | 50=>169 | 53=>198 | 55=>160 | 66=>227 | 70=>231 | 76=>247 | 77=>248 | n=>n,λn=>n⟩
theorem sqL:Go.Proofs.SlLaysF0.n14 prog sqR:={
 mixed:=by kernel_rfl
 f14:=⟨f113.name,by decide,by kernel_rfl⟩
 f15:=by kernel_rfl
 f20:=⟨f180.name,by decide,by kernel_rfl⟩
 f21:=⟨f181.name,by decide,by kernel_rfl⟩
 f22:=⟨f182.name,by decide,by kernel_rfl⟩
 f23:=⟨f183.name,by decide,by kernel_rfl⟩
 f24:=⟨f184.name,by decide,by kernel_rfl⟩
 f25:=⟨f185.name,by decide,by kernel_rfl⟩
 f26:=⟨f186.name,by decide,by kernel_rfl⟩
 f27:=⟨f187.name,by decide,by kernel_rfl⟩
 f28:=by kernel_rfl
 f29:=by kernel_rfl
 f46:=⟨f226.name,by decide,by kernel_rfl⟩
 f47:=by kernel_rfl
 f48:=by kernel_rfl
 f49:=⟨f229.name,by decide,by kernel_rfl⟩
 f50:=⟨f230.name,by decide,by kernel_rfl⟩
 f57:=⟨f253.name,by decide,by kernel_rfl⟩
 t0:=by kernel_rfl
 a0:=λ_=>Zcu (t:=0) (by kernel_rfl)
 z0:=λ_=>Zac (by kernel_rfl)
 v0:=λ_=>Zab (by kernel_rfl)
 t3:=by kernel_rfl
 a3:=λ_=>Zcu (t:=3) (by kernel_rfl)
 z3:=λ_=>Zac (by kernel_rfl)
 v3:=λ_=>Zab (by kernel_rfl)
 t4:=by kernel_rfl
 a4:=λ_=>Zcu (t:=4) (by kernel_rfl)
 z4:=λ_=>Zac (by kernel_rfl)
 v4:=λ_=>Zab (by kernel_rfl)
 t5:=by kernel_rfl
 a5:=λ_=>Zcu (t:=5) (by kernel_rfl)
 z5:=λ_=>Zac (by kernel_rfl)
 v5:=λ_=>Zab (by kernel_rfl)
 t9:=by kernel_rfl
 a9:=λ_=>Zcu (t:=9) (by kernel_rfl)
 z9:=λ_=>Zac (by kernel_rfl)
 v9:=λ_=>Zab (by kernel_rfl)
 t22:=by kernel_rfl
 a22:=λ_=>Zcu (t:=55) (by kernel_rfl)
 z22:=λ_=>Zac (by kernel_rfl)
 v22:=λ_=>Zab (by kernel_rfl)
 t25:=by kernel_rfl
 a25:=λ_=>Zcu (t:=89) (by kernel_rfl)
 z25:=λ_=>Zac (by kernel_rfl)
 v25:=λ_=>Zab (by kernel_rfl)
 t39:=by kernel_rfl
 a39:=λ_=>Zcu (t:=149) (by kernel_rfl)
 z39:=λ_=>Zac (by kernel_rfl)
 v39:=λ_=>Zab (by kernel_rfl)
 t45:=by kernel_rfl
 a45:=λ_=>Zcu (t:=191) (by kernel_rfl)
 z45:=λ_=>Zac (by kernel_rfl)
 v45:=λ_=>Zab (by kernel_rfl)
 t46:=by kernel_rfl
 a46:=λ_=>Zcu (t:=192) (by kernel_rfl)
 z46:=λ_=>Zac (by kernel_rfl)
 v46:=λ_=>Zab (by kernel_rfl)
 t50:=by kernel_rfl
 a50:=λ_=>Zcu (t:=169) (by kernel_rfl)
 z50:=λ_=>Zac (by kernel_rfl)
 v50:=λ_=>Zab (by kernel_rfl)
 t53:=by kernel_rfl
 a53:=λ_=>Zcu (t:=198) (by kernel_rfl)
 z53:=λ_=>Zac (by kernel_rfl)
 v53:=λ_=>Zab (by kernel_rfl)
 t55:=by kernel_rfl
 a55:=λ_=>Zcu (t:=160) (by kernel_rfl)
 z55:=λ_=>Zac (by kernel_rfl)
 v55:=λ_=>Zab (by kernel_rfl)
 t66:=by kernel_rfl
 a66:=λ_=>Zcu (t:=227) (by kernel_rfl)
 z66:=λ_=>Zac (by kernel_rfl)
 v66:=λ_=>Zab (by kernel_rfl)
 t70:=by kernel_rfl
 a70:=λ_=>Zcu (t:=231) (by kernel_rfl)
 z70:=λ_=>Zac (by kernel_rfl)
 v70:=λ_=>Zab (by kernel_rfl)
 t76:=by kernel_rfl
 a76:=λ_=>Zcu (t:=247) (by kernel_rfl)
 z76:=λ_=>Zac (by kernel_rfl)
 v76:=λ_=>Zab (by kernel_rfl)
 t77:=by kernel_rfl
 a77:=λ_=>Zcu (t:=248) (by kernel_rfl)
 z77:=λ_=>Zac (by kernel_rfl)
 v77:=λ_=>Zab (by kernel_rfl)
}
def stR:Go.Shelf.Ren:=⟨fun | 14=>211 | 15=>114 | 20=>238 | 21=>239 | 22=>240 | 23=>241 | 24=>242 | 25=>243 | 26=>244 | 27=>245 | 28=>188 | 29=>189 | 46=>256 | 47=>227 | 48=>228 | 49=>257 | 50=>258 | 57=>264 | n=>n,fun | 0=>0 | 3=>3 | 4=>4 | 5=>5 | 9=>9 | 22=>26 | 24=>57 | 25=>172 | 39=>149 | 45=>191 | 46=>192 | 50=>169 | 53=>198 | 55=>160 | 66=>227 | 70=>231 | 76=>247 | 77=>248 | n=>n,λn=>n⟩
theorem stL:Go.Proofs.SlLaysF0.n14 prog stR:={
 mixed:=by kernel_rfl
 f14:=⟨f211.name,by decide,by kernel_rfl⟩
 f15:=by kernel_rfl
 f20:=⟨f238.name,by decide,by kernel_rfl⟩
 f21:=⟨f239.name,by decide,by kernel_rfl⟩
 f22:=⟨f240.name,by decide,by kernel_rfl⟩
 f23:=⟨f241.name,by decide,by kernel_rfl⟩
 f24:=⟨f242.name,by decide,by kernel_rfl⟩
 f25:=⟨f243.name,by decide,by kernel_rfl⟩
 f26:=⟨f244.name,by decide,by kernel_rfl⟩
 f27:=⟨f245.name,by decide,by kernel_rfl⟩
 f28:=by kernel_rfl
 f29:=by kernel_rfl
 f46:=⟨f256.name,by decide,by kernel_rfl⟩
 f47:=by kernel_rfl
 f48:=by kernel_rfl
 f49:=⟨f257.name,by decide,by kernel_rfl⟩
 f50:=⟨f258.name,by decide,by kernel_rfl⟩
 f57:=⟨f264.name,by decide,by kernel_rfl⟩
 t0:=by kernel_rfl
 a0:=λ_=>Zcu (t:=0) (by kernel_rfl)
 z0:=λ_=>Zac (by kernel_rfl)
 v0:=λ_=>Zab (by kernel_rfl)
 t3:=by kernel_rfl
 a3:=λ_=>Zcu (t:=3) (by kernel_rfl)
 z3:=λ_=>Zac (by kernel_rfl)
 v3:=λ_=>Zab (by kernel_rfl)
 t4:=by kernel_rfl
 a4:=λ_=>Zcu (t:=4) (by kernel_rfl)
 z4:=λ_=>Zac (by kernel_rfl)
 v4:=λ_=>Zab (by kernel_rfl)
 t5:=by kernel_rfl
 a5:=λ_=>Zcu (t:=5) (by kernel_rfl)
 z5:=λ_=>Zac (by kernel_rfl)
 v5:=λ_=>Zab (by kernel_rfl)
 t9:=by kernel_rfl
 a9:=λ_=>Zcu (t:=9) (by kernel_rfl)
 z9:=λ_=>Zac (by kernel_rfl)
 v9:=λ_=>Zab (by kernel_rfl)
 t22:=by kernel_rfl
 a22:=λ_=>Zcu (t:=26) (by kernel_rfl)
 z22:=λ_=>Zac (by kernel_rfl)
 v22:=λ_=>Zab (by kernel_rfl)
 t25:=by kernel_rfl
 a25:=λ_=>Zcu (t:=172) (by kernel_rfl)
 z25:=λ_=>Zac (by kernel_rfl)
 v25:=λ_=>Zab (by kernel_rfl)
 t39:=by kernel_rfl
 a39:=λ_=>Zcu (t:=149) (by kernel_rfl)
 z39:=λ_=>Zac (by kernel_rfl)
 v39:=λ_=>Zab (by kernel_rfl)
 t45:=by kernel_rfl
 a45:=λ_=>Zcu (t:=191) (by kernel_rfl)
 z45:=λ_=>Zac (by kernel_rfl)
 v45:=λ_=>Zab (by kernel_rfl)
 t46:=by kernel_rfl
 a46:=λ_=>Zcu (t:=192) (by kernel_rfl)
 z46:=λ_=>Zac (by kernel_rfl)
 v46:=λ_=>Zab (by kernel_rfl)
 t50:=by kernel_rfl
 a50:=λ_=>Zcu (t:=169) (by kernel_rfl)
 z50:=λ_=>Zac (by kernel_rfl)
 v50:=λ_=>Zab (by kernel_rfl)
 t53:=by kernel_rfl
 a53:=λ_=>Zcu (t:=198) (by kernel_rfl)
 z53:=λ_=>Zac (by kernel_rfl)
 v53:=λ_=>Zab (by kernel_rfl)
 t55:=by kernel_rfl
 a55:=λ_=>Zcu (t:=160) (by kernel_rfl)
 z55:=λ_=>Zac (by kernel_rfl)
 v55:=λ_=>Zab (by kernel_rfl)
 t66:=by kernel_rfl
 a66:=λ_=>Zcu (t:=227) (by kernel_rfl)
 z66:=λ_=>Zac (by kernel_rfl)
 v66:=λ_=>Zab (by kernel_rfl)
 t70:=by kernel_rfl
 a70:=λ_=>Zcu (t:=231) (by kernel_rfl)
 z70:=λ_=>Zac (by kernel_rfl)
 v70:=λ_=>Zab (by kernel_rfl)
 t76:=by kernel_rfl
 a76:=λ_=>Zcu (t:=247) (by kernel_rfl)
 z76:=λ_=>Zac (by kernel_rfl)
 v76:=λ_=>Zab (by kernel_rfl)
 t77:=by kernel_rfl
 a77:=λ_=>Zcu (t:=248) (by kernel_rfl)
 z77:=λ_=>Zac (by kernel_rfl)
 v77:=λ_=>Zab (by kernel_rfl)
}
theorem co_h1 {α:Type} {cmp:α→α→Int} (o:CO cmp) (x y:α):cmp x x=0∧(cmp x y < 0↔0 < cmp y x):=⟨o.refl x,o.flip x y⟩
theorem co_h2 {α:Type} {cmp:α→α→Int} (o:CO cmp) (a b c:α) (h1:cmp a b≤0) (h2:cmp b c≤0):cmp a c≤0:=o.le_tr h1 h2
theorem sqPdqK (σ:Mem) (K:Nat) (sv:Value) (L:List Qt) (lm:Nat) (hK:σ K=some (.row sv 39 4 (L.map Qt.av) 0)) (hl:L.length≤1000000000) (hlim:lm≤1000000000):ACall prog 113 [.own K sv,iv 0,iv L.length,iv lm,.fn 43 []] σ λr σ'=>r=.tup []∧σ'=upd σ K (some (.row sv 39 4 ((srtQ Qt.cmp L).map Qt.av) 0)):=by
 refine(Zlo sqL (k:=4) (λ_=>ag_st (t:=39) (by kernel_rfl)) (λ_=>Zac (by kernel_rfl)) (by omega) (λq:Qt=>[iv q.k,iv q.a,iv q.b,iv q.c]) Qt.cmp (g:=43) L (λ_=>rfl) hK (by omega) (co_h1 qtO) (co_h2 qtO) (λx _ y _=>quCmp x.k x.a x.b x.c y.k y.a y.b y.c) call113 lm (by omega) λp cap w=>Go.Proofs.AnyF.pdqsortCmpFunc_none sqL p cap lm _ w).mono λr σ' h=>?_;obtain⟨l',hp,hs,rfl,rfl⟩:=h;have e:l'=srtQ Qt.cmp L:=Zfo qtO hs (Zbz qtO.cp _) (hp.trans (Za2 _).symm);rw [e];exact⟨rfl,rfl⟩
theorem stPdqK (σ:Mem) (K:Nat) (sv:Value) (L:List (Rat × List Qt)) (lm:Nat) (hK:σ K=some (.row sv 57 4 (L.map qtA) 0)) (hl:L.length≤1000000000) (hq:∀t∈L,t.2.length≤1000000) (hd:Dst L) (hlim:lm≤1000000000):ACall prog 211 [.own K sv,iv 0,iv L.length,iv lm,.fn 154 []] σ λr σ'=>r=.tup []∧σ'=upd σ K (some (.row sv 57 4 ((srtQ ordT L).map qtA) 0)):=by
 refine(Zlo stL (k:=4) (λ_=>ag_st (t:=57) (by kernel_rfl)) (λ_=>Zac (by kernel_rfl)) (by omega) (λt:Rat × List Qt=>[.v (.bool (decide (t.1.num < 0))),lim (toL t.1.num.natAbs),lim (toL t.1.den),.sl 4 (t.2.map Qt.av)]) ordT (g:=154) L (λ_=>rfl) hK (by omega) (λs t=>co_h1 Zbk s.2 t.2) (λs t u=>co_h2 Zbk s.2 t.2 u.2) (λs hs t ht=>exCmpT s t (hq s hs) (hq t ht)) call211 lm (by omega) λp cap w=>Go.Proofs.AnyF.pdqsortCmpFunc_none stL p cap lm _ w).mono λr σ' h=>?_;obtain⟨l',hp,hs,rfl,rfl⟩:=h;have e:l'=srtQ ordT L:=Zsk Zbk (λs:Rat × List Qt=>s.2) (λs hs' t ht' e=>dst_inj hd s (hp.mem_iff.1 hs') t (hp.mem_iff.1 ht') e) hs (Zbz (Zbk.cp.key λs:Rat × List Qt=>s.2) L) (hp.trans (Za2 _).symm)
 rw [e];exact⟨rfl,rfl⟩
end Go.Proofs.YtpkcophcldjboaaGreatDoor
namespace Go.Proofs.YtpkcophcldjboaaGreatDoor
open Go Go.RowKit Go.Pg Go.Proofs.Tryz
attribute [-bool_to_prop] Bool.and_eq_decide Bool.or_eq_decide Bool.decide_beq_decide decide_eq_decide
theorem szXs:szOf prog 227=some 1:=by kernel_rfl
theorem byXs:Zhs prog 227=some 8:=by kernel_rfl
theorem zXs:Zau prog 227=some (.int .u64 0):=by kernel_rfl
end Go.Proofs.YtpkcophcldjboaaGreatDoor
namespace Go.Pol
open Go.Sort
section
variable {α:Type} [Inhabited α] {lt:α→α→Bool}
theorem bitsLen_256 {x:Nat} (h:256≤x):bitsLen x=8+bitsLen (x/256):=by
 have h1:=lt_two_pow_bitsLen x;have h2:=lt_two_pow_bitsLen (x/256)
 have h3:8 < bitsLen x:=by
  rcases Nat.lt_or_ge 8 (bitsLen x) with h | h
  ·exact h
  ·have:=(bitsLen_le_iff x 8).1 h;omega
 have a:bitsLen x≤8+bitsLen (x/256):=(bitsLen_le_iff _ _).2 (by rw [Nat.pow_add];omega);have b:bitsLen (x/256)≤bitsLen x - 8:=(bitsLen_le_iff _ _).2 (by
  obtain⟨m,hm⟩:∃m,bitsLen x=8+m:=⟨bitsLen x - 8,by omega⟩;rw [hm] at h1 ⊢;rw [Nat.pow_add] at h1;rw [show 8+m - 8=m by omega];exact Nat.div_lt_of_lt_mul h1)
 omega
def hintN (n:Nat):Hint:=if n=0 then .increasing else if n=12 then .decreasing else .unknown
section
variable {d d1 d2:Array α} {a b lim lim1 pv:Nat} {wb wp:Bool} {c:Nat × Hint} {hint:Hint} {pi:Array α × Bool}
end
end
end Go.Pol
namespace Go.Proofs.YtpkcophcldjboaaGreatDoor
open Go Go.RowKit Go.Pg Go.Pol Go.Proofs.Tryz
attribute [-bool_to_prop] Bool.and_eq_decide Bool.or_eq_decide Bool.decide_beq_decide decide_eq_decide
attribute [local go_sem] underlying3 underlying4 underlying149 underlying5 underlying160 underlying9 underlying227 underlying247 sz3 by3 z3 szXs byXs zXs
theorem Zp3 (a:Nat) (s:Nat) (hs:s < 64):shrI .u64 (a:Int) (s:Int)=((a/2 ^ s:Nat):Int):=by
 unfold shrI;rw [show min ((s:Int).toNat) IntKind.u64.bits=s by rw [Int.toNat_natCast];exact Nat.min_eq_left (by show s≤64;omega),Int.fdiv_eq_ediv_of_nonneg _ (Int.le_of_lt (Int.pow_pos (by decide)))];simp
def hintI:Go.Sort.Hint→Int
 | .unknown=>0
 | .increasing=>1
 | .decreasing=>2
abbrev u64A (n:Nat):AV:=.v (.int .u64 (n:Int))
theorem Zm7 (i:Nat):len8 i=Go.Sort.bitsLen i:=rfl
theorem bLen64 (x:Nat) (hx:x≤1000000000):Pure prog 189 [u64A x] (iv (Go.Sort.bitsLen x:Nat)):=by
 have n32:¬(4294967296:Int)≤(x:Int):=by omega
 by_cases h16:65536≤x
 ·have g16:(65536:Int)≤(x:Int):=by omega
  have b1:=Go.Pol.bitsLen_256 (x:=x) (by omega);have b2:=Go.Pol.bitsLen_256 (x:=x/256) (by omega);rw [Nat.div_div_eq_div_mul] at b2;have b2:Go.Sort.bitsLen (x/256)=8+Go.Sort.bitsLen (x/65536):=b2;have s16:shrI .u64 (x:Int) 16=((x/65536:Nat):Int):=Zp3 x 16 (by omega);have hy:x/65536≤15258:=by omega
  rw [b1,b2];clear b1 b2;generalize x/65536=y at *;have s8:shrI .u64 (y:Int) 8=((y/256:Nat):Int):=Zp3 y 8 (by omega);by_cases h8:256≤y
  ·have g8:(256:Int)≤(y:Int):=by omega
   rw [Go.Pol.bitsLen_256 h8];have hz:y/256 < 256:=by omega
   generalize y/256=z at *;rw [←Zm7];have b:=Zgb hz;refine Zaa (tok:=0) func189 rfl ntmps189 results189 call189 (by rfl) (by simp) ?_
   (repeat' (first|(apply Zqm (g:=len8) (n:=256) (by kernel_rfl) (by kernel_rfl) (by omega))|(with_reducible first|refine stp ?_|apply gx1|apply gx2|apply gx3|apply gx4|apply gx5|apply gx6|apply gx7)|(with_reducible refine Zcb ?_;intro _)|((with_reducible refine gE ?_);(try simp (disch:=omega) only [go_sem,n32,g16,s16,s8,g8])<;>first|rfl|omega)|with_reducible refine Zaj (by decide) ?_))
   (all_goals (try simp (disch:=omega) only [go_sem,decide_eq_true,decide_eq_false,if_pos,if_neg,Int.reduceAdd,Int.reduceSub,Int.reduceToNat,Int.zero_add]));(all_goals first|done|rfl|(congr 2;first|done|omega|(rw [Bool.eq_iff_iff];simp only [bool_to_prop,Bool.false_eq_true,iff_true,true_iff,iff_false,false_iff];omega))|skip)
  ·have g8:¬(256:Int)≤(y:Int):=by omega
   rw [←Zm7];have b:=Zgb (i:=y) (by omega);refine Zaa (tok:=0) func189 rfl ntmps189 results189 call189 (by rfl) (by simp) ?_
   (repeat' (first|(apply Zqm (g:=len8) (n:=256) (by kernel_rfl) (by kernel_rfl) (by omega))|(with_reducible first|refine stp ?_|apply gx1|apply gx2|apply gx3|apply gx4|apply gx5|apply gx6|apply gx7)|(with_reducible refine Zcb ?_;intro _)|((with_reducible refine gE ?_);(try simp (disch:=omega) only [go_sem,n32,g16,s16,s8,g8])<;>first|rfl|omega)|with_reducible refine Zaj (by decide) ?_))
   (all_goals (try simp (disch:=omega) only [go_sem,decide_eq_true,decide_eq_false,if_pos,if_neg,Int.reduceAdd,Int.reduceSub,Int.reduceToNat,Int.zero_add]));(all_goals first|done|rfl|(congr 2;first|done|omega|(rw [Bool.eq_iff_iff];simp only [bool_to_prop,Bool.false_eq_true,iff_true,true_iff,iff_false,false_iff];omega))|skip)
 ·have g16:¬(65536:Int)≤(x:Int):=by omega
  have s8:shrI .u64 (x:Int) 8=((x/256:Nat):Int):=Zp3 x 8 (by omega);by_cases h8:256≤x
  ·have g8:(256:Int)≤(x:Int):=by omega
   rw [Go.Pol.bitsLen_256 h8];have hz:x/256 < 256:=by omega
   generalize x/256=z at *;rw [←Zm7];have b:=Zgb hz;refine Zaa (tok:=0) func189 rfl ntmps189 results189 call189 (by rfl) (by simp) ?_
   (repeat' (first|(apply Zqm (g:=len8) (n:=256) (by kernel_rfl) (by kernel_rfl) (by omega))|(with_reducible first|refine stp ?_|apply gx1|apply gx2|apply gx3|apply gx4|apply gx5|apply gx6|apply gx7)|(with_reducible refine Zcb ?_;intro _)|((with_reducible refine gE ?_);(try simp (disch:=omega) only [go_sem,n32,g16,s8,g8])<;>first|rfl|omega)|with_reducible refine Zaj (by decide) ?_))
   (all_goals (try simp (disch:=omega) only [go_sem,decide_eq_true,decide_eq_false,if_pos,if_neg,Int.reduceAdd,Int.reduceSub,Int.reduceToNat,Int.zero_add]));(all_goals first|done|rfl|(congr 2;first|done|omega|(rw [Bool.eq_iff_iff];simp only [bool_to_prop,Bool.false_eq_true,iff_true,true_iff,iff_false,false_iff];omega))|skip)
  ·have g8:¬(256:Int)≤(x:Int):=by omega
   rw [←Zm7];have b:=Zgb (i:=x) (by omega);refine Zaa (tok:=0) func189 rfl ntmps189 results189 call189 (by rfl) (by simp) ?_
   (repeat' (first|(apply Zqm (g:=len8) (n:=256) (by kernel_rfl) (by kernel_rfl) (by omega))|(with_reducible first|refine stp ?_|apply gx1|apply gx2|apply gx3|apply gx4|apply gx5|apply gx6|apply gx7)|(with_reducible refine Zcb ?_;intro _)|((with_reducible refine gE ?_);(try simp (disch:=omega) only [go_sem,n32,g16,s8,g8])<;>first|rfl|omega)|with_reducible refine Zaj (by decide) ?_))
   (all_goals (try simp (disch:=omega) only [go_sem,decide_eq_true,decide_eq_false,if_pos,if_neg,Int.reduceAdd,Int.reduceSub,Int.reduceToNat,Int.zero_add]));(all_goals first|done|rfl|(congr 2;first|done|omega|(rw [Bool.eq_iff_iff];simp only [bool_to_prop,Bool.false_eq_true,iff_true,true_iff,iff_false,false_iff];omega))|skip)
theorem bLen (x:Nat) (hx:x≤1000000000):Pure prog 114 [u64A x] (iv (Go.Sort.bitsLen x:Nat)):=by
 have c:=bLen64 x hx;generalize ((Go.Sort.bitsLen x:Nat):Int)=r at *;refine Zaa (tok:=0) func114 rfl ntmps114 results114 call114 (by rfl) (by simp) ?_;(focus (refine wkap w_t (w_1 c) (w_r 0) ?_;(repeat' first|exact w_t|apply w_l);all_goals intros));all_goals exact gL
theorem Zl7 {x:Nat} (h:x≤1000000000):Go.Sort.bitsLen x≤30:=(Go.Sort.bitsLen_le_iff x 30).2 (by omega)
attribute [local go_sem] underlying39 underlying55 underlying57 underlying26 underlying27 szB zB Zah Zan Zai Bool.and_self Zal Za7 zSlQ szQT byQT zQT Za9 zSlT szQP zQP
theorem Zv3 (σ:Mem) (K:Nat) (sv:Value) (L:List Qt) (hK:σ K=some (.row sv 39 4 (L.map Qt.av) 0)) (hl:L.length≤1000000000):ACall prog 51 [.own K sv,.fn 43 []] σ λr σ'=>r=.tup []∧σ'=upd σ K (some (.row sv 39 4 ((srtQ Qt.cmp L).map Qt.av) 0)):=by
 refine Zhl (args':=[.own (K+1000) sv,.fn 43 []]) func51 rfl ntmps51 results51 call51 (by rfl) (by simp) (.cons (Sub.own _ _ _) (.cons (Sub.refl _) .nil)) ?_;have hL:∀k,lent σ (k+1000)=σ k:=λk=>by unfold lent;rw [if_neg (by omega),Nat.add_sub_cancel]
 generalize lent σ=m0 at *;have m0K:m0 (K+1000)=some (.row sv 39 4 (L.map Qt.av) 0):=by rw [hL,hK]
 have cb:=bLen L.length hl;have hb:=Zl7 hl;have hml:(L.map Qt.av).length=L.length:=List.length_map ..;have ci:=fun(σ:Mem) h=>sqPdqK σ (K+1000) sv L (Go.Sort.bitsLen L.length) h hl (by omega);generalize (srtQ Qt.cmp L).map Qt.av=V at *;generalize Go.Sort.bitsLen L.length=lim at *;have ci:∀(σ:Mem),σ (K+1000)=some (.row sv 39 4 (L.map Qt.av) 0)→ACall prog 113 [.own (K+1000) sv,iv 0,iv L.length,iv lim,.fn 43 []] σ _:=ci;generalize L.map Qt.av=LA at *;(focus (refine wkap (w_2 m0K hml) (w_1 cb) (w_r 0) ?_;(repeat' first|exact w_t|apply w_l);all_goals intros));refine Zgw (ci _ (by(simp (disch:=omega) only [go_sem,m0K]<;>repeat' first|rfl|refine⟨?_,?_⟩))) ?_
 (focus (refine wkap w_t w_t (w_r 0) ?_;(repeat' first|exact w_t|apply w_l);all_goals intros));simp (disch:=omega) only [go_sem];refine Zpp (Sub.refl _) ⟨rfl,rfl⟩ λk hk=>?_;by_cases e:k=K
 ·subst e;rw [Zam,if_pos rfl,Zam,if_pos rfl]
 ·rw [Zam,if_neg (by omega),Zam,if_neg e,hL]
theorem stSortN (σ:Mem) (K:Nat) (sv:Value) (L:List (Rat × List Qt)) (hK:σ K=some (.row sv 57 4 (L.map qtA) 0)) (hl:L.length≤1000000000) (hq:∀t∈L,t.2.length≤1000000) (hd:Dst L):ACall prog 153 [.own K sv,.fn 154 []] σ λr σ'=>r=.tup []∧σ'=upd σ K (some (.row sv 57 4 ((srtQ ordT L).map qtA) 0)):=by
 refine Zhl (args':=[.own (K+1000) sv,.fn 154 []]) func153 rfl ntmps153 results153 call153 (by rfl) (by simp) (.cons (Sub.own _ _ _) (.cons (Sub.refl _) .nil)) ?_;have hL:∀k,lent σ (k+1000)=σ k:=λk=>by unfold lent;rw [if_neg (by omega),Nat.add_sub_cancel]
 generalize lent σ=m0 at *;have m0K:m0 (K+1000)=some (.row sv 57 4 (L.map qtA) 0):=by rw [hL,hK]
 have cb:=bLen L.length hl;have hb:=Zl7 hl;have hml:(L.map qtA).length=L.length:=List.length_map ..;have ci:=fun(σ:Mem) h=>stPdqK σ (K+1000) sv L (Go.Sort.bitsLen L.length) h hl hq hd (by omega);generalize (srtQ ordT L).map qtA=V at *;generalize Go.Sort.bitsLen L.length=lim at *;have ci:∀(σ:Mem),σ (K+1000)=some (.row sv 57 4 (L.map qtA) 0)→ACall prog 211 [.own (K+1000) sv,iv 0,iv L.length,iv lim,.fn 154 []] σ _:=ci;generalize L.map qtA=LA at *;(focus (refine wkap (w_2 m0K hml) (w_1 cb) (w_r 0) ?_;(repeat' first|exact w_t|apply w_l);all_goals intros));refine Zgw (ci _ (by(simp (disch:=omega) only [go_sem,m0K]<;>repeat' first|rfl|refine⟨?_,?_⟩))) ?_
 (focus (refine wkap w_t w_t (w_r 0) ?_;(repeat' first|exact w_t|apply w_l);all_goals intros));simp (disch:=omega) only [go_sem];refine Zpp (Sub.refl _) ⟨rfl,rfl⟩ λk hk=>?_;by_cases e:k=K
 ·subst e;rw [Zam,if_pos rfl,Zam,if_pos rfl]
 ·rw [Zam,if_neg (by omega),Zam,if_neg e,hL]
def maxQ:Nat:=1000
theorem qSort (σ:Mem) (K:Nat) (sv:Value) (L:List Qt) (hK:σ K=some (.row sv 39 4 (L.map Qt.av) 0)) (hl:L.length≤maxQ):ACall prog 51 [.own K sv,.fn 43 []] σ λr σ'=>r=.tup []∧σ'=upd σ K (some (.row sv 39 4 ((srtQ Qt.cmp L).map Qt.av) 0)):=Zv3 σ K sv L hK (by unfold maxQ at hl;omega)
theorem Zi1:maxQ≤1000:=by unfold maxQ;omega
theorem Zx3:12≤maxQ:=by unfold maxQ;omega
def maxT:Nat:=100000000
theorem Zsy:maxT=100000000:=rfl
theorem Zm3:maxT≤100000000:=by unfold maxT;omega
theorem Zx2:12≤maxT:=by unfold maxT;omega
theorem stSortT (σ:Mem) (K:Nat) (sv:Value) (L:List (Rat × List Qt)) (hK:σ K=some (.row sv 57 4 (L.map qtA) 0)) (hl:L.length≤maxT) (hq:∀t∈L,t.2.length≤1000000) (hd:Dst L):ACall prog 153 [.own K sv,.fn 154 []] σ λr σ'=>r=.tup []∧σ'=upd σ K (some (.row sv 57 4 ((srtQ ordT L).map qtA) 0)):=stSortN σ K sv L hK (by unfold maxT at hl;omega) hq hd
end Go.Proofs.YtpkcophcldjboaaGreatDoor
namespace Go.Proofs.YtpkcophcldjboaaGreatDoor
open Go Go.RowKit Go.Pg Go.Proofs.Tryz
attribute [-bool_to_prop] Bool.and_eq_decide Bool.or_eq_decide Bool.decide_beq_decide decide_eq_decide
theorem zSum:Zau prog 167=some (.agg #[.map none,.slice none 0 0]):=by kernel_rfl
theorem zMap:Zau prog 165=some (.map none):=by kernel_rfl
end Go.Proofs.YtpkcophcldjboaaGreatDoor
namespace Go.Pg
open Go Go.RowKit
section
variable {P:Program} {all rest:List Oper} {K:St→Prop} {e:Nat→AV} {m:Mem} {dst:Option Nat} {d t j:Nat} {op:Op} {ty:TypeId} {pos:String} {af:Array Edge} {r:Res} {rs:Nat→AV} {bar:List Nat} {fu k:Nat} {σs:Mem}
theorem gy5d (hb:bar.contains k=true) (hs:(bar.contains (k+1000) || bar.contains (k+3000))=false) (h2:bar.contains (k+2000)=true) (ho:all[k]?=some ⟨some d,op,ty,pos,af,none⟩) (h:Ev (Zak P ⟨e,m⟩ op=r)) (hkp:Ev (Zaz Zag r)) (hk:aRes P d (some d) r (Zbn P 0 all rs bar Zag fu (k+1) K) ⟨e,m⟩):Zbn P 0 all rs bar σs (fu+1) k K ⟨e,m⟩:=by
 rw [Zcg];unfold Zd1;rw [ho];simp only [Bool.or_eq_false_iff] at hs;simp only [Zbx,hb,hs,h2,if_true,Bool.false_eq_true,if_false];have h:Zak P ⟨e,m⟩ op=r:=h;refine⟨?_,λ_=>⟨rfl,by rw [h];exact hkp,λh=>by cases h⟩⟩;unfold Zfz;rw [Zc7,h,Option.getD_some,Nat.zero_add];exact hk
end
end Go.Pg
namespace Go.Proofs.YtpkcophcldjboaaGreatDoor
open Go Go.RowKit Go.Pg Go.Pol Go.Proofs.Tryz
attribute [-bool_to_prop] Bool.and_eq_decide Bool.or_eq_decide Bool.decide_beq_decide decide_eq_decide
attribute [local go_sem] underlying3 underlying4 underlying128 underlying50 underlying52 underlying54 underlying39 underlying55 underlying57 underlying26 underlying27 sz3 by3 z3 szB zB Zas zRat Zay zInt Zax zNat Zah Zan Zai Bool.and_self Zal Za7 zSlQ szQT byQT zQT Za9 zSlT szQP zQP underlying9 underlying167 underlying123 underlying165 Zn4 Zjc Zny Zn5 Zbh zStr zSum zMap
def mpN:QTs→Nat→List (MKey × AV)
 | [],_=>[]
 | t :: l,n=>(MKey.s (keyS t.2),iv n) :: mpN l (n+1)
abbrev mpE (T:QTs):List (MKey × AV):=mpN T 0
def B8 (T:QTs):Prop:=∀t∈T,∀q∈t.2,q.b8
theorem Zqv (s:ByteArray):∀(T:QTs) (n:Nat),Zev (.s s) (mpN T n)=true
 | [],_=>rfl
 | t :: T,n=>by
   show(MKey.like (.s s) (.s (keyS t.2)) && Zev (.s s) (mpN T (n+1)))=true;rw [Zqv s T (n+1)];rfl
theorem Zxo (l:QTs) (t:Rat × List Qt):∀n,mpN (l++[t]) n=mpN l n++[(MKey.s (keyS t.2),iv ((n+l.length:Nat)))]:=by
 induction l with
 | nil=>intro n;rfl
 | cons a l ih =>
   intro n;show(MKey.s (keyS a.2),iv n) :: mpN (l++[t]) (n+1)=_;rw [ih];show _=(MKey.s (keyS a.2),iv n) :: (mpN l (n+1)++_);rw [show n+1+l.length=n+(a :: l).length by simp only [List.length_cons];omega]
theorem Zsu {l m:QTs} (h:l.map (λt=>t.2)=m.map λt=>t.2):∀n,mpN l n=mpN m n:=by
 induction l generalizing m with
 | nil=>intro n;cases m with
   | nil=>rfl
   | cons b m=>simp at h
 | cons a l ih=>intro n;cases m with
   | nil=>simp at h
   | cons b m =>
     simp only [List.map_cons,List.cons.injEq] at h;show(MKey.s (keyS a.2),iv n) :: mpN l (n+1)=(MKey.s (keyS b.2),iv n) :: mpN m (n+1);rw [h.1,ih h.2]
theorem Zqw:∀{T:QTs} {p:List Qt} {i:Nat} (hi:i < T.length) (n:Nat),B8 T→(∀q∈p,q.b8)→T[i].2=p→(∀j (h:j < T.length),j < i→T[j].2≠p)→Zb8 (.s (keyS p)) (mpN T n)=some (iv ((n+i:Nat)))
 | [],p,i,hi,_,_,_,_,_=>by simp at hi
 | t :: T,p,0,hi,n,hb,hp,he,_=>by
   show(if MKey.s (keyS t.2)=MKey.s (keyS p) then _ else _)=_;have he:t.2=p:=he;rw [if_pos (by rw [he])];rfl
 | t :: T,p,i+1,hi,n,hb,hp,he,hn=>by
   show(if MKey.s (keyS t.2)=MKey.s (keyS p) then _ else Zb8 (.s (keyS p)) (mpN T (n+1)))=_;have h0:t.2≠p:=hn 0 (by simp) (by omega);rw [if_neg (λh=>h0 (Zs2 (hb t (.head _)) hp (by injection h))),Zqw (by simpa using hi) (n+1) (λu hu=>hb u (.tail _ hu)) hp he (λj h hj=>hn (j+1) (by simpa using h) (by omega))];rw [show n+1+i=n+(i+1) by omega]
theorem Zkt:∀{T:QTs} {p:List Qt} (n:Nat),B8 T→(∀q∈p,q.b8)→(∀j (h:j < T.length),T[j].2≠p)→Zb8 (.s (keyS p)) (mpN T n)=none∧∀x,Zcj (.s (keyS p)) x (mpN T n)=mpN T n++[(MKey.s (keyS p),x)]
 | [],p,_,_,_,_=>⟨rfl,λ_=>rfl⟩
 | t :: T,p,n,hb,hp,hn=>by
   have h0:t.2≠p:=hn 0 (by simp);have hk:¬MKey.s (keyS t.2)=MKey.s (keyS p):=λh=>h0 (Zs2 (hb t (.head _)) hp (by injection h));obtain⟨h1,h2⟩:=Zkt (n+1) (λu hu=>hb u (.tail _ hu)) hp (λj h=>hn (j+1) (by simpa using h));refine⟨?_,λx=>?_⟩
   ·show(if MKey.s (keyS t.2)=MKey.s (keyS p) then _ else Zb8 (.s (keyS p)) (mpN T (n+1)))=_;rw [if_neg hk,h1]
   ·show(if MKey.s (keyS t.2)=MKey.s (keyS p) then _ else _ :: Zcj (.s (keyS p)) x (mpN T (n+1)))=_;rw [if_neg hk,h2];rfl
theorem Zzw:∀{T:QTs} {t:Rat × List Qt} {i:Nat} (hi:i < T.length),T[i].2=t.2→(∀j (h:j < T.length),j < i→T[j].2≠t.2)→addC T t=T.set i (T[i].1+t.1,T[i].2)
 | [],t,i,hi,_,_=>by simp at hi
 | s :: T,t,0,hi,he,_=>by
   have he:s.2=t.2:=he;show(if s.2=t.2 then _ else _)=_;rw [if_pos he];rfl
 | s :: T,t,i+1,hi,he,hn=>by
   show(if s.2=t.2 then _ else s :: addC T t)=_;have h0:s.2≠t.2:=hn 0 (by simp) (by omega);rw [if_neg h0,Zzw (i:=i) (by simpa using hi) he (λj h hj=>hn (j+1) (by simpa using h) (by omega))];rfl
theorem Zzx:∀{T:QTs} {t:Rat × List Qt},(∀j (h:j < T.length),T[j].2≠t.2)→addC T t=T++[t]
 | [],t,_=>rfl
 | s :: T,t,hn=>by
   show(if s.2=t.2 then _ else s :: addC T t)=_;have h0:s.2≠t.2:=hn 0 (by simp);rw [if_neg h0,Zzx (λj h=>hn (j+1) (by simpa using h))];rfl
theorem Ztc (T:QTs) (p:List Qt):(∃i,∃h:i < T.length,T[i].2=p∧∀j (h:j < T.length),j < i→T[j].2≠p)∨∀j (h:j < T.length),T[j].2≠p:=by
 induction T with
 | nil=>exact .inr λj h=>by simp at h
 | cons t T ih =>
   by_cases h:t.2=p
   ·exact .inl ⟨0,by simp,h,λj _ hj=>by omega⟩
   ·rcases ih with⟨i,hi,h1,h2⟩ | h2
    ·refine .inl ⟨i+1,by simpa using hi,h1,λj hj hji=>?_⟩
     cases j with
     | zero=>exact h
     | succ j=>exact h2 j (by simpa using hj) (by omega)
    ·refine .inr λj hj=>?_
     cases j with
     | zero=>exact h
     | succ j=>exact h2 j (by simpa using hj)
theorem exNew (σ:Mem) (KB KM:Nat) (hne:KM≠KB):ACall prog 88 [] σ λr σ'=>∃g h,r=.pbox KB g 0∧σ'=upd (upd σ KM (some (.map h []))) KB (some (.box g 167 [.mp KM h,.v (.slice none 0 0)] false)):=by
 refine Zrk (args':=[]) func88 rfl ntmps88 results88 call88 (by rfl) (by simp) .nil ?_;have hL:∀k,lent σ (k+1000)=σ k:=λk=>by unfold lent;rw [if_neg (by omega),Nat.add_sub_cancel]
 generalize lent σ=m0 at *;(focus (refine wkap w_t w_t (w_r 0) ?_;(repeat' first|exact w_t|apply w_l);all_goals intros));simp (disch:=omega) only [go_sem];rename_i h g;refine⟨.pbox KB g 0,_,λk=>if k=KB then 3 else if k=KM then 1 else k+1000,Sub.pbox _ _ _ _,⟨g,h,rfl,rfl⟩,λk e hk=>?_,λk k' _ _ he=>?_⟩
 ·by_cases h1:k=KB
  ·subst h1;rw [Zam,if_pos rfl] at hk;injection hk with hk
   subst hk;refine⟨.box g 167 [.mp 1 h,.v (.slice none 0 0)] false,by simp (disch:=omega) only [go_sem,if_pos];rfl,EntSub.box rfl (λx hx=>?_) λj a b ha hb=>?_⟩
   ·simp only [List.mem_cons,List.not_mem_nil,or_false] at hx;rcases hx with rfl | rfl<;>rfl
   ·match j,ha,hb with
    | 0,ha,hb=>simp only [List.getElem?_cons_zero,Option.some.injEq] at ha hb;subst ha;subst hb;exact Sub.mp _ _ _
    | 1,ha,hb=>simp only [List.getElem?_cons_succ,List.getElem?_cons_zero,Option.some.injEq] at ha hb;subst ha;subst hb;exact Sub.refl _
    | j+2,ha,hb=>simp at ha
  ·rw [Zam,if_neg h1] at hk;simp only [if_neg h1];by_cases h2:k=KM
   ·subst h2;rw [Zam,if_pos rfl] at hk;injection hk with hk
    subst hk;simp only [if_true];exact⟨.map h [],by simp (disch:=omega) only [go_sem,if_pos,if_neg],EntSub.refl _⟩
   ·rw [Zam,if_neg h2] at hk;simp only [if_neg h2];exact⟨e,by rw [←hk,←hL k];simp (disch:=omega) only [go_sem,if_neg],EntSub.refl _⟩
 ·simp only at he;split at he<;>split at he<;>(try split at he)<;>(try split at he)<;>first|omega|(subst_vars;rfl)
theorem exAdd (σ:Mem) (KB KM KT g h:Nat) (sv:Value) (T:QTs) (a:Rat) (p:List Qt) {j k:Nat} (hB:σ KB=some (.box g 167 [.mp KM h,.own KT sv] false)) (hM:σ KM=some (.map h (mpE T))) (hT:σ KT=some (.row sv 57 4 (T.map qtA) 0))
 (n1:KB≠KM) (n2:KB≠KT) (n3:KM≠KT) (hl:T.length≤100000000) (hp:p.length≤1000) (b1:B8 T) (b2:∀q∈p,q.b8) (hs:∀t∈T,Sz t.1 j) (ha:Sz a k) (hj:j≤1000000) (hk:k≤1000000) :
 ACall prog 89 [.pbox KB g 0,ratQ a,qsA p] σ λr σ'=>∃sv',r=.tup []∧σ'=upd (upd (upd σ KM (some (.map h (mpE (addC T (a,p)))))) KT (some (.row sv' 57 4 ((addC T (a,p)).map qtA) 0))) KB (some (.box g 167 [.mp KM h,.own KT sv'] false)):=by
 have mB:=Zco hB;have mM:=Zco hM;have mT:=Zco hT;simp only [Ent.sh,AV.shL,AV.sh] at mB mM mT;have ck:=exKey p hp;have hlT:(T.map qtA).length=T.length:=List.length_map ..;have hal:Zev (.s (keyS p)) (mpE T)=true:=Zqv _ T 0;rcases Ztc T p with⟨i,hi,he,hf⟩ | hf
 ·have hget:Zb8 (.s (keyS p)) (mpE T)=some (iv i):=by have:=Zqw hi 0 b1 b2 he hf;rwa [Nat.zero_add] at this
  have hadd:=Zzw (t:=(a,p)) hi he hf
  have hkeys:mpE (addC T (a,p))=mpE T:=by
   refine Zsu ?_ 0;rw [hadd,List.map_set];show(T.map _).set i T[i].2=_;rw [←List.getElem_map (f:=λt:Rat × List Qt=>t.2) (h:=by rw [List.length_map];exact hi)];exact List.set_getElem_self _
  have hgi:(T.map qtA).getD i .u=qtA T[i]:=Zat qtA hi;have hst:(T.map qtA).set i (qtA (T[i].1+a,T[i].2))=(addC T (a,p)).map qtA:=by rw [hadd,List.map_set]
  have ca:=Zwm T[i].1 a (hs _ (List.getElem_mem hi)) ha (by omega) (by omega);rw [hkeys];clear hs ha b1 b2 hf hadd hkeys;generalize T[i]=t at *;obtain⟨t1,t2⟩:=t;simp only at *;refine Zdu func89 rfl ntmps89 results89 call89 (by rfl) (by simp) ?_;generalize hRR:(addC T (a,p)).map qtA=R at *;generalize T.map qtA=TA at *;generalize mpE T=es at *;(focus (refine wkad (w_9 mB mM mT @Zdw @Zdg hget hal hgi hlT) (w_2 ck ca) (w_1 (w_d 4 [(14,ratQ (t1+a))] [17] [])) ?_;(repeat' first|exact w_t|apply w_l);all_goals intros));simp (disch:=omega) only [go_sem];have e1:upd σ KM (some (.map h es))=σ:=Zgm hM
  have e2:upd (upd σ KT (some (.row sv 57 4 R 0))) KB (some (.box g 167 [.mp KM h,.own KT sv] false))=upd σ KT (some (.row sv 57 4 R 0)):=Zgm (by rw [Zam,if_neg n2];exact hB);refine Zu8 (Sub.refl _) ⟨sv,rfl,rfl⟩ ?_;rw [e1,e2];exact((Agr.start σ).own (by omega)).put rfl (by rw [←hst];rfl)
 ·have hget:Zb8 (.s (keyS p)) (mpE T)=none:=(Zkt 0 b1 b2 hf).1;have hput:∀x,Zcj (.s (keyS p)) x (mpE T)=mpE T++[(MKey.s (keyS p),x)]:=(Zkt 0 b1 b2 hf).2;have hadd:=Zzx (t:=(a,p)) hf;have hmp:mpE (addC T (a,p))=mpE T++[(MKey.s (keyS p),iv T.length)]:=by rw [hadd];show mpN _ 0=_;rw [Zxo,Nat.zero_add]
  have hrow:(addC T (a,p)).map qtA=T.map qtA++[.agg [.v (.bool (decide (a.num < 0))),lim (toL a.num.natAbs),lim (toL a.den),.sl 4 (p.map Qt.av)]]:=by rw [hadd,List.map_append];rfl
  rw [hmp,hrow];clear hs ha b1 b2 hf hadd hmp hrow;refine Zdu func89 rfl ntmps89 results89 call89 (by rfl) (by simp) ?_;generalize T.map qtA=TA at *;generalize mpE T=es at *;(focus (refine wkax (w_9 mB mM mT @Zdw @Zdg hget hal hput hlT) (w_1 ck) (w_2 (w_d 5 [] [10] []) (w_d 6 [] [9,2009,12] [])) w_t w_t w_t w_y (w_r 0) ?_;(repeat' first|exact w_t|apply w_l);all_goals intros));simp (disch:=omega) only [go_sem];rename_i x1 x2 x3;refine Zu8 (Sub.refl _) ⟨x3,rfl,rfl⟩ ?_;refine Agr.put ?_ rfl rfl;refine Agr.put ?_ rfl rfl;refine Agr.own ?_ (by omega);refine Agr.put ?_ rfl rfl
  refine Agr.own ?_ (by omega);exact Agr.start σ
end Go.Proofs.YtpkcophcldjboaaGreatDoor
namespace Go.Pg
open Go Go.RowKit
theorem EntSub.of_sh (e:Ent):EntSub e.sh e:=⟨(Ent.sh_blk e).symm,λ_ _ _ h=>Ent.of_sh h⟩
theorem Zg6 {P:Program} {f n:Nat} {fn:Func} {code:Code} {rs:List ResultVar} {args:List AV} {σ:Mem} {R:AV→Mem→Prop} (hf:P.funcs[f]?=some fn) (hb:fn.body=some code) (hn:fn.ntmps=n) (hrs:fn.results=rs.toArray)
 (hc:∀(vs:Array Value) (w:World),(callFunc f vs).run P w=.ok (.enter f vs) w) (hfit:Zbj n code=true) (hal:args.length≤n)
 (h:Za3 P 0 n code (Done P rs λst b=>Zz5 R b st.mem) ⟨λt=>(AV.shL args).getD t .u,Zd5 σ⟩):ACall P f args σ R:=by
 have key:=Zbu (σ:=Zd5 σ) (R:=Zz5 R) hf hb hn hrs hc hfit (by rw [AV.shL_len];exact hal) h;refine⟨hc,λc w imm vs hm hl hr=>?_⟩
 have hm':Mx c (Zd5 σ) w imm:=by
  refine⟨⟨λk e hk=>?_,λk k' e e' b h1 h2 h3 h4=>?_,hm.ok.lt,hm.ok.spot⟩,hm.below,hm.lt,hm.old,hm.new,hm.cells⟩
  ·unfold Zd5 at hk;split at hk
   ·cases hk
   ·obtain⟨e0,h0,rfl⟩:=Option.map_eq_some_iff.1 hk;exact Ent.sh_ok (hm.ok.ent _ _ h0)
  ·unfold Zd5 at h1 h2;split at h1
   ·cases h1
   ·split at h2
    ·cases h2
    ·obtain⟨e0,k0,rfl⟩:=Option.map_eq_some_iff.1 h1;obtain⟨e1,k1,rfl⟩:=Option.map_eq_some_iff.1 h2;rw [Ent.sh_blk] at h3 h4;have:=hm.ok.apart _ _ _ _ b k0 k1 h3 h4;omega
 refine(key.2 c w imm vs hm' (by rw [AV.shL_len];exact hl) λj a x h1 h2=>?_).mono λe w' he=>?_
 ·rw [AV.shL_at] at h1;obtain⟨y,hy,rfl⟩:=Option.map_eq_some_iff.1 h1;exact(AV.sub_sh y).1 w imm x (hr j y x hy h2)
 ·obtain⟨b,m,imm',x,rfl,⟨r,σ',ρ,h1,h2,h3,h4⟩,h5,h6,h7⟩:=he;exact⟨r,σ',imm',x,rfl,h2,h1 _ _ _ h5,h6.renameG ρ h3 h4,h7⟩
theorem Zit {R:AV→Mem→Prop} {b r:AV} {m σ σ':Mem} (d t:Nat) (hd:d < 1000) (hs:Sub b r) (hR:R r σ') (ht:m d=σ' t) (hm:∀k,k≠t→σ' k≠none→m (k+1000)=(σ' k).map Ent.sh):Zz5 R b m :=
 ⟨r,σ',λk=>if k=t then d else k+1000,hs,hR,λk e h=>by
  by_cases hk:k=t
  ·subst hk;simp only [if_true];exact⟨e,by rw [ht,h],EntSub.refl _⟩
  ·simp only [if_neg hk];exact⟨e.sh,by rw [hm k hk (by rw [h];simp),h];rfl,EntSub.of_sh e⟩,λk k' _ _ h=>by
  by_cases hk:k=t<;>by_cases hk':k'=t
  ·rw [hk,hk']
  ·simp only [if_pos hk,if_neg hk'] at h;omega
  ·simp only [if_neg hk,if_pos hk'] at h;omega
  ·simp only [if_neg hk,if_neg hk'] at h;omega⟩
end Go.Pg
namespace Go.Proofs.YtpkcophcldjboaaGreatDoor
open Go Go.RowKit Go.Pg Go.Pol Go.Proofs.Tryz
attribute [-bool_to_prop] Bool.and_eq_decide Bool.or_eq_decide Bool.decide_beq_decide decide_eq_decide
attribute [local go_sem] underlying3 underlying4 underlying128 underlying50 underlying52 underlying54 underlying39 underlying55 underlying57 underlying26 underlying27 sz3 by3 z3 szB zB Zas zRat Zay zInt Zax zNat Zah Zan Zai Bool.and_self Zal Za7 zSlQ szQT byQT zQT Za9 zSlT szQP zQP underlying9 underlying167 underlying123 underlying165 Zn4 Zjc Zny Zn5 Zbh zStr zSum zMap
def nzT (T:QTs):QTs:=T.filter λt=>decide (t.1≠0)
theorem nzT_y {T:QTs} {i:Nat} (h:i < T.length) (h0:T[i].1≠0):nzT (T.take (i+1))=nzT (T.take i)++[T[i]]:=by
 unfold nzT;rw [List.take_add_one,List.getElem?_eq_getElem h,List.filter_append];show _++List.filter _ [T[i]]=_;rw [List.filter_cons,if_pos (decide_eq_true h0)];rfl
theorem nzT_n {T:QTs} {i:Nat} (h:i < T.length) (h0:T[i].1=0):nzT (T.take (i+1))=nzT (T.take i):=by
 unfold nzT;rw [List.take_add_one,List.getElem?_eq_getElem h,List.filter_append];show _++List.filter _ [T[i]]=_;rw [List.filter_cons,if_neg (by simp [h0])];simp
theorem Zqn (T:QTs):(nzT T).length≤T.length:=List.length_filter_le _ _
theorem exExpr (σ:Mem) (KB KM KT KP g h:Nat) (sv:Value) (T:QTs) {j n:Nat} (hB:σ KB=some (.box g 167 [.mp KM h,.own KT sv] false)) (hT:σ KT=some (.row sv 57 4 (T.map qtA) 0))
 (hl:T.length≤maxT) (hd:Dst T) (hs:QK T j n) (hj:j≤1000000) (hn:n≤1000000) :
 ACall prog 92 [.pbox KB g 0] σ λr σ'=>∃sv',r=.own KP sv'∧σ'=upd σ KP (some (.row sv' 57 4 ((srtQ ordT (nzT T)).map qtA) 0)):=by
 have hMT:=Zm3;have mB:=Zco hB;have mT:=Zco hT;simp only [Ent.sh,AV.shL,AV.sh] at mB mT;have hlT:(T.map qtA).length=T.length:=List.length_map ..;have hg:∀i (h:i < T.length),(T.map qtA).getD i .u=qtA T[i]:=λi h=>Zat qtA h;refine Zg6 func92 rfl ntmps92 results92 call92 (by rfl) (by simp) ?_;have hL:∀k,Zd5 σ (k+1000)=(σ k).map Ent.sh:=Agr.start σ;have h0:∀k,k < 1000→Zd5 σ k=none:=λk hk=>Zdw hk;generalize Zd5 σ=m0 at *;generalize T.map qtA=A at *;(focus (refine wkap (w_3 mB mT hlT) w_t (w_r 0) ?_;(repeat' first|exact w_t|apply w_l);all_goals intros))
 refine Zgr (Frz.nilOwn (d:=3) 22 4 57 (by exact gC)) ?_;refine Zae (ι:=Nat) (λi e m=>i≤T.length∧e 9=.own (KT+1000) sv∧e 10=iv T.length∧e 11=iv i∧m (KT+1000)=some (.row sv 57 4 A 0)∧(∀k,m (k+1000)=m0 (k+1000))∧∃sv,e 3=.own 22 sv∧m 22=some (.row sv 57 4 ((nzT (T.take i)).map qtA) 0)) (λi=>T.length - i) 0 (by rfl) ?_ ?_
 ·rintro i e m ⟨hi,e9,e10,e11,mT,hm,sv',e3,m22⟩
  have hol:((nzT (T.take i)).map qtA).length≤100000000:=by rw [List.length_map];have:=Zqn (T.take i);rw [List.length_take] at this;omega
  by_cases hlt:i < T.length
  ·have hgi:=hg i hlt;have ms:=hs _ (List.getElem_mem hlt);have hy:=nzT_y hlt;have hnn:=nzT_n hlt;clear hg hs;generalize T[i]=t at *;have cz:=Zea t.1 ms.1 (by omega);by_cases hz:t.1=0
   ·have hnz:=hnn hz;clear hnn;have hz2:t.1.num.sign=0:=by rw [Ze8];exact hz
    rw [hz2] at cz;clear hy ms hz2;obtain⟨t1,t2⟩:=t;simp only at *;generalize hO:(nzT (T.take i)).map qtA=O at *;generalize t2.map Qt.av=S2 at *;generalize toL t1.num.natAbs=a at *;generalize toL t1.den=b at *;(focus (refine wkap (w_8 e9 e10 e11 mT e3 m22 hlT hgi) (w_1 cz) (w_r 0) ?_;(repeat' first|exact w_t|apply w_l);all_goals intros));exact⟨i+1,⟨by omega,by exact gW e9,by exact gW e10,by exact gS,by(simp (disch:=omega) only [go_sem,mT]<;>repeat' first|rfl|refine⟨?_,?_⟩),λk=>by rw [←hm k];try simp (disch:=omega) [Zam,marks,mark],_,by exact gW e3,by rw [hnz,hO];exact gW m22⟩,by omega⟩
   ·have hy:=hy hz;have hz2:¬t.1.num.sign=0:=by rw [Ze8];exact hz
    have hmp:(nzT (T.take (i+1))).map qtA=(nzT (T.take i)).map qtA++[qtA t]:=by rw [hy,List.map_append];rfl
    clear hnn ms hy;obtain⟨t1,t2⟩:=t;simp only at *;generalize t1.num.sign=z at *;generalize (nzT (T.take i)).map qtA=O at *;have hmp:(nzT (T.take (i+1))).map qtA=O++[.agg [.v (.bool (decide (t1.num < 0))),lim (toL t1.num.natAbs),lim (toL t1.den),.sl 4 (t2.map Qt.av)]]:=hmp;have hgi:A.getD i .u=.agg [.v (.bool (decide (t1.num < 0))),lim (toL t1.num.natAbs),lim (toL t1.den),.sl 4 (t2.map Qt.av)]:=hgi;have cz:Pure prog 42 [.agg [.v (.bool (decide (t1.num < 0))),lim (toL t1.num.natAbs),lim (toL t1.den)]] (iv z):=cz;generalize t2.map Qt.av=S2 at *;generalize toL t1.num.natAbs=a at *;generalize toL t1.den=b at *
    (focus (refine wkap (w_9 e9 e10 e11 mT e3 m22 hlT hgi hz2) (w_1 cz) (w_r 0) ?_;(repeat' first|exact w_t|apply w_l);all_goals intros));exact⟨i+1,⟨by omega,by exact gW e9,by exact gW e10,by exact gS,by(simp (disch:=omega) only [go_sem,mT]<;>repeat' first|rfl|refine⟨?_,?_⟩),λk=>by rw [←hm k];try simp (disch:=omega) [Zam,marks,mark],_,by exact gC,by rw [hmp];exact gC⟩,by omega⟩
  ·have hil:i=T.length:=by omega
   subst hil;rw [List.take_length] at m22 hol;rw [List.length_map] at hol;have hmem:∀t,t∈nzT T→t∈T:=λt ht=>(List.mem_filter.1 ht).1;have ci:=fun(m:Mem) h=>stSortT m 22 sv' (nzT T) h (by have:=Zqn T;omega) (λt ht=>by have:=(hs t (hmem t ht)).2;omega) (hd.sublist List.filter_sublist);clear hg hs;(focus (refine wkap (w_7 e9 e10 e11 mT e3 m22 hlT) w_t (w_r 0) ?_;(repeat' first|exact w_t|apply w_l);all_goals intros));refine Zgw (ci _ (by exact gW m22)) ?_;(focus (refine wkap (w_1 e3) w_t (w_r 0) ?_;(repeat' first|exact w_t|apply w_l);all_goals intros));simp (disch:=omega) only [go_sem];refine Zit (σ:=σ) (r:=.own KP sv') 22 KP (by omega) (Sub.own _ _ _) ⟨sv',rfl,rfl⟩ ?_ ?_
   ·simp only [Zam,if_pos]
   ·intro k hk _;rw [Zam,if_neg (by omega),hm k,hL k,Zam,if_neg hk]
 ·exact⟨Nat.zero_le _,by exact gC,by exact gC,by exact gC,by(simp (disch:=omega) only [go_sem,mT]<;>repeat' first|rfl|refine⟨?_,?_⟩),λk=>by try simp (disch:=omega) [Zam,marks,mark],_,by exact gC,by exact gC⟩
attribute [local go_sem] underlying209
theorem exGrow (σ:Mem) (KP n:Nat) (h0:0 < n) (hn:n≤2000000) :
 ACall prog 210 [.v (.slice none 0 0),iv n] σ λr σ'=>∃sv L,r=.view KP sv 4 0 0∧σ'=upd σ KP (some (.row sv 39 4 L 0)):=by
 refine Zg6 func210 rfl ntmps210 results210 call210 (by rfl) (by simp) ?_;have h1:¬((n:Nat):Int) < 0:=by omega
 have h2:(0:Int) < ((n:Nat):Int):=by omega
 have hm:∀k,Zd5 σ (k+1000)=(σ k).map Ent.sh:=λk=>by unfold Zd5;rw [if_neg (by omega)];rfl
 generalize Zd5 σ=m0 at *;(focus (refine wkap (w_2 h1 h2) w_t (w_r 0) ?_;(repeat' first|exact w_t|apply w_l);all_goals intros));simp (disch:=omega) only [go_sem];rename_i sv;refine Zit (σ:=σ) (σ':=upd σ KP (some (.row sv 39 4 (List.replicate ((n:Int) - 0).toNat (.agg [iv 0,iv 0,iv 0,iv 0])) 0))) 22 KP (by omega) (Sub.view _ _ _ _ _ _) ⟨_,_,rfl,rfl⟩ ?_ ?_
 ·simp only [Zam,if_pos]
 ·intro k hk _;rw [Zam,if_neg (by omega),hm k,Zam,if_neg hk]
theorem exGrow0:Pure prog 210 [.v (.slice none 0 0),iv 0] (.v (.slice none 0 0)):=by
 refine Zaa (tok:=0) func210 rfl ntmps210 results210 call210 (by rfl) (by simp) ?_;(focus (refine wkap w_t w_t (w_r 0) ?_;(repeat' first|exact w_t|apply w_l);all_goals intros));all_goals exact gL
theorem exConcat (σ:Mem) (KC KP:Nat) (svc:Value) (A B:List AV) (hC:σ KC=some (.row svc 55 1 [.sl 4 A,.sl 4 B] 0)) (hk:KC≠KP) (ha:A.length≤1000000) (hb:B.length≤1000000) :
 ACall prog 152 [.own KC svc] σ λr σ'=>∃sv,r=.own KP sv∧σ'=upd σ KP (some (.row sv 39 4 (A++B) 0)):=by
 have mC:=Zco hC;simp only [Ent.sh,AV.shL,AV.sh] at mC;have hm:∀k,Zd5 σ (k+1000)=(σ k).map Ent.sh:=λk=>by unfold Zd5;rw [if_neg (by omega)];rfl
 refine Zg6 func152 rfl ntmps152 results152 call152 (by rfl) (by simp) ?_;generalize Zd5 σ=m0 at *;have h1:¬((A.length:Nat):Int) < 0:=by omega
 have h2:¬((A.length:Nat):Int)+(B.length:Int) < 0:=by omega
 have e1:(0:Int)+((A.length:Nat):Int)=(A.length:Int):=by omega
 have e2:((A.length:Nat):Int)+(B.length:Int)=((A.length+B.length:Nat):Int):=by omega
 by_cases hn:0 < A.length+B.length
 ·have cg:=fun(m:Mem)=>exGrow m 40 (A.length+B.length) hn (by omega);(focus (refine wkap (w_5 mC h1 h2 e1 e2) w_t (w_r 3) ?_;(repeat' first|exact w_t|apply w_l);all_goals intros));refine Zde (cg _) ?_
  rintro _ _ ⟨sv,L,rfl,rfl⟩
  have hz:(L.take 0++A)=A:=rfl;(focus (refine wkap (w_2 mC hz) w_t (w_r 3) ?_;(repeat' first|exact w_t|apply w_l);all_goals intros));simp (disch:=omega) only [go_sem];rename_i sv1 sv2;refine Zit (σ:=σ) (σ':=upd σ KP (some (.row sv2 39 4 (A++B) 0))) 40 KP (by omega) (Sub.own _ _ _) ⟨_,rfl,rfl⟩ ?_ ?_
  ·simp (disch:=omega) only [go_sem,if_pos]
  ·intro k hk _;rw [show upd σ KP (some (.row sv2 39 4 (A++B) 0)) k=σ k from by rw [Zam,if_neg hk],←hm k];simp (disch:=omega) only [go_sem]
 ·have hA:A=[]:=List.length_eq_zero_iff.1 (by omega);have hB:B=[]:=List.length_eq_zero_iff.1 (by omega);subst hA hB;have cg:=exGrow0;have e4:((0:Nat):Int)+((0:Nat):Int)=0:=rfl;have e5:(0:Int)+((0:Nat):Int)=((0:Nat):Int):=rfl;(focus (refine wkap (w_3 mC e4 e5) w_t (w_r 3) ?_;(repeat' first|exact w_t|apply w_l);all_goals intros));refine o_c cg rfl ?_;(focus (refine wkap (w_1 mC) w_t (w_r 0) ?_;(repeat' first|exact w_t|apply w_l);all_goals intros));refine Zgr (Frz.nilOwn (d:=6) 40 4 39 (by exact gC)) ?_;(focus (refine wkap (w_1 mC) w_t (w_r 3) ?_;(repeat' first|exact w_t|apply w_l);all_goals intros))
  simp (disch:=omega) only [go_sem];rename_i sv1 sv2;refine Zit (σ:=σ) (σ':=upd σ KP (some (.row sv2 39 4 [] 0))) 40 KP (by omega) (Sub.own _ _ _) ⟨_,rfl,rfl⟩ ?_ ?_
  ·simp (disch:=omega) only [go_sem,if_pos]
  ·intro k hk _;rw [show upd σ KP (some (.row sv2 39 4 [] 0)) k=σ k from by rw [Zam,if_neg hk],←hm k];simp (disch:=omega) only [go_sem]
abbrev muQ (a b:List Qt):List Qt:=srtQ Qt.cmp (a++b)
theorem exTimes (a b:List Qt) (hm:a.length+b.length≤maxQ):Pure prog 91 [qsA a,qsA b] (qsA (muQ a b)):=by
 have hM:=Zi1;have cs:=fun(m:Mem) (sv:Value) h=>qSort m 300 sv (a++b) h (by rw [List.length_append];exact hm);have cc:=fun(m:Mem) (svc:Value) h=>exConcat m 8 300 svc (a.map Qt.av) (b.map Qt.av) h (by omega) (by rw [List.length_map];omega) (by rw [List.length_map];omega);rw [←List.map_append] at cc;show Pure _ _ [.sl 4 (a.map Qt.av),.sl 4 (b.map Qt.av)] (.sl 4 ((muQ a b).map Qt.av));generalize (muQ a b).map Qt.av=R at *;generalize (a++b).map Qt.av=AB at *;generalize a.map Qt.av=A at *;generalize b.map Qt.av=B at *;refine Zaa (tok:=0) func91 rfl ntmps91 results91 call91 (by rfl) (by simp) ?_
 (focus (refine wkap w_t w_t (w_r 0) ?_;(repeat' first|exact w_t|apply w_l);all_goals intros));refine Zde (cc _ _ (by exact gC)) ?_
 rintro _ _ ⟨sv,rfl,rfl⟩
 (focus (refine wkap w_t w_t (w_r 0) ?_;(repeat' first|exact w_t|apply w_l);all_goals intros));refine Zgw (cs _ _ (by exact gC)) ?_;(focus (refine wkap w_t w_t (w_r 0) ?_;(repeat' first|exact w_t|apply w_l);all_goals intros));all_goals exact gL
end Go.Proofs.YtpkcophcldjboaaGreatDoor
namespace Go.Proofs.YtpkcophcldjboaaGreatDoor
attribute [-bool_to_prop] Bool.and_eq_decide Bool.or_eq_decide Bool.decide_beq_decide decide_eq_decide
section
open Go Go.RowKit Go.Pg
end
end Go.Proofs.YtpkcophcldjboaaGreatDoor
namespace Go.Proofs.YtpkcophcldjboaaGreatDoor
open Go Go.RowKit Go.Pg Go.Proofs.Tryz
attribute [-bool_to_prop] Bool.and_eq_decide Bool.or_eq_decide Bool.decide_beq_decide decide_eq_decide
theorem r_frzD {P:Program} {n:Nat} {Q:AE→St→Prop} {id:Nat} {ops:Array Oper} {st st':St} (h:Frz n st st') (k:Za3 P 0 n (.region id ops true) Q st'):Za3 P 0 n (.region id ops true) Q st:=λc a w imm hr=>by
 obtain⟨i,h1⟩:=h c a w imm hr;exact k c a w i h1
end Go.Proofs.YtpkcophcldjboaaGreatDoor
namespace Go.Proofs.YtpkcophcldjboaaGreatDoor
open Go Go.RowKit Go.Pg Go.Pol Go.Proofs.Tryz
attribute [-bool_to_prop] Bool.and_eq_decide Bool.or_eq_decide Bool.decide_beq_decide decide_eq_decide
attribute [local go_sem] underlying3 underlying4 underlying128 underlying50 underlying52 underlying54 underlying39 underlying55 underlying57 underlying26 underlying27 sz3 by3 z3 szB zB Zas zRat Zay zInt Zax zNat Zah Zan Zai Bool.and_self Zal Za7 zSlQ szQT byQT zQT Za9 zSlT szQP zQP underlying9 underlying167 underlying123 underlying165 Zn4 Zjc Zny Zn5 Zbh zStr zSum zMap
theorem exAddO (σ:Mem) (KB KM KT KP g h:Nat) (sv svP:Value) (T:QTs) (a:Rat) (p:List Qt) {j k:Nat} (hB:σ KB=some (.box g 167 [.mp KM h,.own KT sv] false)) (hM:σ KM=some (.map h (mpE T))) (hT:σ KT=some (.row sv 57 4 (T.map qtA) 0)) (hP:σ KP=some (.row svP 39 4 (p.map Qt.av) 0)) (n4:KP≠KB) (n5:KP≠KM) (n6:KP≠KT)
 (n1:KB≠KM) (n2:KB≠KT) (n3:KM≠KT) (hl:T.length≤100000000) (hp:p.length≤1000) (b1:B8 T) (b2:∀q∈p,q.b8) (hs:∀t∈T,Sz t.1 j) (ha:Sz a k) (hj:j≤1000000) (hk:k≤1000000) :
 ACall prog 89 [.pbox KB g 0,ratQ a,.own KP svP] σ λr σ'=>∃sv' eP,r=.tup []∧σ'=upd (upd (upd (upd σ KP eP) KM (some (.map h (mpE (addC T (a,p)))))) KT (some (.row sv' 57 4 ((addC T (a,p)).map qtA) 0))) KB (some (.box g 167 [.mp KM h,.own KT sv'] false)):=by
 have mB:=Zco hB;have mM:=Zco hM;have mT:=Zco hT;have mP:=Zco hP;simp only [Ent.sh,AV.shL,AV.sh] at mB mM mT mP;have ck:=exKey p hp;have ck:Pure prog 148 [.sl 4 (p.map Qt.av)] (strA (keyS p)):=ck;have hlT:(T.map qtA).length=T.length:=List.length_map ..;have hal:Zev (.s (keyS p)) (mpE T)=true:=Zqv _ T 0;rcases Ztc T p with⟨i,hi,he,hf⟩ | hf
 ·have hget:Zb8 (.s (keyS p)) (mpE T)=some (iv i):=by have:=Zqw hi 0 b1 b2 he hf;rwa [Nat.zero_add] at this
  have hadd:=Zzw (t:=(a,p)) hi he hf
  have hkeys:mpE (addC T (a,p))=mpE T:=by
   refine Zsu ?_ 0;rw [hadd,List.map_set];show(T.map _).set i T[i].2=_;rw [←List.getElem_map (f:=λt:Rat × List Qt=>t.2) (h:=by rw [List.length_map];exact hi)];exact List.set_getElem_self _
  have hgi:(T.map qtA).getD i .u=qtA T[i]:=Zat qtA hi;have hst:(T.map qtA).set i (qtA (T[i].1+a,T[i].2))=(addC T (a,p)).map qtA:=by rw [hadd,List.map_set]
  have ca:=Zwm T[i].1 a (hs _ (List.getElem_mem hi)) ha (by omega) (by omega);rw [hkeys];clear hs ha b1 b2 hf hadd hkeys;generalize T[i]=t at *;obtain⟨t1,t2⟩:=t;simp only at *;refine Zdu func89 rfl ntmps89 results89 call89 (by rfl) (by simp) ?_;generalize hRR:(addC T (a,p)).map qtA=R at *;generalize T.map qtA=TA at *;generalize mpE T=es at *;generalize hPA:p.map Qt.av=PA at *
  (repeat' (first|(with_reducible first|refine stp ?_|apply gx1|apply gx2|apply gx3|apply gx4|apply gx5|apply gx6|apply gx7|apply gy8|apply gz2|apply gz3|apply gw2 (ck)|refine gw0 (ca) ?_ ?_|refine gw3 (ca) ?_ ?_ ?_)|(with_reducible refine Zcb ?_;intro _)|((with_reducible refine gE ?_);(try simp (disch:=omega) only [go_sem,mB,mM,mT,mP,Zdw,Zdg,hget,hal,hgi,hlT,decide_eq_true,decide_eq_false,if_pos,if_neg,Int.reduceAdd,Int.reduceSub,Int.reduceToNat,Int.zero_add])<;>first|rfl|omega)|with_reducible refine Zaj (by decide) ?_|((with_reducible apply gy1);iterate 3 focus rfl)|((with_reducible apply gy2);iterate 3 focus rfl)|((with_reducible apply gy3);iterate 2 focus rfl)|((with_reducible apply gy4);iterate 1 focus rfl)|((with_reducible apply gy5);iterate 4 focus rfl)|((with_reducible apply gy5c);iterate 4 focus rfl)|((with_reducible apply gy6);iterate 4 focus rfl)|((with_reducible apply Zhr);iterate 3 focus rfl)|((with_reducible apply Zho);iterate 1 focus rfl)|((with_reducible apply gy7);iterate 1 focus rfl)|((with_reducible apply gy9);(focus ((with_reducible refine gE ?_);(try simp (disch:=omega) only [go_sem,mB,mM,mT,mP,Zdw,Zdg,hget,hal,hgi,hlT,decide_eq_true,decide_eq_false,if_pos,if_neg,Int.reduceAdd,Int.reduceSub,Int.reduceToNat,Int.zero_add])<;>rfl)))|((with_reducible apply gz1);(focus first|rfl|(simp (disch:=omega) only [go_sem,mB,mM,mT,mP,Zdw,Zdg,hget,hal,hgi,hlT,decide_eq_true,decide_eq_false,if_pos,if_neg,Int.reduceAdd,Int.reduceSub,Int.reduceToNat,Int.zero_add];done)))|((with_reducible apply Zcf (id:=4) (Zd3 [(14,ratQ (t1+a))]) [17] []);(focus kernel_rfl);(focus rfl);(focus kernel_rfl);(focus (simp only [List.length_cons,List.length_nil,Nat.reduceAdd];rfl)))|((with_reducible first|apply Zdv|apply Zgd|apply Zdy);all_goals (intro hc;(try simp only [bool_to_prop] at hc);try (exfalso;omega)))))
  simp (disch:=omega) only [go_sem];have e1:upd σ KM (some (.map h es))=σ:=Zgm hM;have e2:upd (upd σ KT (some (.row sv 57 4 R 0))) KB (some (.box g 167 [.mp KM h,.own KT sv] false))=upd σ KT (some (.row sv 57 4 R 0)):=Zgm (by rw [Zam,if_neg n2];exact hB);refine Zu8 (Sub.refl _) ⟨sv,some (.row svP 39 4 PA 0),rfl,rfl⟩ ?_;have e0:upd σ KP (some (.row svP 39 4 PA 0))=σ:=Zgm hP;rw [e0,e1,e2];exact((Agr.start σ).own (by omega)).put rfl (by rw [←hst];rfl)
 ·have hget:Zb8 (.s (keyS p)) (mpE T)=none:=(Zkt 0 b1 b2 hf).1;have hput:∀x,Zcj (.s (keyS p)) x (mpE T)=mpE T++[(MKey.s (keyS p),x)]:=(Zkt 0 b1 b2 hf).2;have hadd:=Zzx (t:=(a,p)) hf;have hmp:mpE (addC T (a,p))=mpE T++[(MKey.s (keyS p),iv T.length)]:=by rw [hadd];show mpN _ 0=_;rw [Zxo,Nat.zero_add]
  have hrow:(addC T (a,p)).map qtA=T.map qtA++[.agg [.v (.bool (decide (a.num < 0))),lim (toL a.num.natAbs),lim (toL a.den),.sl 4 (p.map Qt.av)]]:=by rw [hadd,List.map_append];rfl
  rw [hmp,hrow];clear hs ha b1 b2 hf hadd hmp hrow;refine Zdu func89 rfl ntmps89 results89 call89 (by rfl) (by simp) ?_;generalize T.map qtA=TA at *;generalize mpE T=es at *;generalize hPA:p.map Qt.av=PA at *
  (repeat' (first|(with_reducible first|refine stp ?_|apply gx1|apply gx2|apply gx3|apply gx4|apply gx5|apply gx6|apply gx7|apply gy8|apply gz2|apply gz3|apply gw2 (ck))|(with_reducible refine Zcb ?_;intro _)|((with_reducible refine gE ?_);(try simp (disch:=omega) only [go_sem,mB,mM,mT,mP,Zdw,Zdg,hget,hal,hput,hlT,decide_eq_true,decide_eq_false,if_pos,if_neg,Int.reduceAdd,Int.reduceSub,Int.reduceToNat,Int.zero_add])<;>first|rfl|omega)|with_reducible refine Zaj (by decide) ?_|((with_reducible apply gy1);iterate 3 focus rfl)|((with_reducible apply gy2);iterate 3 focus rfl)|((with_reducible apply gy3);iterate 2 focus rfl)|((with_reducible apply gy4);iterate 1 focus rfl)|((with_reducible apply gy5);iterate 4 focus rfl)|((with_reducible apply gy5c);iterate 4 focus rfl)|((with_reducible apply gy6);iterate 4 focus rfl)|((with_reducible apply Zhr);iterate 3 focus rfl)|((with_reducible apply Zho);iterate 1 focus rfl)|((with_reducible apply gy7);iterate 1 focus rfl)|((with_reducible apply gy9);(focus ((with_reducible refine gE ?_);(try simp (disch:=omega) only [go_sem,mB,mM,mT,mP,Zdw,Zdg,hget,hal,hput,hlT,decide_eq_true,decide_eq_false,if_pos,if_neg,Int.reduceAdd,Int.reduceSub,Int.reduceToNat,Int.zero_add])<;>rfl)))|((with_reducible apply gz1);(focus first|rfl|(simp (disch:=omega) only [go_sem,mB,mM,mT,mP,Zdw,Zdg,hget,hal,hput,hlT,decide_eq_true,decide_eq_false,if_pos,if_neg,Int.reduceAdd,Int.reduceSub,Int.reduceToNat,Int.zero_add];done)))|((with_reducible apply Zcf (id:=4) (Zd3 []) [] []);(focus kernel_rfl);(focus rfl);(focus kernel_rfl);(focus (simp only [List.length_cons,List.length_nil,Nat.reduceAdd];rfl)))|((with_reducible first|apply Zdv|apply Zgd|apply Zdy);all_goals (intro hc;(try simp only [bool_to_prop] at hc);try (exfalso;omega)))))
  refine r_frzD (Frz.own (d:=2) (k:=KP+1000) (sv:=svP) (ty:=39) (mm:=4) (es:=PA) (pub:=0) (by exact gC) (by(simp (disch:=omega) only [go_sem,mP]<;>repeat' first|rfl|refine⟨?_,?_⟩))) ?_;(focus (refine wkax (w_10 mB mM mT mP @Zdw @Zdg hget hal hput hlT) w_t (w_2 (w_d 5 [] [10] []) (w_d 6 [] [9,2009,12] [])) w_t w_t w_t w_y (w_r 0) ?_;(repeat' first|exact w_t|apply w_l);all_goals intros));simp (disch:=omega) only [go_sem];rename_i x1 x2 x3;refine Zu8 (Sub.refl _) ⟨x3,some (.row svP 39 4 PA PA.length),rfl,rfl⟩ ?_;refine Agr.put ?_ rfl rfl;refine Agr.put ?_ rfl rfl;refine Agr.own ?_ (by omega)
  refine Agr.put ?_ rfl rfl;rw [mP];refine Agr.put ?_ rfl rfl;refine Agr.own ?_ (by omega);exact Agr.start σ
def nsP (l:List Qt):List Qt:=l.map λq=>q.norm.1
abbrev accS (L:QTs):QTs:=L.foldl addC []
theorem sgP_ne {l:List Qt} (h:sgP l≠0):∀q∈l,q.norm.2≠0:=by
 have key:∀(l:List Qt) (s:Int),l.foldl (λs q=>s*q.norm.2) s≠0→s≠0∧∀q∈l,q.norm.2≠0:=by
  intro l
  induction l with
  | nil=>intro s h;exact⟨h,λq hq=>by cases hq⟩
  | cons a l ih =>
    intro s h;obtain⟨h1,h2⟩:=ih _ h;have ha:a.norm.2≠0:=λe=>h1 (by show s*a.norm.2=0;rw [e,Int.mul_zero]);have hs:s≠0:=λe=>h1 (by show s*a.norm.2=0;rw [e,Int.zero_mul]);exact⟨hs,λq hq=>by rcases List.mem_cons.1 hq with rfl | hq;exact ha;exact h2 q hq⟩
 exact(key l 1 h).2
theorem Zv2 {l:List Qt} (h:sgP l≠0):srtQ Qt.cmp (nsP l)=putP l:=by
 unfold putP;rw [Zpd qtO];congr 1;unfold nzP nsP;rw [List.filter_eq_self.2 λq hq=>decide_eq_true (sgP_ne h q hq)]
theorem norm_b8 {q:Qt} (h:q.ok=true):q.norm.1.b8:=by
 have hb:=ok_b8 h;unfold Qt.b8 at hb;unfold Qt.norm Zec Zfi;rw [if_pos h]
 repeat' split
 all_goals (unfold Qt.b8;simp only;omega)
theorem Zws {l:List Qt} (h:l.all Qt.ok=true):∀q∈putP l,q.b8:=by
 intro q hq;unfold putP at hq;have:=(Zfl (cmp:=Qt.cmp) (nzP l) []).mem_iff.1 hq;rw [List.append_nil] at this;unfold nzP at this;obtain⟨x,hx,rfl⟩:=List.mem_map.1 this;exact norm_b8 (List.all_eq_true.1 h x (List.mem_filter.1 hx).1)
theorem Zla (L:QTs) (t:Rat × List Qt):accS (L++[t])=addC (accS L) t:=by unfold accS;rw [List.foldl_append];rfl
theorem Ztu (l:QTs) (t:Rat × List Qt):(addC l t).length≤l.length+1:=by
 induction l with
 | nil=>exact Nat.le_refl _
 | cons s l ih=>unfold addC;split<;>simp only [List.length_cons]<;>omega
theorem Znw {l:QTs} {t u:Rat × List Qt} (h:u∈addC l t):u∈l∨u=t∨∃s∈l,u=(s.1+t.1,s.2):=by
 induction l with
 | nil=>exact .inr (.inl (List.mem_singleton.1 h))
 | cons s l ih =>
   unfold addC at h;split at h
   ·rcases List.mem_cons.1 h with rfl | h
    ·exact .inr (.inr ⟨s,.head _,rfl⟩)
    ·exact .inl (.tail _ h)
   ·rcases List.mem_cons.1 h with rfl | h
    ·exact .inl (.head _)
    ·rcases ih h with h | h | ⟨v,hv,e⟩
     ·exact .inl (.tail _ h)
     ·exact .inr (.inl h)
     ·exact .inr (.inr ⟨v,.tail _ hv,e⟩)
structure AccOk (S:QTs) (i j n:Nat):Prop where
 len:S.length≤i
 b8:B8 S
 qk:QK S (i*(j+2)) n
theorem AccOk.nil (j n:Nat):AccOk [] 0 j n:=⟨Nat.le_refl _,λt ht=>by(cases ht),λt ht=>by(cases ht)⟩
theorem AccOk.mono {S:QTs} {i k j n:Nat} (h:AccOk S i j n) (hk:i≤k):AccOk S k j n:=⟨Nat.le_trans h.len hk,h.b8,h.qk.mono (Nat.mul_le_mul_right _ hk) (Nat.le_refl _)⟩
theorem AccOk.add {S:QTs} {i j n:Nat} (h:AccOk S i j n) {t:Rat × List Qt} (h1:Sz t.1 j) (h2:t.2.length≤n) (h3:∀q∈t.2,q.b8):AccOk (addC S t) (i+1) j n:=by
 have e:(i+1)*(j+2)=i*(j+2)+(j+2):=Nat.succ_mul _ _;refine⟨Nat.le_trans (Ztu S t) (by have:=h.len;omega),λu hu=>?_,λu hu=>?_⟩
 ·rcases Znw hu with hu | rfl | ⟨s,hs,rfl⟩
  ·exact h.b8 u hu
  ·exact h3
  ·exact h.b8 s hs
 ·rcases Znw hu with hu | rfl | ⟨s,hs,rfl⟩
  ·exact⟨(h.qk u hu).1.mono (by omega),(h.qk u hu).2⟩
  ·exact⟨h1.mono (by omega),h2⟩
  ·exact⟨((h.qk s hs).1.add h1).mono (by omega),(h.qk s hs).2⟩
theorem acc_fin (L:QTs):srtQ ordT (nzT (accS (nzT L)))=gatM L:=by
 have h1:srtQ ordT (nzT (accS (nzT L)))=Go.Pol.sumC ordQ (nzT L):=rfl;rw [h1,Zmh Zbk];refine Ziy Zbk.ko (Zmf Zbk _) (Zmf Zbk _) λx=>?_;rw [Zmg Zbk,Zmg Zbk];exact Zl5 L x
theorem Zog {z:Int} (h:z=-1∨z=0∨z=1):Pure prog 56 [iv z] (ratQ (z:Rat)):=by
 rcases h with rfl | rfl | rfl
 ·exact ratOfM
 ·exact Zt8 0 (by omega)
 ·exact Zt8 1 (by omega)
theorem Ztd (l:List RE) {J JA nQ:Nat} (hl:l.length≤1000000) (hr:∀t∈l,t.r.lm J) (hq:∀t∈l,t.q.length≤nQ) (hnQ:nQ≤maxQ) (hJ:J≤900000) (hJA:JA≤1000000)
 (hA:∀i,i≤l.length→(l.take i).all RE.ok=true→QK (accS (nzT ((l.take i).map RE.t))) JA nQ∧B8 (accS (nzT ((l.take i).map RE.t)))∧(accS (nzT ((l.take i).map RE.t))).length≤maxT):Pure prog 78 [.sl 4 (l.map RE.av)] (nrmR l):=by
 have hMq0:=Zi1;have hMT:=Zm3;have hlm:(l.map RE.av).length=l.length:=List.length_map ..;have hg:∀i (h:i < l.length),(l.map RE.av).getD i .u=RE.av l[i]:=λi h=>Zat RE.av h;generalize l.map RE.av=A at *;refine Zaa (tok:=0) func78 rfl ntmps78 results78 call78 (by rfl) (by simp) ?_;(focus (refine wkad w_t w_t w_t ?_;(repeat' first|exact w_t|apply w_l);all_goals intros));refine Zde (exNew _ 200 201 (by omega)) ?_
 rintro _ _ ⟨g,h,rfl,rfl⟩
 (focus (refine wkad (w_1 hlm) w_t w_t ?_;(repeat' first|exact w_t|apply w_l);all_goals intros));refine Zgr (Frz.nilBox (k:=200) 1 202 4 57 (by exact gC) rfl (by omega)) ?_;refine Zae (ι:=Nat) (λi e m=>i≤l.length∧(l.take i).all RE.ok=true∧e 3=.pbox 200 g 0∧m 201=some (.map h (mpE (accS (nzT ((l.take i).map RE.t)))))∧(∃sv,m 200=some (.box g 167 [.mp 201 h,.own 202 sv] false)∧m 202=some (.row sv 57 4 ((accS (nzT ((l.take i).map RE.t))).map qtA) 0))∧e 13=.sl 4 A∧e 14=iv l.length∧e 15=iv i) (λi=>l.length - i) 0 (by rfl) ?_ ?_
 ·rintro i e m ⟨hi,ha,e3,m201,⟨sv,m200,m202⟩,e13,e14,e15⟩
  have hacc:=hA i hi ha;by_cases hlt:i < l.length
  ·have hgi:=hg i hlt;have hri:=hr _ (List.getElem_mem hlt);have hqi:=hq _ (List.getElem_mem hlt);have hta:(l.take (i+1)).map RE.t=(l.take i).map RE.t++[l[i].t]:=by rw [List.take_add_one,List.getElem?_eq_getElem hlt,List.map_append];rfl
   have hok:=Zk9 (p:=RE.ok) hlt ha;have hbr:RE.ok l[i]=false→nrmR l=.v (.slice none 0 0):=λh=>by unfold nrmR;rw [Ztr (p:=RE.ok) hlt h];rfl
   have hny:(l[i].t).1≠0→accS (nzT ((l.take (i+1)).map RE.t))=addC (accS (nzT ((l.take i).map RE.t))) l[i].t:=λh=>by
    rw [hta];unfold nzT;rw [List.filter_append];rw [show List.filter (λt:Rat × List Qt=>decide (t.1≠0)) [l[i].t]=[l[i].t] from by rw [List.filter_cons,if_pos (decide_eq_true h)];rfl];exact Zla _ _
   have hnn:(l[i].t).1=0→accS (nzT ((l.take (i+1)).map RE.t))=accS (nzT ((l.take i).map RE.t)):=λh=>by
    rw [hta];unfold nzT;rw [List.filter_append];rw [show List.filter (λt:Rat × List Qt=>decide (t.1≠0)) [l[i].t]=[] from by rw [List.filter_cons,if_neg (by simp [h])];rfl,List.append_nil]
   clear hg hr hq ha hta;generalize l[i]=t at *;generalize hNR:nrmR l=NR at *;generalize accS (nzT ((l.take i).map RE.t))=S at *;obtain⟨r,q⟩:=t;simp only at hri hqi;have hgi:A.getD i .u=.agg [.v (.bool r.s),lim r.l,lim r.d,.sl 4 (q.map Qt.av)]:=hgi;have crq:=Zwd r ⟨hri.1,hri.2.1,by have:=hri.2.2.1;omega,by have:=hri.2.2.2;omega⟩;have crq:Pure prog 41 [.agg [.v (.bool r.s),lim r.l,lim r.d]] (.v (.bool r.ok)):=crq
   cases hro:r.ok with
   | false =>
     rw [hro] at crq;rw [hbr (by unfold RE.ok;rw [hro];rfl)];clear hbr hok hny hnn hacc;obtain⟨s,x,d⟩:=r;simp only at *;generalize q.map Qt.av=Q at *;(focus (refine wkad (w_9 e3 m200 m201 m202 e13 e14 e15 hlm hgi) (w_1 crq) w_t ?_;(repeat' first|exact w_t|apply w_l);all_goals intros));all_goals exact gL
   | true =>
     rw [hro] at crq;have hz:=(RQ.ok_av hri hro).2;have hre:=RQ.ok_eq hri hro;have hqm:(q.map Qt.av).length=q.length:=List.length_map ..;have hgq:∀k (h:k < q.length),(q.map Qt.av).getD k .u=Qt.av q[k]:=λk h=>Zat Qt.av h;have hbq:∀k (h:k < q.length),Qt.ok q[k]=false→NR=.v (.slice none 0 0):=λk h h2=>hbr (by unfold RE.ok;rw [Ztr (p:=Qt.ok) h h2,Bool.and_false]);have hqk:q.all Qt.ok=true→RE.ok ⟨r,q⟩=true:=λh=>by unfold RE.ok;rw [hro,h];rfl
     have het1:(RE.t ⟨r,q⟩).1=r.q*(sgP q:Rat):=rfl;have het:RE.t ⟨r,q⟩=(r.q*(sgP q:Rat),putP q):=rfl;rw [het] at hny;rw [het1] at hnn;clear het het1 hbr;generalize hx:r.q=x at *;subst hre;clear hro;simp only at *;generalize hQ:q.map Qt.av=Q at *;(focus (refine wkad (w_10 e3 m200 m201 m202 e13 e14 e15 hlm hgi hqm) (w_1 crq) w_t ?_;(repeat' first|exact w_t|apply w_l);all_goals intros));rename_i g5 g6 s28;clear crq;have hw0:x*((sgP (q.take 0):Int):Rat)=x:=by show x*((1:Int):Rat)=x;exact Rat.mul_one x
     refine Zae (ι:=Nat) (λk e m=>k≤q.length∧(q.take k).all Qt.ok=true∧(e 3=.pbox 200 g 0∧m 201=some (.map h (mpE S))∧m 200=some (.box g 167 [.mp 201 h,.own 202 sv] false)∧m 202=some (.row sv 57 4 (S.map qtA) 0))∧(e 13=.sl 4 A∧e 14=iv l.length∧e 15=iv i)∧(e 30=.sl 4 Q∧e 31=iv q.length∧e 32=iv k)∧(e 6=.pbox 6 g6 0∧m 6=some (.box g6 54 [.v (.bool (decide ((x*((sgP (q.take k):Int):Rat)).num < 0))),lim (toL (x*((sgP (q.take k):Int):Rat)).num.natAbs),lim (toL (x*((sgP (q.take k):Int):Rat)).den)] false))∧∃sv,e 7=.own 28 sv∧m 28=some (.row sv 39 4 ((nsP (q.take k)).map Qt.av) 0)) (λk=>q.length - k) 0 (by rfl) ?_ ?_
     ·rintro k e m ⟨hk,hak,⟨e3,m201,m200,m202⟩,⟨e13,e14,e15⟩,⟨e30,e31,e32⟩,⟨e6,m6⟩,s7,e7,m28⟩
      have hwz:Sz (x*((sgP (q.take k):Int):Rat)) (J+1):=hz.mul (Zt5 (sgP_sg _));have hnl:((nsP (q.take k)).map Qt.av).length=k:=by unfold nsP;rw [List.length_map,List.length_map,List.length_take];omega
      by_cases hkt:k < q.length
      ·have hgk:=hgq k hkt;have hok2:=Zk9 (p:=Qt.ok) hkt hak;have hbk:=hbq k hkt;have htk:q.take (k+1)=q.take k++[q[k]]:=by rw [List.take_add_one,List.getElem?_eq_getElem hkt];rfl
       have s1:x*((sgP (q.take (k+1)):Int):Rat)=x*((sgP (q.take k):Int):Rat)*(q[k].norm.2:Rat):=by rw [htk,sgP_snoc,Rat.intCast_mul,Rat.mul_assoc]
       have s2:(nsP (q.take (k+1))).map Qt.av=(nsP (q.take k)).map Qt.av++[Qt.av q[k].norm.1]:=by rw [htk];unfold nsP;rw [List.map_append,List.map_append];rfl
       have hns:=Zh2 q[k];have c1:=Zkm q[k].k q[k].a q[k].b q[k].c;have c2:=Zsd q[k].k q[k].a q[k].b q[k].c;have c3:=Zog hns;have c4:=ratMul _ _ hwz (Zt5 hns) (by omega) (by omega);have c4:Pure prog 90 [.agg [.v (.bool (decide ((x*((sgP (q.take k):Int):Rat)).num < 0))),lim (toL (x*((sgP (q.take k):Int):Rat)).num.natAbs),lim (toL (x*((sgP (q.take k):Int):Rat)).den)],ratQ (q[k].norm.2:Rat)] (ratQ (x*((sgP (q.take k):Int):Rat)*(q[k].norm.2:Rat))):=c4;rw [←s1] at c4;clear hgq hbq hqk hny hnn hok htk hak s1 hwz;generalize q[k]=y at *;generalize hW1:x*((sgP (q.take (k+1)):Int):Rat)=w1 at *
       generalize x*((sgP (q.take k):Int):Rat)=w0 at *;generalize (nsP (q.take k)).map Qt.av=PR at *;generalize toL w0.num.natAbs=wn at *;generalize toL w0.den=wd at *;generalize decide (w0.num < 0)=ws at *;generalize S.map qtA=SA at *;generalize mpE S=SM at *;generalize hn1:y.norm.1=nn at *;generalize hn2:y.norm.2=ns at *;obtain⟨y1,y2,y3,y4⟩:=y;simp only at *
       cases hyo:Qt.ok ⟨y1,y2,y3,y4⟩with
       | false =>
         rw [hyo] at c1;rw [hbk hyo];clear s2 c2 c3 c4 hok2 hbk;(focus (refine wkad (w_16 e3 m200 m201 m202 e13 e14 e15 e30 e31 e32 e6 m6 e7 m28 hqm hgk) (w_1 c1) w_t ?_;(repeat' first|exact w_t|apply w_l);all_goals intros));all_goals exact gL
       | true =>
         rw [hyo] at c1;have hok3:=hok2 hyo;clear hbk hok2;obtain⟨n1,n2,n3,n4⟩:=nn;(focus (refine wkad (w_17 e3 m200 m201 m202 e13 e14 e15 e30 e31 e32 e6 m6 e7 m28 hqm hgk hnl) (w_4 c1 c2 c3 c4) (w_1 (w_d 15 [(2,ratQ (ns:Rat)),(3,ratQ w1)] [4] [])) ?_;(repeat' first|exact w_t|apply w_l);all_goals intros));exact⟨k+1,⟨by omega,hok3,⟨by exact gW e3,by exact gW m201,by exact gW m200,by exact gW m202⟩,⟨by exact gW e13,by exact gW e14,by exact gW e15⟩,⟨by exact gW e30,by exact gW e31,by exact gS⟩,⟨by exact gW e6,by rw [hW1];exact gC⟩,_,by exact gC,by rw [s2];exact gC⟩,by omega⟩
      ·have hkl:k=q.length:=by omega
       subst hkl;rw [List.take_length] at hak m6 m28 hwz;have hok3:=hok (hqk hak);clear hgq hbq hqk hok;have cz:=Zea _ hwz (by omega);generalize hW:x*((sgP q:Int):Rat)=w at *;have cz:Pure prog 42 [.agg [.v (.bool (decide (w.num < 0))),lim (toL w.num.natAbs),lim (toL w.den)]] (iv w.num.sign):=cz;by_cases hw:w=0
       ·have hnn:=hnn hw;have hz2:w.num.sign=0:=by rw [Ze8];exact hw
        rw [hz2] at cz;clear hny hz2;rw [←hnn] at m201 m202;generalize toL w.num.natAbs=wn at *;generalize toL w.den=wd at *;generalize decide (w.num < 0)=ws at *;(focus (refine wkad (w_15 e3 m200 m201 m202 e13 e14 e15 e30 e31 e32 e6 m6 e7 m28 hqm) (w_1 cz) w_t ?_;(repeat' first|exact w_t|apply w_l);all_goals intros));exact⟨i+1,⟨by omega,hok3,by exact gW e3,by exact gW m201,⟨sv,by exact gW m200,by exact gW m202⟩,by exact gW e13,by exact gW e14,by exact gS⟩,by omega⟩
       ·have hny:=hny hw;have hz2:¬w.num.sign=0:=by rw [Ze8];exact hw
        have hsg:sgP q≠0:=λe=>hw (by rw [←hW,e];exact Rat.mul_zero x);have hsr:=Zv2 hsg;have hpl:=Zsg q;have hbb:=Zws hak;have hSl:=hacc.2.2;have hSq:=λt ht=>(hacc.1 t ht).1;have hSb:=hacc.2.1;have hMq:=Zi1;have ci:=fun(m:Mem) h=>qSort m 28 s7 (nsP q) h (by unfold nsP;rw [List.length_map];exact(show q.length≤maxQ by omega));rw [hsr] at ci;clear hnn hsg hak hacc;have cad:=fun(m:Mem) a b c d=>exAddO m 200 201 202 28 g h sv s7 S w (putP q) a b c d (by omega) (by omega) (by omega) (by omega) (by omega) (by omega) (by omega) (by omega) hSb hbb hSq hwz (by omega) (by omega);rw [←hny] at cad
        have cad:∀(m:Mem),m 200=some (.box g 167 [.mp 201 h,.own 202 sv] false)→m 201=some (.map h (mpE S))→m 202=some (.row sv 57 4 (S.map qtA) 0)→m 28=some (.row s7 39 4 ((putP q).map Qt.av) 0)→ACall prog 89 [.pbox 200 g 0,.agg [.v (.bool (decide (w.num < 0))),lim (toL w.num.natAbs),lim (toL w.den)],.own 28 s7] m _:=cad;generalize w.num.sign=z at *;generalize toL w.num.natAbs=wn at *;generalize toL w.den=wd at *;generalize decide (w.num < 0)=ws at *;(focus (refine wkad (w_16 e3 m200 m201 m202 e13 e14 e15 e30 e31 e32 e6 m6 e7 m28 hqm hz2) (w_1 cz) w_t ?_;(repeat' first|exact w_t|apply w_l);all_goals intros))
        refine Zgw (ci _ (by exact gW m28)) ?_;(focus (refine wkad (w_11 e3 m200 m201 m202 e13 e14 e15 e6 m6 e7 hqm) w_t w_t ?_;(repeat' first|exact w_t|apply w_l);all_goals intros));refine Zde (cad _ (by exact gW m200) (by exact gW m201) (by exact gW m202) (by exact gC)) ?_
        rintro _ _ ⟨sv2,eP,rfl,rfl⟩
        (focus (refine wkad (w_4 e3 e13 e14 e15) w_t w_t ?_;(repeat' first|exact w_t|apply w_l);all_goals intros));exact⟨i+1,⟨by omega,hok3,by exact gW e3,by exact gC,⟨sv2,by exact gC,by exact gC⟩,by exact gW e13,by exact gW e14,by exact gS⟩,by omega⟩
     ·exact⟨Nat.zero_le _,rfl,⟨by exact gW e3,by exact gW m201,by exact gW m200,by exact gW m202⟩,⟨by exact gW e13,by exact gW e14,by exact gW e15⟩,⟨by exact gC,by exact gW hqm,by exact gC⟩,⟨by exact gC,by rw [hw0];exact gC⟩,_,by exact gC,by exact gC⟩
  ·have hil:i=l.length:=by omega
   subst hil;have hacc:=hA l.length (Nat.le_refl _) ha;rw [List.take_length] at ha hacc m201 m202;have hfin:nrmR l=.sl 4 ((srtQ ordT (nzT (accS (nzT (l.map RE.t))))).map qtA):=by unfold nrmR;rw [if_pos ha,acc_fin]
   have hlen:=hacc.2.2;have hMq:=Zi1;have ce:=fun(m:Mem) a b=>exExpr m 200 201 202 300 g h sv (accS (nzT (l.map RE.t))) a b (by omega) (Zfm _ [] .nil) hacc.1 (by omega) (by omega);rw [hfin];clear hg hr hq ha hacc hfin;generalize accS (nzT (l.map RE.t))=S at *;generalize (srtQ ordT (nzT S)).map qtA=R at *;(focus (refine wkad (w_8 e3 m200 m201 m202 e13 e14 e15 hlm) w_t w_t ?_;(repeat' first|exact w_t|apply w_l);all_goals intros));refine Zxe (ce _ (by exact gW m200) (by exact gW m202)) ?_;intro sv3;(focus (refine wkad w_t w_t w_t ?_;(repeat' first|exact w_t|apply w_l);all_goals intros))
   all_goals exact gL
 ·refine⟨Nat.zero_le _,rfl,by exact gC,by exact gC,⟨_,by exact gC,by exact gC⟩,by exact gC,by exact gW hlm,by exact gC⟩
theorem Zzz (l:List RE) {J:Nat} (hr:∀t∈l,t.r.lm J) (hq:∀t∈l,t.q.length≤12):∀i,i≤l.length→(l.take i).all RE.ok=true→AccOk (accS (nzT ((l.take i).map RE.t))) i (J+1) 12
 | 0,_,_=>AccOk.nil _ _
 | i+1,hi,ha=>by
   have hlt:i < l.length:=hi;have hta:l.take (i+1)=l.take i++[l[i]]:=by rw [List.take_succ_eq_append_getElem hlt]
   rw [hta,List.all_append,Bool.and_eq_true] at ha;have ih:=Zzz l hr hq i (by omega) ha.1;have hok:RE.ok l[i]=true:=by have:=ha.2;simpa using this
   have hri:=hr _ (List.getElem_mem hlt);have hqi:=hq _ (List.getElem_mem hlt);rw [hta,List.map_append];unfold nzT at *;rw [List.filter_append];unfold RE.ok at hok;rw [Bool.and_eq_true] at hok;by_cases h0:(RE.t l[i]).1=0
   ·rw [List.map_cons,List.map_nil,List.filter_cons_of_neg (by simpa using h0),List.filter_nil,List.append_nil];exact ih.mono (by omega)
   ·rw [List.map_cons,List.map_nil,List.filter_cons_of_pos (by simpa using h0),List.filter_nil,Zla];exact ih.add (((RQ.ok_av hri hok.1).2).mul (Zt5 (sgP_sg _))) (Nat.le_trans (Zsg _) hqi) (Zws hok.2)
theorem exNorm (l:List RE) {J:Nat} (hl:l.length≤12) (hr:∀t∈l,t.r.lm J) (hq:∀t∈l,t.q.length≤12) (hJ:J≤1000):Pure prog 78 [.sl 4 (l.map RE.av)] (nrmR l) :=
 Ztd l (J:=J) (JA:=12*(J+1+2)) (nQ:=12) (by omega) hr hq Zx3 (by omega) (by omega) λi hi ha=>by
  have h:=Zzz l hr hq i hi ha;have h2:i*(J+1+2)≤12*(J+1+2):=Nat.mul_le_mul_right _ (by omega);exact⟨h.qk.mono h2 (Nat.le_refl _),h.b8,by have:=h.len;have:=Zx2;omega⟩
theorem exNormG (l:List RE) {J JA nQ:Nat} (hl:l.length≤1000000) (hr:∀t∈l,t.r.lm J) (hq:∀t∈l,t.q.length≤nQ) (hnQ:nQ≤maxQ) (hJ:J≤900000) (hJA:JA≤1000000)
 (hA:∀i,i≤l.length→(l.take i).all RE.ok=true→QK (accS (nzT ((l.take i).map RE.t))) JA nQ∧B8 (accS (nzT ((l.take i).map RE.t)))∧(accS (nzT ((l.take i).map RE.t))).length≤100000000):Pure prog 78 [.sl 4 (l.map RE.av)] (nrmR l) :=
 Ztd l hl hr hq hnQ hJ hJA λi hi ha=>by have h:=hA i hi ha;exact⟨h.1,h.2.1,by rw [Zsy];exact h.2.2⟩
end Go.Proofs.YtpkcophcldjboaaGreatDoor
namespace Go.Proofs.YtpkcophcldjboaaGreatDoor
open Go Go.RowKit Go.Pg Go.Proofs.Tryz
attribute [-bool_to_prop] Bool.and_eq_decide Bool.or_eq_decide Bool.decide_beq_decide decide_eq_decide
theorem szOpn:szOf prog 164=some 1:=by kernel_rfl
theorem zOpn:Zau prog 164=some (.agg #[.nilFunc]):=by kernel_rfl
theorem szFnR:szOf prog 106=some 1:=by kernel_rfl
theorem zFnR:Zau prog 106=some (.nilFunc):=by kernel_rfl
theorem undFnR:prog.underlying 106=some (.func #[54,54] #[54] false):=by kernel_rfl
end Go.Proofs.YtpkcophcldjboaaGreatDoor
namespace Go.Proofs.YtpkcophcldjboaaGreatDoor
open Go Go.RowKit Go.Pg Go.Pol Go.Proofs.Tryz
attribute [-bool_to_prop] Bool.and_eq_decide Bool.or_eq_decide Bool.decide_beq_decide decide_eq_decide
attribute [local go_sem] underlying3 underlying4 underlying128 underlying50 underlying52 underlying54 underlying39 underlying55 underlying57 underlying26 underlying27 sz3 by3 z3 szB zB Zas zRat Zay zInt Zax zNat Zah Zan Zai Bool.and_self Zal Za7 zSlQ szQT byQT zQT Za9 zSlT szQP zQP underlying164 szOpn zOpn szFnR zFnR undFnR
abbrev subT (p q:QTs):QTs:=Za6 p (q.map λt=>(-t.1,t.2))
structure OpF (f:Nat) (s:Rat):Prop where
 pm:s=1∨s=-1
 ct:∀(a b:Rat) {j k:Nat},Sz a j→Sz b k→j≤1000000→k≤1000000→Pure prog f [ratQ a,ratQ b] (ratQ (a+s*b))
theorem opAdd:OpF 139 1:=⟨.inl rfl,λa b _ _ ha hb hj hk=>by rw [Rat.one_mul];exact Zwm a b ha hb (by omega) (by omega)⟩
theorem opSub:OpF 137 (-1):=⟨.inr rfl,λa b _ _ ha hb hj hk=>by
 have:a+-1*b=a - b:=by grind
 rw [this];exact ratSub a b ha hb (by omega) (by omega)⟩
def sclT (s:Rat) (q:QTs):QTs:=q.map λt=>(s*t.1,t.2)
theorem Zct (s:Rat) (q:QTs):(sclT s q).length=q.length:=List.length_map ..
theorem Zwa (s:Rat) (q:QTs) {i:Nat} (h:i < q.length):(sclT s q)[i]'(by rw [Zct];exact h)=(s*q[i].1,q[i].2):=List.getElem_map ..
theorem Zyq (f:Nat) (s:Rat) (op:OpF f s) (p q:QTs) {j k n:Nat} (hp:QK p j n) (hq:QK q k n) (np:∀t∈p,t.1≠0) (nq:∀t∈q,t.1≠0) (lp:p.length≤100000000) (lq:q.length≤100000000) (hj:j≤900000) (hk:k≤900000) (hn:n≤1000000) :
 Pure prog 138 [.agg [.fn f []],qpA p,qpA q] (qpA (Za6 p (sclT s q))):=by
 have hz0:ratQ ((0:Nat):Rat)=.agg [.v (.bool false),lim [],lim (toL 1)]:=by
  show AV.agg [.v (.bool (decide ((0:Rat).num < 0))),lim (toL (0:Rat).num.natAbs),lim (toL (0:Rat).den)]=_;rw [show(0:Rat).num=0 from rfl,show(0:Rat).den=1 from rfl,show(0:Int).natAbs=0 from rfl,Zaw];rfl
 have hz1:ratQ (0:Rat)=.agg [.v (.bool false),lim [],lim (toL 1)]:=hz0;have c0:Pure prog 56 [iv 0] (.agg [.v (.bool false),lim [],lim (toL 1)]):=by rw [←hz0];exact Zt8 0 (by omega)
 have sz0:Sz (0:Rat) 1:=Zt5 (.inr (.inl rfl));have hsn:s≠0:=by rcases op.pm with h | h<;>rw [h]<;>decide
 show Pure _ _ [.agg [.fn f []],.sl 4 (p.map qtA),.sl 4 (q.map qtA)] _;refine Zaa (tok:=0) func138 rfl ntmps138 results138 call138 (by rfl) (by simp) ?_;(focus (refine wkad w_t (w_1 c0) w_t ?_;(repeat' first|exact w_t|apply w_l);all_goals intros));rename_i g3 g8;generalize toL 1=one at *;refine Zgr (Frz.nilOwn (d:=7) 79 4 57 (by exact gC)) ?_;refine Zae (ι:=Nat × Nat) (λx e m=>x.1≤p.length∧x.2≤q.length∧e 1=.sl 4 ((p.drop x.1).map qtA)∧e 2=.sl 4 ((q.drop x.2).map qtA)∧e 3=.pbox 3 g3 0∧m 3=some (.box g3 164 [.fn f []] false)∧e 8=.pbox 8 g8 0∧m 8=some (.box g8 54 [.v (.bool false),lim [],lim one] false)∧∃sv out,e 7=.own 79 sv∧m 79=some (.row sv 57 4 (out.map qtA) 0)∧out.length≤x.1+x.2∧Za6 p (sclT s q)=out++Za6 (p.drop x.1) ((sclT s q).drop x.2)) (λx=>p.length+q.length - (x.1+x.2)) (0,0) (by rfl) ?_ ?_
 ·rintro ⟨i,l⟩ e m ⟨hi,hl,e1,e2,e3,m3,e8,m8,sv,out,e7,m79,ho,hs⟩
  simp only at hi hl e1 e2 ho hs;have hlen:(out.map qtA).length=out.length:=List.length_map ..;by_cases hi2:i < p.length
  ·have hd:(p.drop i).map qtA=qtA p[i] :: (p.drop (i+1)).map qtA:=by rw [List.drop_eq_getElem_cons hi2];rfl
   have hdl:((p.drop (i+1)).map qtA).length=p.length - (i+1):=by rw [List.length_map,List.length_drop]
   have ms:=hp _ (List.getElem_mem hi2);have ns:=np _ (List.getElem_mem hi2);rw [hd] at e1;have hdp:=hd;clear hd;by_cases hl2:l < q.length
   ·have hd:(q.drop l).map qtA=qtA q[l] :: (q.drop (l+1)).map qtA:=by rw [List.drop_eq_getElem_cons hl2];rfl
    have hel:((q.drop (l+1)).map qtA).length=q.length - (l+1):=by rw [List.length_map,List.length_drop]
    have mt:=hq _ (List.getElem_mem hl2);have nt:=nq _ (List.getElem_mem hl2);have st:=Zx7 (p:=p) (q:=sclT s q) hi2 (show l < (sclT s q).length by rw [Zct];exact hl2);rw [Zwa s q hl2] at st;rw [hd] at e2;have hdq:=hd;clear hd hp hq np nq;generalize p[i]=u at *;generalize q[l]=v at *;have cl:=Zys u.2 v.2 (by have:=ms.2;omega) (by have:=mt.2;omega);have h3:=Zw4 u.2 v.2;have hou:∀x:Rat × List Qt,(out++[x]).map qtA=out.map qtA++[.agg [.v (.bool (decide (x.1.num < 0))),lim (toL x.1.num.natAbs),lim (toL x.1.den),.sl 4 (x.2.map Qt.av)]]:=λx=>by rw [List.map_append];rfl
    rw [st] at hs;clear st;have ca1:=op.ct u.1 0 ms.1 sz0 (by omega) (by omega);have ca2:=op.ct 0 v.1 sz0 mt.1 (by omega) (by omega);have ca3:=op.ct u.1 v.1 ms.1 mt.1 (by omega) (by omega);rw [show u.1+s*0=u.1 by rw [Rat.mul_zero,Rat.add_zero],hz1] at ca1;rw [show 0+s*v.1=s*v.1 by rw [Rat.zero_add],hz1] at ca2;have hpm:=op.pm;have zs1:=Zea u.1 ms.1 (by omega)
    have hsz:Sz (s*v.1) (k+1):=by
     rcases hpm with h | h
     ·rw [h,Rat.one_mul];exact mt.1.mono (by omega)
     ·rw [h,show -1*v.1=- v.1 by grind];exact mt.1.neg.mono (by omega)
    have zs2:=Zea (s*v.1) hsz (by omega);have zs3:=Zea (u.1+s*v.1) (ms.1.add hsz) (by omega);have nz1:¬u.1.num.sign=0:=by rw [Ze8];exact ns
    have nz2:¬(s*v.1).num.sign=0:=by rw [Ze8];exact λh=>by rcases Rat.mul_eq_zero.1 h with h | h;exact hsn h;exact nt h
    have hou1:=hou u;have hou2:=hou (s*v.1,v.2);have hou3:=hou (u.1+s*v.1,v.2);clear hou ms mt hsz hpm;obtain⟨u1,u2⟩:=u;obtain⟨v1,v2⟩:=v;simp only at *;have cl:Pure prog 44 [.sl 4 (u2.map Qt.av),.sl 4 (v2.map Qt.av)] (iv (ordQ u2 v2)):=cl;have e1:e 1=.sl 4 (.agg [.v (.bool (decide (u1.num < 0))),lim (toL u1.num.natAbs),lim (toL u1.den),.sl 4 (u2.map Qt.av)] :: (p.drop (i+1)).map qtA):=e1;have hdp:(p.drop i).map qtA=.agg [.v (.bool (decide (u1.num < 0))),lim (toL u1.num.natAbs),lim (toL u1.den),.sl 4 (u2.map Qt.av)] :: (p.drop (i+1)).map qtA:=hdp;have e2:e 2=.sl 4 (.agg [.v (.bool (decide (v1.num < 0))),lim (toL v1.num.natAbs),lim (toL v1.den),.sl 4 (v2.map Qt.av)] :: (q.drop (l+1)).map qtA):=e2
    have hdq:(q.drop l).map qtA=.agg [.v (.bool (decide (v1.num < 0))),lim (toL v1.num.natAbs),lim (toL v1.den),.sl 4 (v2.map Qt.av)] :: (q.drop (l+1)).map qtA:=hdq;have ca1:Pure prog f [.agg [.v (.bool (decide (u1.num < 0))),lim (toL u1.num.natAbs),lim (toL u1.den)],.agg [.v (.bool false),lim [],lim one]] (.agg [.v (.bool (decide (u1.num < 0))),lim (toL u1.num.natAbs),lim (toL u1.den)]):=ca1;have ca2:Pure prog f [.agg [.v (.bool false),lim [],lim one],.agg [.v (.bool (decide (v1.num < 0))),lim (toL v1.num.natAbs),lim (toL v1.den)]] (ratQ (s*v1)):=ca2;have ca3:Pure prog f [.agg [.v (.bool (decide (u1.num < 0))),lim (toL u1.num.natAbs),lim (toL u1.den)],.agg [.v (.bool (decide (v1.num < 0))),lim (toL v1.num.natAbs),lim (toL v1.den)]] (ratQ (u1+s*v1)):=ca3
    have zs1:Pure prog 42 [.agg [.v (.bool (decide (u1.num < 0))),lim (toL u1.num.natAbs),lim (toL u1.den)]] (iv u1.num.sign):=zs1;rcases h3 with⟨h1,h2⟩ | ⟨h1,h2,h4⟩ | ⟨h1,h2,h4⟩
    ·rw [if_pos h2] at hs;rw [h1] at cl;clear ca2 ca3 zs2 zs3 nz2 hou2 hou3 h1 h2;generalize u1.num.sign=z at *;generalize hO:out.map qtA=O at *;generalize hPd:(p.drop (i+1)).map qtA=PD at *;have htp:PD.take (p.length - (i+1))=PD:=List.take_of_length_le (by omega);generalize hQd:(q.drop (l+1)).map qtA=QD at *;have htq:QD.take (q.length - (l+1))=QD:=List.take_of_length_le (by omega);generalize u2.map Qt.av=U2 at *;generalize v2.map Qt.av=V2 at *;(focus (refine wkax (w_14 e1 e2 e3 m3 e8 m8 e7 m79 hlen hdl hel htp htq nz1) (w_3 cl ca1 zs1) (w_3 (w_d 8 [(8,iv (-1))] [] []) (w_d 9 [] [] [10,11]) (w_d 12 [] [] [10])) w_t w_t w_t w_y (w_r 0) ?_;(repeat' first|exact w_t|apply w_l);all_goals intros))
     refine⟨(i+1,l),⟨by simp only;omega,by simp only;omega,by rw [hPd];exact gC,by rw [hdq];exact gW e2,by exact gW e3,by exact gW m3,by exact gW e8,by exact gW m8,_,out++[(u1,u2)],by exact gC,by rw [hou1];exact gC,by simp only [List.length_append,List.length_cons,List.length_nil];omega,by rw [hs,List.append_assoc];rfl⟩,by simp only;omega⟩
    ·rw [if_neg h2,if_neg h4] at hs;have huv:u2=v2:=Zbk.eqz _ _ h1;rw [h1] at cl;clear ca1 ca2 zs1 zs2 nz1 nz2 hou1 hou2 h2 h4;by_cases hz:u1+s*v1=0
     ·rw [if_pos hz] at hs;have hz2:(u1+s*v1).num.sign=0:=by rw [Ze8];exact hz
      rw [hz2] at zs3;clear hou3 h1 huv hz hz2;generalize u1+s*v1=w at *;generalize hO:out.map qtA=O at *;generalize hPd:(p.drop (i+1)).map qtA=PD at *;have htp:PD.take (p.length - (i+1))=PD:=List.take_of_length_le (by omega);generalize hQd:(q.drop (l+1)).map qtA=QD at *;have htq:QD.take (q.length - (l+1))=QD:=List.take_of_length_le (by omega);generalize u2.map Qt.av=U2 at *;generalize v2.map Qt.av=V2 at *;(focus (refine wkax (w_13 e1 e2 e3 m3 e8 m8 e7 m79 hlen hdl hel htp htq) (w_3 cl ca3 zs3) (w_4 (w_d 8 [(8,iv 0)] [] []) (w_d 9 [] [] [10,11]) (w_d 12 [] [] [10]) (w_d 14 [] [] [11])) w_t w_t w_t w_y (w_r 0) ?_;(repeat' first|exact w_t|apply w_l);all_goals intros))
      refine⟨(i+1,l+1),⟨by simp only;omega,by simp only;omega,by rw [hPd];exact gC,by rw [hQd];exact gC,by exact gW e3,by exact gW m3,by exact gW e8,by exact gW m8,_,out,by exact gW e7,by rw [hO];exact gW m79,by simp only;omega,hs⟩,by simp only;omega⟩
     ·rw [if_neg hz] at hs;have hz2:¬(u1+s*v1).num.sign=0:=by rw [Ze8];exact hz
      have hs:Za6 p (sclT s q)=out++(u1+s*v1,v2) :: Za6 (p.drop (i+1)) ((sclT s q).drop (l+1)):=by rw [←huv];exact hs
      clear h1 huv hz;generalize (u1+s*v1).num.sign=z at *;generalize u1+s*v1=w at *;generalize hO:out.map qtA=O at *;generalize hPd:(p.drop (i+1)).map qtA=PD at *;have htp:PD.take (p.length - (i+1))=PD:=List.take_of_length_le (by omega);generalize hQd:(q.drop (l+1)).map qtA=QD at *;have htq:QD.take (q.length - (l+1))=QD:=List.take_of_length_le (by omega);generalize u2.map Qt.av=U2 at *;generalize v2.map Qt.av=V2 at *;(focus (refine wkax (w_14 e1 e2 e3 m3 e8 m8 e7 m79 hlen hdl hel htp htq hz2) (w_3 cl ca3 zs3) (w_4 (w_d 8 [(8,iv 0)] [] []) (w_d 9 [] [] [10,11]) (w_d 12 [] [] [10]) (w_d 14 [] [] [11])) w_t w_t w_t w_y (w_r 0) ?_;(repeat' first|exact w_t|apply w_l);all_goals intros))
      refine⟨(i+1,l+1),⟨by simp only;omega,by simp only;omega,by rw [hPd];exact gC,by rw [hQd];exact gC,by exact gW e3,by exact gW m3,by exact gW e8,by exact gW m8,_,out++[(w,v2)],by exact gC,by rw [hou3];exact gC,by simp only [List.length_append,List.length_cons,List.length_nil];omega,by rw [hs,List.append_assoc];rfl⟩,by simp only;omega⟩
    ·rw [if_neg h2,if_pos h4] at hs;rw [h1] at cl;clear ca1 ca3 zs1 zs3 nz1 hou1 hou3 h1 h2 h4;generalize (s*v1).num.sign=z at *;generalize s*v1=w at *;generalize hO:out.map qtA=O at *;generalize hPd:(p.drop (i+1)).map qtA=PD at *;have htp:PD.take (p.length - (i+1))=PD:=List.take_of_length_le (by omega);generalize hQd:(q.drop (l+1)).map qtA=QD at *;have htq:QD.take (q.length - (l+1))=QD:=List.take_of_length_le (by omega);generalize u2.map Qt.av=U2 at *;generalize v2.map Qt.av=V2 at *;(focus (refine wkax (w_14 e1 e2 e3 m3 e8 m8 e7 m79 hlen hdl hel htp htq nz2) (w_3 cl ca2 zs2) (w_3 (w_d 8 [(8,iv 1)] [] []) (w_d 9 [] [] [10,11]) (w_d 14 [] [] [11])) w_t w_t w_t w_y (w_r 0) ?_;(repeat' first|exact w_t|apply w_l);all_goals intros))
     refine⟨(i,l+1),⟨by simp only;omega,by simp only;omega,by rw [hdp];exact gW e1,by rw [hQd];exact gC,by exact gW e3,by exact gW m3,by exact gW e8,by exact gW m8,_,out++[(w,v2)],by exact gC,by rw [hou2];exact gC,by simp only [List.length_append,List.length_cons,List.length_nil];omega,by rw [hs,List.append_assoc];rfl⟩,by simp only;omega⟩
   ·have hl3:l=q.length:=by omega
    subst hl3;rw [Zio (.inr (by rw [Zct];exact Nat.le_refl _)),List.drop_of_length_le (l:=sclT s q) (by rw [Zct];exact Nat.le_refl _),List.append_nil,List.drop_eq_getElem_cons hi2] at hs
    have hs:Za6 p (sclT s q)=(out++[p[i]])++Za6 (p.drop (i+1)) ((sclT s q).drop q.length):=by
     rw [Zio (.inr (by rw [Zct];exact Nat.le_refl _)),hs,List.drop_of_length_le (l:=sclT s q) (by rw [Zct];exact Nat.le_refl _)];simp
    rw [show q.drop q.length=[] from List.drop_of_length_le (Nat.le_refl _)] at e2;have e2:e 2=.sl 4 []:=e2;have hq0:(q.drop q.length).map qtA=[]:=by rw [List.drop_of_length_le (Nat.le_refl _)];rfl
    clear hp hq np nq;generalize p[i]=u at *;have hou1:(out++[u]).map qtA=out.map qtA++[.agg [.v (.bool (decide (u.1.num < 0))),lim (toL u.1.num.natAbs),lim (toL u.1.den),.sl 4 (u.2.map Qt.av)]]:=by rw [List.map_append];rfl
    have ca1:=op.ct u.1 0 ms.1 sz0 (by omega) (by omega);rw [show u.1+s*0=u.1 by rw [Rat.mul_zero,Rat.add_zero],hz1] at ca1;have zs1:=Zea u.1 ms.1 (by omega);have nz1:¬u.1.num.sign=0:=by rw [Ze8];exact ns
    obtain⟨u1,u2⟩:=u;simp only at *;have e1:e 1=.sl 4 (.agg [.v (.bool (decide (u1.num < 0))),lim (toL u1.num.natAbs),lim (toL u1.den),.sl 4 (u2.map Qt.av)] :: (p.drop (i+1)).map qtA):=e1;have hdp:(p.drop i).map qtA=.agg [.v (.bool (decide (u1.num < 0))),lim (toL u1.num.natAbs),lim (toL u1.den),.sl 4 (u2.map Qt.av)] :: (p.drop (i+1)).map qtA:=hdp;have ca1:Pure prog f [.agg [.v (.bool (decide (u1.num < 0))),lim (toL u1.num.natAbs),lim (toL u1.den)],.agg [.v (.bool false),lim [],lim one]] (.agg [.v (.bool (decide (u1.num < 0))),lim (toL u1.num.natAbs),lim (toL u1.den)]):=ca1;have zs1:Pure prog 42 [.agg [.v (.bool (decide (u1.num < 0))),lim (toL u1.num.natAbs),lim (toL u1.den)]] (iv u1.num.sign):=zs1
    generalize u1.num.sign=z at *;generalize hO:out.map qtA=O at *;generalize hPd:(p.drop (i+1)).map qtA=PD at *;have htp:PD.take (p.length - (i+1))=PD:=List.take_of_length_le (by omega);generalize u2.map Qt.av=U2 at *;(focus (refine wkad (w_12 e1 e2 e3 m3 e8 m8 e7 m79 hlen hdl htp nz1) (w_2 ca1 zs1) (w_2 (w_d 9 [] [] [10,11]) (w_d 12 [] [] [10])) ?_;(repeat' first|exact w_t|apply w_l);all_goals intros));refine⟨(i+1,q.length),⟨by simp only;omega,by simp only;omega,by rw [hPd];exact gC,by rw [hq0];exact gW e2,by exact gW e3,by exact gW m3,by exact gW e8,by exact gW m8,_,out++[(u1,u2)],by exact gC,by rw [hou1];exact gC,by simp only [List.length_append,List.length_cons,List.length_nil];omega,hs⟩,by simp only;omega⟩
  ·have hi3:i=p.length:=by omega
   subst hi3;rw [show p.drop p.length=[] from List.drop_of_length_le (Nat.le_refl _)] at e1;have e1:e 1=.sl 4 []:=e1;have hp0:(p.drop p.length).map qtA=[]:=by rw [List.drop_of_length_le (Nat.le_refl _)];rfl
   by_cases hl2:l < q.length
   ·have hd:(q.drop l).map qtA=qtA q[l] :: (q.drop (l+1)).map qtA:=by rw [List.drop_eq_getElem_cons hl2];rfl
    have hel:((q.drop (l+1)).map qtA).length=q.length - (l+1):=by rw [List.length_map,List.length_drop]
    have mt:=hq _ (List.getElem_mem hl2);have nt:=nq _ (List.getElem_mem hl2);rw [hd] at e2;have hdq:=hd;have hsl:(sclT s q).drop l=(s*q[l].1,q[l].2) :: (sclT s q).drop (l+1):=by rw [List.drop_eq_getElem_cons (by rw [Zct];exact hl2),Zwa s q hl2]
    rw [Zio (.inl (Nat.le_refl _)),List.drop_of_length_le (Nat.le_refl _),List.nil_append,hsl] at hs
    have hs:Za6 p (sclT s q)=(out++[(s*q[l].1,q[l].2)])++Za6 (p.drop p.length) ((sclT s q).drop (l+1)):=by
     rw [Zio (.inl (Nat.le_refl _)),hs,List.drop_of_length_le (l:=p) (Nat.le_refl _)];simp
    clear hd hsl hp hq np nq;generalize q[l]=v at *;have ca2:=op.ct 0 v.1 sz0 mt.1 (by omega) (by omega);rw [show 0+s*v.1=s*v.1 by rw [Rat.zero_add],hz1] at ca2;have hpm:=op.pm
    have hsz:Sz (s*v.1) (k+1):=by
     rcases hpm with h | h
     ·rw [h,Rat.one_mul];exact mt.1.mono (by omega)
     ·rw [h,show -1*v.1=- v.1 by grind];exact mt.1.neg.mono (by omega)
    have zs2:=Zea (s*v.1) hsz (by omega);have nz2:¬(s*v.1).num.sign=0:=by rw [Ze8];exact λh=>by rcases Rat.mul_eq_zero.1 h with h | h;exact hsn h;exact nt h
    have hou2:(out++[(s*v.1,v.2)]).map qtA=out.map qtA++[.agg [.v (.bool (decide ((s*v.1).num < 0))),lim (toL (s*v.1).num.natAbs),lim (toL (s*v.1).den),.sl 4 (v.2.map Qt.av)]]:=by rw [List.map_append];rfl
    clear mt nt hsz hpm;obtain⟨v1,v2⟩:=v;simp only at *;have e2:e 2=.sl 4 (.agg [.v (.bool (decide (v1.num < 0))),lim (toL v1.num.natAbs),lim (toL v1.den),.sl 4 (v2.map Qt.av)] :: (q.drop (l+1)).map qtA):=e2;have hdq:(q.drop l).map qtA=.agg [.v (.bool (decide (v1.num < 0))),lim (toL v1.num.natAbs),lim (toL v1.den),.sl 4 (v2.map Qt.av)] :: (q.drop (l+1)).map qtA:=hdq;have ca2:Pure prog f [.agg [.v (.bool false),lim [],lim one],.agg [.v (.bool (decide (v1.num < 0))),lim (toL v1.num.natAbs),lim (toL v1.den)]] (ratQ (s*v1)):=ca2;generalize (s*v1).num.sign=z at *;generalize s*v1=w at *;generalize hO:out.map qtA=O at *
    generalize hQd:(q.drop (l+1)).map qtA=QD at *;have htq:QD.take (q.length - (l+1))=QD:=List.take_of_length_le (by omega);generalize v2.map Qt.av=V2 at *;(focus (refine wkad (w_12 e1 e2 e3 m3 e8 m8 e7 m79 hlen hel htq nz2) (w_2 ca2 zs2) (w_2 (w_d 9 [] [] [10,11]) (w_d 14 [] [] [11])) ?_;(repeat' first|exact w_t|apply w_l);all_goals intros));refine⟨(p.length,l+1),⟨by simp only;omega,by simp only;omega,by rw [hp0];exact gW e1,by rw [hQd];exact gC,by exact gW e3,by exact gW m3,by exact gW e8,by exact gW m8,_,out++[(w,v2)],by exact gC,by rw [hou2];exact gC,by simp only [List.length_append,List.length_cons,List.length_nil];omega,hs⟩,by simp only;omega⟩
   ·have hl3:l=q.length:=by omega
    subst hl3;rw [show q.drop q.length=[] from List.drop_of_length_le (Nat.le_refl _)] at e2;have e2:e 2=.sl 4 []:=e2;rw [Zio (.inl (Nat.le_refl _)),List.drop_of_length_le (Nat.le_refl _),List.drop_of_length_le (l:=sclT s q) (by rw [Zct];exact Nat.le_refl _),List.append_nil,List.append_nil] at hs;rw [hs];clear hp hq np nq hs;generalize hO:out.map qtA=O at *;rw [show qpA out=.sl 4 O from congrArg _ hO];(focus (refine wkad (w_9 e1 e2 e3 m3 e8 m8 e7 m79 hlen) w_t w_t ?_;(repeat' first|exact w_t|apply w_l);all_goals intros));all_goals (all_goals (try simp (disch:=omega) only [go_sem,m79,decide_eq_true,decide_eq_false,if_pos,if_neg,Int.reduceAdd,Int.reduceSub,Int.reduceToNat,Int.zero_add]));(all_goals first|done|rfl|(congr 2;first|done|omega|(rw [Bool.eq_iff_iff];simp only [bool_to_prop,Bool.false_eq_true,iff_true,true_iff,iff_false,false_iff];omega))|skip)
 ·exact⟨Nat.zero_le _,Nat.zero_le _,by exact gC,by exact gC,by exact gC,by exact gC,by exact gC,by exact gC,_,[],by exact gC,by exact gC,Nat.zero_le _,by simp⟩
attribute [local go_sem] underlying9 underlying167 underlying123 underlying165 Zn4 Zjc Zny Zn5 Zbh zStr zSum zMap
def okQ (l:List Qt):Prop:=Asc Qt.cmp l∧∀q∈l,q.norm=(q,1)
theorem Zqp {q:Qt} (h:q.norm=(q,1)):q.ok=true:=by
 cases e:q.ok with
 | true=>rfl
 | false =>
   unfold Qt.norm at h;rw [e,if_neg (by simp)] at h;have:=congrArg Prod.snd h;simp at this
theorem okQ.b8 {l:List Qt} (h:okQ l):∀q∈l,q.b8:=λq hq=>ok_b8 (Zqp (h.2 q hq))
theorem rgQ:Go.Pol.RG okQ ordQ muQ [] where
 o:=Zbk
 comm a b:=Zfo qtO (Zbz qtO.cp _) (Zbz qtO.cp _) ((Za2 _).trans (List.perm_append_comm.trans (Za2 _).symm))
 assoc a b c:=Zfo qtO (Zbz qtO.cp _) (Zbz qtO.cp _) ((Za2 _).trans ((((Za2 _).append_right c).trans (by rw [List.append_assoc])).trans (((Za2 (b++c)).symm.append_left a).trans (Za2 _).symm)))
 one a ha:=Zfo qtO (Zbz qtO.cp _) ha.1 (by show(srtQ Qt.cmp (a++[])).Perm a;rw [List.append_nil];exact Za2 _)
 cl a b ha hb:=⟨Zbz qtO.cp _,λq hq=>by
  rcases List.mem_append.1 ((Za2 _).mem_iff.1 hq) with h | h
  ·exact ha.2 q h
  ·exact hb.2 q h⟩
 de:=⟨.nil,λq hq=>by cases hq⟩
abbrev EX (p:QTs):Prop:=SQ okQ ordQ p
abbrev mulX (p q:QTs):QTs:=mlG ordQ muQ p q
def XB (p:QTs) (k n:Nat):Prop:=EX p∧(∀t∈p,t.2.length≤n)∧∃D B,D≠0∧D < 65536 ^ k∧B < 65536 ^ k∧NB D B p
theorem XB.mono {p:QTs} {k n j m:Nat} (h:XB p k n) (hk:k≤j) (hn:n≤m):XB p j m:=by
 obtain⟨a,b,D,B,c,d,e,f⟩:=h;have hp:65536 ^ k≤65536 ^ j:=Nat.pow_le_pow_right (by omega) hk;exact⟨a,λt ht=>Nat.le_trans (b t ht) hn,D,B,c,by omega,by omega,f⟩
theorem XB.qk {p:QTs} {k n:Nat} (h:XB p k n):QK p (k+k) n:=by
 obtain⟨a,b,D,B,c,d,e,f⟩:=h;exact nb_qk f c d e b
theorem XB.nz {p:QTs} {k n:Nat} (h:XB p k n):∀t∈p,t.1≠0:=λt ht=>(h.1.1 t ht).1
theorem mu_len (a b:List Qt):(muQ a b).length=a.length+b.length:=by rw [srtQ_len,List.length_append]
theorem Zkn {p q:QTs} {m n:Nat} (hp:∀t∈p,t.2.length≤m) (hq:∀t∈q,t.2.length≤n):∀t∈prodL muQ p q,t.2.length≤m+n:=λu hu=>by
 obtain⟨s,hs,t,ht,rfl⟩:=Zfs hu;show(muQ s.2 t.2).length≤_;rw [mu_len];have:=hp s hs;have:=hq t ht;omega
theorem XB.mul {p q:QTs} {j k m n:Nat} (hp:XB p j m) (hq:XB q k n):XB (mulX p q) (j+k) (m+n):=by
 obtain⟨a,b,D,B,c,d,e,f⟩:=hp;obtain⟨a',b',D',B',c',d',e',f'⟩:=hq;refine⟨Zbe rgQ a a',Zj1 (Zkn b b'),D*D',B*B',Nat.mul_ne_zero c c',?_,?_,(f.prodL f').sumG⟩
 ·rw [Nat.pow_add];exact Nat.mul_lt_mul_of_lt_of_lt d d'
 ·rw [Nat.pow_add];exact Nat.mul_lt_mul_of_lt_of_lt e e'
theorem XB.add {p q:QTs} {j k m n:Nat} (hp:XB p j m) (hq:XB q k n):XB (Za6 p q) (j+k+1) (max m n):=by
 obtain⟨a,b,D,B,c,d,e,f⟩:=hp;obtain⟨a',b',D',B',c',d',e',f'⟩:=hq;have h1:65536 ^ j≤65536 ^ (j+k):=Nat.pow_le_pow_right (by omega) (by omega);have h2:65536 ^ k≤65536 ^ (j+k):=Nat.pow_le_pow_right (by omega) (by omega);have h3:65536 ^ (j+k+1)=65536 ^ (j+k)*65536:=Nat.pow_succ ..;have h4:D*D' < 65536 ^ (j+k):=by rw [Nat.pow_add];exact Nat.mul_lt_mul_of_lt_of_lt d d'
 refine⟨Zgh Zbk a a',λt ht=>?_,D*D',B+B',Nat.mul_ne_zero c c',by omega,by omega,(f.mono (Nat.dvd_mul_right ..) (Nat.le_refl _)).addP (f'.mono (Nat.dvd_mul_left ..) (Nat.le_refl _))⟩;rcases Zgx ht with h | h | ⟨s,hs,u,hu,rfl⟩
 ·exact Nat.le_trans (b t h) (Nat.le_max_left ..)
 ·exact Nat.le_trans (b' t h) (Nat.le_max_right ..)
 ·exact Nat.le_trans (b s hs) (Nat.le_max_left ..)
theorem Zds (p q:QTs):(mulX p q).length≤p.length*q.length:=by
 have:∀l:QTs,(gatM l).length≤l.length:=λl=>by
  obtain⟨j,hj⟩:∃j,QK l j ((l.map λt=>t.2.length).sum):=by
   induction l with
   | nil=>exact⟨0,λt ht=>by cases ht⟩
   | cons a l ih =>
     obtain⟨j,hj⟩:=ih;refine⟨max j (max (toL a.1.num.natAbs).length (toL a.1.den).length),λt ht=>?_⟩;rw [List.map_cons,List.sum_cons];rcases List.mem_cons.1 ht with rfl | ht
     ·exact⟨⟨by omega,by omega⟩,by omega⟩
     ·exact⟨(hj t ht).1.mono (by omega),by have:=(hj t ht).2;omega⟩
  exact(Zyh _ l rfl hj).2
 have h:=this (prodL muQ p q)
 rwa [Zko] at h
theorem Zsi {mu:List Qt→List Qt→List Qt} {q:QTs}:∀{p:QTs} {i j:Nat} (hi:i < p.length) (hj:j < q.length),(prodL mu p q)[i*q.length+j]?=some (p[i].1*q[j].1,mu p[i].2 q[j].2)
 | a :: p,0,j,_,hj=>by
   rw [Zft,List.getElem?_append_left (by rw [List.length_map];omega),Nat.zero_mul,Nat.zero_add,List.getElem?_map,List.getElem?_eq_getElem hj];rfl
 | a :: p,i+1,j,hi,hj=>by
   rw [Zft,List.getElem?_append_right (by rw [List.length_map,Nat.succ_mul];omega),List.length_map,show(i+1)*q.length+j - q.length=i*q.length+j by rw [Nat.succ_mul];omega];exact Zsi (by simpa using hi) hj
theorem Zvs {α:Type} {l:List α} {c:Nat} {x:α} (h:l[c]?=some x):l.take (c+1)=l.take c++[x]:=by
 rw [List.take_add_one,h];rfl
theorem acc_nb {D:Nat} (L:QTs):∀{B C:Nat} (acc:QTs),NB D B acc→NB D C L→NB D (B+C) (L.foldl addC acc):=by
 induction L with
 | nil=>intro B C acc h _;exact h.mono (Nat.dvd_refl _) (Nat.le_add_right _ _)
 | cons t L ih =>
   intro B C acc h k;have h1:=h.addC (C:=cl t.1) (k.1 t (.head _)) (Nat.le_refl _);have h2:NB D (C - cl t.1) L:=⟨λu hu=>k.1 u (.tail _ hu),by have:=k.2;rw [Zba] at this;omega⟩;have h3:cl t.1≤C:=by have:=k.2;rw [Zba] at this;omega
   exact(ih _ h1 h2).mono (Nat.dvd_refl _) (by omega)
theorem Zi6 {P:List Qt→Prop} (L:QTs):∀(acc:QTs),(∀t∈acc,P t.2)→(∀t∈L,P t.2)→∀t∈L.foldl addC acc,P t.2:=by
 induction L with
 | nil=>intro acc h _;exact h
 | cons s L ih =>
   intro acc h k;refine ih _ (λt ht=>?_) λt ht=>k t (.tail _ ht);rcases Znw ht with h1 | rfl | ⟨v,hv,rfl⟩
   ·exact h t h1
   ·exact k _ (.head _)
   ·exact h v hv
theorem Zz0 (L:QTs):∀(acc:QTs),(L.foldl addC acc).length≤acc.length+L.length:=by
 induction L with
 | nil=>intro acc;exact Nat.le_refl _
 | cons s L ih =>
   intro acc;refine Nat.le_trans (ih _) ?_;have:=Ztu acc s;rw [List.length_cons];omega
theorem Zqt (L:QTs):srtQ ordT (nzT (accS L))=gatM L:=Zmh Zbk L
theorem exMulT (p q:QTs) {j k m n:Nat} (hp:XB p j m) (hq:XB q k n) (hmn:m+n≤maxQ) (hl:p.length*q.length≤maxT) (hpl:p.length≤100000000) (hql:q.length≤100000000) (hj:j≤100000) (hk:k≤100000):Pure prog 40 [qpA p,qpA q] (qpA (mulX p q)):=by
 have hMT:=Zm3;have hM:=Zi1;have hpm:(p.map qtA).length=p.length:=List.length_map ..;have hqm:(q.map qtA).length=q.length:=List.length_map ..;have gp:∀i (h:i < p.length),(p.map qtA).getD i .u=qtA p[i]:=λi h=>Zat qtA h;have gq:∀i (h:i < q.length),(q.map qtA).getD i .u=qtA q[i]:=λi h=>Zat qtA h;have kp:=hp.qk;have kq:=hq.qk;have hop:∀t∈p,okQ t.2:=hp.1.dom;have hoq:∀t∈q,okQ t.2:=hq.1.dom
 have hacc:∀c,c≤p.length*q.length→QK (accS ((prodL muQ p q).take c)) (j+k+(j+k)) (m+n)∧B8 (accS ((prodL muQ p q).take c))∧(accS ((prodL muQ p q).take c)).length≤maxT:=by
  intro c hc;obtain⟨a,b,D,B,c1,d,e,f⟩:=hp;obtain⟨a',b',D',B',c',d',e',f'⟩:=hq;have hn:=acc_nb ((prodL muQ p q).take c) [] (NB.nil _ 0) ((f.prodL f').take c);rw [Nat.zero_add] at hn;have hmem:∀t∈(prodL muQ p q).take c,t.2.length≤m+n∧okQ t.2:=λt ht=>by
   have ht:=List.mem_of_mem_take ht;refine⟨Zkn b b' t ht,?_⟩;obtain⟨s,hs,u,hu,rfl⟩:=Zfs ht;exact rgQ.cl _ _ (hop s hs) (hoq u hu)
  refine⟨nb_qk hn (Nat.mul_ne_zero c1 c') (by rw [Nat.pow_add];exact Nat.mul_lt_mul_of_lt_of_lt d d') (by rw [Nat.pow_add];exact Nat.mul_lt_mul_of_lt_of_lt e e') ?_,?_,?_⟩
  ·exact Zi6 (P:=λx=>x.length≤m+n) _ [] (λt ht=>by cases ht) λt ht=>(hmem t ht).1
  ·exact Zi6 (P:=λx=>∀q∈x,q.b8) _ [] (λt ht=>by cases ht) λt ht=>(hmem t ht).2.b8
  ·refine Nat.le_trans (Zz0 _ _) ?_;rw [List.length_nil,List.length_take,Zko];omega
 have hstep:∀i l (h1:i < p.length) (h2:l < q.length),accS ((prodL muQ p q).take (i*q.length+l+1))=addC (accS ((prodL muQ p q).take (i*q.length+l))) (p[i].1*q[l].1,muQ p[i].2 q[l].2):=λi l h1 h2=>by
  rw [Zvs (Zsi h1 h2)];exact Zla _ _
 have hfin:mulX p q=srtQ ordT (nzT (accS ((prodL muQ p q).take (p.length*q.length)))):=by
  rw [Zqt,List.take_of_length_le (by rw [Zko];exact Nat.le_refl _)];rfl
 have hdst:Dst (accS ((prodL muQ p q).take (p.length*q.length))):=Zfm _ [] .nil;have hac0:accS ((prodL muQ p q).take 0)=[]:=by rw [List.take_zero];rfl
 have hq0:∀t∈q,t.2.length≤n:=λt ht=>(kq t ht).2;rw [hfin];clear hfin hp hq;generalize hPR:(λc=>accS ((prodL muQ p q).take c))=PR at *;have hPR:∀c,accS ((prodL muQ p q).take c)=PR c:=λc=>by rw [←hPR]
 simp only [hPR] at hacc hstep hdst hac0 ⊢;clear hPR;show Pure _ _ [.sl 4 (p.map qtA),.sl 4 (q.map qtA)] (.sl 4 ((srtQ ordT (nzT (PR (p.length*q.length)))).map qtA));generalize p.map qtA=A at *;generalize q.map qtA=B at *;refine Zaa (tok:=0) func40 rfl ntmps40 results40 call40 (by rfl) (by simp) ?_;(focus (refine wkad w_t w_t w_t ?_;(repeat' first|exact w_t|apply w_l);all_goals intros));refine Zde (exNew _ 200 201 (by omega)) ?_
 rintro _ _ ⟨g,h,rfl,rfl⟩
 (focus (refine wkad (w_1 hpm) w_t w_t ?_;(repeat' first|exact w_t|apply w_l);all_goals intros));refine Zgr (Frz.nilBox (k:=200) 1 202 4 57 (by exact gC) rfl (by omega)) ?_;refine Zae (ι:=Nat) (λi e M=>i≤p.length∧e 1=.sl 4 B∧e 5=.pbox 200 g 0∧M 201=some (.map h (mpE (PR (i*q.length))))∧(∃sv,M 200=some (.box g 167 [.mp 201 h,.own 202 sv] false)∧M 202=some (.row sv 57 4 ((PR (i*q.length)).map qtA) 0))∧e 11=.sl 4 A∧e 12=iv p.length∧e 13=iv i) (λi=>p.length - i) 0 (by rfl) ?_ ?_
 ·rintro i e M ⟨hi,e1,e5,m201,⟨sv,m200,m202⟩,e11,e12,e13⟩
  by_cases hlt:i < p.length
  ·have gpi:=gp i hlt;have kpi:=kp _ (List.getElem_mem hlt);have hsti:=λl h2=>hstep i l hlt h2;have hopi:=hop _ (List.getElem_mem hlt);have hci:∀l,l≤q.length→i*q.length+l≤p.length*q.length:=λl h=>by
    have:=Nat.mul_le_mul_right q.length (show i+1≤p.length from hlt);rw [Nat.succ_mul] at this;omega
   have hsucc:(i+1)*q.length=i*q.length+q.length:=Nat.succ_mul ..;clear gp kp hstep hop;generalize p[i]=u at *;generalize i*q.length=ci at *;obtain⟨u1,u2⟩:=u;simp only at kpi hsti hopi;have gpi:A.getD i .u=.agg [.v (.bool (decide (u1.num < 0))),lim (toL u1.num.natAbs),lim (toL u1.den),.sl 4 (u2.map Qt.av)]:=gpi;have cm0:=fun(v:Rat) (hv:Sz v (k+k))=>ratMul u1 v kpi.1 hv (by omega) (by omega);have cm0:∀v:Rat,Sz v (k+k)→Pure prog 90 [.agg [.v (.bool (decide (u1.num < 0))),lim (toL u1.num.natAbs),lim (toL u1.den)],ratQ v] (ratQ (u1*v)):=cm0;have ct0:=fun(v:List Qt) (hv:v.length≤n)=>exTimes u2 v (by have:=kpi.2;omega)
   have ct0:∀v:List Qt,v.length≤n→Pure prog 91 [.sl 4 (u2.map Qt.av),qsA v] (qsA (muQ u2 v)):=ct0;have hmq:∀v:List Qt,v.length≤n→(muQ u2 v).length≤1000:=λv hv=>by rw [mu_len];have:=kpi.2;omega
   have hmo:∀v:List Qt,okQ v→∀q∈muQ u2 v,q.b8:=λv hv=>(rgQ.cl _ _ hopi hv).b8;have hsu:∀v:Rat,Sz v (k+k)→Sz (u1*v) (j+j+(k+k)):=λv hv=>kpi.1.mul hv;clear kpi hopi;generalize toL u1.num.natAbs=un at *;generalize toL u1.den=ud at *;generalize decide (u1.num < 0)=us at *;generalize u2.map Qt.av=UQ at *;(focus (refine wkad (w_11 e1 e5 m200 m201 m202 e11 e12 e13 hpm hqm gpi) w_t w_t ?_;(repeat' first|exact w_t|apply w_l);all_goals intros));rename_i g7;refine Zae (ι:=Nat) (λl e M=>l≤q.length∧(e 1=.sl 4 B∧e 5=.pbox 200 g 0∧e 11=.sl 4 A∧e 12=iv p.length∧e 13=iv i)∧(M 201=some (.map h (mpE (PR (ci+l))))∧∃sv,M 200=some (.box g 167 [.mp 201 h,.own 202 sv] false)∧M 202=some (.row sv 57 4 ((PR (ci+l)).map qtA) 0))∧(e 7=.pbox 7 g7 0∧M 7=some (.box g7 57 [.v (.bool us),lim un,lim ud,.sl 4 UQ] false))∧e 17=.sl 4 B∧e 18=iv q.length∧e 19=iv l) (λl=>q.length - l) 0 (by rfl) ?_ ?_
   ·rintro l e M ⟨hl2,⟨e1,e5,e11,e12,e13⟩,⟨m201,sv,m200,m202⟩,⟨e7,m7⟩,e17,e18,e19⟩
    by_cases hlq:l < q.length
    ·have gql:=gq l hlq;have kql:=kq _ (List.getElem_mem hlq);have hst:=hsti l hlq;have hoql:=hoq _ (List.getElem_mem hlq);obtain⟨a1,a2,a3⟩:=hacc (ci+l) (by have:=hci (l+1) (by omega);omega);clear gq kq hsti hoq hacc hac0 hdst;generalize q[l]=v at *;obtain⟨v1,v2⟩:=v;simp only at kql hst hoql;have gql:B.getD l .u=.agg [.v (.bool (decide (v1.num < 0))),lim (toL v1.num.natAbs),lim (toL v1.den),.sl 4 (v2.map Qt.av)]:=gql;have cm:=cm0 v1 kql.1;have ct:=ct0 v2 kql.2;have hb:=hmo v2 hoql;have hsz:=hsu v1 kql.1;have hml:=hmq v2 kql.2;have cad:=fun(m:Mem) a b c=>exAdd m 200 201 202 g h sv (PR (ci+l)) (u1*v1) (muQ u2 v2) a b c (by omega) (by omega) (by omega) (Nat.le_trans a3 Zm3) hml a2 hb (λt ht=>(a1 t ht).1) hsz (by omega) (by omega)
     rw [←hst] at cad;have cm:Pure prog 90 [.agg [.v (.bool us),lim un,lim ud],.agg [.v (.bool (decide (v1.num < 0))),lim (toL v1.num.natAbs),lim (toL v1.den)]] (ratQ (u1*v1)):=cm;have ct:Pure prog 91 [.sl 4 UQ,.sl 4 (v2.map Qt.av)] (.sl 4 ((muQ u2 v2).map Qt.av)):=ct;have cad:∀m:Mem,m 200=some (.box g 167 [.mp 201 h,.own 202 sv] false)→m 201=some (.map h (mpE (PR (ci+l))))→m 202=some (.row sv 57 4 ((PR (ci+l)).map qtA) 0)→ACall prog 89 [.pbox 200 g 0,ratQ (u1*v1),.sl 4 ((muQ u2 v2).map Qt.av)] m _:=cad;clear cm0 ct0 hmo hmq hsu a1 a2 a3 hst hb hml hsz kql;generalize u1*v1=w at *
     generalize (muQ u2 v2).map Qt.av=MQ at *;generalize toL v1.num.natAbs=vn at *;generalize toL v1.den=vd at *;generalize decide (v1.num < 0)=vs at *;generalize v2.map Qt.av=VQ at *;(focus (refine wkad (w_15 e1 e5 m200 m201 m202 e11 e12 e13 e7 m7 e17 e18 e19 hqm gql) (w_2 cm ct) (w_1 (w_d 8 [(5,ratQ w),(10,.sl 4 MQ)] [11] [])) ?_;(repeat' first|exact w_t|apply w_l);all_goals intros));refine Zde (cad _ (by exact gW m200) (by exact gW m201) (by exact gW m202)) ?_
     rintro _ _ ⟨sv2,rfl,rfl⟩
     (focus (refine wkad (w_9 e1 e5 e11 e12 e13 e7 e17 e18 e19) w_t w_t ?_;(repeat' first|exact w_t|apply w_l);all_goals intros));exact⟨l+1,⟨by omega,⟨by exact gW e1,by exact gW e5,by exact gW e11,by exact gW e12,by exact gW e13⟩,⟨by exact gC,sv2,by exact gC,by exact gC⟩,⟨by exact gW e7,by exact gW m7⟩,by exact gW e17,by exact gW e18,by exact gS⟩,by omega⟩
    ·have hle:l=q.length:=by omega
     subst hle;rw [←hsucc] at m201 m202;(focus (refine wkad (w_14 e1 e5 m200 m201 m202 e11 e12 e13 e7 m7 e17 e18 e19 hqm) w_t w_t ?_;(repeat' first|exact w_t|apply w_l);all_goals intros));exact⟨i+1,⟨by omega,by exact gW e1,by exact gW e5,by exact gW m201,⟨sv,by exact gW m200,by exact gW m202⟩,by exact gW e11,by exact gW e12,by exact gS⟩,by omega⟩
   ·exact⟨Nat.zero_le _,⟨by exact gW e1,by exact gW e5,by exact gW e11,by exact gW e12,by exact gW e13⟩,⟨by exact gW m201,sv,by exact gW m200,by exact gW m202⟩,⟨by exact gC,by exact gC⟩,by exact gC,by exact gW hqm,by exact gC⟩
  ·have hil:i=p.length:=by omega
   subst hil;obtain⟨a1,a2,a3⟩:=hacc (p.length*q.length) (Nat.le_refl _);have ce:=fun(m:Mem) a b=>exExpr m 200 201 202 300 g h sv (PR (p.length*q.length)) a b a3 hdst a1 (by omega) (by omega);clear hacc hstep gp gq kp kq hop hoq;generalize PR (p.length*q.length)=S at *;generalize (srtQ ordT (nzT S)).map qtA=R at *;(focus (refine wkad (w_9 e1 e5 m200 m201 m202 e11 e12 e13 hpm) w_t w_t ?_;(repeat' first|exact w_t|apply w_l);all_goals intros));refine Zxe (ce _ (by exact gW m200) (by exact gW m202)) ?_;intro sv3;(focus (refine wkad w_t w_t w_t ?_;(repeat' first|exact w_t|apply w_l);all_goals intros))
   all_goals exact gL
 ·exact⟨Nat.zero_le _,by exact gC,by exact gC,by rw [Nat.zero_mul,hac0];exact gC,⟨_,by exact gC,by rw [Nat.zero_mul,hac0];exact gC⟩,by exact gC,by exact gW hpm,by exact gC⟩
theorem Zyp (p q:QTs) {j k m n:Nat} (hp:XB p j m) (hq:XB q k n) (hmn:m+n≤maxQ) (hl:p.length*q.length≤100000000) (hpl:p.length≤100000000) (hql:q.length≤100000000) (hj:j≤100000) (hk:k≤100000):Pure prog 40 [qpA p,qpA q] (qpA (mulX p q)) :=
 exMulT p q hp hq hmn (by rw [Zsy];exact hl) hpl hql hj hk
end Go.Proofs.YtpkcophcldjboaaGreatDoor
namespace Go.Proofs.YtpkcophcldjboaaGreatDoor
open Go Go.RowKit Go.Pg Go.Proofs.Tryz
attribute [-bool_to_prop] Bool.and_eq_decide Bool.or_eq_decide Bool.decide_beq_decide decide_eq_decide
theorem szFr:szOf prog 29=some 2:=by kernel_rfl
theorem byFr:Zhs prog 29=some 48:=by kernel_rfl
theorem zFr:Zau prog 29=some (.agg #[.slice none 0 0,.slice none 0 0]):=by kernel_rfl
theorem Zb6:szOf prog 81=some 1:=by kernel_rfl
theorem Zca:Zhs prog 27=some 24:=by kernel_rfl
theorem zSQP:Zau prog 81=some (.slice none 0 0):=by kernel_rfl
end Go.Proofs.YtpkcophcldjboaaGreatDoor
namespace Go.Pg
open Go Go.RowKit
theorem Zhn {P:Program} {tok:Nat} {all:List Oper} {K K':St→Prop} (h:∀st,K st→K' st):∀(ops:List Oper) (st:St),Zbi P tok all ops K st→Zbi P tok all ops K' st
 | [],st,hk=>h st hk
 | ⟨d,op,t,pos,af,none⟩ :: r,st,hk=>Zf3 (Zhn h r) _ _ _ _ hk
 | ⟨d,op,t,pos,af,some (j,want)⟩ :: r,st,hk=>by
   rw [Zi9] at hk ⊢;refine⟨hk.1,?_⟩;have h2:=hk.2;split at h2
   ·rename_i hc;rw [if_pos hc];exact Zf3 (Zhn h r) _ _ _ _ h2
   ·rename_i hc;rw [if_neg hc];exact Zhn h r _ h2
theorem Ztw {P:Program} {n:Nat} {code:Code} {Q Q':AE→St→Prop} {st:St} (h:∀ae st,Q ae st→Q' ae st) (k:AWP P n code Q st):AWP P n code Q' st :=
 λc a w imm hr=>Code.wp_mono (λ_ _ _ hp=>Zww h hp) (k c a w imm hr)
theorem Zvr {next next':St→Prop} {Q Q':AE→St→Prop} (h1:∀st,next st→next' st) (h:∀ae st,Q ae st→Q' ae st):∀ae st,AE.then next Q ae st→AE.then next' Q' ae st
 | .normal,st,k=>h1 st k
 | .exit _,st,k=>h _ st k
 | .ret,st,k=>h _ st k
theorem Zpa {id:Nat} {Q Q':AE→St→Prop} (h:∀ae st,Q ae st→Q' ae st):∀ae st,AE.inBlock id Q ae st→AE.inBlock id Q' ae st
 | .normal,st,k=>h _ st k
 | .exit i,st,k=>by
   simp only [AE.inBlock] at k ⊢;split at k
   ·rename_i e;rw [if_pos e];exact h _ st k
   ·rename_i e;rw [if_neg e];exact h _ st k
 | .ret,st,k=>h _ st k
theorem Zl9 {P:Program} {n:Nat}:∀(code:Code) {Q Q':AE→St→Prop} (st:St),(∀ae st,Q ae st→Q' ae st)→Za3 P 0 n code Q st→Za3 P 0 n code Q' st:=by
 intro code
 induction code with
 | skip=>exact λst h k=>h _ _ k
 | region id ops d=>cases d with
   | false=>exact λst h k=>Zhn (h _) _ _ k
   | true=>exact λst h k=>Ztw h k
 | seq x y ihx ihy=>exact λst h k=>ihx st (Zvr (λst'=>ihy st' h) h) k
 | cond o x y ihx ihy =>
   intro Q Q' st h k;unfold Za3 at k ⊢;split at k
   ·exact⟨λe=>ihx st h (k.1 e),λe=>ihy st h (k.2 e)⟩
   ·exact k.elim
 | block id x ih=>exact λst h k=>ih st (Zpa h) k
 | exit id=>exact λst h k=>h _ _ k
 | ret=>exact λst h k=>h _ _ k
 | _=>exact λst h k=>Ztw h k
section
variable {P:Program} {n:Nat} {Q:AE→St→Prop} {e:Nat→AV} {m:Mem}
theorem r_cgX {t:Bool} {x y:Code} (J:(Nat→AV)→Mem→Prop)
 (h1:CG P n t x y (λae st=>ae=.normal∧J st.env st.mem) ⟨e,m⟩) (h2:∀e m,J e m→Q .normal ⟨e,m⟩):CG P n t x y Q ⟨e,m⟩:=by
 cases t with
 | true=>exact Zl9 x _ (λ_ _ ⟨h,j⟩=>by subst h;exact h2 _ _ j) h1
 | false=>exact Zl9 y _ (λ_ _ ⟨h,j⟩=>by subst h;exact h2 _ _ j) h1
end
end Go.Pg
namespace Go.Proofs.YtpkcophcldjboaaGreatDoor
open Go Go.RowKit Go.Pg Go.Pol Go.Proofs.Tryz
attribute [-bool_to_prop] Bool.and_eq_decide Bool.or_eq_decide Bool.decide_beq_decide decide_eq_decide
section
attribute [local go_sem] underlying3 underlying4 underlying128 underlying50 underlying52 underlying54 underlying39 underlying55 underlying57 underlying26 underlying27 sz3 by3 z3 szB zB Zas zRat Zay zInt Zax zNat Zah Zan Zai Bool.and_self Zal Za7 zSlQ szQT byQT zQT Za9 zSlT szQP zQP underlying81 underlying29 szFr byFr zFr Zb6 Zca zSQP
end
attribute [local go_sem] underlying3 underlying4 underlying128 underlying50 underlying52 underlying54 underlying39 underlying55 underlying57 underlying26 underlying27 sz3 by3 z3 szB zB Zas zRat Zay zInt Zax zNat Zah Zan Zai Bool.and_self Zal Za7 zSlQ szQT byQT zQT Za9 zSlT szQP zQP underlying164 szOpn zOpn szFnR zFnR undFnR
def rawQ (a:Rat):RQ:=⟨decide (a.num < 0),toL a.num.natAbs,toL a.den⟩
theorem Zqd {a:Rat} {k:Nat} (h:Sz a k):(rawQ a).lm k:=⟨Zap _,Zap _,h.1,h.2⟩
theorem Zmr (a:Rat):(rawQ a).ok=true:=by
 unfold rawQ RQ.ok RQ.zok;simp only [Bool.and_eq_true,decide_eq_true_eq,Bool.not_eq_true',beq_iff_eq,Zao];refine⟨⟨⟨⟨(Zh9 (Zap _)).2 (by rw [Zao]),?_⟩,(Zh9 (Zap _)).2 (by rw [Zao])⟩,a.reduced⟩,Za8.2 (Nat.pos_of_ne_zero a.den_nz)⟩;by_cases h:a.num < 0
 ·have:(toL a.num.natAbs).length≠0:=by have:=Za8.2 (show 0 < a.num.natAbs by omega);omega
  simp [h,this]
 ·simp [h]
theorem Zsb (a:Rat):(rawQ a).q=a:=by
 unfold rawQ RQ.q;simp only [Zao];rw [show zI (decide (a.num < 0)) a.num.natAbs=a.num from by unfold zI;by_cases h:a.num < 0<;>simp [h]<;>omega];exact Rat.mkRat_self a
def cstE (a:Rat):List RE:=[⟨rawQ a,[]⟩]
def ofE (q:Qt):List RE:=[⟨rawQ 1,[q]⟩]
theorem nrm_or (l:List RE):(∃G,nrmR l=.sl 4 G)∨nrmR l=.v (.slice none 0 0):=by
 unfold nrmR;split
 ·exact .inl ⟨_,rfl⟩
 ·exact .inr rfl
theorem norm_nil {f:Nat} {s:Bool} {x d:List Nat} {NR:AV} (c:Pure prog f [.sl 4 [RE.av ⟨⟨s,x,d⟩,[]⟩]] NR):Pure prog f [.sl 4 [.agg [.v (.bool s),lim x,lim d,.v (.slice none 0 0)]]] NR:=by
 refine Zjw c (.cons (Vk.slL rfl (λe he=>by rw [List.mem_singleton.1 he];rfl) (λe he=>by rw [List.mem_singleton.1 he];rfl) ?_) .nil);exact .cons (.refl _) (.cons (.refl _) (.cons (.refl _) (.cons (.nil 4) .nil)))
theorem Zrd (a:Rat) {J:Nat} (ha:Sz a J) (hJ:J≤1000):Pure prog 55 [ratQ a] (nrmR (cstE a)):=by
 have c:=norm_nil (exNorm (cstE a) (J:=J) (by simp [cstE]) (λt ht=>by rw [List.mem_singleton.1 ht];exact Zqd ha) (λt ht=>by rw [List.mem_singleton.1 ht];simp) hJ);show Pure _ _ [.agg [.v (.bool (decide (a.num < 0))),lim (toL a.num.natAbs),lim (toL a.den)]] _;rcases nrm_or (cstE a) with⟨G,h⟩ | h
 all_goals
  rw [h] at c ⊢;clear h ha;generalize toL a.num.natAbs=x at *;generalize toL a.den=d at *;refine Zaa (tok:=0) func55 rfl ntmps55 results55 call55 (by rfl) (by simp) ?_;(focus (refine wkax w_t w_t w_t (w_1 c) w_t w_t w_y (w_r 0) ?_;(repeat' first|exact w_t|apply w_l);all_goals intros));all_goals exact gL
theorem exOf (q:Qt):Pure prog 35 [q.av] (nrmR (ofE q)):=by
 have c:Pure prog 78 [.sl 4 [.agg [.v (.bool (decide ((1:Rat).num < 0))),lim (toL (1:Rat).num.natAbs),lim (toL (1:Rat).den),.sl 4 [.agg [iv q.k,iv q.a,iv q.b,iv q.c]]]]] (nrmR (ofE q)):=exNorm (ofE q) (J:=1) (by simp [ofE]) (λt ht=>by rw [List.mem_singleton.1 ht];exact Zqd (Zt5 (.inr (.inr rfl)))) (λt ht=>by rw [List.mem_singleton.1 ht];simp) (by omega);have c1:Pure prog 56 [iv 1] (.agg [.v (.bool (decide ((1:Rat).num < 0))),lim (toL (1:Rat).num.natAbs),lim (toL (1:Rat).den)]):=Zt8 1 (by omega);generalize decide ((1:Rat).num < 0)=s1 at *;generalize toL (1:Rat).num.natAbs=x1 at *
 generalize toL (1:Rat).den=d1 at *;obtain⟨k,a,b,cc⟩:=q;simp only at *;rcases nrm_or (ofE ⟨k,a,b,cc⟩) with⟨G,h⟩ | h
 ·rw [h] at c ⊢;clear h;refine Zaa (tok:=0) func35 rfl ntmps35 results35 call35 (by rfl) (by simp) ?_;(focus (refine wkad w_t (w_2 c1 c) (w_1 (w_d 1 [(0,.agg [.v (.bool s1),lim x1,lim d1]),(2,.sl 4 [.agg [iv k,iv a,iv b,iv cc]]),(4,.sl 4 [.agg [.v (.bool s1),lim x1,lim d1,.sl 4 [.agg [iv k,iv a,iv b,iv cc]]]]),(5,.sl 4 G)] [] [])) ?_;(repeat' first|exact w_t|apply w_l);all_goals intros));all_goals exact gL
 ·rw [h] at c ⊢;clear h;refine Zaa (tok:=0) func35 rfl ntmps35 results35 call35 (by rfl) (by simp) ?_;(focus (refine wkad w_t (w_2 c1 c) (w_1 (w_d 1 [(0,.agg [.v (.bool s1),lim x1,lim d1]),(2,.sl 4 [.agg [iv k,iv a,iv b,iv cc]]),(4,.sl 4 [.agg [.v (.bool s1),lim x1,lim d1,.sl 4 [.agg [iv k,iv a,iv b,iv cc]]]]),(5,.v (.slice none 0 0))] [] [])) ?_;(repeat' first|exact w_t|apply w_l);all_goals intros));all_goals exact gL
theorem Zr1 (q:QTs):sclT 1 q=q:=by
 unfold sclT;have:(λt:Rat × List Qt=>((1*t.1,t.2):Rat × List Qt))=id:=by funext t;show(1*t.1,t.2)=t;rw [Rat.one_mul]
 rw [this,List.map_id]
theorem exPlus (p q:QTs) {j k n:Nat} (hp:QK p j n) (hq:QK q k n) (np:∀t∈p,t.1≠0) (nq:∀t∈q,t.1≠0) (lp:p.length≤100000000) (lq:q.length≤100000000) (hj:j≤900000) (hk:k≤900000) (hn:n≤1000000):Pure prog 82 [qpA p,qpA q] (qpA (Za6 p q)):=by
 have c:=Zyq _ _ opAdd p q hp hq np nq lp lq hj hk hn;rw [Zr1] at c;have c:Pure prog 138 [.agg [.fn 139 []],.sl 4 (p.map qtA),.sl 4 (q.map qtA)] (.sl 4 ((Za6 p q).map qtA)):=c;show Pure _ _ [.sl 4 (p.map qtA),.sl 4 (q.map qtA)] (.sl 4 ((Za6 p q).map qtA));generalize (Za6 p q).map qtA=R at *;generalize p.map qtA=A at *;generalize q.map qtA=B at *;refine Zaa (tok:=0) func82 rfl ntmps82 results82 call82 (by rfl) (by simp) ?_;(focus (refine wkap w_t (w_1 c) (w_r 0) ?_;(repeat' first|exact w_t|apply w_l);all_goals intros));all_goals exact gL
theorem exMinus (p q:QTs) {j k n:Nat} (hp:QK p j n) (hq:QK q k n) (np:∀t∈p,t.1≠0) (nq:∀t∈q,t.1≠0) (lp:p.length≤100000000) (lq:q.length≤100000000) (hj:j≤900000) (hk:k≤900000) (hn:n≤1000000):Pure prog 80 [qpA p,qpA q] (qpA (Za6 p (sclT (-1) q))):=by
 have c:=Zyq _ _ opSub p q hp hq np nq lp lq hj hk hn;have c:Pure prog 138 [.agg [.fn 137 []],.sl 4 (p.map qtA),.sl 4 (q.map qtA)] (.sl 4 ((Za6 p (sclT (-1) q)).map qtA)):=c;show Pure _ _ [.sl 4 (p.map qtA),.sl 4 (q.map qtA)] (.sl 4 ((Za6 p (sclT (-1) q)).map qtA));generalize (Za6 p (sclT (-1) q)).map qtA=R at *;generalize p.map qtA=A at *;generalize q.map qtA=B at *;refine Zaa (tok:=0) func80 rfl ntmps80 results80 call80 (by rfl) (by simp) ?_;(focus (refine wkap w_t (w_1 c) (w_r 0) ?_;(repeat' first|exact w_t|apply w_l);all_goals intros));all_goals exact gL
attribute [local go_sem] underlying81 underlying29 szFr byFr zFr Zb6 Zca zSQP
theorem xbC (p:QTs) (n:Nat) (h:(∀t∈p,t.1≠0∧(t.2.Pairwise λa b=>Qt.cmp a b≤0)∧(∀q∈t.2,q.norm=(q,1))∧t.2.length≤n∧t.1.den ∣ 1)∧(p.Pairwise λs t=>ordQ s.2 t.2 < 0)∧n1 p≤65535):XB p 1 n :=
 ⟨⟨λt ht=>⟨(h.1 t ht).1,(h.1 t ht).2.1,(h.1 t ht).2.2.1⟩,h.2.1⟩,λt ht=>(h.1 t ht).2.2.2.1,1,65535,by decide,by decide,by decide,⟨λt ht=>(h.1 t ht).2.2.2.2,h.2.2⟩⟩
theorem Zxg {l:List RE} (h:l.all RE.ok=true):nrmR l=qpA (gatM (l.map RE.t)):=by unfold nrmR;rw [if_pos h]
theorem gat_C {l m:QTs} (h:Go.Pol.sumC ordQ l=m):gatM l=m:=by rw [←h];exact(Zmh Zbk l).symm
theorem Zoz {p q r:QTs} (h:Go.Pol.sumC ordQ (prodL muQ p q)=r):mulX p q=r:=gat_C h
theorem Zva {p q r:QTs} (hp:EX p) (hq:EX q) (h:Go.Pol.sumC ordQ (p++q)=r):Za6 p q=r:=by
 rw [←h,Zmh Zbk];exact Zh5 (D:=okQ) Zbk (Zgh Zbk hp hq) (Zgo Zbk λt ht=>(List.mem_append.1 ht).elim (hp.dom t) (hq.dom t)) λφ=>by rw [Zrf Zbk,Zte Zbk,Zyw]
theorem Ziz (l:List Qt):qtA ((1:Rat),l)=.agg [.v (.bool false),lim [1],lim [1],qsA l]:=by
 show AV.agg [.v (.bool (decide ((1:Rat).num < 0))),lim (toL (1:Rat).num.natAbs),lim (toL (1:Rat).den),qsA l]=_;rw [show(1:Rat).num=1 from rfl,show(1:Rat).den=1 from rfl,show(1:Int).natAbs=1 from rfl,Zpv];rfl
theorem Zll:Sz (1:Rat) 1:=Zt5 (.inr (.inr rfl))
theorem Zsc:ratQ (1:Rat)=.agg [.v (.bool false),lim [1],lim [1]]:=by
 show AV.agg [.v (.bool (decide ((1:Rat).num < 0))),lim (toL (1:Rat).num.natAbs),lim (toL (1:Rat).den)]=_;rw [show(1:Rat).num=1 from rfl,show(1:Rat).den=1 from rfl,show(1:Int).natAbs=1 from rfl,Zpv];rfl
abbrev oneE (q:List Qt):RE:=⟨rawQ 1,q⟩
theorem oneE_t {q:List Qt} (h1:sgP q=1) (h2:putP q=q):RE.t (oneE q)=(1,q):=by
 show((rawQ 1).q*(sgP q:Rat),putP q)=_;rw [Zsb,h1,h2,show((1:Int):Rat)=1 from rfl,Rat.mul_one]
theorem awConst1:Pure prog 55 [.agg [.v (.bool false),lim [1],lim [1]]] (.sl 4 [.agg [.v (.bool false),lim [1],lim [1],.sl 4 []]]):=by
 have c:=Zrd 1 Zll (by omega);rw [Zxg (by show(RE.ok (oneE []) && true)=true;rw [Bool.and_true];show((rawQ 1).ok && true)=true;rw [Zmr];rfl)] at c
 have e:gatM ((cstE 1).map RE.t)=[((1:Rat),[])]:=by
  show gatM [RE.t (oneE [])]=_;rw [oneE_t rfl rfl,Znd,if_neg (by decide)]
 rw [e,Zsc] at c;simp only [qpA,List.map_cons,List.map_nil,Ziz] at c;exact c
end Go.Proofs.YtpkcophcldjboaaGreatDoor
namespace Go.Proofs.YtpkcophcldjboaaGreatDoor
open Go Go.RowKit Go.Pg Go.Proofs.Tryz
theorem ubSize:(prog.info? 221).map (·.size)=some 2:=by kernel_rfl
theorem ubLies:liesAt prog prog.depth 221 (2/prog.cellsOf 221) 0 221 1=true:=by kernel_rfl
theorem ubCells:prog.cellsOf 5=1:=by kernel_rfl
theorem ubUsed (b:Nat) (w:World) (h0:w.cell? ⟨b,0,none⟩=some (.pointer (some ⟨b,0,none⟩))) :
 Calls prog 250 #[.pointer (some ⟨b,0,none⟩)] w λe w'=>e=.returned (.tuple #[])∧w'=w:=by
 obtain⟨j,hj,_⟩:=Option.map_eq_some_iff.1 ubSize
 go_enter func250,ntmps250
 go_wp2
 rw [Lib.run_neq_ptr_same w _ underlying219 hj]
 go_wp2
 go_end0
 exact⟨rfl,rfl⟩
theorem ubFresh (b:Nat) (w:World) (h0:w.cell? ⟨b,0,none⟩=some (.pointer none)) (hsh:w.shape? b=some (221,2)) (hfz:w.frozen? ⟨b,0,none⟩=false) :
 Calls prog 250 #[.pointer (some ⟨b,0,none⟩)] w λe w'=>e=.returned (.tuple #[])∧w'=w.setCell ⟨b,0,none⟩ (.pointer (some ⟨b,0,none⟩)):=by
 obtain⟨j,hj,hjs⟩:=Option.map_eq_some_iff.1 ubSize
 go_enter func250,ntmps250
 go_wp2
 rw [Lib.run_to_unsafe w ⟨b,0,none⟩ underlying219 underlying252 hj (by rw [hjs];decide) hsh (Nat.zero_lt_succ 1)];simp only [Result.andThen];rw [Oper.upon_value]
 go_wp2
 rw [run_callFunc_extern func259 (by kernel_rfl) (by kernel_rfl) (by kernel_rfl) (e:=Extern.AbiNoEscape.same) (by kernel_rfl)];rw [Lib.run_noEscape];simp only [Result.andThen];rw [Oper.upon_value]
 go_wp2
 rw [Lib.run_from_unsafe w ⟨b,0,none⟩ underlying252 underlying219 hj hsh ubLies];simp only [Result.andThen];rw [Oper.upon_value]
 go_wp2
 go_end0
 exact⟨rfl,rfl⟩
theorem ubString (b g cap:Nat) (p:Value) (cur:Array Value) (l:List UInt8) (w:World) (hbk:w.heap[b]?=some (.cells #[p,.slice (some ⟨g,0,none⟩) l.length cap] 221 (0,0)))
 (hg:w.heap[g]?=some (.cells cur 5 (0,0))) (h0:l≠[]) (hnc:l.length≤cap) (hcm:cap≤maxLen) (hcs:cur.size=cap) (hc:∀j x,l[j]?=some x→w.cell? ((⟨g,0,none⟩:Addr).add j)=some (.int .u8 x.toNat)) :
 Calls prog 223 #[.pointer (some ⟨b,0,none⟩)] w λe w'=>e=.returned (.string ⟨l.toArray⟩)∧w'=w.drew.freeze ⟨g,0,none⟩ l.length:=by
 have hl0:l.length≠0:=by simpa using h0
 have c1:w.drew.cell? ⟨b,1,none⟩=some (.slice (some ⟨g,0,none⟩) l.length cap):=by
  have:w.drew.heap[b]?=some (.cells #[p,.slice (some ⟨g,0,none⟩) l.length cap] 221 (0,0)):=hbk;rw [Lib.cell_of_heap this];rfl
 have hSD:(Builtin.unsafeSliceData_ #[95] 245 #[.slice (some ⟨g,0,none⟩) l.length cap]).run prog w.drew=.ok (.pointer (some ⟨g,0,none⟩)) w.drew :=
  Lib.run_unsafeSliceData_row _ _ _ _ _ _ (by omega)
 have hUS:(Builtin.unsafeString_ #[245,3] 9 #[.pointer (some ⟨g,0,none⟩),.int .i64 l.length]).run prog w.drew=.ok (.string ⟨l.toArray⟩) (w.drew.freeze ⟨g,0,none⟩ l.length) :=
  Lib.run_unsafeString_row w.drew 245 3 9 5 underlying245 ubCells g cur.size (by have hg':w.drew.heap[g]?=some (.cells cur 5 (0,0)):=hg;simp [World.shape?,hg']) l h0 (by omega) (by unfold maxLen at hcm;omega) hc
 have mixed:prog.follows .mixedOrders=true:=by kernel_rfl
 go_enter func223,ntmps223
 go_wp2
 go_region_o
 all_goals (go_wp2;go_ret;exact⟨rfl,rfl⟩)
theorem szBld:szOf prog 221=some 2:=by kernel_rfl
theorem zBld:Zau prog 221=some (.agg #[.pointer none,.slice none 0 0]):=by kernel_rfl
theorem szSl8:szOf prog 95=some 1:=by kernel_rfl
theorem zSl8:Zau prog 95=some (.slice none 0 0):=by kernel_rfl
theorem szPB:szOf prog 219=some 1:=by kernel_rfl
theorem zPB:Zau prog 219=some (.pointer none):=by kernel_rfl
theorem Zrc (w:World) (a:Addr) (n:Nat) (ad:Addr):(w.freeze a n).cell? ad=w.cell? ad:=by
 unfold World.freeze;split
 ·rfl
 ·unfold World.cell?;simp only [Array.getElem?_modify];by_cases h:a.block=ad.block
  ·rw [if_pos h]
   cases hh:w.heap[ad.block]? with
   | none=>rfl
   | some o=>cases o<;>rfl
  ·rw [if_neg h]
theorem Zpc (w:World) (g n:Nat):w.grownBy (w.freeze ⟨g,0,none⟩ n) (some g):=by
 unfold World.freeze;split
 ·exact⟨rfl,rfl,rfl,Nat.le_refl _,λk _ _=>rfl⟩
 ·exact⟨rfl,rfl,rfl,by simp,λk _ hk=>by
   simp only [Array.getElem?_modify];rw [if_neg (λe=>hk (by rw [←e]))]⟩
theorem mem_drop {c:Cx} {σ:Mem} {w w':World} {imm:Imm} (h:Mx c σ w imm) {row:Option Nat} (hg:w.grownBy w' row) (hdw:w.drawn≤w'.drawn) (hB:∀g,row=some g→c.B≤g) (hcell:∀ad,imm ad→w'.cell? ad=w.cell? ad)
 (k:Nat) (hoth:∀j e2 b,j≠k→σ j=some e2→e2.blk=some b→some b≠row):Mx c (upd σ k none) w' imm∧Keeps w imm w' imm:=by
 refine⟨⟨⟨λj e2 hj=>?_,λj j' e1 e2 b h1 h2 h3 h4=>?_,λad h1=>Nat.lt_of_lt_of_le (h.ok.lt ad h1) hg.size,λad h1=>h.ok.spot ad h1⟩,h.below.grown hg hdw h.lt (λg hg'=>hB g hg'),Nat.le_trans h.lt hg.size,h.old,h.new,λad h1=>(hcell ad (h.old ad h1)).trans (h.cells ad h1)⟩,λad h1=>⟨h1,hcell ad h1⟩⟩
 ·rw [Zam] at hj;by_cases hjk:j=k
  ·rw [if_pos hjk] at hj;cases hj
  ·rw [if_neg hjk] at hj;refine(h.ok.ent j e2 hj).keep hg ?_ (λ_ h1=>h1) hcell λad h1=>.inl h1;rcases hb:e2.blk with _ | b
   ·exact .inl rfl
   ·exact .inr (hoth j e2 b hjk hj hb)
 ·rw [Zam] at h1 h2;by_cases hjk:j=k
  ·rw [if_pos hjk] at h1;cases h1
  ·by_cases hjk':j'=k
   ·rw [if_pos hjk'] at h2;cases h2
   ·rw [if_neg hjk] at h1;rw [if_neg hjk'] at h2;exact h.ok.apart j j' e1 e2 b h1 h2 h3 h4
theorem ubVs {w:World} {imm:Imm} {KB g:Nat} {vs:Array Value} (hl:[AV.pbox KB g 0].length=vs.size) (hr:∀(j:Nat) (a:AV) (x:Value),[AV.pbox KB g 0][j]?=some a→vs[j]?=some x→Rs w imm a x):vs=#[.pointer (some ⟨g,0,none⟩)]:=by
 have h1:vs.size=1:=hl.symm;have h2:=hr 0 _ vs[0] rfl (Array.getElem?_eq_getElem (by omega));have h3:=h2.pbox_inv;refine Array.ext (by simpa using h1) λi hi hj=>?_;have:i=0:=by omega
 subst this
 simpa using h3
theorem ubCur {cur:Array Value} (h:2=cur.size):∃x y,cur=#[x,y]:=by
 refine⟨cur[0],cur[1],Array.ext (by simpa using h.symm) λi hi hj=>?_⟩
 match i,hi,hj with
 | 0,_,_=>rfl
 | 1,_,_=>rfl
 | i+2,hi,_=>omega
theorem bldCheck (σ:Mem) (KB g:Nat) (c0 c1:AV) (hB:σ KB=some (.box g 221 [c0,c1] false)) (h0:c0=.v (.pointer none)∨c0=.pbox KB g 0) :
 ACall prog 250 [.pbox KB g 0] σ λr σ'=>r=.tup []∧σ'=upd σ KB (some (.box g 221 [.pbox KB g 0,c1] false)):=by
 refine⟨call250,λc w imm vs hm hl hr=>?_⟩;obtain rfl:=ubVs hl hr;obtain⟨cur,hh,hBg,hlen,hone,hrs,hp,hq⟩:=hm.ok.ent KB _ hB;obtain⟨x,y,rfl⟩:=ubCur hlen;have hx:=hrs 0 _ x rfl rfl;have hy:=hrs 1 _ y rfl rfl;have c0':w.cell? ⟨g,0,none⟩=some x:=by rw [Lib.cell_of_heap hh];rfl
 rcases h0 with rfl | rfl
 ·obtain rfl:=hx.v_inv;refine(ubFresh g w c0' (by simp [World.shape?,hh]) (by simp [World.frozen?,hh])).mono ?_
  rintro e w' ⟨rfl,rfl⟩
  have hgr:w.grownBy (w.setCell ⟨g,0,none⟩ (.pointer (some ⟨g,0,none⟩))) (some g):=⟨rfl,rfl,rfl,by simp,λk _ hk=>heap_setCell_other w ⟨g,0,none⟩ k _ (λe=>hk (by simp [e]))⟩;have hcell:∀ad,imm ad→(w.setCell ⟨g,0,none⟩ (.pointer (some ⟨g,0,none⟩))).cell? ad=w.cell? ad:=λad h2=>Zc5 hgr (hm.ok.lt ad h2) (by
   have hne:ad.block≠g:=λe=>by have:=hp ad h2 e;cases this
   simpa using hne)
  have hkeep:Keeps w imm (w.setCell ⟨g,0,none⟩ (.pointer (some ⟨g,0,none⟩))) imm:=λad h2=>⟨h2,hcell ad h2⟩;refine⟨.tup [],_,imm,_,rfl,⟨rfl,rfl⟩,.pure (.tup [] #[] rfl λj a x h1 _=>by simp at h1),Zdf hm hgr (Nat.le_refl _) (λg' hg'=>by cases hg';exact hBg) hcell KB _ ⟨_,heap_setCell_same w g 0 _ _ _ hh,hBg,rfl,λb hb=>?_,λj b z h2 h3=>?_,hp,λh2=>by cases h2⟩ λj e2 b h2 h3 h4=>?_⟩
  ·simp only [List.mem_cons,List.not_mem_nil,or_false] at hb;rcases hb with rfl | rfl
   ·rfl
   ·exact hone _ (by simp)
  ·match j,h2,h3 with
   | 0,h2,h3 =>
     simp only [List.getElem?_cons_zero,Option.some.injEq] at h2;subst h2;have:z=.pointer (some ⟨g,0,none⟩):=by simpa using h3.symm
     subst this;exact .pbox _ _ _
   | 1,h2,h3 =>
     simp only [List.getElem?_cons_succ,List.getElem?_cons_zero,Option.some.injEq] at h2;subst h2;have:z=y:=by simpa using h3.symm
     subst this;exact hkeep.rs hy
   | j+2,h2,h3=>simp at h2
  ·have:b≠g:=λe=>h2 (hm.ok.apart j KB e2 _ g h3 hB (e ▸ h4) rfl);exact⟨by simpa using this,by simpa [Ent.blk] using λe=>this e.symm⟩
 ·obtain rfl:=hx.pbox_inv;refine(ubUsed g w c0').mono ?_
  rintro e w' ⟨rfl,rfl⟩
  have he:upd σ KB (some (.box g 221 [.pbox KB g 0,c1] false))=σ:=by
   funext k
   rw [Zam];split
   ·rename_i h;rw [h,hB]
   ·rfl
  exact⟨.tup [],_,imm,_,rfl,⟨rfl,rfl⟩,.pure (.tup [] #[] rfl λj a x h1 _=>by simp at h1),by rw [he];exact hm,Keeps.refl _ _⟩
theorem Zzp (σ:Mem) (KB KT g:Nat) (sv:Value) (c0:AV) (l:List UInt8) (hB:σ KB=some (.box g 221 [c0,.own KT sv] false)) (hT:σ KT=some (.row sv 5 1 (l.map λb=>.v (.int .u8 b.toNat)) 0)) (h0:l≠[]) :
 ACall prog 223 [.pbox KB g 0] σ λr σ'=>r=.v (.string ⟨l.toArray⟩)∧σ'=upd σ KT none:=by
 refine⟨call223,λc w imm vs hm hl hr=>?_⟩;obtain rfl:=ubVs hl hr;obtain⟨cur,hh,hBg,hlen,hone,hrs,hp,hq⟩:=hm.ok.ent KB _ hB;obtain⟨x,y,rfl⟩:=ubCur hlen;have hy:=hrs 1 _ y rfl rfl;obtain rfl:=hy.own_inv;obtain⟨xs,hown,-,-,hrd,-,hpi,-⟩:=hm.ok.ent KT _ hT;have hl0:l.length≠0:=by simpa using h0
 have hll:(l.map λb=>AV.v (.int .u8 b.toNat)).length=l.length:=List.length_map ..;rw [hll] at hown;rcases hown.2 with⟨_,h2⟩ | ⟨gr,cap,cur,rfl,hBr,hhr,hnc,hcm,hcs,htake⟩
 ·exact absurd h2 hl0
 have hxs:∀(j:Nat) (z:UInt8),l[j]?=some z→xs[j]?=some (Value.int .u8 z.toNat):=λj z hz=>by
  have hj:j < xs.length:=by rw [hown.1,Nat.mul_one];exact(List.getElem?_eq_some_iff.1 hz).1
  have:=hrd j (.v (.int .u8 z.toNat)) xs[j] (by rw [Zur l λb:UInt8=>(.int .u8 b.toNat:Value),List.getElem?_map,hz];rfl) (List.getElem?_eq_getElem hj);have:=(Rs.pure this).v_inv;rw [List.getElem?_eq_getElem hj,this]
 refine(ubString g gr cap x cur l w hh hhr h0 hnc hcm (by rw [hcs,Nat.mul_one]) λj z hz=>?_).mono ?_
 ·have hj:=(List.getElem?_eq_some_iff.1 hz).1;have:=hown.cellAt j (by omega);rw [Addr.add_lit,Nat.zero_add,this,hxs j z hz]
 ·rintro e w' ⟨rfl,rfl⟩
  have hgr:w.grownBy (w.drew.freeze ⟨gr,0,none⟩ l.length) (some gr):=by
   have:=Zpc w.drew gr l.length;exact⟨this.os,this.tape,this.output,this.size,this.block⟩
  have hdw:w.drawn≤w.drew.drawn:=Nat.le_succ w.drawn;have hcell:∀ad,imm ad→(w.drew.freeze ⟨gr,0,none⟩ l.length).cell? ad=w.cell? ad:=λad _=>by rw [Zrc];rfl
  obtain⟨h1,h2⟩:=mem_drop hm hgr (by have h1:(w.drew.freeze ⟨gr,0,none⟩ l.length).drawn=w.drew.drawn:=by unfold World.freeze;(repeat' split)<;>rfl
                                     rw [h1];exact hdw) (λg' hg'=>by cases hg';exact hBr) hcell KT λj e2 b h2 h3 h4 he=>h2 (hm.ok.apart j KT e2 _ gr h3 hT (by cases he;exact h4) rfl)
  exact⟨_,_,imm,_,rfl,⟨rfl,rfl⟩,.pure (.v _),h1,h2⟩
end Go.Proofs.YtpkcophcldjboaaGreatDoor
namespace Go.Proofs.YtpkcophcldjboaaGreatDoor
open Go Go.RowKit Go.Pg Go.Proofs.Tryz
attribute [-bool_to_prop] Bool.and_eq_decide Bool.or_eq_decide Bool.decide_beq_decide decide_eq_decide
attribute [local go_sem] underlying3 underlying4 underlying128 underlying5 underlying50 underlying9 underlying95 underlying221 underlying219 underlying49 sz3 by3 z3 szL byL zL szU8 byU8 zU8 szBld zBld szSl8 zSl8 szPB zPB
def by8 (b:UInt8):AV:=.v (.int .u8 b.toNat)
theorem bldLen (σ:Mem) (KB KT g:Nat) (sv:Value) (c0:AV) (l:List UInt8) (hB:σ KB=some (.box g 221 [c0,.own KT sv] false)) (hT:σ KT=some (.row sv 5 1 (l.map by8) 0)) :
 ACall prog 221 [.pbox KB g 0] σ λr σ'=>r=iv l.length∧σ'=σ:=by
 have mB:=Zco hB;have mT:=Zco hT;simp only [Ent.sh,AV.shL,AV.sh] at mB mT;have hl:(l.map by8).length=l.length:=List.length_map ..;refine Zdu func221 rfl ntmps221 results221 call221 (by rfl) (by simp) ?_;generalize l.map by8=L at *;(focus (refine wkap (w_3 mB mT hl) w_t (w_r 0) ?_;(repeat' first|exact w_t|apply w_l);all_goals intros));simp (disch:=omega) only [go_sem];exact Zu8 (Sub.refl _) ⟨rfl,rfl⟩ (Agr.start σ)
theorem bldWrite (σ:Mem) (KB KT g:Nat) (sv:Value) (c0:AV) (l:List UInt8) (b:UInt8) (hB:σ KB=some (.box g 221 [c0,.own KT sv] false)) (hT:σ KT=some (.row sv 5 1 (l.map by8) 0))
 (h0:c0=.v (.pointer none)∨c0=.pbox KB g 0) (n2:KB≠KT) (hl:l.length≤100000000) :
 ACall prog 222 [.pbox KB g 0,by8 b] σ λr σ'=>∃sv',r=.v .nilIface∧σ'=upd (upd σ KT (some (.row sv' 5 1 ((l++[b]).map by8) 0))) KB (some (.box g 221 [.pbox KB g 0,.own KT sv'] false)):=by
 have mB:=Zco hB;have mT:=Zco hT;simp only [Ent.sh,AV.shL,AV.sh] at mB mT;have hl1:(l.map by8).length=l.length:=List.length_map ..;rw [List.map_append];have hcc:=bldCheck (Zd5 σ) (KB+1000) g c0.sh (.own (KT+1000) sv) mB (by rcases h0 with rfl | rfl;exact .inl rfl;exact .inr rfl);refine Zdu func222 rfl ntmps222 results222 call222 (by rfl) (by simp) ?_;generalize l.map by8=L at *;have hb8:by8 b=.v (.int .u8 b.toNat):=rfl;rw [hb8];simp only [AV.shL,AV.sh];(focus (refine wkap (w_3 mB mT hl1) w_t (w_r 0) ?_;(repeat' first|exact w_t|apply w_l);all_goals intros))
 refine Zgw hcc ?_;(focus (refine wkap (w_2 mT hl1) w_t (w_r 0) ?_;(repeat' first|exact w_t|apply w_l);all_goals intros));simp (disch:=omega) only [go_sem];rename_i x1 x2;refine Zu8 (Sub.refl _) ⟨x2,rfl,rfl⟩ ?_;have he:∀a c d:Option Ent,upd (upd σ KT a) KB d=upd (upd (upd σ KB c) KT a) KB d:=λa c d=>by
  funext j
  simp only [Zam];by_cases h:j=KB
  ·rw [if_pos h,if_pos h]
  ·rw [if_neg h,if_neg h,if_neg h]
 rw [he _ (some (.box g 221 [.pbox KB g 0,.own KT sv] false)) _];refine Agr.put ?_ rfl rfl;refine Agr.put ?_ rfl rfl;refine Agr.own ?_ (by omega);refine Agr.put ?_ rfl rfl;exact Agr.start σ
end Go.Proofs.YtpkcophcldjboaaGreatDoor
namespace Go.Proofs.YtpkcophcldjboaaGreatDoor
open Go Go.RowKit Go.Pg Go.Proofs.Tryz
def digF:Nat→Nat→List UInt8
 | 0,_=>[]
 | f+1,n=>if n=0 then [] else digF f (n/10)++[UInt8.ofNat (48+n%10)]
def dig (n:Nat):List UInt8:=digF n n
theorem Zpj:∀(f g n:Nat),n≤f→n≤g→digF f n=digF g n
 | 0,0,_,_,_=>rfl
 | 0,g+1,n,h,_=>by
   have:n=0:=by omega
   subst this;rfl
 | f+1,0,n,_,h=>by
   have:n=0:=by omega
   subst this;rfl
 | f+1,g+1,n,h1,h2=>by
   unfold digF;by_cases h:n=0
   ·rw [if_pos h,if_pos h]
   ·rw [if_neg h,if_neg h,Zpj f g _ (by omega) (by omega)]
theorem Zth:dig 0=[]:=rfl
theorem Zj3 {n:Nat} (h:n≠0):dig n=dig (n/10)++[UInt8.ofNat (48+n%10)]:=by
 obtain⟨m,rfl⟩:∃m,n=m+1:=⟨n - 1,by omega⟩;show digF (m+1) (m+1)=_;rw [digF,if_neg h];rw [Zpj m ((m+1)/10) _ (by omega) (by omega)];rfl
theorem Zti {n:Nat}:(dig n).length=0↔n=0:=by
 constructor
 ·intro h;rcases Nat.eq_zero_or_pos n with h1 | h1
  ·exact h1
  ·rw [Zj3 (by omega)] at h;simp at h
 ·rintro rfl;rfl
theorem Zza:∀{k n:Nat},n < 10 ^ k→(dig n).length≤k
 | 0,n,h=>by
   have:n=0:=by simpa using h
   subst this;simp [Zth]
 | k+1,n,h=>by
   rcases Nat.eq_zero_or_pos n with h1 | h1
   ·subst h1;simp [Zth]
   ·rw [Zj3 (by omega),List.length_append];have:=Zza (k:=k) (n:=n/10) (by rw [Nat.pow_succ] at h;omega);simp only [List.length_cons,List.length_nil];omega
theorem dig_lg (n:Nat):(dig n).length≤5*(toL n).length:=by
 refine Zza ?_;have h1:=Zaf.1 (Nat.le_refl ((toL n).length))
 have h3:65536 ^ (toL n).length≤10 ^ (5*(toL n).length):=by
  rw [Nat.pow_mul];exact Nat.pow_le_pow_left (by decide) _
 omega
theorem decB_dig:∀(n:Nat) (s:ByteArray),decB n n s=⟨(dig n).toArray⟩++s:=by
 intro n
 induction n using Nat.strongRecOn with
 | ind n ih =>
   intro s;rcases Nat.eq_zero_or_pos n with h | h
   ·subst h;show s=ByteArray.empty++s;rw [ByteArray.empty_append]
   ·rw [Zzd (by omega),ih (n/10) (by omega),Zj3 (n:=n) (by omega),←ByteArray.append_assoc];congr 1
theorem decS_dig {n:Nat} (h:n≠0):decS n=⟨(dig n).toArray⟩:=by
 unfold decS;rw [if_neg h,decB_dig,ByteArray.append_empty]
def g4F:Nat→Nat→List Nat
 | 0,_=>[]
 | f+1,n=>if n=0 then [] else n%10000 :: g4F f (n/10000)
def g4 (n:Nat):List Nat:=g4F n n
theorem Ztb:∀(f g n:Nat),n≤f→n≤g→g4F f n=g4F g n
 | 0,0,_,_,_=>rfl
 | 0,g+1,n,h,_=>by
   have:n=0:=by omega
   subst this;rfl
 | f+1,0,n,_,h=>by
   have:n=0:=by omega
   subst this;rfl
 | f+1,g+1,n,h1,h2=>by
   unfold g4F;by_cases h:n=0
   ·rw [if_pos h,if_pos h]
   ·rw [if_neg h,if_neg h,Ztb f g _ (by omega) (by omega)]
theorem Zyj {n:Nat} (h:n≠0):g4 n=n%10000 :: g4 (n/10000):=by
 obtain⟨m,rfl⟩:∃m,n=m+1:=⟨n - 1,by omega⟩;show g4F (m+1) (m+1)=_;rw [g4F,if_neg h];rw [Ztb m ((m+1)/10000) _ (by omega) (by omega)];rfl
theorem Zy9 (n i:Nat):n/10000 ^ (i+1)=n/10000/10000 ^ i:=by
 rw [Nat.pow_succ,Nat.mul_comm,Nat.div_div_eq_div_mul]
theorem Ztg (n i:Nat):n/10000 ^ (i+1)=n/10000 ^ i/10000:=by
 rw [Nat.pow_succ,Nat.div_div_eq_div_mul]
theorem Zuq:∀(i n:Nat),i < (g4 n).length↔n/10000 ^ i≠0
 | i,n=>by
   rcases Nat.eq_zero_or_pos n with h | h
   ·subst h;simp [g4,g4F]
   ·rw [Zyj (by omega),List.length_cons]
    cases i with
    | zero=>simp;omega
    | succ i=>rw [Zy9,←Zuq i (n/10000)];omega
theorem Zyk:∀(i n:Nat) (h:i < (g4 n).length),(g4 n)[i]=n/10000 ^ i%10000
 | i,n,h=>by
   have h0:n≠0:=by rintro rfl;simp [g4,g4F] at h
   have e:=Zyj h0;have e2:(g4 n)[i]?=(n%10000 :: g4 (n/10000))[i]?:=by rw [e]
   rw [List.getElem?_eq_getElem h] at e2
   cases i with
   | zero =>
     simp only [List.getElem?_cons_zero,Option.some.injEq] at e2;rw [e2];simp
   | succ i =>
     have h2:i < (g4 (n/10000)).length:=by rw [e,List.length_cons] at h;omega
     rw [List.getElem?_cons_succ,List.getElem?_eq_getElem h2,Option.some.injEq,Zyk i _ h2,←Zy9] at e2;exact e2
theorem g4_len (n:Nat):(g4 n).length≤5*(toL n).length:=by
 rcases Nat.eq_zero_or_pos (g4 n).length with h | h
 ·omega
 ·have h0:=(Zuq ((g4 n).length - 1) n).1 (by omega);generalize (g4 n).length=L at *;have h1:=Zaf.1 (Nat.le_refl ((toL n).length))
  have h3:65536 ^ (toL n).length≤10000 ^ (2*(toL n).length):=by
   rw [Nat.pow_mul];exact Nat.pow_le_pow_left (by decide) _
  have h4:10000 ^ (L - 1)≤n:=by
   rcases Nat.lt_or_ge n (10000 ^ (L - 1)) with h5 | h5
   ·exact absurd (Nat.div_eq_of_lt h5) h0
   ·exact h5
  have h5:10000 ^ (L - 1) < 10000 ^ (2*(toL n).length):=by omega
  have:=(Nat.pow_lt_pow_iff_right (by decide:1 < 10000)).1 h5;omega
end Go.Proofs.YtpkcophcldjboaaGreatDoor
namespace Go.Proofs.YtpkcophcldjboaaGreatDoor
open Go Go.RowKit Go.Pg Go.Proofs.Tryz
attribute [-bool_to_prop] Bool.and_eq_decide Bool.or_eq_decide Bool.decide_beq_decide decide_eq_decide
attribute [local go_sem] underlying3 underlying4 underlying128 underlying5 underlying50 underlying9 underlying95 underlying221 underlying219 underlying49 sz3 by3 z3 szL byL zL szU8 byU8 zU8 szBld zBld szSl8 zSl8 szPB zPB
def w16 (x:Nat):AV:=.v (.int .u16 (x:Int))
theorem g4_take {n i:Nat} (h:n/10000 ^ i≠0):((g4 n).take (i+1)).map w16=((g4 n).take i).map w16++[.v (.int .u16 ((n/10000 ^ i%10000:Nat):Int))]:=by
 have hi:=(Zuq i n).2 h;rw [List.take_add_one,List.getElem?_eq_getElem hi,Zyk i n hi,List.map_append];rfl
theorem g4_all {n i:Nat} (hi:i≤(g4 n).length) (h:n/10000 ^ i=0):i=(g4 n).length:=by
 rcases Nat.lt_or_ge i (g4 n).length with h1 | h1
 ·exact absurd h ((Zuq i n).1 h1)
 ·omega
theorem dig_w8 (x:Nat) (h:x < 10):by8 (UInt8.ofNat (48+x))=.v (.int .u8 ((48+x:Nat):Int)):=by
 unfold by8;rw [show(UInt8.ofNat (48+x)).toNat=48+x from(UInt8.toNat_ofNat' ..).trans (by omega)]
def dl:Nat→Nat
 | 0=>1000 | 1=>100 | 2=>10 | 3=>1 | _=>0
def vl (V g:Nat):Nat→Nat
 | 0=>V | 1=>(V*10000+g)/1000 | 2=>(V*10000+g)/100 | 3=>(V*10000+g)/10 | _=>V*10000+g
theorem vl_step {V g j:Nat} (hg:g < 10000) (hj:j < 4):vl V g (j+1)=vl V g j*10+g/dl j%10∧(vl V g j=0→V=0)∧(vl V g j=0→(vl V g (j+1)=0↔g < dl j))∧dl j/10=dl (j+1)∧0 < dl j∧dl j≤1000∧vl V g j≤V*10000+g:=by
 match j,hj with
 | 0,_=>(show(V*10000+g)/1000=V*10+g/1000%10∧(V=0→V=0)∧(V=0→((V*10000+g)/1000=0↔g < 1000))∧1000/10=100∧0 < 1000∧1000≤1000∧V≤V*10000+g;omega)
 | 1,_=>(show(V*10000+g)/100=(V*10000+g)/1000*10+g/100%10∧((V*10000+g)/1000=0→V=0)∧((V*10000+g)/1000=0→((V*10000+g)/100=0↔g < 100))∧100/10=10∧0 < 100∧100≤1000∧(V*10000+g)/1000≤V*10000+g;omega)
 | 2,_=>(show(V*10000+g)/10=(V*10000+g)/100*10+g/10%10∧((V*10000+g)/100=0→V=0)∧((V*10000+g)/100=0→((V*10000+g)/10=0↔g < 10))∧10/10=1∧0 < 10∧10≤1000∧(V*10000+g)/100≤V*10000+g;omega)
 | 3,_=>(show V*10000+g=(V*10000+g)/10*10+g/1%10∧((V*10000+g)/10=0→V=0)∧((V*10000+g)/10=0→(V*10000+g=0↔g < 1))∧1/10=0∧0 < 1∧1≤1000∧(V*10000+g)/10≤V*10000+g;omega)
theorem dig_next {v x:Nat} (h:v*10+x≠0) (hx:x < 10):dig (v*10+x)=dig v++[UInt8.ofNat (48+x)]:=by
 rw [Zj3 h,show(v*10+x)/10=v from by omega,show(v*10+x)%10=x from by omega]
theorem Zxj (n:Nat) (hn:(toL n).length≤10000000):Pure prog 176 [lim (toL n)] (.v (.string (decS n))):=by
 have cn:=Zox n (by omega);by_cases h0:n=0
 ·subst h0;have l0:(toL 0).length=0:=by rw [Zaw];rfl
  refine Zaa (tok:=0) func176 rfl ntmps176 results176 call176 (by rfl) (by simp) ?_;(focus (refine wkvp (w_2 l0 @Int.natCast_zero) (w_1 cn) ?_;(repeat' first|exact w_t|apply w_l);all_goals intros));simp (disch:=omega) only [go_sem];rfl
 ·have hp:=Za8.2 (Nat.pos_of_ne_zero h0);have hG:=g4_len n;have hD:=decS_dig h0;rw [hD];refine Zaa (tok:=0) func176 rfl ntmps176 results176 call176 (by rfl) (by simp) ?_;(focus (refine wkvp w_t (w_1 cn) ?_;(repeat' first|exact w_t|apply w_l);all_goals intros));refine Zgr (Frz.nilOwn (d:=3) 500 1 128 (by exact gC)) ?_;refine Zae (ι:=Nat) (λi e m=>i≤(g4 n).length∧e 0=lim (toL (n/10000 ^ i))∧∃sv,e 3=.own 500 sv∧m 500=some (.row sv 128 1 (((g4 n).take i).map w16) 0)) (λi=>(g4 n).length - i) 0 (by rfl) ?_ ?_
  ·rintro i e m ⟨hi,e0,sv,e3,m500⟩
   have hlr:(((g4 n).take i).map w16).length≤100000000:=by rw [List.length_map,List.length_take];omega
   by_cases hk0:n/10000 ^ i=0
   ·have hiL:=g4_all hi hk0;rw [hk0] at e0;subst hiL;rw [List.take_length] at m500;clear hlr;have l0:(toL 0).length=0:=by rw [Zaw];rfl
    have hGl:((g4 n).map w16).length=(g4 n).length:=List.length_map ..;have hGp:0 < (g4 n).length:=(Zuq 0 n).2 (by simpa using h0);have gg:∀i (h:i < (g4 n).length),((g4 n).map w16).getD i .u=.v (.int .u16 ((n/10000 ^ i%10000:Nat):Int)):=λi h=>by
     rw [Zat w16 h,Zyk i n h];rfl
    generalize (g4 n).map w16=W at *;(focus (refine wkvp (w_6 e0 e3 m500 l0 @Int.natCast_zero hGl) w_t ?_;(repeat' first|exact w_t|apply w_l);all_goals intros));rename_i gB;refine Zgr (Frz.nilBox (k:=6) 1 501 1 5 (by exact gC) rfl (by omega)) ?_;refine Zae (ι:=Nat) (λi e m=>i≤(g4 n).length∧(e 3=.own 500 sv∧e 6=.pbox 6 gB 0∧e 7=.v (.int .i64 (((g4 n).length:Int) - 1 - (i:Int)))∧m 500=some (.row sv 128 1 W 0))∧∃c0 sv2,m 6=some (.box gB 221 [c0,.own 501 sv2] false)∧(c0=.v (.pointer none)∨c0=.pbox 6 gB 0)∧m 501=some (.row sv2 5 1 ((dig (n/10000 ^ ((g4 n).length - i))).map by8) 0)) (λi=>(g4 n).length - i) 0 (by rfl) ?_ ?_
    ·rintro i e m ⟨hi,⟨e3,e6,e7,m500⟩,c0,sv2,m6,hc0,m501⟩
     by_cases hlt:i < (g4 n).length
     ·obtain⟨p,hp⟩:∃p,(g4 n).length=p+1+i:=⟨(g4 n).length - 1 - i,by omega⟩;have ggp:=gg p (by omega);have hV:n/10000 ^ ((g4 n).length - i)=n/10000 ^ p/10000:=by rw [show(g4 n).length - i=p+1 from by omega,Ztg]
      have hV2:n/10000 ^ ((g4 n).length - (i+1))=n/10000 ^ p:=by rw [show(g4 n).length - (i+1)=p from by omega]
      have hT:n/10000 ^ p/10000*10000+n/10000 ^ p%10000=n/10000 ^ p:=by omega
      have hle:n/10000 ^ p≤n:=Nat.div_le_self _ _;have e7:e 7=iv p:=by rw [e7];congr 2;omega
      have hgl:n/10000 ^ p%10000 < 10000:=Nat.mod_lt _ (by omega);rw [hV] at m501;clear gg hV;generalize n/10000 ^ p%10000=g at *;generalize hVe:n/10000 ^ p/10000=V at *;(focus (refine wkap (w_7 e3 e6 e7 m500 m6 m501 hGl) w_t (w_r 0) ?_;(repeat' first|exact w_t|apply w_l);all_goals intros));refine Zae (ι:=Nat) (λj e m=>j≤4∧(e 3=.own 500 sv∧e 6=.pbox 6 gB 0∧e 7=iv p∧e 8=.v (.int .u16 (dl j:Nat))∧m 500=some (.row sv 128 1 W 0))∧∃c0 sv2,m 6=some (.box gB 221 [c0,.own 501 sv2] false)∧(c0=.v (.pointer none)∨c0=.pbox 6 gB 0)∧m 501=some (.row sv2 5 1 ((dig (vl V g j)).map by8) 0)) (λj=>4 - j) 0 (by rfl) ?_ ?_
      ·rintro j e m ⟨hj,⟨e3,e6,e7,e8,m500⟩,c0,sv2,m6,hc0,m501⟩
       by_cases hj4:j < 4
       ·obtain⟨s1,s2,s3,s4,s5,s6,s7⟩:=vl_step (V:=V) hgl hj4
        have hdl:(dig (vl V g j)).length≤100000000:=by
         have h1:=dig_lg (vl V g j);have h2:=Zed (n:=vl V g j) (m:=n) (by omega);omega
        have hdz:=Zti (n:=vl V g j);have hx:g/dl j%10 < 10:=Nat.mod_lt _ (by omega);have hdn:=dig_next (v:=vl V g j) (x:=g/dl j%10);rw [←s1] at hdn;obtain⟨v1,hv1⟩:∃v1,vl V g (j+1)=v1:=⟨_,rfl⟩;rw [hv1] at s1 s3 hdn;generalize vl V g j=v at *;generalize dl j=d at *
        have w0:IntKind.u16.wrap ((g/d:Nat):Int)=((g/d:Nat):Int):=by
         have:g/d≤g:=Nat.div_le_self _ _;show((g/d:Nat):Int)%65536=_;generalize g/d=z at *;omega
        have w1:IntKind.u16.wrap (48+(((g/d:Nat):Int)).tmod 10)=((48+g/d%10:Nat):Int):=by
         rw [Int.tmod_eq_emod_of_nonneg (Int.natCast_nonneg _)];show(48+((g/d:Nat):Int)%10)%65536=_;generalize g/d=z at *;omega
        have w3:IntKind.u16.wrap ((d:Int).tdiv 10)=((d/10:Nat):Int):=by
         rw [Int.tdiv_eq_ediv_of_nonneg (Int.natCast_nonneg _)];show((d:Int)/10)%65536=_;omega
        have w2:IntKind.u8.wrap ((48+g/d%10:Nat):Int)=((48+g/d%10:Nat):Int):=by
         show(((48+g/d%10:Nat):Int))%256=_;omega
        have hb8:=dig_w8 (g/d%10) hx;have cl:=fun(m:Mem) a b=>bldLen m 6 501 gB sv2 c0 (dig v) a b;have cw:=fun(m:Mem) a b=>bldWrite m 6 501 gB sv2 c0 (dig v) (UInt8.ofNat (48+g/d%10)) a b hc0 (by omega) hdl;rw [hb8] at cw;(focus (refine wkap (w_8 e3 e6 e7 e8 m500 m6 m501 hGl) w_t (w_r 0) ?_;(repeat' first|exact w_t|apply w_l);all_goals intros));refine Zde (cl _ (by exact gW m6) (by exact gW m501)) ?_
        rintro _ _ ⟨rfl,rfl⟩
        by_cases hv:v=0
        ·have hl0:=hdz.2 hv;by_cases hgd:g < d
         ·(focus (refine wkap (w_16 e3 e6 e7 e8 m500 m6 m501 hGl ggp @Zdp w0 w1 w2 w3 hl0 @Int.natCast_zero) w_t (w_r 0) ?_;(repeat' first|exact w_t|apply w_l);all_goals intros));exact⟨j+1,⟨by omega,⟨by exact gW e3,by exact gW e6,by exact gW e7,by rw [←s4];exact gC,by exact gW m500⟩,c0,sv2,by exact gW m6,hc0,by rw [hv1,(s3 hv).2 hgd];rw [hv] at m501;exact gW m501⟩,by omega⟩
         ·have hne:=λh=>hgd ((s3 hv).1 h);(focus (refine wkap (w_16 e3 e6 e7 e8 m500 m6 m501 hGl ggp @Zdp w0 w1 w2 w3 hl0 @Int.natCast_zero) w_t (w_r 0) ?_;(repeat' first|exact w_t|apply w_l);all_goals intros));refine Zde (cw _ (by exact gW m6) (by exact gW m501)) ?_
          rintro _ _ ⟨sv3,rfl,rfl⟩
          (focus (refine wkap (w_7 e3 e6 e7 e8 m500 hGl w3) w_t (w_r 0) ?_;(repeat' first|exact w_t|apply w_l);all_goals intros));exact⟨j+1,⟨by omega,⟨by exact gW e3,by exact gW e6,by exact gW e7,by rw [←s4];exact gC,by exact gW m500⟩,.pbox 6 gB 0,sv3,by exact gC,.inr rfl,by rw [hv1,hdn (by omega) hx];exact gC⟩,by omega⟩
        ·have hlp:0 < (dig v).length:=Nat.pos_of_ne_zero λh=>hv (hdz.1 h);(focus (refine wkap (w_14 e3 e6 e7 e8 m500 m6 m501 hGl ggp @Zdp w0 w1 w2 w3) w_t (w_r 0) ?_;(repeat' first|exact w_t|apply w_l);all_goals intros));refine Zde (cw _ (by exact gW m6) (by exact gW m501)) ?_
         rintro _ _ ⟨sv3,rfl,rfl⟩
         (focus (refine wkap (w_7 e3 e6 e7 e8 m500 hGl w3) w_t (w_r 0) ?_;(repeat' first|exact w_t|apply w_l);all_goals intros));exact⟨j+1,⟨by omega,⟨by exact gW e3,by exact gW e6,by exact gW e7,by rw [←s4];exact gC,by exact gW m500⟩,.pbox 6 gB 0,sv3,by exact gC,.inr rfl,by rw [hv1,hdn (by omega) hx];exact gC⟩,by omega⟩
       ·have:j=4:=by omega
        subst this;have e8:e 8=.v (.int .u16 0):=e8;have h4:vl V g 4=n/10000 ^ p:=hT;rw [h4] at m501;(focus (refine wkap (w_8 e3 e6 e7 e8 m500 m6 m501 hGl) w_t (w_r 0) ?_;(repeat' first|exact w_t|apply w_l);all_goals intros));exact⟨i+1,⟨by omega,⟨by exact gW e3,by exact gW e6,by(simp (disch:=omega) only [go_sem,e7];congr 2;omega),by exact gW m500⟩,c0,sv2,by exact gW m6,hc0,by rw [hV2];exact gW m501⟩,by omega⟩
      ·exact⟨by omega,⟨by exact gW e3,by exact gW e6,by exact gW e7,by show _=AV.v (.int .u16 1000);exact gC,by exact gW m500⟩,c0,sv2,by exact gW m6,hc0,by show _=some (Ent.row sv2 5 1 ((dig V).map by8) 0);exact gW m501⟩
     ·have:i=(g4 n).length:=by omega
      subst this;have e7:e 7=.v (.int .i64 (-1)):=by rw [e7];congr 2;omega
      rw [Nat.sub_self,Nat.pow_zero,Nat.div_one] at m501;have hne:dig n≠[]:=λh=>h0 (Zti.1 (by rw [h];rfl));have cs:=fun(m:Mem) a (b:m 501=some (.row sv2 5 1 ((dig n).map by8) 0))=>Zzp m 6 501 gB sv2 c0 (dig n) a b hne;(focus (refine wkap (w_7 e3 e6 e7 m500 m6 m501 hGl) w_t (w_r 0) ?_;(repeat' first|exact w_t|apply w_l);all_goals intros));refine Zde (cs _ (by exact gW m6) (by exact gW m501)) ?_
      rintro _ _ ⟨rfl,rfl⟩
      (focus (refine wkap w_t w_t (w_r 0) ?_;(repeat' first|exact w_t|apply w_l);all_goals intros));all_goals simp (disch:=omega) only [go_sem]
    ·exact⟨Nat.zero_le _,⟨by exact gW e3,by exact gC,by(simp (disch:=omega) only [go_sem];congr 2;omega),by exact gW m500⟩,.v (.pointer none),.slice none 0 0,by exact gC,.inl rfl,by rw [Nat.sub_zero,hk0];exact gC⟩
   ·have hkp:=Za8.2 (Nat.pos_of_ne_zero hk0);have hilt:=(Zuq i n).2 hk0;have hlk:(toL (n/10000 ^ i)).length≤(toL n).length:=Zed (Nat.div_le_self _ _);have ht:=g4_take hk0;have hdp:=Ztg n i;have cb:=Zow (toL (n/10000 ^ i)) 10000 (by omega) (Zap _) (by omega) (by omega);rw [Zao,←hdp] at cb;clear hdp;generalize ((g4 n).take i).map w16=W at *;generalize n/10000 ^ i%10000=x at *;obtain⟨y,hy⟩:∃y,n/10000 ^ (i+1)=y:=⟨_,rfl⟩;rw [hy] at cb;generalize n/10000 ^ i=z at *;(focus (refine wkvp (w_3 e0 e3 m500) (w_1 cb) ?_;(repeat' first|exact w_t|apply w_l);all_goals intros));exact⟨i+1,⟨by omega,by rw [hy];exact gC,_,by exact gC,by rw [ht];exact gC⟩,by omega⟩
  ·exact⟨Nat.zero_le _,by rw [Nat.pow_zero,Nat.div_one];exact gC,_,by exact gC,by exact gC⟩
attribute [local go_sem] underlying160 underlying52 underlying54 underlying33 underlying174 szB zB Zax zNat Zay zInt Zas zRat Zvx zShape Zyx underlying237 List.append_eq
theorem intText (z:Int) (hz:(toL z.natAbs).length≤10000000):Pure prog 175 [intZ z] (.v (.string (decZ z))):=by
 have cs:=iSign z (by omega);have ct:=Zxj z.natAbs hz;have hs:=Zf0 z.natAbs;have h45:(Zgk [45]).size=1:=Zej _;unfold decZ;have e45:Zgk [45]=⟨#[45]⟩:=rfl;rw [e45] at h45 ⊢;generalize decS z.natAbs=s at *;by_cases h:z < 0
 ·rw [if_pos h];rw [Int.sign_eq_neg_one_of_neg h] at cs;rw [show intZ z=.agg [.v (.bool true),lim (toL z.natAbs)] from by unfold intZ intA;rw [decide_eq_true h]] at *;refine Zaa (tok:=0) func175 rfl ntmps175 results175 call175 (by rfl) (by simp) ?_;(focus (refine wkvp (w_1 h45) (w_2 cs ct) ?_;(repeat' first|exact w_t|apply w_l);all_goals intros));simp (disch:=omega) only [go_sem]
 ·rw [if_neg h];have h2:¬z.sign < 0:=by rw [Int.sign_neg_iff];exact h
  rw [show intZ z=.agg [.v (.bool false),lim (toL z.natAbs)] from by unfold intZ intA;rw [decide_eq_false h]] at *;generalize z.sign=x at *;refine Zaa (tok:=0) func175 rfl ntmps175 results175 call175 (by rfl) (by simp) ?_;(focus (refine wkvp w_t (w_2 cs ct) ?_;(repeat' first|exact w_t|apply w_l);all_goals intros));simp (disch:=omega) only [go_sem]
theorem ratText (q:Rat) {k:Nat} (h:Sz q k) (hk:k≤1000000):Pure prog 110 [ratQ q] (.v (.string (decQ q))):=by
 have cp:=Zf7 q h (by omega);have h1:=h.1;have h2:=h.2;have cr:=Zek (decide (q.num < 0)) q.num.natAbs q.den (by omega) (by omega) q.den_nz;rw [show zI (decide (q.num < 0)) q.num.natAbs=q.num from by unfold zI;by_cases hq:q.num < 0<;>simp [hq]<;>omega,Rat.mkRat_self] at cr;have co:=Zkk q.den (by omega);have cz:=intText q.num (by omega);have cd:=Zxj q.den (by omega);have z1:=Zpk q.num;have z2:=Zf0 q.den;have e47:Zgk [47]=⟨#[47]⟩:=rfl;have h47:(Zgk [47]).size=1:=Zej _;rw [e47] at h47;unfold decQ;rw [e47];by_cases hd:q.den=1
 ·rw [if_pos hd];rw [decide_eq_true hd] at co;generalize decZ q.num=s at *;refine Zaa (tok:=0) func110 rfl ntmps110 results110 call110 (by rfl) (by simp) ?_;(focus (refine wkad w_t (w_4 cp cr co cz) w_t ?_;(repeat' first|exact w_t|apply w_l);all_goals intros));simp (disch:=omega) only [go_sem]
 ·rw [if_neg hd];rw [decide_eq_false hd] at co;generalize decZ q.num=s at *;generalize decS q.den=t at *;have h3:(s++⟨#[47]⟩:ByteArray).size=s.size+1:=by rw [ByteArray.size_append,h47]
  refine Zaa (tok:=0) func110 rfl ntmps110 results110 call110 (by rfl) (by simp) ?_;(focus (refine wkad (w_2 h47 h3) (w_5 cp cr co cz cd) (w_1 (w_d 5 [(2,.v (.string s)),(6,.v (.string t))] [] [])) ?_;(repeat' first|exact w_t|apply w_l);all_goals intros));simp (disch:=omega) only [go_sem]
end Go.Proofs.YtpkcophcldjboaaGreatDoor
namespace Go.Proofs.YtpkcophcldjboaaGreatDoor
open Go Go.RowKit Go.Pg Go.Pol Go.Proofs.Tryz
def tS (ss:List ByteArray) (p:List Qt) (s0:ByteArray):Nat→ByteArray
 | 0=>s0
 | i+1=>(if (tS ss p s0 i).size=0 then tS ss p s0 i else tS ss p s0 i++⟨#[42]⟩)++(p.getD i Qt.zero).txt ss
def chkP (n:Int):List Qt→Int
 | []=>0
 | q :: l=>if Qt.chk q n 64=0 then chkP n l else Qt.chk q n 64
def absR (a:Rat):Rat:=if a.num < 0 then -a else a
def tTxt (ss:List ByteArray) (t:Rat × List Qt):ByteArray:=tS ss t.2 (if t.2.length≠0∧absR t.1=1 then ⟨#[]⟩ else decQ (absR t.1)) t.2.length
def eS (ss:List ByteArray) (l:QTs):Nat→ByteArray
 | 0=>⟨#[]⟩
 | i+1=>(if i=0 then (if (l.getD i (0,[])).1.num < 0 then ⟨#[45]⟩ else ⟨#[]⟩) else eS ss l i++(if (l.getD i (0,[])).1.num < 0 then ⟨#[32,45,32]⟩ else ⟨#[32,43,32]⟩))++tTxt ss (l.getD i (0,[]))
def chkE (n:Int):QTs→Int
 | []=>0
 | t :: l=>if chkP n t.2=0 then chkE n l else chkP n t.2
def eTxt (ss:List ByteArray) (l:QTs):ByteArray:=if l.length=0 then ⟨#[48]⟩ else eS ss l l.length
theorem Ztm {n:Int}:∀{p:List Qt},(∀j (h:j < p.length),Qt.chk p[j] n 64=0)→chkP n p=0
 | [],_=>rfl
 | q :: l,h=>by
   have h0:Qt.chk q n 64=0:=h 0 (by simp);unfold chkP;rw [if_pos h0];exact Ztm λj hj=>h (j+1) (by simpa using hj)
theorem Zzj {n:Int}:∀{p:List Qt} {i:Nat} (hi:i < p.length),(∀j (h:j < p.length),j < i→Qt.chk p[j] n 64=0)→Qt.chk p[i] n 64≠0→chkP n p=Qt.chk p[i] n 64
 | q :: l,0,_,_,h2=>by
   have h2:Qt.chk q n 64≠0:=h2;unfold chkP;rw [if_neg h2];rfl
 | q :: l,i+1,hi,h,h2=>by
   have h0:Qt.chk q n 64=0:=h 0 (by simp) (by omega);unfold chkP;rw [if_pos h0];exact Zzj (by simpa using hi) (λj hj hji=>h (j+1) (by simpa using hj) (by omega)) h2
theorem Ztn {n:Int}:∀{l:QTs},(∀j (h:j < l.length),chkP n l[j].2=0)→chkE n l=0
 | [],_=>rfl
 | q :: l,h=>by
   have h0:chkP n q.2=0:=h 0 (by simp);unfold chkE;rw [if_pos h0];exact Ztn λj hj=>h (j+1) (by simpa using hj)
theorem Zzk {n:Int}:∀{l:QTs} {i:Nat} (hi:i < l.length),(∀j (h:j < l.length),j < i→chkP n l[j].2=0)→chkP n l[i].2≠0→chkE n l=chkP n l[i].2
 | q :: l,0,_,_,h2=>by
   have h2:chkP n q.2≠0:=h2;unfold chkE;rw [if_neg h2];rfl
 | q :: l,i+1,hi,h,h2=>by
   have h0:chkP n q.2=0:=h 0 (by simp) (by omega);unfold chkE;rw [if_pos h0];exact Zzk (by simpa using hi) (λj hj hji=>h (j+1) (by simpa using hj) (by omega)) h2
theorem txt_pos (q:Qt) (ss:List ByteArray):0 < (q.txt ss).size:=by
 unfold Qt.txt;split<;>simp only [ByteArray.size_append]<;>(have:(⟨#[41]⟩:ByteArray).size=1:=rfl;omega)
theorem txt_size (q:Qt) (ss:List ByteArray) (hs:∀s∈ss,s.size≤1000) (ha:q.a < 64):(q.txt ss).size≤4000:=by
 have h1:=Zf5 hs q.a.toNat;have h2:=Zf5 hs q.b.toNat;have h3:=Zf5 hs q.c.toNat;have z:=Zf0 q.a.toNat;have zl:(toL q.a.toNat).length≤1:=Zaf.2 (by omega);have s1:(⟨#[83,40]⟩:ByteArray).size=2:=rfl;have s2:(⟨#[80,40]⟩:ByteArray).size=2:=rfl;have s3:(⟨#[44,32]⟩:ByteArray).size=2:=rfl;have s4:(⟨#[41]⟩:ByteArray).size=1:=rfl;have s5:(⟨#[116,40]⟩:ByteArray).size=2:=rfl;unfold Qt.txt;split
 ·simp only [ByteArray.size_append];omega
 ·split<;>simp only [ByteArray.size_append]<;>omega
theorem Zzh {q:Qt} {n:Int} (ss:List ByteArray) (hs:∀s∈ss,s.size≤1000) (h:Qt.chk q n 64=0):(q.txt ss).size≤4000:=by
 unfold Qt.txt;by_cases hk:q.k=3
 ·have ha:q.a < 64:=by
   rcases Zzi (k:=q.k) (a:=q.a) (b:=q.b) (c:=q.c) h with h1 | h1
   ·exact h1.2.2.1
   ·exact absurd hk h1.1
  exact txt_size q ss hs ha
 ·have h1:=Zf5 hs q.a.toNat;have h2:=Zf5 hs q.b.toNat;have h3:=Zf5 hs q.c.toNat;have s1:(⟨#[83,40]⟩:ByteArray).size=2:=rfl;have s2:(⟨#[80,40]⟩:ByteArray).size=2:=rfl;have s3:(⟨#[44,32]⟩:ByteArray).size=2:=rfl;have s4:(⟨#[41]⟩:ByteArray).size=1:=rfl;rw [if_neg hk];split<;>simp only [ByteArray.size_append]<;>omega
theorem tS_pos (ss:List ByteArray) (p:List Qt) (s0:ByteArray) (i:Nat) (h:0 < i):0 < (tS ss p s0 i).size:=by
 obtain⟨j,rfl⟩:∃j,i=j+1:=⟨i - 1,by omega⟩;unfold tS;rw [ByteArray.size_append];have:=txt_pos (p.getD j Qt.zero) ss;omega
theorem Zvv {ss:List ByteArray} {p:List Qt} {s0:ByteArray} {n:Int} (hs:∀s∈ss,s.size≤1000) {i:Nat} (hi:i≤p.length) (h:∀j (h:j < p.length),j < i→Qt.chk p[j] n 64=0):(tS ss p s0 i).size≤s0.size+i*4001:=by
 induction i with
 | zero=>unfold tS;omega
 | succ i ih =>
   have h1:=ih (by omega) λj hj hji=>h j hj (by omega);have h2:=Zzh ss hs (h i (by omega) (by omega));have e:p.getD i Qt.zero=p[i]:=by rw [List.getD_eq_getElem?_getD,List.getElem?_eq_getElem (by omega)];rfl
   unfold tS;rw [ByteArray.size_append,e];have s1:(⟨#[42]⟩:ByteArray).size=1:=rfl;split
   ·omega
   ·rw [ByteArray.size_append];omega
theorem Zpl {q:Rat} {k:Nat} (h:Sz q k):(decQ q).size≤10*k+4:=by
 have h1:=h.1;have h2:=h.2;have z1:=Zpk q.num;have z2:=Zf0 q.den;have h47:(Zgk [47]).size=1:=Zej _;unfold decQ;split
 ·omega
 ·rw [ByteArray.size_append,ByteArray.size_append];omega
theorem Znx {q:Rat} {k:Nat} (h:Sz q k):Sz (absR q) k:=by
 unfold absR;split
 ·exact⟨by rw [show(-q).num=-q.num from rfl,Int.natAbs_neg];exact h.1,h.2⟩
 ·exact h
theorem Zz1 (q:Rat):ratQ (absR q)=.agg [.v (.bool false),lim (toL q.num.natAbs),lim (toL q.den)]:=by
 unfold absR;split
 ·rename_i h;unfold ratQ;rw [show(-q).num=-q.num from rfl,show(-q).den=q.den from rfl,Int.natAbs_neg,decide_eq_false (by omega)]
 ·rename_i h;unfold ratQ;rw [decide_eq_false h]
end Go.Proofs.YtpkcophcldjboaaGreatDoor
namespace Go.Proofs.YtpkcophcldjboaaGreatDoor
open Go Go.RowKit Go.Pg Go.Proofs.Tryz
attribute [-bool_to_prop] Bool.and_eq_decide Bool.or_eq_decide Bool.decide_beq_decide decide_eq_decide
attribute [local go_sem] underlying3 underlying2 underlying128 underlying160 underlying4 underlying33 underlying54 underlying50 underlying52 sz3 by3 z3 szL byL zL Zce zErr Zas zRat Zax zNat Zay zInt szB zB Bool.and_self
theorem ratEqual (a b:Rat) {j k:Nat} (ha:Sz a j) (hb:Sz b k) (hj:j≤1000000) (hk:k≤1000000):Pure prog 111 [ratQ a,ratQ b] (.v (.bool (decide (a=b)))):=by
 have c:=ratCmp a b ha hb (by omega) (by omega)
 have e:(cmpQ a b == 0)=decide (a=b):=by
  rw [Bool.eq_iff_iff,beq_iff_eq,decide_eq_true_eq];unfold cmpQ;constructor
  ·intro h;split at h
   ·omega
   ·split at h
    ·omega
    ·rename_i h1 h2;exact Rat.le_antisymm (Rat.not_lt.1 h2) (Rat.not_lt.1 h1)
  ·rintro rfl
   simp
 rw [←e];generalize cmpQ a b=s at *;refine Zaa (tok:=0) func111 rfl ntmps111 results111 call111 (by rfl) (by simp) ?_;(focus (refine wkvp w_t (w_1 c) ?_;(repeat' first|exact w_t|apply w_l);all_goals intros));simp (disch:=omega) only [go_sem]
end Go.Proofs.YtpkcophcldjboaaGreatDoor
namespace Go.Proofs.YtpkcophcldjboaaGreatDoor
open Go Go.RowKit Go.Pg Go.Pol Go.Proofs.Tryz
attribute [-bool_to_prop] Bool.and_eq_decide Bool.or_eq_decide Bool.decide_beq_decide decide_eq_decide
attribute [local go_sem] underlying3 underlying4 underlying128 underlying50 underlying52 underlying54 underlying39 underlying55 underlying57 underlying26 underlying27 sz3 by3 z3 szB zB Zas zRat Zay zInt Zax zNat Zah Zan Zai Bool.and_self Zal Za7 zSlQ szQT byQT zQT Za9 zSlT szQP zQP underlying9 underlying167 underlying123 underlying165 Zn4 Zjc Zny Zn5 Zbh zStr zSum zMap underlying33 underlying45 List.append_eq
theorem ratNegN (a:Rat) {k:Nat} (h:Sz a k) (hk:k≤1000000) (h0:a.num < 0):Pure prog 109 [ratQ a] (.agg [.v (.bool false),lim (toL a.num.natAbs),lim (toL a.den)]):=by
 have cp:=Zf7 a h (by omega);have h1:=h.1;have h2:=h.2;have cr:=Zek false a.num.natAbs a.den (by omega) (by omega) a.den_nz
 have e:mkRat (zI false a.num.natAbs) a.den=-a:=by
  rw [show zI false a.num.natAbs=-a.num from by simp only [zI];simp;omega,←Rat.neg_mkRat,Rat.mkRat_self]
 have e2:absR a=-a:=by unfold absR;rw [if_pos h0]
 rw [e,←e2,Zz1] at cr;have e3:ratQ a=.agg [.v (.bool true),lim (toL a.num.natAbs),lim (toL a.den)]:=by unfold ratQ;rw [decide_eq_true h0]
 have e4:intZ a.num=.agg [.v (.bool true),lim (toL a.num.natAbs)]:=by unfold intZ intA;rw [decide_eq_true h0]
 have e5:intA false a.num.natAbs=.agg [.v (.bool false),lim (toL a.num.natAbs)]:=rfl;rw [e3,e4] at cp;rw [e5] at cr;rw [e3];clear e e2 e3 e4 e5;refine Zaa (tok:=0) func109 rfl ntmps109 results109 call109 (by rfl) (by simp) ?_;(focus (refine wkvp w_t (w_2 cp cr) ?_;(repeat' first|exact w_t|apply w_l);all_goals intros));simp (disch:=omega) only [go_sem]
theorem Zcq {α:Type} {l:List α} {i:Nat} {d:α} (h:i < l.length):l.getD i d=l[i]:=by
 rw [List.getD_eq_getElem?_getD,List.getElem?_eq_getElem h];rfl
theorem exTerm (a:Rat) (p:List Qt) (ss:List ByteArray) (hl:ss.length≤1000000000) (hs:∀s∈ss,s.size≤1000) (hp:p.length≤1000) {k:Nat} (ha:Sz a k) (hk:k≤1000000) :
 Pure prog 50 [qtA (a,p),.sl 1 (ss.map strA)] (if chkP ss.length p=0 then .tup [strA (tTxt ss (a,p)),iv 0] else .tup [strA ⟨#[]⟩,iv (chkP ss.length p)]):=by
 have cs:=Zea a ha (by omega);have cn:=ratNegN a ha hk;have cx:=ratText (absR a) (Znx ha) hk;have c1:Pure prog 56 [iv 1] (ratQ 1):=Zt8 1 (by omega);have ce:=ratEqual (absR a) 1 (Znx ha) (k:=1) ⟨by show(toL 1).length≤1;rw [Zfu];omega,by show(toL 1).length≤1;rw [Zfu];omega⟩ hk (by omega);have hz:=Zpl (Znx ha);have hpl:(p.map Qt.av).length=p.length:=List.length_map ..;have hq:∀i (h:i < p.length),(p.map Qt.av).getD i .u=Qt.av p[i]:=λi h=>Zat Qt.av h;have hx:tTxt ss (a,p)=tS ss p (if p.length≠0∧absR a=1 then ⟨#[]⟩ else decQ (absR a)) p.length:=rfl;have e0:decide (a.num.sign < 0)=decide (a.num < 0):=by rw [decide_eq_decide];exact Int.sign_neg_iff
 rw [Zz1] at cx ce;rw [hx,show qtA (a,p)=.agg [.v (.bool (decide (a.num < 0))),lim (toL a.num.natAbs),lim (toL a.den),.sl 4 (p.map Qt.av)] from rfl];have hne:(ratQ a)=.agg [.v (.bool (decide (a.num < 0))),lim (toL a.num.natAbs),lim (toL a.den)]:=rfl;rw [hne] at cs cn;have hng:decide (a.num < 0)=true→a.num < 0:=of_decide_eq_true;have cn:=λh=>cn (hng h);generalize decide (a.num < 0)=sg at *;clear hng;generalize toL a.num.natAbs=An at *;generalize toL a.den=Ad at *;generalize hS:a.num.sign=sn at *;generalize decQ (absR a)=D at *;clear hS hx hne;have hemp:(⟨#[]⟩:ByteArray).size=0:=rfl;generalize hPA:p.map Qt.av=PA at *
 generalize hX:decide (absR a=1)=x at *;have hb:p.length=0→p=[]:=List.length_eq_zero_iff.1;have q1:∀c,chkP ss.length p=c→chkP ss.length p=c:=λ_ h=>h;have cq:∀i (h:i < p.length),Pure prog 112 [Qt.av p[i],.sl 1 (ss.map strA)] (if Qt.chk p[i] ss.length 64=0 then .tup [strA (p[i].txt ss),iv 0] else .tup [strA ⟨#[]⟩,iv (Qt.chk p[i] ss.length 64)]):=λi h=>quText p[i].k p[i].a p[i].b p[i].c ss hl hs;generalize ss.map strA=N at *;generalize hR:(if chkP ss.length p=0 then AV.tup [strA (tS ss p (if p.length≠0∧absR a=1 then ⟨#[]⟩ else D) p.length),iv 0] else .tup [strA ⟨#[]⟩,iv (chkP ss.length p)])=R at *
 refine Zaa (tok:=0) func50 rfl ntmps50 results50 call50 (by rfl) (by simp) ?_;(focus (refine wkvp w_t (w_1 cs) ?_;(repeat' first|exact w_t|apply w_l);all_goals intros));refine r_cgX (λe m=>e 1=.sl 1 N∧(∃g2,e 2=.pbox 2 g2 0∧m 2=some (.box g2 57 [.v (.bool sg),lim An,lim Ad,.sl 4 PA] false))∧∃g6,e 6=.pbox 6 g6 0∧m 6=some (.box g6 54 [.v (.bool false),lim An,lim Ad] false)) ?_ ?_
 ·rw [e0]
  cases sg with
  | true =>
    have cn:=cn rfl;refine c_t ?_;(focus (refine wkad w_t (w_1 cn) w_t ?_;(repeat' first|exact w_t|apply w_l);all_goals intros));exact⟨rfl,by exact gC,⟨_,by exact gC,by exact gC⟩,_,by exact gC,by exact gC⟩
  | false =>
    refine c_f ?_;(focus (refine wkad w_t w_t w_t ?_;(repeat' first|exact w_t|apply w_l);all_goals intros));exact⟨rfl,by exact gC,⟨_,by exact gC,by exact gC⟩,_,by exact gC,by exact gC⟩
 ·rintro e m ⟨e1,⟨g2,e2,m2⟩,g6,e6,m6⟩
  by_cases hp0:p.length=0
  ·obtain rfl:=hb hp0;have hR:AV.tup [strA D,iv 0]=R:=hR;have hpl:PA.length=0:=hpl;rw [←hR];(focus (refine wkax (w_7 e1 e2 m2 e6 m6 hpl @Int.natCast_zero) (w_1 cx) (w_1 (w_d 5 [] [] [])) w_t w_t w_t w_y (w_r 1) ?_;(repeat' first|exact w_t|apply w_l);all_goals intros));all_goals exact gL
  ·have hpp:0 < p.length:=Nat.pos_of_ne_zero hp0
   have hsx:(if p.length≠0∧absR a=1 then ⟨#[]⟩ else D:ByteArray)=if x=true then ⟨#[]⟩ else D:=by
    by_cases h1:absR a=1
    ·rw [if_pos ⟨hp0,h1⟩,if_pos (by rw [←hX];exact decide_eq_true h1)]
    ·rw [if_neg (λh=>h1 h.2),if_neg (by rw [←hX,decide_eq_false h1];decide)]
   rw [hsx] at hR;clear hsx;clear hX hb
   (repeat' (first|(with_reducible first|refine stp ?_|apply gx1|apply gx2|apply gx3|apply gx4|apply gx5|apply gx6|apply gx7|apply gy8|apply gz2|apply gz3|refine gw0 (cx) ?_ ?_|refine gw3 (cx) ?_ ?_ ?_|refine gw0 (c1) ?_ ?_|refine gw3 (c1) ?_ ?_ ?_|refine gw0 (ce) ?_ ?_|refine gw3 (ce) ?_ ?_ ?_)|(with_reducible refine Zcb ?_;intro _)|((with_reducible refine gE ?_);(try simp (disch:=omega) only [go_sem,e1,e2,m2,e6,m6,hpl])<;>first|rfl|omega)|with_reducible refine Zaj (by decide) ?_|((with_reducible apply gy1);iterate 3 focus rfl)|((with_reducible apply gy2);iterate 3 focus rfl)|((with_reducible apply gy3);iterate 2 focus rfl)|((with_reducible apply gy4);iterate 1 focus rfl)|((with_reducible apply gy5);iterate 4 focus rfl)|((with_reducible apply gy5c);iterate 4 focus rfl)|((with_reducible apply gy6);iterate 4 focus rfl)|((with_reducible apply Zhr);iterate 3 focus rfl)|((with_reducible apply Zho);iterate 1 focus rfl)|((with_reducible apply gy7);iterate 1 focus rfl)|((with_reducible apply gy9);(focus ((with_reducible refine gE ?_);(try simp (disch:=omega) only [go_sem,e1,e2,m2,e6,m6,hpl])<;>rfl)))|((with_reducible apply gz1);(focus first|rfl|(simp (disch:=omega) only [go_sem,e1,e2,m2,e6,m6,hpl];done)))|((with_reducible apply Zcf (id:=5) (Zd3 [(6,ratQ 1),(7,.v (.bool x))]) [] []);(focus kernel_rfl);(focus rfl);(focus kernel_rfl);(focus (simp only [List.length_cons,List.length_nil,Nat.reduceAdd];rfl)))))
   refine r_cgX (λe m=>e 1=.sl 1 N∧(e 2=.pbox 2 g2 0∧m 2=some (.box g2 57 [.v (.bool sg),lim An,lim Ad,.sl 4 PA] false))∧e 7=strA (if x=true then ⟨#[]⟩ else D)) ?_ ?_
   ·cases x with
    | true =>
      refine c_t ?_;(focus (refine wkad (w_3 e1 e2 m2) w_t w_t ?_;(repeat' first|exact w_t|apply w_l);all_goals intros));exact⟨rfl,by exact gW e1,⟨by exact gW e2,by exact gW m2⟩,by exact gC⟩
    | false =>
      refine c_f ?_;exact⟨rfl,by exact gW e1,⟨by exact gW e2,by exact gW m2⟩,by exact gC⟩
   ·have hz2:(if x=true then ⟨#[]⟩ else D:ByteArray).size≤10*k+4:=by split;(rw [hemp];omega);exact hz
    clear hz cs cn c1 ce e0 cx;generalize (if x=true then ⟨#[]⟩ else D:ByteArray)=s0 at *;clear e1 e2 m2 e6 m6
    rintro e m ⟨e1,⟨e2,m2⟩,e7⟩
    (focus (refine wkad (w_5 e1 e2 m2 e7 hpl) w_t w_t ?_;(repeat' first|exact w_t|apply w_l);all_goals intros));refine Zae (ι:=Nat) (λi e m=>i≤p.length∧(e 1=.sl 1 N∧e 31=.sl 4 PA∧e 32=iv p.length∧e 33=iv i)∧e 7=strA (tS ss p s0 i)∧∀j (h:j < p.length),j < i→Qt.chk p[j] ss.length 64=0) (λi=>p.length - i) 0 (by rfl) ?_ ?_
    ·rintro i e m ⟨hi,⟨e1,e31,e32,e33⟩,e7,hc⟩
     by_cases hlt:i < p.length
     ·have cqi:=cq i hlt;have hqi:=hq i hlt;have hsz:=Zvv (s0:=s0) hs (by omega) hc;by_cases hch:Qt.chk p[i] ss.length 64=0
      ·rw [if_pos hch] at cqi;have ht:=Zzh ss hs hch;have hnx:tS ss p s0 (i+1)=(if (tS ss p s0 i).size=0 then tS ss p s0 i else tS ss p s0 i++⟨#[42]⟩)++p[i].txt ss:=by rw [←Zcq (d:=Qt.zero) hlt];rfl
       have hpo:0 < i→0 < (tS ss p s0 i).size:=tS_pos ss p s0 i;have hc2:∀j (h:j < p.length),j < i+1→Qt.chk p[j] ss.length 64=0:=λj h hj=>by
        rcases Nat.lt_or_ge j i with h1 | h1
        ·exact hc j h h1
        ·have:j=i:=by omega
         subst this;exact hch
       have h42:(⟨#[42]⟩:ByteArray).size=1:=rfl;have h43:=ByteArray.size_append (a:=tS ss p s0 i) (b:=⟨#[42]⟩);have qe:Qt.av p[i]=.agg [iv p[i].k,iv p[i].a,iv p[i].b,iv p[i].c]:=rfl;rw [qe] at cqi hqi;clear hc hch;generalize p[i].txt ss=T at *;generalize tS ss p s0 i=S at *;generalize p[i].k=qk at *;generalize p[i].a=qa at *;generalize p[i].b=qb at *;generalize p[i].c=qc at *;by_cases hS:S.size=0
       ·have hi0:decide ((0:Int) < (i:Int))=false:=decide_eq_false (by omega);have hSz:=decide_eq_true hS;rw [if_pos hS] at hnx;(focus (refine wkad (w_10 e1 e31 e32 e33 e7 hpl hqi @Zj9 hi0 hSz) (w_1 cqi) w_t ?_;(repeat' first|exact w_t|apply w_l);all_goals intros));exact⟨i+1,⟨by omega,⟨by exact gW e1,by exact gW e31,by exact gW e32,by exact gS⟩,by rw [hnx];exact gC,hc2⟩,by omega⟩
       ·have hSz:=decide_eq_false hS;rw [if_neg hS] at hnx;by_cases hi0:i=0
        ·have hi0:decide ((0:Int) < (i:Int))=false:=decide_eq_false (by omega);(focus (refine wkad (w_12 e1 e31 e32 e33 e7 hpl hqi @Zj9 hi0 hSz h42 h43) (w_1 cqi) w_t ?_;(repeat' first|exact w_t|apply w_l);all_goals intros));exact⟨i+1,⟨by omega,⟨by exact gW e1,by exact gW e31,by exact gW e32,by exact gS⟩,by rw [hnx];exact gC,hc2⟩,by omega⟩
        ·have hi0:decide ((0:Int) < (i:Int))=true:=decide_eq_true (by omega);(focus (refine wkad (w_11 e1 e31 e32 e33 e7 hpl hqi @Zj9 hi0 h42 h43) (w_1 cqi) w_t ?_;(repeat' first|exact w_t|apply w_l);all_goals intros));exact⟨i+1,⟨by omega,⟨by exact gW e1,by exact gW e31,by exact gW e32,by exact gS⟩,by rw [hnx];exact gC,hc2⟩,by omega⟩
      ·rw [if_neg hch] at cqi;have hat:=Zzj hlt hc hch;rw [hat,if_neg hch] at hR;have qe:Qt.av p[i]=.agg [iv p[i].k,iv p[i].a,iv p[i].b,iv p[i].c]:=rfl;rw [qe] at cqi hqi;generalize Qt.chk p[i] ss.length 64=ch at *;generalize p[i].k=qk at *;generalize p[i].a=qa at *;generalize p[i].b=qb at *;generalize p[i].c=qc at *;rw [←hR];(focus (refine wkad (w_7 e1 e31 e32 e33 e7 hpl hqi) (w_1 cqi) w_t ?_;(repeat' first|exact w_t|apply w_l);all_goals intros));all_goals exact gL
     ·have:i=p.length:=by omega
      subst this;rw [if_pos (Ztm λj h=>hc j h h)] at hR;rw [←hR];(focus (refine wkad (w_6 e1 e31 e32 e33 e7 hpl) w_t w_t ?_;(repeat' first|exact w_t|apply w_l);all_goals intros));all_goals exact gL
    ·exact⟨Nat.zero_le _,⟨by exact gW e1,by exact gC,by exact gW hpl,by exact gC⟩,by exact gW e7,λj h hj=>by omega⟩
section
attribute [local go_sem] underlying3 underlying4 underlying128 underlying50 underlying52 underlying54 underlying39 underlying55 underlying57 underlying26 underlying27 sz3 by3 z3 szB zB Zas zRat Zay zInt Zax zNat Zah Zan Zai Bool.and_self Zal Za7 zSlQ szQT byQT zQT Za9 zSlT szQP zQP underlying9 underlying167 underlying123 underlying165 Zn4 Zjc Zny Zn5 Zbh zStr zSum zMap underlying33 underlying45 List.append_eq
end
theorem Zvu {ss:List ByteArray} {t:Rat × List Qt} (hs:∀s∈ss,s.size≤1000) (hp:t.2.length≤1000) {k:Nat} (ha:Sz t.1 k) (hk:k≤1000000) (h:chkP ss.length t.2=0):(tTxt ss t).size≤15000000:=by
 have hz:=Zpl (Znx ha)
 have hall:∀j (h:j < t.2.length),Qt.chk t.2[j] ss.length 64=0:=by
  generalize t.2=p at h;clear hp
  induction p with
  | nil=>intro j hj;simp at hj
  | cons q l ih =>
    unfold chkP at h;by_cases h0:Qt.chk q ss.length 64=0
    ·rw [if_pos h0] at h;intro j hj
     cases j with
     | zero=>exact h0
     | succ j=>exact ih h j (by simpa using hj)
    ·rw [if_neg h0] at h;exact absurd h h0
 have hemp:(⟨#[]⟩:ByteArray).size=0:=rfl;unfold tTxt;have h2:=Zvv (s0:=if t.2.length≠0∧absR t.1=1 then ⟨#[]⟩ else decQ (absR t.1)) hs (Nat.le_refl t.2.length) λj h _=>hall j h
 have h3:(if t.2.length≠0∧absR t.1=1 then ⟨#[]⟩ else decQ (absR t.1):ByteArray).size≤10*k+4:=by
  split
  ·rw [hemp];omega
  ·exact hz
 omega
theorem eS_size {ss:List ByteArray} {p:QTs} {i:Nat} (hi:i≤p.length) (h:∀j (h:j < p.length),j < i→(tTxt ss p[j]).size≤15000000):(eS ss p i).size≤i*15000003:=by
 induction i with
 | zero=>exact Nat.zero_le _
 | succ i ih =>
   have h1:=ih (by omega) λj hj hji=>h j hj (by omega);have h2:=h i (by omega) (by omega);have e:p.getD i (0,[])=p[i]:=Zcq (by omega);unfold eS;rw [ByteArray.size_append,e];have s0:(⟨#[]⟩:ByteArray).size=0:=rfl;have s1:(⟨#[45]⟩:ByteArray).size=1:=rfl;have s2:(⟨#[32,45,32]⟩:ByteArray).size=3:=rfl;have s3:(⟨#[32,43,32]⟩:ByteArray).size=3:=rfl;split
   ·split<;>omega
   ·rw [ByteArray.size_append];split<;>omega
def OkT (p:QTs) (k:Nat):Prop:=∀t∈p,t.2.length≤1000∧Sz t.1 k
theorem exText (p:QTs) (ss:List ByteArray) (hl:ss.length≤1000000000) (hs:∀s∈ss,s.size≤1000) (hp:p.length≤100000) {k:Nat} (hk:k≤1000000) (ho:OkT p k) :
 Pure prog 17 [.sl 4 (p.map qtA),.sl 1 (ss.map strA)] (if chkE ss.length p=0 then .tup [strA (eTxt ss p),iv 0] else .tup [strA ⟨#[]⟩,iv (chkE ss.length p)]):=by
 have hpl:(p.map qtA).length=p.length:=List.length_map ..;have hq:∀i (h:i < p.length),(p.map qtA).getD i .u=.agg [.v (.bool (decide (p[i].1.num < 0))),lim (toL p[i].1.num.natAbs),lim (toL p[i].1.den),.sl 4 (p[i].2.map Qt.av)]:=λi h=>Zat qtA h;have ct:∀i (h:i < p.length),Pure prog 50 [.agg [.v (.bool (decide (p[i].1.num < 0))),lim (toL p[i].1.num.natAbs),lim (toL p[i].1.den),.sl 4 (p[i].2.map Qt.av)],.sl 1 (ss.map strA)] (if chkP ss.length p[i].2=0 then .tup [strA (tTxt ss p[i]),iv 0] else .tup [strA ⟨#[]⟩,iv (chkP ss.length p[i].2)]):=λi h=>exTerm p[i].1 p[i].2 ss hl hs (ho _ (List.getElem_mem h)).1 (ho _ (List.getElem_mem h)).2 hk
 have cs:∀i (h:i < p.length),Pure prog 42 [.agg [.v (.bool (decide (p[i].1.num < 0))),lim (toL p[i].1.num.natAbs),lim (toL p[i].1.den)]] (iv p[i].1.num.sign):=λi h=>Zea p[i].1 (ho _ (List.getElem_mem h)).2 (by omega);have hsz:∀i (h:i < p.length),chkP ss.length p[i].2=0→(tTxt ss p[i]).size≤15000000:=λi h h2=>Zvu hs (ho _ (List.getElem_mem h)).1 (ho _ (List.getElem_mem h)).2 hk h2;clear ho hk;generalize ss.map strA=N at *;generalize p.map qtA=P at *;generalize hR:(if chkE ss.length p=0 then AV.tup [strA (eTxt ss p),iv 0] else .tup [strA ⟨#[]⟩,iv (chkE ss.length p)])=R at *;have hemp:(⟨#[]⟩:ByteArray).size=0:=rfl
 refine Zaa (tok:=0) func17 rfl ntmps17 results17 call17 (by rfl) (by simp) ?_;by_cases hp0:p.length=0
 ·obtain rfl:=List.length_eq_zero_iff.1 hp0;have hR:AV.tup [strA ⟨#[48]⟩,iv 0]=R:=hR;have hpl:P.length=0:=hpl;rw [←hR];(focus (refine wkap (w_2 hpl @Int.natCast_zero) w_t (w_r 0) ?_;(repeat' first|exact w_t|apply w_l);all_goals intros));all_goals exact gL
 ·have hpi:¬((p.length:Nat):Int)=0:=by omega
  have eTx:eTxt ss p=eS ss p p.length:=if_neg hp0;rw [eTx] at hR;(focus (refine wkap (w_2 hpl hpi) w_t (w_r 0) ?_;(repeat' first|exact w_t|apply w_l);all_goals intros));refine Zae (ι:=Nat) (λi e m=>i≤p.length∧(e 1=.sl 1 N∧e 15=.sl 4 P∧e 16=iv p.length∧e 17=iv i)∧e 6=strA (eS ss p i)∧∀j (h:j < p.length),j < i→chkP ss.length p[j].2=0) (λi=>p.length - i) 0 (by rfl) ?_ ?_
  ·rintro i e m ⟨hi,⟨e1,e15,e16,e17⟩,e6,hc⟩
   by_cases hlt:i < p.length
   ·have cti:=ct i hlt;have csi:=cs i hlt;have hqi:=hq i hlt;have hes:=eS_size (ss:=ss) (p:=p) hi λj h hj=>hsz j h (hc j h hj);by_cases hch:chkP ss.length p[i].2=0
    ·rw [if_pos hch] at cti;have ht:=hsz i hlt hch;have hnx:eS ss p (i+1)=(if i=0 then (if p[i].1.num < 0 then ⟨#[45]⟩ else ⟨#[]⟩) else eS ss p i++(if p[i].1.num < 0 then ⟨#[32,45,32]⟩ else ⟨#[32,43,32]⟩))++tTxt ss p[i]:=by rw [←Zcq (d:=((0:Rat),([]:List Qt))) hlt];rfl
     have hc2:∀j (h:j < p.length),j < i+1→chkP ss.length p[j].2=0:=λj h hj=>by
      rcases Nat.lt_or_ge j i with h1 | h1
      ·exact hc j h h1
      ·have:j=i:=by omega
       subst this;exact hch
     have e0s:eS ss p 0=⟨#[]⟩:=rfl;have hn0:decide (p[i].1.num.sign < 0)=decide (p[i].1.num < 0):=by rw [decide_eq_decide];exact Int.sign_neg_iff
     have s45:(⟨#[45]⟩:ByteArray).size=1:=rfl;have s3:(⟨#[32,45,32]⟩:ByteArray).size=3:=rfl;have s4:(⟨#[32,43,32]⟩:ByteArray).size=3:=rfl;have z3:=ByteArray.size_append (a:=eS ss p i) (b:=⟨#[32,45,32]⟩);have z4:=ByteArray.size_append (a:=eS ss p i) (b:=⟨#[32,43,32]⟩);clear hc hch ct cs hsz hq;generalize tTxt ss p[i]=T at *;generalize p[i].2.map Qt.av=qs at *;by_cases hng:p[i].1.num < 0
     ·rw [if_pos hng,if_pos hng] at hnx;rw [decide_eq_true hng] at hn0 csi cti hqi;clear hng;generalize p[i].1.num.sign=sn at *;generalize toL p[i].1.num.natAbs=An at *;generalize toL p[i].1.den=Ad at *;by_cases hi0:i=0
      ·subst hi0;rw [if_pos rfl] at hnx;rw [e0s] at e6;have e45:(⟨#[]⟩++⟨#[45]⟩:ByteArray)=⟨#[45]⟩:=rfl;(focus (refine wkap (w_12 e1 e15 e16 e17 hpl e6 hqi hn0 e45 hemp s45 @Int.natCast_zero) (w_2 cti csi) (w_r 0) ?_;(repeat' first|exact w_t|apply w_l);all_goals intros));exact⟨0+1,⟨by omega,⟨by exact gW e1,by exact gW e15,by exact gW e16,by exact gS⟩,by rw [hnx];exact gC,hc2⟩,by omega⟩
      ·rw [if_neg hi0] at hnx;have hi1:decide ((0:Int) < (i:Int))=true:=decide_eq_true (by omega);have hi2:¬(i:Int)=0:=by omega
       (focus (refine wkap (w_12 e1 e15 e16 e17 hpl e6 hqi hn0 hi1 hi2 z3 s3) (w_2 cti csi) (w_r 0) ?_;(repeat' first|exact w_t|apply w_l);all_goals intros));exact⟨i+1,⟨by omega,⟨by exact gW e1,by exact gW e15,by exact gW e16,by exact gS⟩,by rw [hnx];exact gC,hc2⟩,by omega⟩
     ·rw [if_neg hng,if_neg hng] at hnx;rw [decide_eq_false hng] at hn0 csi cti hqi;clear hng;generalize p[i].1.num.sign=sn at *;generalize toL p[i].1.num.natAbs=An at *;generalize toL p[i].1.den=Ad at *;by_cases hi0:i=0
      ·subst hi0;rw [if_pos rfl] at hnx;rw [e0s] at e6;(focus (refine wkap (w_10 e1 e15 e16 e17 hpl e6 hqi hn0 hemp @Int.natCast_zero) (w_2 cti csi) (w_r 0) ?_;(repeat' first|exact w_t|apply w_l);all_goals intros));exact⟨0+1,⟨by omega,⟨by exact gW e1,by exact gW e15,by exact gW e16,by exact gS⟩,by rw [hnx];exact gC,hc2⟩,by omega⟩
      ·rw [if_neg hi0] at hnx;have hi1:decide ((0:Int) < (i:Int))=true:=decide_eq_true (by omega);have hi2:¬(i:Int)=0:=by omega
       (focus (refine wkap (w_12 e1 e15 e16 e17 hpl e6 hqi hn0 hi1 hi2 z4 s4) (w_2 cti csi) (w_r 0) ?_;(repeat' first|exact w_t|apply w_l);all_goals intros));exact⟨i+1,⟨by omega,⟨by exact gW e1,by exact gW e15,by exact gW e16,by exact gS⟩,by rw [hnx];exact gC,hc2⟩,by omega⟩
    ·rw [if_neg hch] at cti;have hat:=Zzk hlt hc hch;rw [hat,if_neg hch] at hR;generalize chkP ss.length p[i].2=ch at *;generalize p[i].2.map Qt.av=qs at *;generalize decide (p[i].1.num < 0)=ng at *;generalize toL p[i].1.num.natAbs=An at *;generalize toL p[i].1.den=Ad at *;rw [←hR];(focus (refine wkap (w_7 e1 e15 e16 e17 hpl e6 hqi) (w_1 cti) (w_r 0) ?_;(repeat' first|exact w_t|apply w_l);all_goals intros));all_goals exact gL
   ·have:i=p.length:=by omega
    subst this;rw [if_pos (Ztn λj h=>hc j h h)] at hR;rw [←hR];(focus (refine wkap (w_6 e1 e15 e16 e17 hpl e6) w_t (w_r 0) ?_;(repeat' first|exact w_t|apply w_l);all_goals intros));all_goals exact gL
  ·exact⟨Nat.zero_le _,⟨by exact gC,by exact gC,by exact gW hpl,by exact gC⟩,by exact gC,λj h hj=>by omega⟩
attribute [local go_sem] underlying81 underlying29 szFr byFr zFr Zb6 Zca zSQP
theorem toL_two:toL 2=[2]:=by rw [Zep (by omega),show 2/65536=0 from rfl,Zaw]
theorem Zjb:Sz (2:Rat) 1:=⟨by show(toL 2).length≤1;rw [toL_two];decide,by show(toL 1).length≤1;rw [Zfu];omega⟩
theorem sz_m1:Sz (-1:Rat) 1:=⟨by show(toL 1).length≤1;rw [Zfu];omega,by show(toL 1).length≤1;rw [Zfu];omega⟩
end Go.Proofs.YtpkcophcldjboaaGreatDoor
namespace Go.Proofs.YtpkcophcldjboaaGreatDoor
open Go Go.RowKit Go.Pg Go.Proofs.Tryz
attribute [-bool_to_prop] Bool.and_eq_decide Bool.or_eq_decide Bool.decide_beq_decide decide_eq_decide
section
variable {N n:Nat} {cs:List AV}
theorem shQuantP (h:Zb5 prog N n 39 cs):∃k a b c:Int,cs=[iv k,iv a,iv b,iv c]:=by
 obtain⟨m,rfl,hs⟩:=Zb0 underlying39 (by kernel_rfl) h;obtain⟨x,y,rfl,h1,hs⟩:=hs.inv;obtain⟨x2,y,rfl,h2,hs⟩:=hs.inv;obtain⟨x3,y,rfl,h3,hs⟩:=hs.inv;obtain⟨x4,y,rfl,h4,hs⟩:=hs.inv;obtain rfl:=hs.inv0;obtain⟨k,rfl,_⟩:=Zb7 underlying3 h1;obtain⟨a,rfl,_⟩:=Zb7 underlying3 h2;obtain⟨b,rfl,_⟩:=Zb7 underlying3 h3;obtain⟨c,rfl,_⟩:=Zb7 underlying3 h4;exact⟨k,a,b,c,rfl⟩
theorem Zzt (cs:List AV):Zcv prog 39 cs=.agg cs:=Zeo underlying39 cs
end
attribute [local go_sem] underlying3 underlying2 underlying128 underlying4 underlying33 underlying39 underlying55 underlying54 underlying50 underlying52 sz3 by3 z3 szL byL zL Zah Zan Zce zErr Zas zRat Zax zNat Zay zInt szB zB Zai Bool.and_self
def RQ.tiny (r:RQ):Bool:=decide (r.l.length≤2) && decide (r.d.length≤2) && r.ok
theorem RQ.tiny_av {r:RQ} (h1:Lm r.l) (h2:Lm r.d) (h:r.tiny=true):r.av=ratQ r.q∧Sz r.q 2:=by
 unfold RQ.tiny at h;simp only [Bool.and_eq_true,decide_eq_true_eq] at h;exact RQ.ok_av ⟨h1,h2,h.1.1,h.1.2⟩ h.2
def RP.tiny (p:RP):Bool:=p.x.tiny && p.y.tiny
def RP.q (p:RP):PQ:=(p.x.q,p.y.q)
theorem RP.tiny_av {p:RP} {k:Nat} (hl:p.lm k) (h:p.tiny=true):p.av=p.q.av∧p.q.sz 2:=by
 unfold RP.tiny at h;simp only [Bool.and_eq_true] at h;obtain⟨ex,sx⟩:=RQ.tiny_av hl.1.1 hl.1.2.1 h.1;obtain⟨ey,sy⟩:=RQ.tiny_av hl.2.1 hl.2.2.1 h.2;refine⟨?_,sx,sy⟩;show AV.agg (p.x.av.cells++p.y.av.cells)=AV.agg ((ratQ p.x.q).cells++(ratQ p.y.q).cells);rw [ex,ey]
theorem rqTiny (r:RQ) (h:r.lm 9223372036854775807):Pure prog 45 [.agg [.v (.bool r.s),lim r.l,lim r.d]] (.v (.bool r.tiny)):=by
 obtain⟨s,l,d⟩:=r;obtain⟨h1,h2,h3,h4⟩:=h;unfold RQ.tiny;simp only at *;by_cases hl:l.length≤2
 ·by_cases hd:d.length≤2
  ·have c:=Zse s l d h1 h2 (by omega) (by omega);generalize RQ.ok ⟨s,l,d⟩=v at *;rw [decide_eq_true hl,decide_eq_true hd];refine Zaa (tok:=0) func45 rfl ntmps45 results45 call45 (by rfl) (by simp) ?_;(focus (refine wkld (w_1 @Zbd) (w_1 c) (w_1 @Bool.true_and) w_t ?_;(repeat' first|exact w_t|apply w_l);all_goals intros))
  ·rw [decide_eq_true hl,decide_eq_false hd];refine Zaa (tok:=0) func45 rfl ntmps45 results45 call45 (by rfl) (by simp) ?_;(focus (refine wkld (w_1 @Zbd) w_t (w_2 @Bool.true_and @Bool.false_and) w_t ?_;(repeat' first|exact w_t|apply w_l);all_goals intros))
 ·rw [decide_eq_false hl];refine Zaa (tok:=0) func45 rfl ntmps45 results45 call45 (by rfl) (by simp) ?_;(focus (refine wkld (w_1 @Zbd) w_t (w_1 @Bool.false_and) w_t ?_;(repeat' first|exact w_t|apply w_l);all_goals intros))
def mildB (ps:List RP) (rs:List RQ):Bool:=decide (ps.length≤10) && decide (rs.length≤10) && ps.all RP.tiny && rs.all RQ.tiny
end Go.Proofs.YtpkcophcldjboaaGreatDoor
namespace Go.Proofs.YtpkcophcldjboaaGreatDoor
open Go Go.RowKit Go.Pg Go.Pol Go.Proofs.Tryz
attribute [-bool_to_prop] Bool.and_eq_decide Bool.or_eq_decide Bool.decide_beq_decide decide_eq_decide
attribute [local go_sem] underlying3 underlying4 underlying128 underlying50 underlying52 underlying54 underlying39 underlying55 underlying57 underlying26 underlying27 sz3 by3 z3 szB zB Zas zRat Zay zInt Zax zNat Zah Zan Zai Bool.and_self Zal Za7 zSlQ szQT byQT zQT Za9 zSlT szQP zQP
def Zeb (q:List Qt) (i:Nat):Bool:=decide ((q.getD i Qt.zero).norm=(q.getD i Qt.zero,1)) && (decide (i=0) || decide (Qt.cmp (q.getD (i - 1) Qt.zero) (q.getD i Qt.zero)≤0))
def Zid (q:List Qt):Bool:=(List.range q.length).all (Zeb q)
def RE.zero:RE:=⟨⟨false,[],[]⟩,[]⟩
def Zd7 (l:List RE) (i:Nat):Bool:=(l.getD i RE.zero).r.ok && (!decide ((l.getD i RE.zero).r.q=0) && (Zid (l.getD i RE.zero).q && (decide (i=0) || decide (ordQ (l.getD (i - 1) RE.zero).q (l.getD i RE.zero).q < 0))))
def rgtB (l:List RE):Bool:=(List.range l.length).all (Zd7 l)
theorem Zic {n i:Nat} {p:Nat→Bool} (h:i < n) (hp:p i=false):(List.range n).all p=false:=by
 rw [List.all_eq_false];exact⟨i,List.mem_range.2 h,by simp [hp]⟩
theorem Zel {n:Nat} {p:Nat→Bool} (h:∀i,i < n→p i=true):(List.range n).all p=true:=by
 rw [List.all_eq_true];exact λi hi=>h i (List.mem_range.1 hi)
theorem qt_atD {l:List Qt} {i:Nat} (h:i < l.length):(l.map Qt.av).getD i .u=Qt.av (l.getD i Qt.zero):=qt_at h
theorem rxProd (q:List Qt) (hl:q.length≤1000000):Pure prog 103 [qsA q] (.v (.bool (Zid q))):=by
 have hlm:(q.map Qt.av).length=q.length:=List.length_map ..;have hg:∀j,j < q.length→(q.map Qt.av).getD j .u=Qt.av (q.getD j Qt.zero):=λj h=>qt_atD h;have hbad:∀i,i < q.length→Zeb q i=false→Zid q=false:=λi h hp=>Zic h hp;have hgood:(∀i,i < q.length→Zeb q i=true)→Zid q=true:=Zel;show Pure _ _ [.sl 4 (q.map Qt.av)] _;generalize q.map Qt.av=A at *;generalize hB:Zid q=B at *;refine Zaa (tok:=0) func103 rfl ntmps103 results103 call103 (by rfl) (by simp) ?_;(focus (refine wkad w_t w_t w_t ?_;(repeat' first|exact w_t|apply w_l);all_goals intros));refine Zae (ι:=Nat) (λi e _=>i≤q.length∧(∀j,j < i→Zeb q j=true)∧e 0=.sl 4 A∧e 3=iv i) (λi=>q.length - i) 0 (by rfl) ?_ ?_
 ·rintro i e m ⟨hi,hj,e0,e3⟩
  by_cases hlt:i < q.length
  ·have g1:=hg i hlt;have hb:=hbad i hlt;have hnx:Zeb q i=true→∀j,j < i+1→Zeb q j=true:=λh j hji=>by
    by_cases e:j=i
    ·rw [e];exact h
    ·exact hj j (by omega)
   clear hgood hbad hj;have c1:=rqNorm (q.getD i Qt.zero).k (q.getD i Qt.zero).a (q.getD i Qt.zero).b (q.getD i Qt.zero).c;have c2:=rqCmp (q.getD i Qt.zero).norm.1.k (q.getD i Qt.zero).norm.1.a (q.getD i Qt.zero).norm.1.b (q.getD i Qt.zero).norm.1.c (q.getD i Qt.zero).k (q.getD i Qt.zero).a (q.getD i Qt.zero).b (q.getD i Qt.zero).c
   cases i with
   | zero =>
     have hv:Zeb q 0=decide ((q.getD 0 Qt.zero).norm=(q.getD 0 Qt.zero,1)):=by unfold Zeb;simp
     rw [hv] at hb hnx;clear hv hg;generalize q.getD 0 Qt.zero=y at *;generalize hn:y.norm=nn at *;obtain⟨nn,ns⟩:=nn;obtain⟨y1,y2,y3,y4⟩:=y;obtain⟨n1,n2,n3,n4⟩:=nn;simp only at *;by_cases h1:ns=1
     ·by_cases h2:(⟨n1,n2,n3,n4⟩:Qt)=⟨y1,y2,y3,y4⟩
      ·rw [h2,qtO.refl] at c2;have hny:=hnx (by rw [h1,h2];exact decide_eq_true rfl);rw [h2] at c1;clear hb h2 hn;subst h1;(focus (refine wkad (w_4 e0 e3 hlm g1) (w_2 c1 c2) (w_1 (w_d 5 [(8,iv 0)] [] [])) ?_;(repeat' first|exact w_t|apply w_l);all_goals intros));exact⟨1,⟨by omega,hny,by exact gW e0,by exact gC⟩,by omega⟩
      ·have hz:Qt.cmp ⟨n1,n2,n3,n4⟩ ⟨y1,y2,y3,y4⟩≠0:=λh=>h2 (qtO.eqz _ _ h);have hb:=hb (by rw [h1];exact decide_eq_false λh=>h2 (congrArg Prod.fst h));subst hb;clear hnx h2 hn;subst h1;generalize Qt.cmp _ _=z at *;(focus (refine wkad (w_5 e0 e3 hlm g1 hz) (w_2 c1 c2) (w_1 (w_d 5 [(8,iv z)] [] [])) ?_;(repeat' first|exact w_t|apply w_l);all_goals intros));all_goals exact gL
     ·have hb:=hb (decide_eq_false λh=>h1 (congrArg Prod.snd h));subst hb;clear hnx hn c2;(focus (refine wkad (w_5 e0 e3 hlm g1 h1) (w_1 c1) w_t ?_;(repeat' first|exact w_t|apply w_l);all_goals intros));all_goals exact gL
   | succ i =>
     have g2:=hg i (by omega);have hv:Zeb q (i+1)=(decide ((q.getD (i+1) Qt.zero).norm=(q.getD (i+1) Qt.zero,1)) && decide (Qt.cmp (q.getD i Qt.zero) (q.getD (i+1) Qt.zero)≤0)):=by unfold Zeb;simp
     rw [hv] at hb hnx;have c3:=rqCmp (q.getD i Qt.zero).k (q.getD i Qt.zero).a (q.getD i Qt.zero).b (q.getD i Qt.zero).c (q.getD (i+1) Qt.zero).k (q.getD (i+1) Qt.zero).a (q.getD (i+1) Qt.zero).b (q.getD (i+1) Qt.zero).c;clear hv hg;have ei:(i:Int)+1 - 1=(i:Int):=by omega
     have en:((i+1:Nat):Int) - 1=(i:Int):=by omega
     have ek:i+1 - 1=i:=rfl;generalize q.getD (i+1) Qt.zero=y at *;generalize q.getD i Qt.zero=x at *;generalize hn:y.norm=nn at *;obtain⟨nn,ns⟩:=nn;obtain⟨y1,y2,y3,y4⟩:=y;obtain⟨x1,x2,x3,x4⟩:=x;obtain⟨n1,n2,n3,n4⟩:=nn;simp only at *;by_cases h1:ns=1
     ·by_cases h2:(⟨n1,n2,n3,n4⟩:Qt)=⟨y1,y2,y3,y4⟩
      ·rw [h2,qtO.refl] at c2;by_cases h3:Qt.cmp ⟨x1,x2,x3,x4⟩ ⟨y1,y2,y3,y4⟩≤0
       ·have hny:=hnx (by rw [h1,h2,decide_eq_true rfl,decide_eq_true h3];rfl);rw [h2] at c1;clear hb h2 hn;subst h1;generalize Qt.cmp _ _=z at *;have h4:¬0 < z:=by omega
        (focus (refine wkad (w_10 e0 e3 hlm g1 g2 h3 h4 ei en ek) (w_3 c1 c2 c3) (w_1 (w_d 5 [(8,iv 0),(24,iv z)] [] [])) ?_;(repeat' first|exact w_t|apply w_l);all_goals intros));exact⟨i+1+1,⟨by omega,hny,by exact gW e0,by exact gS⟩,by omega⟩
       ·have hb:=hb (by rw [decide_eq_false h3,Bool.and_false]);subst hb;rw [h2] at c1;clear hnx h2 hn;subst h1;generalize Qt.cmp _ _=z at *;have h4:0 < z:=by omega
        (focus (refine wkad (w_9 e0 e3 hlm g1 g2 h4 ei en ek) (w_3 c1 c2 c3) (w_1 (w_d 5 [(8,iv 0),(24,iv z)] [] [])) ?_;(repeat' first|exact w_t|apply w_l);all_goals intros));all_goals exact gL
      ·have hz:Qt.cmp ⟨n1,n2,n3,n4⟩ ⟨y1,y2,y3,y4⟩≠0:=λh=>h2 (qtO.eqz _ _ h);have hb:=hb (by rw [h1,decide_eq_false λh=>h2 (congrArg Prod.fst h)];rfl);subst hb;clear hnx h2 hn c3;subst h1;generalize Qt.cmp ⟨n1,n2,n3,n4⟩ _=z at *;(focus (refine wkad (w_5 e0 e3 hlm g1 hz) (w_2 c1 c2) (w_1 (w_d 5 [(8,iv z)] [] [])) ?_;(repeat' first|exact w_t|apply w_l);all_goals intros));all_goals exact gL
     ·have hb:=hb (by rw [decide_eq_false λh=>h1 (congrArg Prod.snd h)];rfl);subst hb;clear hnx hn c2 c3;(focus (refine wkad (w_5 e0 e3 hlm g1 h1) (w_1 c1) w_t ?_;(repeat' first|exact w_t|apply w_l);all_goals intros));all_goals exact gL
  ·have hil:i=q.length:=by omega
   subst hil;have hb:=hgood hj;subst hb;clear hgood hbad hj hg;(focus (refine wkad (w_3 e0 e3 hlm) w_t w_t ?_;(repeat' first|exact w_t|apply w_l);all_goals intros));all_goals exact gL
 ·exact⟨Nat.zero_le _,λj h=>by omega,by exact gC,by exact gC⟩
theorem re_atD {l:List RE} {i:Nat} (h:i < l.length):(l.map RE.av).getD i .u=RE.av (l.getD i RE.zero):=by
 rw [List.getD_eq_getElem?_getD,List.getD_eq_getElem?_getD,List.getElem?_eq_getElem (by rw [List.length_map];exact h),List.getElem?_eq_getElem h,List.getElem_map];rfl
theorem Zmq {l:List RE} {i:Nat} (h:i < l.length):l.getD i RE.zero∈l:=by
 rw [List.getD_eq_getElem?_getD,List.getElem?_eq_getElem h];exact List.getElem_mem h
theorem tOk_r {l:List RE} {i:Nat} (h:(l.getD i RE.zero).r.ok=false):Zd7 l i=false:=by unfold Zd7;rw [h];rfl
theorem tOk_z {l:List RE} {i:Nat} (h:(l.getD i RE.zero).r.q=0):Zd7 l i=false:=by unfold Zd7;rw [decide_eq_true h];simp
theorem tOk_p {l:List RE} {i:Nat} (h:Zid (l.getD i RE.zero).q=false):Zd7 l i=false:=by unfold Zd7;rw [h];simp
theorem tOk_o {l:List RE} {i:Nat} (h:¬ordQ (l.getD i RE.zero).q (l.getD (i+1) RE.zero).q < 0):Zd7 l (i+1)=false:=by
 unfold Zd7;rw [show i+1 - 1=i from rfl,decide_eq_false h];simp
theorem Zvw {l:List RE} {i:Nat} (h1:(l.getD i RE.zero).r.ok=true) (h2:(l.getD i RE.zero).r.q≠0) (h3:Zid (l.getD i RE.zero).q=true) (h4:i=0∨ordQ (l.getD (i - 1) RE.zero).q (l.getD i RE.zero).q < 0):Zd7 l i=true:=by
 unfold Zd7;rw [h1,h3,decide_eq_false h2];simpa using h4
theorem rxRight (l:List RE) {J:Nat} (hl:l.length≤1000000) (hr:∀t∈l,t.r.lm J) (hq:∀t∈l,t.q.length≤1000000) (hJ:J≤100000):Pure prog 46 [.sl 4 (l.map RE.av)] (.v (.bool (rgtB l))):=by
 have hlm:(l.map RE.av).length=l.length:=List.length_map ..;have hg:∀j,j < l.length→(l.map RE.av).getD j .u=RE.av (l.getD j RE.zero):=λj h=>re_atD h;have hr:∀j,j < l.length→(l.getD j RE.zero).r.lm J:=λj h=>hr _ (Zmq h);have hq:∀j,j < l.length→(l.getD j RE.zero).q.length≤1000000:=λj h=>hq _ (Zmq h);have hbad:∀i,i < l.length→Zd7 l i=false→rgtB l=false:=λi h hp=>Zic h hp;have hgood:(∀i,i < l.length→Zd7 l i=true)→rgtB l=true:=Zel;generalize l.map RE.av=A at *;generalize hB:rgtB l=B at *;refine Zaa (tok:=0) func46 rfl ntmps46 results46 call46 (by rfl) (by simp) ?_
 (focus (refine wkad w_t w_t w_t ?_;(repeat' first|exact w_t|apply w_l);all_goals intros));refine Zae (ι:=Nat) (λi e _=>i≤l.length∧(∀j,j < i→Zd7 l j=true)∧e 0=.sl 4 A∧e 3=iv i) (λi=>l.length - i) 0 (by rfl) ?_ ?_
 ·rintro i e m ⟨hi,hj,e0,e3⟩
  by_cases hlt:i < l.length
  ·have g1:=hg i hlt;have hri:=hr i hlt;have hqi:=hq i hlt;have hb:=hbad i hlt;have hnx:Zd7 l i=true→∀j,j < i+1→Zd7 l j=true:=λh j hji=>by
    by_cases e:j=i
    ·rw [e];exact h
    ·exact hj j (by omega)
   clear hgood hbad hj;have g1:A.getD i .u=.agg [.v (.bool (l.getD i RE.zero).r.s),lim (l.getD i RE.zero).r.l,lim (l.getD i RE.zero).r.d,.sl 4 ((l.getD i RE.zero).q.map Qt.av)]:=g1;have crq:=Zse (l.getD i RE.zero).r.s (l.getD i RE.zero).r.l (l.getD i RE.zero).r.d hri.1 hri.2.1 (by have:=hri.2.2.1;omega) (by have:=hri.2.2.2;omega)
   cases hro:(l.getD i RE.zero).r.ok with
   | false =>
     have crq:Pure prog 101 [.agg [.v (.bool (l.getD i RE.zero).r.s),lim (l.getD i RE.zero).r.l,lim (l.getD i RE.zero).r.d]] (.v (.bool (l.getD i RE.zero).r.ok)):=crq;rw [hro] at crq;have hb:=hb (tOk_r hro);subst hb;clear hnx hg hr hq hro hri hqi;generalize l.getD i RE.zero=t at *;obtain⟨⟨s,x,d⟩,q⟩:=t;simp only at *;generalize q.map Qt.av=Q at *;(focus (refine wkad (w_4 e0 e3 hlm g1) (w_1 crq) (w_1 (w_d 4 [(5,.v (.bool false))] [] [])) ?_;(repeat' first|exact w_t|apply w_l);all_goals intros));all_goals exact gL
   | true =>
     have crq:Pure prog 101 [.agg [.v (.bool (l.getD i RE.zero).r.s),lim (l.getD i RE.zero).r.l,lim (l.getD i RE.zero).r.d]] (.v (.bool (l.getD i RE.zero).r.ok)):=crq;rw [hro] at crq;have hz:=(RQ.ok_av hri hro).2;have cz:=qSign _ hz (by omega);have hre:=RQ.ok_eq hri hro;have cz:Pure prog 102 [.agg [.v (.bool (decide ((l.getD i RE.zero).r.q.num < 0))),lim (toL (l.getD i RE.zero).r.q.num.natAbs),lim (toL (l.getD i RE.zero).r.q.den)]] (iv (l.getD i RE.zero).r.q.num.sign):=cz;have e1:(l.getD i RE.zero).r.s=decide ((l.getD i RE.zero).r.q.num < 0):=congrArg RQ.s hre;have e2:(l.getD i RE.zero).r.l=toL (l.getD i RE.zero).r.q.num.natAbs:=congrArg RQ.l hre
     have e4:(l.getD i RE.zero).r.d=toL (l.getD i RE.zero).r.q.den:=congrArg RQ.d hre;rw [←e1,←e2,←e4] at cz;clear e1 e2 e4 hre hz;have cp:=rxProd (l.getD i RE.zero).q hqi;have cp:Pure prog 103 [.sl 4 ((l.getD i RE.zero).q.map Qt.av)] (.v (.bool (Zid (l.getD i RE.zero).q))):=cp;by_cases hx:(l.getD i RE.zero).r.q=0
     ·have hz2:(l.getD i RE.zero).r.q.num.sign=0:=by rw [Ze8];exact hx
      rw [hz2] at cz;have hb:=hb (tOk_z hx);subst hb;clear hnx hg hr hq hro hri hqi hx hz2 cp;generalize l.getD i RE.zero=t at *;obtain⟨⟨s,x,d⟩,q⟩:=t;simp only at *;generalize q.map Qt.av=Q at *;(focus (refine wkad (w_4 e0 e3 hlm g1) (w_2 crq cz) (w_1 (w_d 4 [(5,.v (.bool true)),(13,iv 0)] [] [])) ?_;(repeat' first|exact w_t|apply w_l);all_goals intros));all_goals exact gL
     ·have hz2:¬(l.getD i RE.zero).r.q.num.sign=0:=by rw [Ze8];exact hx
      cases hpb:Zid (l.getD i RE.zero).q with
      | false =>
        rw [hpb] at cp;have hb:=hb (tOk_p hpb);subst hb;clear hnx hg hr hq hro hri hqi hx hpb;generalize (l.getD i RE.zero).r.q.num.sign=z at *;generalize l.getD i RE.zero=t at *;obtain⟨⟨s,x,d⟩,q⟩:=t;simp only at *;generalize q.map Qt.av=Q at *;(focus (refine wkad (w_5 e0 e3 hlm g1 hz2) (w_3 crq cz cp) (w_1 (w_d 4 [(5,.v (.bool true)),(13,iv z),(22,.v (.bool false))] [] [])) ?_;(repeat' first|exact w_t|apply w_l);all_goals intros));all_goals exact gL
      | true =>
        rw [hpb] at cp
        cases i with
        | zero =>
          have hnx:=hnx (Zvw hro hx hpb (.inl rfl));clear hb hg hr hq hro hri hqi hx hpb;generalize (l.getD 0 RE.zero).r.q.num.sign=z at *;generalize l.getD 0 RE.zero=t at *;obtain⟨⟨s,x,d⟩,q⟩:=t;simp only at *;generalize q.map Qt.av=Q at *;(focus (refine wkad (w_5 e0 e3 hlm g1 hz2) (w_3 crq cz cp) (w_1 (w_d 4 [(5,.v (.bool true)),(13,iv z),(22,.v (.bool true))] [] [])) ?_;(repeat' first|exact w_t|apply w_l);all_goals intros));exact⟨1,⟨by omega,hnx,by exact gW e0,by exact gC⟩,by omega⟩
        | succ i =>
          have g2:=hg i (by omega);have g2:A.getD i .u=.agg [.v (.bool (l.getD i RE.zero).r.s),lim (l.getD i RE.zero).r.l,lim (l.getD i RE.zero).r.d,.sl 4 ((l.getD i RE.zero).q.map Qt.av)]:=g2;have co:=rxOrder (l.getD i RE.zero).q (l.getD (i+1) RE.zero).q (hq i (by omega)) hqi;have co:Pure prog 73 [.sl 4 ((l.getD i RE.zero).q.map Qt.av),.sl 4 ((l.getD (i+1) RE.zero).q.map Qt.av)] (iv (ordQ (l.getD i RE.zero).q (l.getD (i+1) RE.zero).q)):=co;have en:((i+1:Nat):Int) - 1=(i:Int):=by omega
          by_cases ho:ordQ (l.getD i RE.zero).q (l.getD (i+1) RE.zero).q < 0
          ·have hnx:=hnx (Zvw hro hx hpb (.inr ho));clear hb hg hr hq hro hri hqi hx hpb;have ho2:¬0≤ordQ (l.getD i RE.zero).q (l.getD (i+1) RE.zero).q:=by omega
           generalize (l.getD (i+1) RE.zero).r.q.num.sign=z at *;generalize ordQ (l.getD i RE.zero).q (l.getD (i+1) RE.zero).q=w at *;generalize l.getD (i+1) RE.zero=t at *;generalize l.getD i RE.zero=u at *;obtain⟨⟨s,x,d⟩,q⟩:=t;obtain⟨⟨s',x',d'⟩,q'⟩:=u;simp only at *;generalize q.map Qt.av=Q at *;generalize q'.map Qt.av=Q' at *;(focus (refine wkad (w_9 e0 e3 hlm g1 g2 hz2 ho ho2 en) (w_4 crq cz cp co) (w_1 (w_d 4 [(5,.v (.bool true)),(13,iv z),(22,.v (.bool true)),(40,iv w)] [] [])) ?_;(repeat' first|exact w_t|apply w_l);all_goals intros));exact⟨i+1+1,⟨by omega,hnx,by exact gW e0,by exact gS⟩,by omega⟩
          ·have hb:=hb (tOk_o ho);subst hb;clear hnx hg hr hq hro hri hqi hx hpb;have ho2:0≤ordQ (l.getD i RE.zero).q (l.getD (i+1) RE.zero).q:=by omega
           generalize (l.getD (i+1) RE.zero).r.q.num.sign=z at *;generalize ordQ (l.getD i RE.zero).q (l.getD (i+1) RE.zero).q=w at *;generalize l.getD (i+1) RE.zero=t at *;generalize l.getD i RE.zero=u at *;obtain⟨⟨s,x,d⟩,q⟩:=t;obtain⟨⟨s',x',d'⟩,q'⟩:=u;simp only at *;generalize q.map Qt.av=Q at *;generalize q'.map Qt.av=Q' at *;(focus (refine wkad (w_9 e0 e3 hlm g1 g2 hz2 ho ho2 en) (w_4 crq cz cp co) (w_1 (w_d 4 [(5,.v (.bool true)),(13,iv z),(22,.v (.bool true)),(40,iv w)] [] [])) ?_;(repeat' first|exact w_t|apply w_l);all_goals intros));all_goals exact gL
  ·have hil:i=l.length:=by omega
   subst hil;have hb:=hgood hj;subst hb;clear hgood hbad hj hg hr hq;(focus (refine wkad (w_3 e0 e3 hlm) w_t w_t ?_;(repeat' first|exact w_t|apply w_l);all_goals intros));all_goals exact gL
 ·exact⟨Nat.zero_le _,λj h=>by omega,by exact gC,by exact gC⟩
end Go.Proofs.YtpkcophcldjboaaGreatDoor
