/- Contracts of the functions that the law reaches, and the rules by which they are walked. They say what a call hands back for every input within the bounds that each names; no other condition. -/
import Derived.Test.YtjbjejmmnbdbiaaGreatBe7
set_option linter.unusedSimpArgs false
set_option linter.unusedVariables false
set_option maxRecDepth 20000
set_option maxHeartbeats 16000000
namespace Go.Proofs.YtjbjejmmnbdbiaaGreat
open Go Go.RowKit Go.Pg Go.Proofs.Tryz
def Can (l:List Int):Prop:=(∀j,0≤gI l j)∧(l.length=0∨gI l (l.length - 1)≠0)
def LTm (a b:List Int):Prop:=∃k,gI a k < gI b k∧∀j,k < j→gI a j=gI b j
def ltM (a b:List Int):Prop:=lexC a b (max a.length b.length)=-1
instance:DecidableRel ltM:=λa b=>inferInstanceAs (Decidable (lexC a b (max a.length b.length)=-1))
theorem Zw8 {a b:List Int}:∀n,lexC a b n=-1↔∃k,k < n∧gI a k < gI b k∧∀j,k < j→j < n→gI a j=gI b j
 | 0=>by
   constructor
   ·intro h;exact absurd h (by show ¬(0:Int)=-1;omega)
   ·rintro ⟨k,h,_⟩;omega
 | n+1=>by
   unfold lexC;by_cases h:gI a n=gI b n
   ·rw [Zyk h,Zw8 n];constructor
    ·rintro ⟨k,h1,h2,h3⟩
     exact⟨k,zo,h2,λj h4 h5=>by by_cases hj:j=n;subst hj;exact h;exact h3 j h4 zo⟩
    ·rintro ⟨k,h1,h2,h3⟩
     have:k≠n:=by rintro rfl;omega
     exact⟨k,zo,h2,λj h4 h5=>h3 j h4 zo⟩
   ·rw [Zyj h];unfold lt1;constructor
    ·intro h1;by_cases h2:gI a n < gI b n
     ·exact⟨n,zo,h2,λj h3 h4=>zo⟩
     ·rw [Zyj h2] at h1;omega
    ·rintro ⟨k,h1,h2,h3⟩
     by_cases hk:k=n
     ·subst hk;rw [Zyk h2]
     ·exact absurd (h3 n zo zo) h
theorem Zit {a b:List Int}:ltM a b↔LTm a b:=by
 unfold ltM LTm;rw [Zw8];constructor
 ·rintro ⟨k,h1,h2,h3⟩
  refine⟨k,h2,λj h4=>?_⟩;by_cases hj:j < max a.length b.length
  ·exact h3 j h4 hj
  ·rw [Zc2 zo,Zc2 zo]
 ·rintro ⟨k,h2,h3⟩
  refine⟨k,?_,h2,λj h4 _=>h3 j h4⟩;by_cases hk:k < max a.length b.length
  ·exact hk
  ·rw [Zc2 zo,Zc2 zo] at h2;omega
theorem Ziu {a b:List Int}:∀n,lexC a b n=0∧(∀j,j < n→gI a j=gI b j)∨lexC a b n=-1∨lexC a b n=1
 | 0=>.inl ⟨rfl,λj h=>zo⟩
 | n+1=>by
   unfold lexC;by_cases h:gI a n=gI b n
   ·rw [Zyk h];rcases @Ziu a b n with⟨h1,h2⟩ | h1
    ·exact .inl ⟨h1,λj hj=>by by_cases e:j=n;subst e;exact h;exact h2 j zo⟩
    ·exact .inr h1
   ·rw [Zyj h];unfold lt1;split
    ·exact .inr (.inl rfl)
    ·exact .inr (.inr rfl)
theorem Znb {a b:List Int}:∀n,lexC b a n=- lexC a b n
 | 0=>rfl
 | n+1=>by
   unfold lexC;by_cases h:gI a n=gI b n
   ·rw [Zyk h,Zyk h.symm,Znb n]
   ·rw [Zyj h,Zyj (λe=>h e.symm)];unfold lt1;by_cases h1:gI a n < gI b n
    ·rw [Zyk h1,Zyj zo];rfl
    ·rw [Zyj h1,Zyk zo]
theorem Zx7 {a b:List Int} (ha:Can a) (hb:Can b) (h:∀j,gI a j=gI b j):a=b:=by
 have hl:a.length=b.length:=by
  have h1:=h (a.length - 1);have h2:=h (b.length - 1);rcases Nat.lt_trichotomy a.length b.length with hl | hl | hl
  ·rcases hb.2 with hb0 | hb0
   ·omega
   ·rw [←h2,Zc2 zo] at hb0;exact absurd rfl hb0
  ·exact hl
  ·rcases ha.2 with ha0 | ha0
   ·omega
   ·rw [h1,Zc2 zo] at ha0;exact absurd rfl ha0
 refine List.ext_getElem hl λj h1 h2=>?_;have:=h j
 rwa [Zf8 h1,Zf8 h2] at this
theorem ordM:Go.Pol.KO Can ltM where
 irr x h:=by obtain⟨k,h1,_⟩:=Zit.1 h;omega
 tr x y z h g:=by
  obtain⟨k,h1,h2⟩:=Zit.1 h;obtain⟨i,g1,g2⟩:=Zit.1 g;rw [Zit];rcases Nat.lt_trichotomy k i with h3 | h3 | h3
  ·exact⟨i,by rw [h2 i h3];exact g1,λj hj=>by rw [h2 j zo,g2 j hj]⟩
  ·subst h3;exact⟨k,zo,λj hj=>by rw [h2 j hj,g2 j hj]⟩
  ·exact⟨k,by rw [←g2 k h3];exact h1,λj hj=>by rw [h2 j hj,g2 j zo]⟩
 tri x y hx hy:=by
  rcases @Ziu x y (max x.length y.length) with⟨_,h⟩ | h | h
  ·refine .inr (.inl (Zx7 hx hy λj=>?_));by_cases hj:j < max x.length y.length
   ·exact h j hj
   ·rw [Zc2 zo,Zc2 zo]
  ·exact .inl h
  ·refine .inr (.inr ?_);unfold ltM;rw [Nat.max_comm,Znb,h]
theorem Zhn (F:Int→Int→Int) (h0:F 0 0=0) (a b:List Int) (j:Nat):gI (zipI F a b) j=F (gI a j) (gI b j):=by
 by_cases h:j < max a.length b.length
 ·rw [Zf8 (by unfold zipI;simpa using h)];unfold zipI;simp only [List.getElem_map,List.getElem_range]
 ·rw [Zc2 (by unfold zipI;simp only [Zyn,List.length_range];omega),Zc2 zo,Zc2 zo,h0]
abbrev mulM (a b:List Int):List Int:=zipI (·+·) a b
theorem Zie (a b:List Int):(mulM a b).length=max a.length b.length:=by simp [mulM,zipI]
theorem mulK:Go.Pol.KM Can ltM mulM where
 comm x y:=by
  unfold mulM zipI;rw [Nat.max_comm];exact ZBn λi _=>Int.add_comm _ _
 dom x y hx hy:=by
  refine⟨λj=>by rw [Zhn _ rfl];have:=hx.1 j;have:=hy.1 j;omega,?_⟩;rw [Zie,Zhn _ rfl];have a1:=hx.1 (max x.length y.length - 1);have b1:=hy.1 (max x.length y.length - 1);rcases Nat.le_total x.length y.length with h | h
  ·rw [Nat.max_eq_right h] at *;rcases hy.2 with h1 | h1
   ·exact .inl h1
   ·exact .inr zo
  ·rw [Nat.max_eq_left h] at *;rcases hx.2 with h1 | h1
   ·exact .inl h1
   ·exact .inr zo
 mono x y z _ _ _ h:=by
  obtain⟨k,h1,h2⟩:=Zit.1 h;rw [Zit];exact⟨k,by rw [Zhn _ rfl,Zhn _ rfl];omega,λj hj=>by rw [Zhn _ rfl,Zhn _ rfl,h2 j hj]⟩
def mvN (v:Nat→Rat) (m:List Int):Nat→Rat
 | 0=>1
 | n+1=>mvN v m n*v n ^ (gI m n).toNat
def mv (v:Nat→Rat) (m:List Int):Rat:=mvN v m m.length
end Go.Proofs.YtjbjejmmnbdbiaaGreat
namespace Go.Proofs.YtjbjejmmnbdbiaaGreat
open Go Go.RowKit Go.Pg Go.Pol Go.Proofs.Tryz
attribute [-bool_to_prop] Bool.and_eq_decide Bool.or_eq_decide Bool.decide_beq_decide decide_eq_decide
abbrev Tm:=Rat × List Int
abbrev Po:=List Tm
abbrev tmA (t:Tm):AV:=.agg [.v (.bool (decide (t.1.num < 0))),lim (toL t.1.num.natAbs),lim (toL t.1.den),ivs t.2]
abbrev poA (p:Po):AV:=.sl 4 (p.map tmA)
abbrev SrtM (p:Po):Prop:=Srt Can ltM p
abbrev addM (p q:Po):Po:=addP ltM p q
abbrev subM (p q:Po):Po:=subP ltM p q
abbrev mlM (p q:Po):Po:=mulR ltM mulM p q
def sclM (a:Rat) (p:Po):Po:=if a=0 then [] else Zb0 a p
def PK (p:Po) (k e:Nat):Prop:=∀t∈p,Sz t.1 k∧t.2.length≤1000∧∀j,0≤gI t.2 j∧gI t.2 j≤(e:Int)
theorem PK.mono {p:Po} {k j e f:Nat} (h:PK p k e) (hk:k≤j) (he:e≤f):PK p j f:=λt ht=>⟨(h t ht).1.mono hk,(h t ht).2.1,λi=>by have:=(h t ht).2.2 i;omega⟩
theorem PK.sm {p:Po} {k e:Nat} (h:PK p k e) (he:e≤16777216) {t:Tm} (ht:t∈p):Sm t.2:=⟨(h t ht).2.1,λi=>by have:=(h t ht).2.2 i;omega⟩
theorem PK.nil {k e:Nat}:PK [] k e:=λt ht=>by simp at ht
theorem PK.tail {t:Tm} {p:Po} {k e:Nat} (h:PK (t :: p) k e):PK p k e:=λu hu=>h u (.tail _ hu)
theorem PK.drop {p:Po} {k e:Nat} (h:PK p k e) (i:Nat):PK (p.drop i) k e:=λu hu=>h u (ZA2 hu)
theorem PK.add {p q:Po} {j k e:Nat} (hp:PK p j e) (hq:PK q k e):PK (addM p q) (j+k+1) e:=λt ht=>by
 rcases Zoz ht with h | h | ⟨s,hs,u,hu,rfl⟩
 ·exact⟨(hp t h).1.mono zo,(hp t h).2⟩
 ·exact⟨(hq t h).1.mono zo,(hq t h).2⟩
 ·exact⟨(hp s hs).1.add (hq u hu).1,(hp s hs).2⟩
theorem PK.scale {p:Po} {j k e:Nat} {a:Rat} (hp:PK p j e) (ha:Sz a k):PK (Zb0 a p) (j+k) e:=λt ht=>by
 obtain⟨s,hs,rfl⟩:=List.mem_map.1 ht;exact⟨(hp s hs).1.mul ha,(hp s hs).2⟩
theorem PK.times {p:Po} {t:Tm} {j k e f:Nat} (hp:PK p j e) (ht:PK [t] k f):PK (Zbi mulM p t) (j+k) (e+f):=λu hu=>by
 obtain⟨s,hs,rfl⟩:=List.mem_map.1 hu;have h1:=hp s hs;have h2:=ht t (.head _);refine⟨h1.1.mul h2.1,by rw [Zie];have:=h1.2.1;have:=h2.2.1;omega,λi=>?_⟩;show 0≤gI (mulM s.2 t.2) i∧gI (mulM s.2 t.2) i≤_;rw [Zhn _ rfl];have:=h1.2.2 i;have:=h2.2.2 i;omega
theorem Zt2 {a b:List Int} (ha:Can a) (hb:Can b):(ltM a b∧lexC a b (max a.length b.length)=-1)∨(¬ltM a b∧¬ltM b a∧a=b∧lexC a b (max a.length b.length)=0)∨(ltM b a∧¬ltM a b∧lexC a b (max a.length b.length)=1):=by
 rcases @Ziu a b (max a.length b.length) with⟨h,h2⟩ | h | h
 ·have e:a=b:=Zx7 ha hb λj=>by
   by_cases hj:j < max a.length b.length
   ·exact h2 j hj
   ·rw [Zc2 zo,Zc2 zo]
  refine .inr (.inl ⟨?_,?_,e,h⟩)
  ·unfold ltM;rw [h];decide
  ·subst e;unfold ltM;rw [h];decide
 ·exact .inl ⟨h,h⟩
 ·have h3:ltM b a:=by unfold ltM;rw [Nat.max_comm,Znb,h]
  refine .inr (.inr ⟨h3,?_,h⟩);unfold ltM;rw [h];decide
theorem Zq7:Can []:=⟨λj=>by rw [Zc2 (Zyv _)];omega,.inl rfl⟩
theorem mulM_nil (a:List Int):mulM a []=a:=by
 refine List.ext_getElem (by rw [Zie];simp) λj h1 h2=>?_;have:=Zhn (·+·) rfl a [] j;rw [Zf8 h1,Zf8 h2,Zc2 (Zyv _),Int.add_zero] at this;exact this
theorem nil_mulM (a:List Int):mulM [] a=a:=by rw [mulK.comm];exact mulM_nil a
def Zfi (v:Nat):List Int:=List.replicate v 0++[1]
theorem Zfp (v:Nat):(Zfi v).length=v+1:=by simp [Zfi]
theorem Zkx (v j:Nat):gI (Zfi v) j=if j=v then 1 else 0:=by
 by_cases h:j < v+1
 ·rw [Zf8 (by rw [Zfp];exact h)];unfold Zfi;rw [List.getElem_append];by_cases hj:j < v
  ·rw [dif_pos (by simpa using hj),List.getElem_replicate,Zyj zo]
  ·rw [dif_neg (by simpa using hj),Zyk zo];simp
 ·rw [Zc2 (by rw [Zfp];omega),Zyj zo]
theorem can_unit (v:Nat):Can (Zfi v):=by
 refine⟨λj=>by rw [Zkx];split<;>omega,.inr ?_⟩;rw [Zfp,Zkx,Zyk zo];omega
def varM (v:Nat):Po:=if v < 64 then [(1,Zfi v)] else []
theorem Zfa (v:Nat):SrtM (varM v):=by
 unfold varM;split
 ·exact Srt.nil.cons (by show(1:Rat)≠0;decide) (can_unit v) zs
 ·exact .nil
theorem Zpm (v:Nat):PK (varM v) 1 1:=by
 unfold varM;split
 ·intro t ht;rw [ZAr] at ht;subst ht;refine⟨Zkm 1 zo,by show(Zfi v).length≤1000;rw [Zfp];omega,λj=>?_⟩;show 0≤gI (Zfi v) j∧gI (Zfi v) j≤_;rw [Zkx];split<;>omega
 ·exact .nil
theorem Zot {r:Rat} (hr:r≠0) {q:Po} (hq:SrtM q):mlM [(r,[])] q=Zb0 r q:=Zw0 ordM mulK nil_mulM Zq7 hr hq
structure RS where
 k:Int
 nm:ByteArray
 ar:List Int
 r:RQ
structure RG where
 k:Int
 ar:List Int
 r:RQ
abbrev RS.av (s:RS):AV:=.agg [iv s.k,strA s.nm,ivs s.ar,.v (.bool s.r.s),lim s.r.l,lim s.r.d]
abbrev RG.av (g:RG):AV:=.agg [iv g.k,ivs g.ar,.v (.bool g.r.s),lim g.r.l,lim g.r.d]
abbrev figA (ss:List RS) (gs:List RG):AV:=.agg [.sl 6 (ss.map RS.av),.sl 5 (gs.map RG.av)]
def RQ.none (r:RQ):Bool:=!r.s && (decide (r.l.length=0) && decide (r.d.length=0))
structure FS where
 cs:List (Po × Po)
 vs:List Vt
 fr:Nat
abbrev coA (c:Po × Po):AV:=.agg [poA c.1,poA c.2]
def FS.at (f:FS) (s:RS) (k:Nat):Po × Po:=f.cs.getD (gI s.ar k).toNat ([],[])
def FS.nxt (f:FS) (i:Nat) (s:RS):List Vt × (Po × Po) :=
 let v:=f.vs.length
 let a:=f.at s 0
 let b:=f.at s 1
 let c:=f.at s 2
 if s.k=1 then
  (if f.fr=0 then ([],([],[]))
   else if f.fr=1 then ([(1,(i:Int),0)],(varM v,[]))
   else ([(1,(i:Int),0),(1,(i:Int),1)],(varM v,varM (v+1))))
 else if s.k=2 then ([],(addM a.1 (sclM s.r.q (subM b.1 a.1)),addM a.2 (sclM s.r.q (subM b.2 a.2))))
 else if s.k=3 then ([],(addM a.1 (subM c.1 b.1),addM a.2 (subM c.2 b.2)))
 else if s.k=4 then ([],(addM a.1 (subM b.2 c.2),addM a.2 (subM c.1 b.1)))
 else if s.k=5 then ([(1,(i:Int),0)],(addM a.1 (mlM (subM b.1 a.1) (varM v)),addM a.2 (mlM (subM b.2 a.2) (varM v))))
 else if s.k=6 then ([(1,(i:Int),0),(2,(i:Int),1),(2,(i:Int),2)],(varM (v+1),varM (v+2)))
 else ([(2,(i:Int),0),(2,(i:Int),1)],(varM v,varM (v+1)))
def FS.push (f:FS) (i:Nat) (s:RS):FS:=⟨f.cs++[(f.nxt i s).2],f.vs++(f.nxt i s).1,if s.k=1 then f.fr+1 else f.fr⟩
def frN (ss:List RS):Nat→FS
 | 0=>⟨[],[],0⟩
 | i+1=>(frN ss i).push i (ss.getD i ⟨0,.empty,[],⟨false,[],[]⟩⟩)
def bigN (ss:List RS) (i:Nat):Bool :=
 decide (64 < (frN ss (i+1)).vs.length) || decide (4000 < ((frN ss i).nxt i (ss.getD i ⟨0,.empty,[],⟨false,[],[]⟩⟩)).2.1.length) || decide (4000 < ((frN ss i).nxt i (ss.getD i ⟨0,.empty,[],⟨false,[],[]⟩⟩)).2.2.length)
theorem Zhy (ss:List RS):∀i,(frN ss i).cs.length=i
 | 0=>rfl
 | i+1=>by show((frN ss i).cs++[_]).length=i+1;rw [Zza,Zhy ss i];rfl
def BB (n:Nat):Nat:=65536 ^ (3*n)
theorem BB_pos (n:Nat):1≤BB n:=Nat.one_le_pow _ _ zo
theorem BB_succ (n:Nat):BB (n+1)=BB n*65536 ^ 3:=by unfold BB;rw [←ZAp];rfl
def GP (n D v:Nat) (p:Po):Prop:=SrtM p∧∀t∈p,BQ D (BB n) t.1∧t.2.length≤v∧∀j,gI t.2 j≤1
theorem GP.nil {n D v:Nat}:GP n D v []:=⟨.nil,λt h=>by simp at h⟩
theorem GP.mono {n D v m E w:Nat} {p:Po} (h:GP n D v p) (hn:n≤m) (hd:D ∣ E) (hv:v≤w):GP m E w p :=
 ⟨h.1,λt ht=>⟨(h.2 t ht).1.mono hd (ZA1 zo zo),by have:=(h.2 t ht).2.1;omega,(h.2 t ht).2.2⟩⟩
theorem bq_sz {D B d b:Nat} {q:Rat} (h:BQ D B q) (h0:D≠0) (hd:D < 65536 ^ d) (hb:B < 65536 ^ b):Sz q (d+b):=by
 have h1:q.den≤D:=Nat.le_of_dvd (ZAz h0) h.1;refine⟨Zaf.2 ?_,Zyz (Zaf.2 (ZC1 h1 hd)) zo⟩;have hp:0 < q.den:=q.den_pos
 calc q.num.natAbs≤B*q.den:=h.2
  _≤B*D:=ZBf _ h1
  _ < 65536 ^ b*65536 ^ d:=Nat.mul_lt_mul_of_lt_of_lt hb hd
  _=65536 ^ (d+b):=by rw [Zzj,←ZAp]
theorem GP.pk {n D v:Nat} {p:Po} (h:GP n D v p) (hv:v≤1000) (h0:D≠0) (hd:D < 65536 ^ (2*n+1)) (hn:n≤20):PK p 110 1:=λt ht=>by
 obtain⟨h1,h2,h3⟩:=h.2 t ht;refine⟨(bq_sz (b:=3*n+1) h1 h0 hd (by unfold BB;exact Nat.pow_lt_pow_right zo zo)).mono zo,zo,λj=>⟨(h.1.1 t ht).2.1 j,h3 j⟩⟩
def GB (B D v:Nat) (p:Po):Prop:=SrtM p∧∀t∈p,BQ D B t.1∧t.2.length≤v∧∀j,gI t.2 j≤1
theorem GB.mono {B D v C E w:Nat} {p:Po} (h:GB B D v p) (hn:B≤C) (hd:D ∣ E) (hv:v≤w):GB C E w p :=
 ⟨h.1,λt ht=>⟨(h.2 t ht).1.mono hd hn,by have:=(h.2 t ht).2.1;omega,(h.2 t ht).2.2⟩⟩
theorem GB.add {B C D v:Nat} {p q:Po} (h:GB B D v p) (k:GB C D v q):GB (B+C) D v (addM p q):=by
 refine⟨Zcx ordM h.1 k.1,λt ht=>?_⟩;rcases Zoz ht with h1 | h1 | ⟨s,hs,u,hu,rfl⟩
 ·exact⟨(h.2 t h1).1.mono (ZB9 _) zo,(h.2 t h1).2⟩
 ·exact⟨(k.2 t h1).1.mono (ZB9 _) zo,(k.2 t h1).2⟩
 ·exact⟨(h.2 s hs).1.add (k.2 u hu).1,(h.2 s hs).2⟩
theorem GB.neg {B D v:Nat} {p:Po} (h:GB B D v p):GB B D v (Zb0 (-1) p):=by
 refine⟨Zez h.1 neg1,λt ht=>?_⟩;obtain⟨s,hs,rfl⟩:=List.mem_map.1 ht;refine⟨?_,(h.2 s hs).2⟩;have e:s.1*-1=-s.1:=by grind
 show BQ D B (s.1*-1);rw [e];exact(h.2 s hs).1.neg
theorem GB.sub {B C D v:Nat} {p q:Po} (h:GB B D v p) (k:GB C D v q):GB (B+C) D v (subM p q):=h.add k.neg
theorem GB.scl {B C D E v:Nat} {p:Po} {a:Rat} (h:GB B D v p) (ha:BQ E C a):GB (B*C) (D*E) v (sclM a p):=by
 unfold sclM;split
 ·exact⟨.nil,λt h=>by simp at h⟩
 ·rename_i h0;refine⟨Zez h.1 h0,λt ht=>?_⟩;obtain⟨s,hs,rfl⟩:=List.mem_map.1 ht;exact⟨(h.2 s hs).1.mul ha,(h.2 s hs).2⟩
theorem Zqo (p:Po) (v:Nat):mlM p (varM v)=if v < 64 then Zbi mulM p (1,Zfi v) else []:=by
 unfold varM;split
 ·show addP ltM [] (Zbi mulM p (1,Zfi v))=_;simp [addP]
 ·rfl
theorem GB.var {B D v:Nat} {p:Po} (h:GB B D v p):GB B D (v+1) (mlM p (varM v)):=by
 refine⟨Zeq ordM mulK h.1 (Zfa v),λt ht=>?_⟩;rw [Zqo] at ht;split at ht
 ·obtain⟨s,hs,rfl⟩:=List.mem_map.1 ht;obtain⟨h1,h2,h3⟩:=h.2 s hs;refine⟨by show BQ D B (s.1*1);rw [Rat.mul_one];exact h1,by show(mulM s.2 (Zfi v)).length≤v+1;rw [Zie,Zfp];omega,λj=>?_⟩;show gI (mulM s.2 (Zfi v)) j≤1;rw [Zhn _ rfl,Zkx];split
  ·rename_i hj;rw [Zc2 zo];omega
  ·have:=h3 j;omega
 ·simp at ht
theorem GB.one {B D v w:Nat} (hB:1≤B) (h:v < w):GB B D w (varM v):=by
 refine⟨Zfa v,λt ht=>?_⟩;unfold varM at ht;split at ht
 ·rw [ZAr] at ht;subst ht;refine⟨BQ.int 1 (by simpa using hB),by show(Zfi v).length≤w;rw [Zfp];omega,λj=>?_⟩;show gI (Zfi v) j≤1;rw [Zkx];split<;>omega
 ·simp at ht
theorem GB.nil {B D v:Nat}:GB B D v []:=⟨.nil,λt h=>by simp at h⟩
structure FI (f:FS) (n D:Nat):Prop where
 D0:D≠0
 Dl:D < 65536 ^ (2*n+1)
 nv:f.vs.length≤64
 cs:∀c∈f.cs,GP n D f.vs.length c.1∧GP n D f.vs.length c.2
 ln:∀c∈f.cs,c.1.length≤4000∧c.2.length≤4000
theorem FI.at {f:FS} {n D:Nat} (h:FI f n D) (s:RS) (k:Nat):(GP n D f.vs.length (f.at s k).1∧GP n D f.vs.length (f.at s k).2)∧(f.at s k).1.length≤4000∧(f.at s k).2.length≤4000:=by
 unfold FS.at;by_cases hk:(gI s.ar k).toNat < f.cs.length
 ·have:=Zcu (d:=(([],[]):Po × Po)) hk;exact⟨h.cs _ this,h.ln _ this⟩
 ·rw [Zyu,Zz1 zo];exact⟨⟨.nil,.nil⟩,by simp,by simp⟩
def RQ.bd (r:RQ):Prop:=r.ok=true→r.q.den < 65536 ^ 2∧r.q.num.natAbs < 65536 ^ 2
theorem lm_bd {r:RQ} (h:r.lm 2):r.bd:=λho=>by
 obtain⟨-,h1,h2⟩:=RQ.ok_av h ho;exact⟨Zaf.1 h2,Zaf.1 h1⟩
theorem FI.nxt {f:FS} {n D:Nat} (h:FI f n D) (i:Nat) (s:RS) (hr:s.k=2→s.r.ok=true) (hb:s.r.bd) :
 ∃E,E≠0∧D ∣ E∧E < 65536 ^ (2*(n+if s.k=1 then 0 else 1)+1) ∧
  GP (n+if s.k=1 then 0 else 1) E (f.vs++(f.nxt i s).1).length (f.nxt i s).2.1∧GP (n+if s.k=1 then 0 else 1) E (f.vs++(f.nxt i s).1).length (f.nxt i s).2.2:=by
 obtain⟨⟨a1,a2⟩,-⟩:=h.at s 0;obtain⟨⟨b1,b2⟩,-⟩:=h.at s 1;obtain⟨⟨c1,c2⟩,-⟩:=h.at s 2;have hB:=BB_pos n;have hS:=BB_succ n;unfold FS.nxt;simp only;have one:∀v w,v < w→GP n D w (varM v):=λv w hv=>GB.one hB hv;have up:∀{E v:Nat} {p:Po} {C:Nat},GB C E v p→C≤BB n*65536 ^ 3→GP (n+1) E v p:=λh hc=>GB.mono h (by rw [hS];exact hc) (ZB9 _) (Zyp _);have dl:D < 65536 ^ (2*(n+1)+1):=ZAq h.Dl (ZA1 zo zo)
 have b3:BB n+(BB n+BB n)≤BB n*65536 ^ 3:=by
  have:BB n*3≤BB n*65536 ^ 3:=ZBf _ zd;omega
 by_cases k1:s.k=1
 ·rw [Zyk k1,Zyk k1];refine⟨D,h.D0,ZB9 _,h.Dl,?_⟩;split
  ·exact⟨.nil,.nil⟩
  ·split
   ·exact⟨one _ _ zs,.nil⟩
   ·exact⟨one _ _ zs,one _ _ zs⟩
 ·rw [Zyj k1,Zyj k1];by_cases k2:s.k=2
  ·rw [Zyk k2];obtain⟨h1,h2⟩:=hb (hr k2);refine⟨D*s.r.q.den,ZCh h.D0 s.r.q.den_nz,ZC7 _ _,?_,?_⟩
   ·calc D*s.r.q.den < 65536 ^ (2*n+1)*65536 ^ 2:=Nat.mul_lt_mul_of_lt_of_lt h.Dl h1
     _=65536 ^ (2*(n+1)+1):=by rw [←ZAp];congr 1
   ·have hq:BQ s.r.q.den (65536 ^ 2) s.r.q:=⟨ZB9 _,by have:=s.r.q.den_pos;have:=ZCf (65536 ^ 2) this;omega⟩
    have bd:BB n+(BB n+BB n)*65536 ^ 2≤BB n*65536 ^ 3:=by
     have e1:(BB n+BB n)*65536 ^ 2=BB n*(2*65536 ^ 2):=by rw [←Nat.mul_two,Zz3]
     rw [e1];have:BB n*(1+2*65536 ^ 2)≤BB n*65536 ^ 3:=ZBf _ zd;omega
    rw [Zzz];exact⟨up ((GB.mono a1 (Zyp _) (ZC7 _ _) (Zyp _)).add ((GB.sub b1 a1).scl hq)) bd,up ((GB.mono a2 (Zyp _) (ZC7 _ _) (Zyp _)).add ((GB.sub b2 a2).scl hq)) bd⟩
  ·rw [Zyj k2];refine⟨D,h.D0,ZB9 _,dl,?_⟩;have one':∀v w,v < w→GP (n+1) D w (varM v):=λv w hv=>GB.one (BB_pos _) hv;by_cases k3:s.k=3
   ·rw [Zyk k3,Zzz];exact⟨up (GB.add a1 (GB.sub c1 b1)) b3,up (GB.add a2 (GB.sub c2 b2)) b3⟩
   ·rw [Zyj k3];by_cases k4:s.k=4
    ·rw [Zyk k4,Zzz];exact⟨up (GB.add a1 (GB.sub b2 c2)) b3,up (GB.add a2 (GB.sub c1 b1)) b3⟩
    ·rw [Zyj k4];by_cases k5:s.k=5
     ·rw [Zyk k5];have e:(f.vs++[(1,(i:Int),0)]).length=f.vs.length+1:=by simp
      rw [e];exact⟨up (GB.add (GB.mono a1 (Zyp _) (ZB9 _) zo) (GB.sub b1 a1).var) b3,up (GB.add (GB.mono a2 (Zyp _) (ZB9 _) zo) (GB.sub b2 a2).var) b3⟩
     ·rw [Zyj k5];by_cases k6:s.k=6
      ·rw [Zyk k6];exact⟨one' _ _ zs,one' _ _ zs⟩
      ·rw [Zyj k6];exact⟨one' _ _ zs,one' _ _ zs⟩
def nfN (ss:List RS):Nat→Nat
 | 0=>0
 | i+1=>nfN ss i+if (ss.getD i ⟨0,.empty,[],⟨false,[],[]⟩⟩).k=1 then 0 else 1
theorem frN_ok (ss:List RS) (hr:∀s∈ss,s.k=2→s.r.ok=true) (hb:∀s∈ss,s.r.bd):∀i,i≤ss.length→(∀j,j < i→bigN ss j=false)→∃D,FI (frN ss i) (nfN ss i) D
 | 0,_,_=>⟨1,zo,by show 1 < 65536 ^ (2*0+1);decide,Zyv _,λc h=>by simp [frN] at h,λc h=>by simp [frN] at h⟩
 | i+1,hi,hj=>by
   obtain⟨D,hD⟩:=frN_ok ss hr hb i zo λj h=>hj j zo;have hbig:=hj i zo;unfold bigN at hbig;simp only [ZBw,ZBe,Nat.not_lt] at hbig;have hm:ss.getD i ⟨0,.empty,[],⟨false,[],[]⟩⟩∈ss:=Zcu zo;have hs1:=hr _ hm;have hs2:=hb _ hm;unfold nfN;show ∃D,FI ((frN ss i).push i (ss.getD i ⟨0,.empty,[],⟨false,[],[]⟩⟩)) _ D;have hv:=hbig.1.1;unfold frN at hv;generalize ss.getD i ⟨0,.empty,[],⟨false,[],[]⟩⟩=s at *;obtain⟨E,e0,e1,e2,g1,g2⟩:=hD.nxt i s hs1 hs2;refine⟨E,e0,e2,hv,λc hc=>?_,λc hc=>?_⟩
   ·rcases List.mem_append.1 hc with h1 | h1
    ·obtain⟨k1,k2⟩:=hD.cs c h1;have hl:(frN ss i).vs.length≤((frN ss i).push i s).vs.length:=by show _≤((frN ss i).vs++((frN ss i).nxt i s).1).length;rw [Zza];omega
     exact⟨k1.mono zo e1 hl,k2.mono zo e1 hl⟩
    ·rw [ZAr] at h1;subst h1;exact⟨g1,g2⟩
   ·rcases List.mem_append.1 hc with h1 | h1
    ·exact hD.ln c h1
    ·rw [ZAr] at h1;subst h1;exact⟨hbig.1.2,hbig.2⟩
theorem nbA:namB wA=true:=by kernel_rfl
theorem szAX:wA.size≤1000:=by decide +kernel
theorem nbB:namB wB=true:=by kernel_rfl
theorem szBX:wB.size≤1000:=by decide +kernel
theorem nbC:namB wC=true:=by kernel_rfl
theorem szCX:wC.size≤1000:=by decide +kernel
theorem nbD:namB wD=true:=by kernel_rfl
theorem szDX:wD.size≤1000:=by decide +kernel
theorem dp_yA:Pure prog 236 [yA.av] (iv ((1:Nat):Int)):=Zfk yA [] zd (by intro q;induction q with | zero=>decide | succ q ih=>simpa [mxN] using ih) (λq h=>absurd h (Nat.not_lt_zero q))
theorem ck_yA:Pure prog 237 [yA.av,iv 1] (iv 0):=Zj9 yA 1 zd rfl nbA szAX rfl
theorem dp_yB:Pure prog 236 [yB.av] (iv ((1:Nat):Int)):=Zfk yB [] zd (by intro q;induction q with | zero=>decide | succ q ih=>simpa [mxN] using ih) (λq h=>absurd h (Nat.not_lt_zero q))
theorem ck_yB:Pure prog 237 [yB.av,iv 1] (iv 0):=Zj9 yB 1 zd rfl nbB szBX rfl
theorem dp_yC:Pure prog 236 [yC.av] (iv ((1:Nat):Int)):=Zfk yC [] zd (by intro q;induction q with | zero=>decide | succ q ih=>simpa [mxN] using ih) (λq h=>absurd h (Nat.not_lt_zero q))
theorem ck_yC:Pure prog 237 [yC.av,iv 1] (iv 0):=Zj9 yC 1 zd rfl nbC szCX rfl
theorem dp_y1:Pure prog 236 [y1.av] (iv ((1:Nat):Int)):=Zfk y1 [] zd (by intro q;induction q with | zero=>decide | succ q ih=>simpa [mxN] using ih) (λq h=>absurd h (Nat.not_lt_zero q))
theorem ck_y1:Pure prog 237 [y1.av,iv 1] (iv 0):=Zj9 y1 1 zd rfl nbD szDX rfl
theorem dp_y2:Pure prog 236 [y2.av] (iv ((1:Nat):Int)):=Zfk y2 [] zd (by intro q;induction q with | zero=>decide | succ q ih=>simpa [mxN] using ih) (λq h=>absurd h (Nat.not_lt_zero q))
theorem ck_y2:Pure prog 237 [y2.av,iv 1] (iv 0):=Zj9 y2 1 zd rfl nbB szBX rfl
theorem dp_y3:Pure prog 236 [y3.av] (iv ((1:Nat):Int)):=Zfk y3 [] zd (by intro q;induction q with | zero=>decide | succ q ih=>simpa [mxN] using ih) (λq h=>absurd h (Nat.not_lt_zero q))
theorem ck_y3:Pure prog 237 [y3.av,iv 1] (iv 0):=Zj9 y3 1 zd rfl nbD szDX rfl
theorem dp_y4:Pure prog 236 [y4.av] (iv ((1:Nat):Int)):=Zfk y4 [] zd (by intro q;induction q with | zero=>decide | succ q ih=>simpa [mxN] using ih) (λq h=>absurd h (Nat.not_lt_zero q))
theorem ck_y4:Pure prog 237 [y4.av,iv 1] (iv 0):=Zj9 y4 1 zd rfl nbC szCX rfl
theorem Zwz {ds:List Nat} {b:Nat} (h:∀d∈ds,d≤b):∀q,mxN ds q≤b:=by
 intro q
 induction q with
 | zero=>exact Zyv _
 | succ q ih =>
   refine Nat.max_le.2 ⟨ih,?_⟩;by_cases hq:q < ds.length
   ·rw [Zyu,Zym hq];exact h _ (Zy6 hq)
   ·rw [Zyu,Zz1 zo];exact Zyv _
theorem mxxL:∀q,mxN [1,1] q≤100:=Zwz zd
theorem dp_xL:Pure prog 236 [xL.av] (iv ((2:Nat):Int)):=by
 refine Zfk xL [1,1] zd mxxL ?_;intro q hq;have hq:q < 2:=hq
 match q,hq with
 | 0,_=>exact⟨yB,rfl,by decide,dp_yB⟩
 | 1,_=>exact⟨yC,rfl,by decide,dp_yC⟩
theorem ck_xL:Pure prog 237 [xL.av,iv 2] (iv 0):=by
 refine Zvi xL 15 zd rfl zd zd zd zd rfl rfl zd ?_;intro q hq;have hq:q < 2:=hq
 match q,hq with
 | 0,_=>exact⟨yB,rfl,ck_yB⟩
 | 1,_=>exact⟨yC,rfl,ck_yC⟩
theorem mxxF:∀q,mxN [1,2] q≤100:=Zwz zd
theorem dp_xF:Pure prog 236 [xF.av] (iv ((3:Nat):Int)):=by
 refine Zfk xF [1,2] zd mxxF ?_;intro q hq;have hq:q < 2:=hq
 match q,hq with
 | 0,_=>exact⟨yA,rfl,by decide,dp_yA⟩
 | 1,_=>exact⟨xL,rfl,by decide,dp_xL⟩
theorem ck_xF:Pure prog 237 [xF.av,iv 1] (iv 0):=by
 refine Zvi xF 4 zd rfl zd zd zd zd rfl rfl zd ?_;intro q hq;have hq:q < 2:=hq
 match q,hq with
 | 0,_=>exact⟨yA,rfl,ck_yA⟩
 | 1,_=>exact⟨xL,rfl,ck_xL⟩
theorem mxxG:∀q,mxN [1,1,1,1] q≤100:=Zwz zd
theorem dp_xG:Pure prog 236 [xG.av] (iv ((2:Nat):Int)):=by
 refine Zfk xG [1,1,1,1] zd mxxG ?_;intro q hq;have hq:q < 4:=hq
 match q,hq with
 | 0,_=>exact⟨y1,rfl,by decide,dp_y1⟩
 | 1,_=>exact⟨y2,rfl,by decide,dp_y2⟩
 | 2,_=>exact⟨y3,rfl,by decide,dp_y3⟩
 | 3,_=>exact⟨y4,rfl,by decide,dp_y4⟩
theorem ck_xG:Pure prog 237 [xG.av,iv 4] (iv 0):=by
 refine Zvi xG 24 zd rfl zd zd zd zd rfl rfl zd ?_;intro q hq;have hq:q < 4:=hq
 match q,hq with
 | 0,_=>exact⟨y1,rfl,ck_y1⟩
 | 1,_=>exact⟨y2,rfl,ck_y2⟩
 | 2,_=>exact⟨y3,rfl,ck_y3⟩
 | 3,_=>exact⟨y4,rfl,ck_y4⟩
theorem cc1X:Pure prog 179 [xS1.av] (iv 0):=rxCs1 [wA,wB,wC] 0 zs zd (λw hw=>by
 simp only [Zz8,List.not_mem_nil,or_false] at hw;rcases hw with rfl | rfl | rfl
 ·exact⟨nbA,szAX⟩
 ·exact⟨nbB,szBX⟩
 ·exact⟨nbC,szCX⟩)
theorem cc2X:Pure prog 179 [xS2.av] (iv 0):=rxCs2 wD xF _ ⟨nbD,szDX⟩ zd (Zvk xF 1 3 zd zd dp_xF ck_xF)
theorem cc3X:Pure prog 179 [xS3.av] (iv 0):=rxCs5 xG _ zd (Zvk xG 4 2 zd zd dp_xG ck_xG)
theorem us_yA:Pure prog 180 [.sl 10 (([xS1]).map Stq.av),yA.av,iv 1] (iv 0):=Zhs ([xS1]) yA 1 zd (by decide +kernel) rfl zd zk
theorem us_yB:Pure prog 180 [.sl 10 (([xS1]).map Stq.av),yB.av,iv 1] (iv 0):=Zhs ([xS1]) yB 1 zd (by decide +kernel) rfl zd zk
theorem us_yC:Pure prog 180 [.sl 10 (([xS1]).map Stq.av),yC.av,iv 1] (iv 0):=Zhs ([xS1]) yC 1 zd (by decide +kernel) rfl zd zk
theorem us_y1:Pure prog 180 [.sl 10 (([xS1,xS2]).map Stq.av),y1.av,iv 1] (iv 0):=Zhs ([xS1,xS2]) y1 1 zd (by decide +kernel) rfl zd zk
theorem us_y2:Pure prog 180 [.sl 10 (([xS1,xS2]).map Stq.av),y2.av,iv 1] (iv 0):=Zhs ([xS1,xS2]) y2 1 zd (by decide +kernel) rfl zd zk
theorem us_y3:Pure prog 180 [.sl 10 (([xS1,xS2]).map Stq.av),y3.av,iv 1] (iv 0):=Zhs ([xS1,xS2]) y3 1 zd (by decide +kernel) rfl zd zk
theorem us_y4:Pure prog 180 [.sl 10 (([xS1,xS2]).map Stq.av),y4.av,iv 1] (iv 0):=Zhs ([xS1,xS2]) y4 1 zd (by decide +kernel) rfl zd zk
theorem us_xL:Pure prog 180 [.sl 10 (([xS1]).map Stq.av),xL.av,iv 2] (iv 0):=by
 refine Zpy _ xL 2 15 zd rfl zd zd rfl zd ?_;intro q hq;have hq:q < 2:=hq
 match q,hq with
 | 0,_=>exact⟨yB,rfl,us_yB⟩
 | 1,_=>exact⟨yC,rfl,us_yC⟩
theorem us_xF:Pure prog 180 [.sl 10 (([xS1]).map Stq.av),xF.av,iv 1] (iv 0):=by
 refine Zpy _ xF 1 4 zd rfl zd zd rfl zd ?_;intro q hq;have hq:q < 2:=hq
 match q,hq with
 | 0,_=>exact⟨yA,rfl,us_yA⟩
 | 1,_=>exact⟨xL,rfl,us_xL⟩
theorem us_xG:Pure prog 180 [.sl 10 (([xS1,xS2]).map Stq.av),xG.av,iv 4] (iv 0):=by
 refine Zpy _ xG 4 24 zd rfl zd zd rfl zd ?_;intro q hq;have hq:q < 4:=hq
 match q,hq with
 | 0,_=>exact⟨y1,rfl,us_y1⟩
 | 1,_=>exact⟨y2,rfl,us_y2⟩
 | 2,_=>exact⟨y3,rfl,us_y3⟩
 | 3,_=>exact⟨y4,rfl,us_y4⟩
theorem st1X:Pure prog 135 [.sl 10 (([]:List Stq).map Stq.av),xS1.av] (iv 0):=Zpz [] xS1 0 zd zd zd zk cc1X (.inl rfl)
theorem st2X:Pure prog 135 [.sl 10 ([xS1].map Stq.av),xS2.av] (iv 0):=Zpz [xS1] xS2 1 zd (by decide +kernel) zd zk cc2X (.inr ⟨by decide,Zdv 2 1 (.inl ⟨rfl,rfl⟩),us_xF⟩)
theorem st3X:Pure prog 135 [.sl 10 ([xS1,xS2].map Stq.av),xS3.av] (iv 0):=Zpz [xS1,xS2] xS3 4 zd (by decide +kernel) zd zk cc3X (.inr ⟨by decide,Zdv 5 4 (.inr ⟨rfl,rfl⟩),us_xG⟩)
theorem chX:Pure prog 88 [.agg [.sl 10 ([xS1,xS2,xS3].map Stq.av)]] (.tup [iv 0,iv 0]):=by
 refine Zvj [xS1,xS2,xS3] zd ?_;intro q hq;have hq:q < 3:=hq
 match q,hq with
 | 0,_=>exact st1X
 | 1,_=>exact st2X
 | 2,_=>exact st3X
def S1X:List AV:=ptsS [wA,wB,wC]
def N1X:List Kn:=ptsK 0 [wA,wB,wC] 3
def VF:List (List Int):=[[1],[2]]
def VG:List (List Int):=[[3],[1],[3],[2]]
def S2X:List AV:=S1X++[elF wD ((([0]:List Int)++catN VF 2).map iv)]
def N2X:List Kn:=N1X++[⟨wD,1,[3]⟩]
def G3X:List AV:=[fcA 4 ((catN VG 4).map iv)]
theorem Zx5 (V:List (List Int)) (n:Nat) (hV:V.length≤n) {b:Nat} (hb:∀q,q≤n→(catN V q).length≤b):∀q,(catN V q).length≤b:=by
 intro q;by_cases hq:q≤n
 ·exact hb q hq
 ·obtain⟨d,rfl⟩:∃d,q=n+d:=⟨q - n,zo⟩;clear hq
  induction d with
  | zero=>exact hb n (Zyp _)
  | succ d ih =>
    show(catN V (n+d)++V.getD (n+d) []).length≤b;rw [Zyu,Zz1 zo]
    simpa using ih
theorem figX0:Pure prog 49 [.agg [.sl 10 ([xS1,xS2,xS3].map Stq.av)]] (.tup [.agg [.sl 6 S2X,.sl 5 G3X],iv 0,iv 0]):=by
 refine rxFigure xS1 xS2 xS3 S1X S2X S2X [] [] G3X N1X N2X N2X chX ?_ ?_ ?_ zd zd zd zd zd zd
 ·intro σ a b c h1 h2 h3;exact stS1 σ 501 502 503 a b c [] [] [] [wA,wB,wC] _ h1 h2 h3 zd zd zd zd zd
 ·intro σ a b c h1 h2 h3;refine stS2 σ 501 502 503 a b c S1X [] N1X xF yA xL wD _ ⟨wA,1,[0]⟩ VF rfl h1 h2 h3 zd zd zd zd zd rfl rfl zk zd rfl zd (Zx5 VF 2 zd zd) ?_;intro q hq;have hq:q < 2:=hq
  match q,hq with
  | 0,_=>exact⟨yB,⟨wB,1,[1]⟩,rfl,rfl,by kernel_rfl,rfl,by decide⟩
  | 1,_=>exact⟨yC,⟨wC,1,[2]⟩,rfl,rfl,by kernel_rfl,rfl,by decide⟩
 ·intro σ a b c h1 h2 h3;refine stS5 σ 501 502 503 a b c S2X [] N2X xG _ 4 VG h1 h2 h3 zd zd zd zd zd rfl zd zd zd zd (Zx5 VG 4 zd zd) ?_;intro q hq;have hq:q < 4:=hq
  match q,hq with
  | 0,_=>exact⟨y1,⟨wD,1,[3]⟩,rfl,rfl,by kernel_rfl,rfl,by decide⟩
  | 1,_=>exact⟨y2,⟨wB,1,[1]⟩,rfl,rfl,by kernel_rfl,rfl,by decide⟩
  | 2,_=>exact⟨y3,⟨wD,1,[3]⟩,rfl,rfl,by kernel_rfl,rfl,by decide⟩
  | 3,_=>exact⟨y4,⟨wC,1,[2]⟩,rfl,rfl,by kernel_rfl,rfl,by decide⟩
def ssX:List RS:=[⟨1,wA,[],⟨false,[],[]⟩⟩,⟨1,wB,[],⟨false,[],[]⟩⟩,⟨1,wC,[],⟨false,[],[]⟩⟩,⟨7,wD,[0,1,2],⟨false,[],[]⟩⟩]
def gsX:List RG:=[⟨4,[3,1,3,2],⟨false,[],[]⟩⟩]
theorem figX:Pure prog 49 [.agg [.sl 10 ([xS1,xS2,xS3].map Stq.av)]] (.tup [figA ssX gsX,iv 0,iv 0]):=by
 refine Zcj figX0 (Vk.tupL (.cons (Vk.aggL (.cons (Vk.slL zr zd zd ?_) (.cons (Vk.slL zr zd zd ?_) .nil))) (.cons (.refl _) (.cons (.refl _) .nil))))
 ·exact(.cons (.refl _) (.cons (.refl _) (.cons (.nil 1) (.cons (.refl _) (.cons (.nil 1) (.cons (.nil 1) (.cons (.refl _) (.cons (.refl _) (.cons (.nil 1) (.cons (.refl _) (.cons (.nil 1) (.cons (.nil 1) (.cons (.refl _) (.cons (.refl _) (.cons (.nil 1) (.cons (.refl _) (.cons (.nil 1) (.cons (.nil 1) (.cons (.refl _) (.cons (.refl _) (.cons (.refl _) (.cons (.refl _) (.cons (.nil 1) (.cons (.nil 1) .nil))))))))))))))))))))))))
 ·exact(.cons (.refl _) (.cons (.refl _) (.cons (.refl _) (.cons (.nil 1) (.cons (.nil 1) .nil)))))
def arS (k:Int):Int :=
 if k=1 then 0 else if k=2∨k=5∨k=6∨k=14 then 2 else if k=3∨k=4∨k=7∨k=8∨k=10∨k=11 then 3 else if k=9∨k=12∨k=13 then 4 else -1
def arG (k:Int):Int :=
 if k=8 then 2 else if k=1∨k=5 then 3 else if k=2∨k=3∨k=4∨k=6∨k=9 then 4 else if k=7 then 8 else 0
def outB (n:Int) (l:List Int):Bool:=l.any λa=>decide (a < 0) || decide (n≤a)
abbrev RS.zero:RS:=⟨0,.empty,[],⟨false,[],[]⟩⟩
def errS (ss:List RS) (i:Nat):Int :=
 let s:=ss.getD i RS.zero
 if arS s.k < 0 then 8
 else if (s.ar.length:Int)≠arS s.k then 1
 else if outB (i:Int) s.ar=true then 2
 else if (s.k=2∧s.r.ok=false)∨(s.k≠2∧s.r.none=false) then 1
 else if s.nm.size=0 then 0
 else if namB s.nm=false then 6
 else if (ss.take i).any (λt=>t.nm.toList == s.nm.toList)=true then 7
 else 0
def errG (g:RG) (n:Nat):Int :=
 if arG g.k=0 then 8
 else if (g.ar.length:Int)≠arG g.k then 1
 else if outB (n:Int) g.ar=true then 2
 else if (g.k=9∧g.r.ok=false)∨(g.k≠9∧g.r.none=false) then 1
 else 0
def fstE (f:Nat→Int):Nat→Int
 | 0=>0
 | n+1=>if fstE f n≠0 then fstE f n else f n
theorem Zfx {f:Nat→Int}:∀{n:Nat},(∀j,j < n→f j=0)→fstE f n=0
 | 0,_=>rfl
 | n+1,h=>by
   unfold fstE;rw [Zyj (by rw [Zfx λj hj=>h j zo];simp)];exact h n zo
theorem Zkz {f:Nat→Int} {i:Nat} (h:∀j,j < i→f j=0) (hi:f i≠0):∀{n:Nat},i < n→fstE f n=f i
 | 0,hn=>zo
 | n+1,hn=>by
   unfold fstE;by_cases e:i=n
   ·subst e;rw [Zyj (by rw [Zfx h];simp)]
   ·have:=Zkz h hi (n:=n) zo;rw [this,Zyk hi]
theorem Zjv {f:Nat→Int}:∀{n:Nat},fstE f n=0→∀j,j < n→f j=0
 | 0,_,j,hj=>zo
 | n+1,h,j,hj=>by
   unfold fstE at h;split at h
   ·rename_i h1;exact absurd h h1
   ·rename_i h1;by_cases e:j=n
    ·subst e;exact h
    ·exact Zjv (n:=n) (by rcases Decidable.em (fstE f n=0) with h2 | h2;exact h2;exact absurd h2 h1) j zo
def figE (ss:List RS) (gs:List RG):Int :=
 if 40 < ss.length∨8 < gs.length then 4
 else if fstE (errS ss) ss.length≠0 then fstE (errS ss) ss.length
 else fstE (λi=>errG (gs.getD i ⟨0,[],⟨false,[],[]⟩⟩) ss.length) gs.length
def frame (ss:List RS) (gs:List RG):List (Po × Po) × List Vt × Int :=
 if figE ss gs≠0 then ([],[],figE ss gs)
 else if (List.range ss.length).any (bigN ss)=true then ([],[],4)
 else ((frN ss ss.length).cs,(frN ss ss.length).vs,0)
theorem Zwm {n:Int} {l:List Int} (h:outB n l=false) {k:Nat} (hk:k < l.length):0≤gI l k∧gI l k < n:=by
 unfold outB at h;rw [List.any_eq_false] at h;have:=h (gI l k) (by rw [Zf8 hk];exact Zy6 hk);simp only [ZAc,Zzi] at this;omega
theorem Zk2 {ss:List RS} {i:Nat} (hi:i < ss.length) (h:errS ss i=0):0≤arS ss[i].k∧(ss[i].ar.length:Int)=arS ss[i].k∧(∀k,k < ss[i].ar.length→0≤gI ss[i].ar k∧gI ss[i].ar k < (i:Int))∧(ss[i].k=2→ss[i].r.ok=true):=by
 unfold errS at h;rw [show ss.getD i RS.zero=ss[i] from by rw [Zyu,Zym hi];rfl] at h;generalize ss[i]=s at *;simp only at h;split at h
 ·omega
 ·split at h
  ·omega
  ·split at h
   ·omega
   ·split at h
    ·omega
    ·rename_i h1 h2 h3 h4;refine⟨zo,zo,λk hk=>Zwm (by simpa using h3) hk,λh5=>?_⟩
     cases h6:s.r.ok with
     | true=>rfl
     | false=>exact absurd (.inl ⟨h5,h6⟩) h4
attribute [local go_sem] Zbw Zbp Zbu Za8 Zba Za9 Za6 Za7 Zcd Zb2 Zb4 Zdh Zcf Zby Zce Zdi
theorem irRaw (s:Bool) (l:List Nat) (hl:Lm l) (hs:l.length≤100000000):Pure prog 161 [.agg [.v (.bool s),lim l]] (.v (.bool (RQ.zok s l))):=by
 unfold RQ.zok valL;by_cases h:l.length=0
 ·rw [Zyo h,Bool.true_or,ZAv,Bool.and_true];cases s
  ·refine pI func161 rfl ntmps161 results161 call161 ?_;exact wklp (w_1 @Za4) w_t w_t (w_r 0) w_z
  ·refine pI func161 rfl ntmps161 results161 call161 ?_;exact wklp (w_1 @Za4) w_t w_t (w_r 0) w_z
 ·rw [Zyl h,Bool.false_or,ZA9,ZCe,Bool.and_true];have ei:(l.length:Int) - 1=((l.length - 1:Nat):Int):=zo;have hlm:=Zbn hl (l.length - 1);by_cases hg:gN l (l.length - 1)=0
  ·rw [Zyo hg];cases s
   ·refine pI func161 rfl ntmps161 results161 call161 ?_;exact wklp (w_2 ei @Za4) w_t (w_1 @ZB4) (w_r 0) w_z
   ·refine pI func161 rfl ntmps161 results161 call161 ?_;exact wklp (w_2 ei @Za4) w_t (w_1 @ZB4) (w_r 0) w_z
  ·rw [Zyl hg];cases s
   ·refine pI func161 rfl ntmps161 results161 call161 ?_;exact wklp (w_2 ei @Za4) w_t (w_1 @ZCe) (w_r 0) w_z
   ·refine pI func161 rfl ntmps161 results161 call161 ?_;exact wklp (w_2 ei @Za4) w_t (w_1 @ZCe) (w_r 0) w_z
theorem Zvl (r:RQ) (h:r.lm 100000000):Pure prog 117 [r.av] (.v (.bool r.ok)):=by
 obtain⟨s,l,d⟩:=r;obtain⟨h1,h2,h3,h4⟩:=h;simp only at h1 h2 h3 h4;have c1:=irRaw s l h1 h3;unfold RQ.ok;simp only;generalize RQ.zok s l=z at *;by_cases hd:d.length=0
 ·have:decide (0 < d.length)=false:=Zyl zo;rw [this,ZA9];cases z
  ·refine pI func117 rfl ntmps117 results117 call117 ?_;exact wklp (w_1 @Za4) (w_1 c1) w_t (w_r 0) w_z
  ·refine pI func117 rfl ntmps117 results117 call117 ?_;exact wklp (w_1 @Za4) (w_1 c1) w_t (w_r 0) w_z
 ·have:decide (0 < d.length)=true:=Zyo zo;rw [this,Bool.and_true];have ei:(d.length:Int) - 1=((d.length - 1:Nat):Int):=zo;have hlm:=Zbn h2 (d.length - 1)
  cases z with
  | false =>
    rw [Zzc,Zzc];refine pI func117 rfl ntmps117 results117 call117 ?_;exact wklp (w_1 @Za4) (w_1 c1) w_t (w_r 0) w_z
  | true =>
    rw [ZAv];by_cases hg:gN d (d.length - 1)=0
    ·have:valL d=false:=by unfold valL;rw [Zyl hd,Zyo hg];rfl
     rw [this,Zzc];refine pI func117 rfl ntmps117 results117 call117 ?_;exact wklp (w_2 ei @Za4) (w_1 c1) w_t (w_r 0) w_z
    ·have hv:valL d=true:=by unfold valL;rw [Zyl hd,Zyl hg];rfl
     rw [hv,ZAv];have hdt:=(Zmh h2).1 hv;have l4:(toL (nv d)).length≤100000000:=by rw [←hdt];exact h4
     have c2:=Zlu (nv d) zo;have c3:=natGcd l d zo zo h1 h2
     have n0:nv d≠0:=by
      intro h0;rw [h0,Zau] at hdt;rw [hdt] at hd;exact hd rfl
     have gl:(toL (Nat.gcd (nv l) (nv d))).length≤100000000:=Zyz (Zdz (Nat.gcd_le_right _ zo)) l4;have c4:=Zlu (Nat.gcd (nv l) (nv d)) zo;rw [←hdt] at c2;have hb:(Nat.gcd (nv l) (nv d) == 1)=decide (Nat.gcd (nv l) (nv d)=1):=by rw [Zzg,ZAn,Zzi]
     rw [hb];by_cases h1d:nv d=1
     ·rw [Zyo h1d] at c2;rw [Zyo (show Nat.gcd (nv l) (nv d)=1 by rw [h1d,Nat.gcd_one_right])];clear c3 c4 hdt;refine pI func117 rfl ntmps117 results117 call117 ?_;exact wklp (w_2 ei @Za4) (w_2 c1 c2) (w_1 @decide_true) (w_r 0) w_z
     ·rw [Zyl h1d] at c2;clear hdt hb gl;generalize decide (Nat.gcd (nv l) (nv d)=1)=v at *;generalize toL (Nat.gcd (nv l) (nv d))=lg' at *;refine pI func117 rfl ntmps117 results117 call117 ?_;exact wklp (w_2 ei @Za4) (w_4 c1 c2 c3 c4) w_t (w_r 0) w_z
theorem lwAr (k:Int):Pure prog 114 [iv k] (iv (arS k)):=by
 unfold arS;refine pI func114 rfl ntmps114 results114 call114 ?_;(focus (refine wklp w_t w_t w_t (w_r 0) ?_;(repeat' first|exact w_t|apply w_l);all_goals intros));all_goals (congr 2;repeat' split)
 all_goals (first|rfl|omega)
theorem lwNone (r:RQ):Pure prog 118 [r.av] (.v (.bool r.none)):=by
 obtain⟨s,l,d⟩:=r;unfold RQ.none;simp only;cases s
 ·refine pI func118 rfl ntmps118 results118 call118 ?_;(focus (refine wklp (w_1 @Za4) w_t w_t (w_r 0) ?_;(repeat' first|exact w_t|apply w_l);all_goals intros))
 ·refine pI func118 rfl ntmps118 results118 call118 ?_;(focus (refine wklp (w_1 @Za4) w_t w_t (w_r 0) ?_;(repeat' first|exact w_t|apply w_l);all_goals intros))
theorem rlAr (k:Int):Pure prog 69 [iv k] (iv (arS k)):=by
 unfold arS;refine pI func69 rfl ntmps69 results69 call69 ?_;exact wklp w_t w_t w_t (w_r 0) w_z;all_goals (congr 2;repeat' split)
 all_goals (first|rfl|omega)
theorem rlNone (r:RQ):Pure prog 70 [r.av] (.v (.bool r.none)):=by
 obtain⟨s,l,d⟩:=r;unfold RQ.none;simp only;cases s
 ·refine pI func70 rfl ntmps70 results70 call70 ?_;exact wklp (w_1 @Za4) w_t w_t (w_r 0) w_z
 ·refine pI func70 rfl ntmps70 results70 call70 ?_;exact wklp (w_1 @Za4) w_t w_t (w_r 0) w_z
theorem prAr (k:Int):Pure prog 122 [iv k] (iv (arG k)):=by
 unfold arG;refine pI func122 rfl ntmps122 results122 call122 ?_;(focus (refine wklp w_t w_t w_t (w_r 0) ?_;(repeat' first|exact w_t|apply w_l);all_goals intros));all_goals (congr 2;repeat' split)
 all_goals (first|rfl|omega)
theorem prNone (r:RQ):Pure prog 123 [r.av] (.v (.bool r.none)):=by
 obtain⟨s,l,d⟩:=r;unfold RQ.none;simp only;cases s
 ·refine pI func123 rfl ntmps123 results123 call123 ?_;(focus (refine wklp (w_1 @Za4) w_t w_t (w_r 0) ?_;(repeat' first|exact w_t|apply w_l);all_goals intros))
 ·refine pI func123 rfl ntmps123 results123 call123 ?_;(focus (refine wklp (w_1 @Za4) w_t w_t (w_r 0) ?_;(repeat' first|exact w_t|apply w_l);all_goals intros))
theorem rrAr (k:Int):Pure prog 72 [iv k] (iv (arG k)):=by
 unfold arG;refine pI func72 rfl ntmps72 results72 call72 ?_;exact wklp w_t w_t w_t (w_r 0) w_z;all_goals (congr 2;repeat' split)
 all_goals (first|rfl|omega)
theorem rrNone (r:RQ):Pure prog 73 [r.av] (.v (.bool r.none)):=by
 obtain⟨s,l,d⟩:=r;unfold RQ.none;simp only;cases s
 ·refine pI func73 rfl ntmps73 results73 call73 ?_;exact wklp (w_1 @Za4) w_t w_t (w_r 0) w_z
 ·refine pI func73 rfl ntmps73 results73 call73 ?_;exact wklp (w_1 @Za4) w_t w_t (w_r 0) w_z
theorem Zl7 {α:Type} (F:α→Bool) (l:List α):∃n,n≤l.length∧(∀j (h:j < l.length),j < n→F l[j]=false)∧(∀h:n < l.length,F l[n]=true)∧l.any F=decide (n < l.length):=by
 induction l with
 | nil=>exact⟨0,by simp,by simp,by simp,by simp⟩
 | cons a l ih =>
   obtain⟨n,h1,h2,h3,h4⟩:=ih
   cases ha:F a with
   | true=>exact⟨0,by simp,λj h h'=>zo,λ_=>ha,by simp [ha]⟩
   | false =>
     refine⟨n+1,by simpa using h1,λj h h'=>?_,λh=>h3 (by simpa using h),by simp [ha,h4]⟩
     cases j with
     | zero=>exact ha
     | succ j=>exact h2 j (by simpa using h) zo
theorem ck1 (a i:Int):Pure prog 116 [iv a,.pimm [iv i]] (.v (.bool (decide (a < 0) || decide (i≤a)))):=by
 refine pI func116 rfl ntmps116 results116 call116 ?_;(focus (refine wklp w_t w_t w_t (w_r 0) ?_;(repeat' first|exact w_t|apply w_l);all_goals intros))
theorem slIdx1 (l:List Int) (i:Int) (hl:l.length≤1000000000):∃z:Int,Pure prog 160 [ivs l,.fn 116 [.pimm [iv i]]] (iv z)∧decide (0≤z)=outB i l:=by
 obtain⟨n,h1,h2,h3,h4⟩:=Zl7 (λa=>decide (a < 0) || decide (i≤a)) l;refine⟨if n < l.length then (n:Int) else -1,?_,?_⟩
 ·refine pI func160 rfl ntmps160 results160 call160 ?_;(focus (refine wkap (w_1 @Zbm) w_t (w_r 0) ?_;(repeat' first|exact w_t|apply w_l);all_goals intros));refine Zab (ι:=Nat) (λk e m=>k≤n∧e 0=ivs l∧e 1=.fn 116 [.pimm [iv i]]∧e 7=iv l.length∧e 8=iv k) (λk=>n - k) 0 zr ?_ ?_
  ·rintro k e m ⟨hk,e0,e1,e7,e8⟩
   by_cases hlt:k < l.length
   ·have hg:=Zad iv hlt;by_cases hkn:k < n
    ·have hb:=h2 k hlt hkn;have c:=ck1 l[k] i;rw [hb] at c;clear hb;generalize l[k]=a at *;(focus (refine wkap (w_6 e0 e1 e7 e8 hg @Zbm) (w_1 c) (w_r 0) ?_;(repeat' first|exact w_t|apply w_l);all_goals intros));exact⟨k+1,⟨zo,gW e0,gW e1,gW e7,gS⟩,zo⟩
    ·have hkn:k=n:=zo;subst hkn;have hb:=h3 hlt;have c:=ck1 l[k] i;rw [hb] at c;rw [Zyk hlt];clear hb;generalize l[k]=a at *;(focus (refine wklp (w_6 e0 e1 e7 e8 hg @Zbm) (w_1 c) w_t (w_r 0) ?_;(repeat' first|exact w_t|apply w_l);all_goals intros))
   ·rw [Zyj zo];(focus (refine wklp (w_5 e0 e1 e7 e8 @Zbm) w_t w_t (w_r 0) ?_;(repeat' first|exact w_t|apply w_l);all_goals intros))
  ·exact⟨Zyv _,gC,gC,by(simp (disch:=omega) only [go_sem,Zyn]<;>repeat' first|rfl|refine⟨?_,?_⟩),gC⟩
 ·unfold outB;rw [h4,Zzg,Zzi,Zzi];split<;>omega
theorem slCon1 (l:List Int) (i:Int) (hl:l.length≤1000000000):Pure prog 115 [ivs l,.fn 116 [.pimm [iv i]]] (.v (.bool (outB i l))):=by
 obtain⟨z,c,hz⟩:=slIdx1 l i hl;rw [←hz];refine pI func115 rfl ntmps115 results115 call115 ?_;(focus (refine wklp w_t (w_1 c) w_t (w_r 0) ?_;(repeat' first|exact w_t|apply w_l);all_goals intros))
theorem ck2 (t s:RS):Pure prog 121 [t.av,.pimm [iv s.k,strA s.nm,ivs s.ar,.v (.bool s.r.s),lim s.r.l,lim s.r.d]] (.v (.bool (t.nm.toList == s.nm.toList))):=by
 obtain⟨a,b,c,d⟩:=t;obtain⟨a',b',c',d'⟩:=s;refine pI func121 rfl ntmps121 results121 call121 ?_;(focus (refine wklp w_t w_t w_t (w_r 0) ?_;(repeat' first|exact w_t|apply w_l);all_goals intros))
theorem slIdx2 (l:List RS) (s:RS) (hl:l.length≤1000000000):∃z:Int,Pure prog 165 [.sl 6 (l.map RS.av),.fn 121 [.pimm [iv s.k,strA s.nm,ivs s.ar,.v (.bool s.r.s),lim s.r.l,lim s.r.d]]] (iv z)∧decide (0≤z)=l.any (λt=>t.nm.toList == s.nm.toList):=by
 obtain⟨n,h1,h2,h3,h4⟩:=Zl7 (λt:RS=>t.nm.toList == s.nm.toList) l;refine⟨if n < l.length then (n:Int) else -1,?_,?_⟩
 ·refine pI func165 rfl ntmps165 results165 call165 ?_;(focus (refine wkap (w_1 @Zbm) w_t (w_r 0) ?_;(repeat' first|exact w_t|apply w_l);all_goals intros));refine Zab (ι:=Nat) (λk e m=>k≤n∧e 0=.sl 6 (l.map RS.av)∧e 1=.fn 121 [.pimm [iv s.k,strA s.nm,ivs s.ar,.v (.bool s.r.s),lim s.r.l,lim s.r.d]]∧e 7=iv l.length∧e 8=iv k) (λk=>n - k) 0 zr ?_ ?_
  ·rintro k e m ⟨hk,e0,e1,e7,e8⟩
   by_cases hlt:k < l.length
   ·have hg:=Zad RS.av hlt;by_cases hkn:k < n
    ·have hb:=h2 k hlt hkn;have c:=ck2 l[k] s;rw [hb] at c;clear hb;generalize l[k]=a at *;obtain⟨a1,a2,a3,a4⟩:=a;(focus (refine wkap (w_6 e0 e1 e7 e8 hg @Zbm) (w_1 c) (w_r 0) ?_;(repeat' first|exact w_t|apply w_l);all_goals intros));exact⟨k+1,⟨zo,gW e0,gW e1,gW e7,gS⟩,zo⟩
    ·have hkn:k=n:=zo;subst hkn;have hb:=h3 hlt;have c:=ck2 l[k] s;rw [hb] at c;rw [Zyk hlt];clear hb;generalize l[k]=a at *;obtain⟨a1,a2,a3,a4⟩:=a;(focus (refine wklp (w_6 e0 e1 e7 e8 hg @Zbm) (w_1 c) w_t (w_r 0) ?_;(repeat' first|exact w_t|apply w_l);all_goals intros))
   ·rw [Zyj zo];(focus (refine wklp (w_5 e0 e1 e7 e8 @Zbm) w_t w_t (w_r 0) ?_;(repeat' first|exact w_t|apply w_l);all_goals intros))
  ·exact⟨Zyv _,gC,gC,by(simp (disch:=omega) only [go_sem,Zyn]<;>repeat' first|rfl|refine⟨?_,?_⟩),gC⟩
 ·rw [h4,Zzg,Zzi,Zzi];split<;>omega
theorem slCon2 (l:List RS) (s:RS) (hl:l.length≤1000000000):Pure prog 120 [.sl 6 (l.map RS.av),.fn 121 [.pimm [iv s.k,strA s.nm,ivs s.ar,.v (.bool s.r.s),lim s.r.l,lim s.r.d]]] (.v (.bool (l.any (λt=>t.nm.toList == s.nm.toList)))):=by
 obtain⟨z,c,hz⟩:=slIdx2 l s hl;rw [←hz];refine pI func120 rfl ntmps120 results120 call120 ?_;(focus (refine wklp w_t (w_1 c) w_t (w_r 0) ?_;(repeat' first|exact w_t|apply w_l);all_goals intros))
def RS.sm (s:RS):Prop:=s.r.lm 100000000∧s.nm.size≤9223372036854775807∧s.ar.length≤1000000000
def RG.sm (g:RG):Prop:=g.r.lm 100000000∧g.ar.length≤1000000000
theorem lwCheck (ss:List RS) (i:Nat) (hi:i < ss.length) (hl:ss.length≤1000000000) (hs:∀s∈ss,s.sm):Pure prog 74 [.sl 6 (ss.map RS.av),iv i] (iv (errS ss i)):=by
 have hg:=Zad RS.av hi;have hsm:=hs _ (Zy6 hi);have e0:errS ss i=errS ss i:=rfl;unfold errS at e0 ⊢;rw [show ss.getD i RS.zero=ss[i] from by rw [Zyu,Zym hi];rfl];clear e0;have htk:(ss.map RS.av).take i=(ss.take i).map RS.av:=(List.map_take ..).symm;have c2:=slCon2 (ss.take i) ss[i] (by rw [Zy1];omega);rw [←htk] at c2;have hlm:(ss.map RS.av).length=ss.length:=Zyn ..;generalize ss.map RS.av=M at *;generalize ss[i]=s at *;clear htk;clear hs;obtain⟨h1,h2,h3⟩:=hsm;have ca:=lwAr s.k;have cr:=Zvl s.r h1;have cn:=lwNone s.r
 have cm:=nmName s.nm h2;have c1:=slCon1 s.ar i h3;have hst:=Zir s.nm;have hla:(s.ar.map iv).length=s.ar.length:=Zyn ..;obtain⟨k,nm,ar,r,rl,rd⟩:=s;simp only at *;generalize (ss.take i).any (λt=>t.nm.toList == nm.toList)=any at *;generalize arS k=a at *;generalize outB (i:Int) ar=o at *;generalize RQ.ok ⟨r,rl,rd⟩=ok at *;generalize RQ.none ⟨r,rl,rd⟩=no at *;generalize namB nm=nb at *;by_cases w1:a < 0
 ·rw [Zyk w1];refine pI func74 rfl ntmps74 results74 call74 ?_;(focus (refine wklp (w_3 hg hlm hla) (w_1 ca) w_t (w_r 0) ?_;(repeat' first|exact w_t|apply w_l);all_goals intros))
 ·rw [Zyj w1];by_cases w2:(ar.length:Int)≠a
  ·rw [Zyk w2];refine pI func74 rfl ntmps74 results74 call74 ?_;(focus (refine wklp (w_3 hg hlm hla) (w_1 ca) w_t (w_r 0) ?_;(repeat' first|exact w_t|apply w_l);all_goals intros))
  ·rw [Zyj w2]
   cases o with
   | true =>
     rw [Zyk rfl];refine pI func74 rfl ntmps74 results74 call74 ?_;(focus (refine wkax (w_3 hg hlm hla) (w_1 ca) w_t (w_1 c1) w_t w_t w_y (w_r 0) ?_;(repeat' first|exact w_t|apply w_l);all_goals intros))
     (all_goals (try simp (disch:=omega) only [go_sem,Zyo,Zyl,Zyk,Zyj,Int.reduceAdd,Int.reduceSub,Int.reduceToNat,Zyw]));(all_goals first|done|rfl|(congr 2;first|done|omega|(rw [Zzg];simp only [bool_to_prop,Zyy,Zzn,Zzo,Zzp,Zzq];omega))|skip)
   | false =>
     rw [Zyj zd];by_cases w3:(k=2∧ok=false)∨(k≠2∧no=false)
     ·rw [Zyk w3];rcases w3 with⟨hk,rfl⟩ | ⟨hk,rfl⟩
      ·subst hk;refine pI func74 rfl ntmps74 results74 call74 ?_;(focus (refine wkax (w_3 hg hlm hla) (w_2 ca cr) w_t (w_1 c1) w_t w_t w_y (w_r 0) ?_;(repeat' first|exact w_t|apply w_l);all_goals intros))
       (all_goals (try simp (disch:=omega) only [go_sem,Zyo,Zyl,Zyk,Zyj,Int.reduceAdd,Int.reduceSub,Int.reduceToNat,Zyw]));(all_goals first|done|rfl|(congr 2;first|done|omega|(rw [Zzg];simp only [bool_to_prop,Zyy,Zzn,Zzo,Zzp,Zzq];omega))|skip)
      ·refine pI func74 rfl ntmps74 results74 call74 ?_;(focus (refine wkax (w_3 hg hlm hla) (w_2 ca cn) w_t (w_1 c1) w_t w_t w_y (w_r 0) ?_;(repeat' first|exact w_t|apply w_l);all_goals intros))
       (all_goals (try simp (disch:=omega) only [go_sem,Zyo,Zyl,Zyk,Zyj,Int.reduceAdd,Int.reduceSub,Int.reduceToNat,Zyw]));(all_goals first|done|rfl|(congr 2;first|done|omega|(rw [Zzg];simp only [bool_to_prop,Zyy,Zzn,Zzo,Zzp,Zzq];omega))|skip)
     ·rw [Zyj w3]
      have w4:(k=2∧ok=true)∨(k≠2∧no=true):=by
       by_cases hk:k=2
       ·cases ok
        ·exact absurd (.inl ⟨hk,rfl⟩) w3
        ·exact .inl ⟨hk,rfl⟩
       ·cases no
        ·exact absurd (.inr ⟨hk,rfl⟩) w3
        ·exact .inr ⟨hk,rfl⟩
      clear w3;by_cases w5:nm.size=0
      ·rw [Zyk w5];rw [Zyo w5] at hst;rcases w4 with⟨hk,rfl⟩ | ⟨hk,rfl⟩
       ·subst hk;refine pI func74 rfl ntmps74 results74 call74 ?_;(focus (refine wkax (w_4 hg hlm hla hst) (w_2 ca cr) w_t (w_1 c1) w_t w_t w_y (w_r 0) ?_;(repeat' first|exact w_t|apply w_l);all_goals intros))
        (all_goals (try simp (disch:=omega) only [go_sem,Zyo,Zyl,Zyk,Zyj,Int.reduceAdd,Int.reduceSub,Int.reduceToNat,Zyw]));(all_goals first|done|rfl|(congr 2;first|done|omega|(rw [Zzg];simp only [bool_to_prop,Zyy,Zzn,Zzo,Zzp,Zzq];omega))|skip)
       ·refine pI func74 rfl ntmps74 results74 call74 ?_;(focus (refine wkax (w_4 hg hlm hla hst) (w_2 ca cn) w_t (w_1 c1) w_t w_t w_y (w_r 0) ?_;(repeat' first|exact w_t|apply w_l);all_goals intros))
        (all_goals (try simp (disch:=omega) only [go_sem,Zyo,Zyl,Zyk,Zyj,Int.reduceAdd,Int.reduceSub,Int.reduceToNat,Zyw]));(all_goals first|done|rfl|(congr 2;first|done|omega|(rw [Zzg];simp only [bool_to_prop,Zyy,Zzn,Zzo,Zzp,Zzq];omega))|skip)
      ·rw [Zyj w5];rw [Zyl w5] at hst
       cases nb with
       | false =>
         rw [Zyk rfl];rcases w4 with⟨hk,rfl⟩ | ⟨hk,rfl⟩
         ·subst hk;refine pI func74 rfl ntmps74 results74 call74 ?_;(focus (refine wkax (w_4 hg hlm hla hst) (w_3 ca cr cm) w_t (w_1 c1) w_t w_t w_y (w_r 0) ?_;(repeat' first|exact w_t|apply w_l);all_goals intros))
          (all_goals (try simp (disch:=omega) only [go_sem,Zyo,Zyl,Zyk,Zyj,Int.reduceAdd,Int.reduceSub,Int.reduceToNat,Zyw]));(all_goals first|done|rfl|(congr 2;first|done|omega|(rw [Zzg];simp only [bool_to_prop,Zyy,Zzn,Zzo,Zzp,Zzq];omega))|skip)
         ·refine pI func74 rfl ntmps74 results74 call74 ?_;(focus (refine wkax (w_4 hg hlm hla hst) (w_3 ca cn cm) w_t (w_1 c1) w_t w_t w_y (w_r 0) ?_;(repeat' first|exact w_t|apply w_l);all_goals intros))
          (all_goals (try simp (disch:=omega) only [go_sem,Zyo,Zyl,Zyk,Zyj,Int.reduceAdd,Int.reduceSub,Int.reduceToNat,Zyw]));(all_goals first|done|rfl|(congr 2;first|done|omega|(rw [Zzg];simp only [bool_to_prop,Zyy,Zzn,Zzo,Zzp,Zzq];omega))|skip)
       | true =>
         rw [Zyj zd];rcases w4 with⟨hk,rfl⟩ | ⟨hk,rfl⟩
         ·subst hk;cases any
          ·refine pI func74 rfl ntmps74 results74 call74 ?_;(focus (refine wkax (w_5 hg hlm hla hst @Zgo) (w_3 ca cr cm) w_t (w_2 c1 c2) w_t w_t w_y (w_r 0) ?_;(repeat' first|exact w_t|apply w_l);all_goals intros))
           (all_goals (try simp (disch:=omega) only [go_sem,Zyo,Zyl,Zyk,Zyj,Int.reduceAdd,Int.reduceSub,Int.reduceToNat,Zyw]));(all_goals first|done|rfl|(congr 2;first|done|omega|(rw [Zzg];simp only [bool_to_prop,Zyy,Zzn,Zzo,Zzp,Zzq];omega))|skip)
          ·refine pI func74 rfl ntmps74 results74 call74 ?_;(focus (refine wkax (w_5 hg hlm hla hst @Zgo) (w_3 ca cr cm) w_t (w_2 c1 c2) w_t w_t w_y (w_r 0) ?_;(repeat' first|exact w_t|apply w_l);all_goals intros))
           (all_goals (try simp (disch:=omega) only [go_sem,Zyo,Zyl,Zyk,Zyj,Int.reduceAdd,Int.reduceSub,Int.reduceToNat,Zyw]));(all_goals first|done|rfl|(congr 2;first|done|omega|(rw [Zzg];simp only [bool_to_prop,Zyy,Zzn,Zzo,Zzp,Zzq];omega))|skip)
         ·cases any
          ·refine pI func74 rfl ntmps74 results74 call74 ?_;(focus (refine wkax (w_5 hg hlm hla hst @Zgo) (w_3 ca cn cm) w_t (w_2 c1 c2) w_t w_t w_y (w_r 0) ?_;(repeat' first|exact w_t|apply w_l);all_goals intros))
           (all_goals (try simp (disch:=omega) only [go_sem,Zyo,Zyl,Zyk,Zyj,Int.reduceAdd,Int.reduceSub,Int.reduceToNat,Zyw]));(all_goals first|done|rfl|(congr 2;first|done|omega|(rw [Zzg];simp only [bool_to_prop,Zyy,Zzn,Zzo,Zzp,Zzq];omega))|skip)
          ·refine pI func74 rfl ntmps74 results74 call74 ?_;(focus (refine wkax (w_5 hg hlm hla hst @Zgo) (w_3 ca cn cm) w_t (w_2 c1 c2) w_t w_t w_y (w_r 0) ?_;(repeat' first|exact w_t|apply w_l);all_goals intros))
           (all_goals (try simp (disch:=omega) only [go_sem,Zyo,Zyl,Zyk,Zyj,Int.reduceAdd,Int.reduceSub,Int.reduceToNat,Zyw]));(all_goals first|done|rfl|(congr 2;first|done|omega|(rw [Zzg];simp only [bool_to_prop,Zyy,Zzn,Zzo,Zzp,Zzq];omega))|skip)
theorem Zki {n:Int} {l:List Int} {k:Nat} (hk:k < l.length):outB n (l.take (k+1))=(outB n (l.take k) || (decide (l[k] < 0) || decide (n≤l[k]))):=by
 unfold outB;rw [ZBx hk,List.any_append,List.any_cons,List.any_nil,Bool.or_false]
theorem Zqg {n:Int} {l:List Int} {k:Nat} (hk:k < l.length) (h:(decide (l[k] < 0) || decide (n≤l[k]))=true):outB n l=true:=List.any_eq_true.2 ⟨l[k],Zy6 hk,h⟩
theorem prRight (g:RG) (n:Nat) (hn:n≤1000000000) (hs:g.sm):Pure prog 75 [g.av,iv n] (iv (errG g n)):=by
 obtain⟨h1,h3⟩:=hs;unfold errG;have ca:=prAr g.k;have cr:Pure prog 117 [g.r.av] (.v (.bool g.r.ok)):=Zvl g.r h1;have cn:=prNone g.r;have hla:(g.ar.map iv).length=g.ar.length:=Zyn ..;obtain⟨k,ar,r,rl,rd⟩:=g;simp only at *;generalize arG k=a at *;generalize RQ.ok ⟨r,rl,rd⟩=ok at *;generalize RQ.none ⟨r,rl,rd⟩=no at *;by_cases w1:a=0
 ·rw [Zyk w1];subst w1;refine pI func75 rfl ntmps75 results75 call75 ?_;(focus (refine wklp (w_1 hla) (w_1 ca) w_t (w_r 0) ?_;(repeat' first|exact w_t|apply w_l);all_goals intros))
 ·rw [Zyj w1];by_cases w2:(ar.length:Int)≠a
  ·rw [Zyk w2];refine pI func75 rfl ntmps75 results75 call75 ?_;(focus (refine wklp (w_1 hla) (w_1 ca) w_t (w_r 0) ?_;(repeat' first|exact w_t|apply w_l);all_goals intros))
  ·rw [Zyj w2];refine pI func75 rfl ntmps75 results75 call75 ?_;(focus (refine wkap (w_1 hla) (w_1 ca) (w_r 0) ?_;(repeat' first|exact w_t|apply w_l);all_goals intros));rename_i g2;refine Zab (ι:=Nat) (λi e m=>i≤ar.length∧e 1=iv n∧e 2=.pbox 2 g2 0∧m 2=some (.box g2 80 [iv k,ivs ar,.v (.bool r),lim rl,lim rd] false)∧e 19=ivs ar∧e 20=iv ar.length∧e 21=iv i∧outB n (ar.take i)=false) (λi=>ar.length - i) 0 zr ?_ ?_
   ·rintro i e m ⟨hi,e1,e2,m2,ea,en,ei,hno⟩
    by_cases hlt:i < ar.length
    ·have hg:=Zad iv hlt;have hst:=Zki (n:=n) hlt;have hat:=Zqg (n:=n) hlt;rw [hno,Bool.false_or] at hst;generalize ar[i]=x at *;by_cases hx:x < 0∨(n:Int)≤x
     ·have hb:(decide (x < 0) || decide ((n:Int)≤x))=true:=by simpa using hx
      rw [Zyk (hat hb)];clear hat hst hb;rcases hx with hx | hx
      ·(focus (refine wklp (w_8 e1 e2 m2 ea en ei hg hla) w_t w_t (w_r 0) ?_;(repeat' first|exact w_t|apply w_l);all_goals intros))
      ·(focus (refine wklp (w_8 e1 e2 m2 ea en ei hg hla) w_t w_t (w_r 0) ?_;(repeat' first|exact w_t|apply w_l);all_goals intros))
     ·have hb:(decide (x < 0) || decide ((n:Int)≤x))=false:=by simpa using hx
      rw [hb] at hst;clear hat hb;(focus (refine wkap (w_8 e1 e2 m2 ea en ei hg hla) w_t (w_r 0) ?_;(repeat' first|exact w_t|apply w_l);all_goals intros));exact⟨i+1,⟨zo,gW e1,gW e2,gW m2,gW ea,gW en,gS,hst⟩,zo⟩
    ·have hi2:i=ar.length:=zo;subst hi2;rw [ZAf] at hno;rw [hno,Zyj zd];by_cases hk:k=9
     ·subst hk;cases ok
      ·rw [Zyk zs];(focus (refine wklp (w_7 e1 e2 m2 ea en ei hla) (w_2 cr cn) w_t (w_r 0) ?_;(repeat' first|exact w_t|apply w_l);all_goals intros))
      ·rw [Zyj zs];(focus (refine wklp (w_7 e1 e2 m2 ea en ei hla) (w_2 cr cn) w_t (w_r 0) ?_;(repeat' first|exact w_t|apply w_l);all_goals intros))
     ·cases no
      ·rw [Zyk (by simp [hk])];(focus (refine wklp (w_7 e1 e2 m2 ea en ei hla) (w_2 cr cn) w_t (w_r 0) ?_;(repeat' first|exact w_t|apply w_l);all_goals intros))
      ·rw [Zyj (by simp [hk])];(focus (refine wklp (w_7 e1 e2 m2 ea en ei hla) (w_2 cr cn) w_t (w_r 0) ?_;(repeat' first|exact w_t|apply w_l);all_goals intros))
   ·exact⟨Zyv _,gC,gC,gC,gC,gW hla,gC,by simp [outB]⟩
theorem Zvm (g:RG) (n:Nat) (hn:n≤1000000000) (hs:g.sm):Pure prog 33 [g.av,iv n] (iv (errG g n)):=by
 obtain⟨h1,h3⟩:=hs;unfold errG;have ca:=rrAr g.k;have cr:Pure prog 16 [g.r.av] (.v (.bool g.r.ok)):=Zob g.r.s g.r.l g.r.d h1.1 h1.2.1 (Zyz h1.2.2.1 zd) (Zyz h1.2.2.2 zd);have cn:=rrNone g.r;have hla:(g.ar.map iv).length=g.ar.length:=Zyn ..;obtain⟨k,ar,r,rl,rd⟩:=g;simp only at *;generalize arG k=a at *;generalize RQ.ok ⟨r,rl,rd⟩=ok at *;generalize RQ.none ⟨r,rl,rd⟩=no at *;by_cases w1:a=0
 ·rw [Zyk w1];subst w1;refine pI func33 rfl ntmps33 results33 call33 ?_;exact wkld (w_1 hla) (w_1 ca) w_t w_t w_z
 ·rw [Zyj w1];by_cases w2:(ar.length:Int)≠a
  ·rw [Zyk w2];refine pI func33 rfl ntmps33 results33 call33 ?_;exact wkld (w_1 hla) (w_1 ca) w_t (w_1 (w_d 3 [(5,iv a)] [] [])) w_z
  ·rw [Zyj w2];refine pI func33 rfl ntmps33 results33 call33 ?_
   (refine wkad (w_1 hla) (w_1 ca) (w_1 (w_d 3 [(5,iv a)] [] [])) (w_s ?_);intros)
   rename_i g2;refine Zab (ι:=Nat) (λi e m=>i≤ar.length∧e 1=iv n∧e 2=.pbox 2 g2 0∧m 2=some (.box g2 80 [iv k,ivs ar,.v (.bool r),lim rl,lim rd] false)∧e 19=ivs ar∧e 20=iv ar.length∧e 21=iv i∧outB n (ar.take i)=false) (λi=>ar.length - i) 0 zr ?_ ?_
   ·rintro i e m ⟨hi,e1,e2,m2,ea,en,ei,hno⟩
    by_cases hlt:i < ar.length
    ·have hg:=Zad iv hlt;have hst:=Zki (n:=n) hlt;have hat:=Zqg (n:=n) hlt;rw [hno,Bool.false_or] at hst;generalize ar[i]=x at *;by_cases hx:x < 0∨(n:Int)≤x
     ·have hb:(decide (x < 0) || decide ((n:Int)≤x))=true:=by simpa using hx
      rw [Zyk (hat hb)];clear hat hst hb;rcases hx with hx | hx
      ·exact wkld (w_8 e1 e2 m2 ea en ei hg hla) w_t w_t w_t w_z
      ·exact wkld (w_8 e1 e2 m2 ea en ei hg hla) w_t w_t w_t w_z
     ·have hb:(decide (x < 0) || decide ((n:Int)≤x))=false:=by simpa using hx
      rw [hb] at hst;clear hat hb
      (refine wkad (w_8 e1 e2 m2 ea en ei hg hla) w_t w_t (w_s ?_);intros)
      exact⟨i+1,⟨zo,gW e1,gW e2,gW m2,gW ea,gW en,gS,hst⟩,zo⟩
    ·have hi2:i=ar.length:=zo;subst hi2;rw [ZAf] at hno;rw [hno,Zyj zd];by_cases hk:k=9
     ·subst hk;cases ok
      ·rw [Zyk zs];exact wkld (w_7 e1 e2 m2 ea en ei hla) (w_2 cr cn) w_t w_t w_z
      ·rw [Zyj zs];exact wkld (w_7 e1 e2 m2 ea en ei hla) (w_2 cr cn) w_t w_t w_z
     ·cases no
      ·rw [Zyk (by simp [hk])];exact wkld (w_7 e1 e2 m2 ea en ei hla) (w_2 cr cn) w_t w_t w_z
      ·rw [Zyj (by simp [hk])];exact wkld (w_7 e1 e2 m2 ea en ei hla) (w_2 cr cn) w_t w_t w_z
   ·exact⟨Zyv _,gC,gC,gC,gC,gW hla,gC,by simp [outB]⟩
theorem lwRight (ss:List RS) (gs:List RG) (h1:ss.length≤1000000000) (h2:gs.length≤1000000000) (hs:∀s∈ss,s.sm) (hg:∀g∈gs,g.sm):Pure prog 34 [figA ss gs] (iv (figE ss gs)):=by
 have hls:(ss.map RS.av).length=ss.length:=Zyn ..;have hlg:(gs.map RG.av).length=gs.length:=Zyn ..;have eg:∀i (h:i < gs.length),(gs.map RG.av).getD i .u=gs[i].av:=λi h=>Zad RG.av h;have eg2:∀i (h:i < gs.length),gs.getD i ⟨0,[],⟨false,[],[]⟩⟩=gs[i]:=λi h=>by rw [Zyu,Zym h];rfl
 have cc:∀i,i < ss.length→Pure prog 74 [.sl 6 (ss.map RS.av),iv i] (iv (errS ss i)):=λi hi=>lwCheck ss i hi h1 hs;have cg:∀i (h:i < gs.length),Pure prog 75 [gs[i].av,iv ss.length] (iv (errG gs[i] ss.length)):=λi h=>prRight gs[i] ss.length h1 (hg _ (Zy6 h));unfold figE;show Pure _ _ [.agg [.sl 6 (ss.map RS.av),.sl 5 (gs.map RG.av)]] _;generalize ss.map RS.av=M at *;generalize gs.map RG.av=N at *;by_cases hb:40 < ss.length∨8 < gs.length
 ·rw [Zyk hb];refine pI func34 rfl ntmps34 results34 call34 ?_;(focus (refine wklp (w_2 hls hlg) w_t w_t (w_r 0) ?_;(repeat' first|exact w_t|apply w_l);all_goals intros))
 ·rw [Zyj hb];refine pI func34 rfl ntmps34 results34 call34 ?_;(focus (refine wkap (w_2 hls hlg) w_t (w_r 0) ?_;(repeat' first|exact w_t|apply w_l);all_goals intros));rename_i g1;refine Zab (ι:=Nat) (λi e m=>i≤ss.length∧e 1=.pbox 1 g1 0∧m 1=some (.box g1 49 [.sl 6 M,.sl 5 N] false)∧e 20=iv ss.length∧e 21=iv i∧∀j,j < i→errS ss j=0) (λi=>ss.length - i) 0 zr ?_ ?_
  ·rintro i e m ⟨hi,e1,m1,e20,e21,hz⟩
   by_cases hlt:i < ss.length
   ·have c:=cc i hlt;by_cases he:errS ss i=0
    ·rw [he] at c;(focus (refine wkap (w_6 e1 m1 e20 e21 hls hlg) (w_1 c) (w_r 0) ?_;(repeat' first|exact w_t|apply w_l);all_goals intros));exact⟨i+1,⟨zo,gW e1,gW m1,gW e20,gS,λj hj=>by by_cases e:j=i;rw [e];exact he;exact hz j zo⟩,zo⟩
    ·rw [Zkz hz he hlt,Zyk he];generalize errS ss i=z at *;(focus (refine wklp (w_6 e1 m1 e20 e21 hls hlg) (w_1 c) w_t (w_r 0) ?_;(repeat' first|exact w_t|apply w_l);all_goals intros))
   ·have hi2:i=ss.length:=zo;subst hi2;rw [Zfx hz,Zyj zs];(focus (refine wkap (w_6 e1 m1 e20 e21 hls hlg) w_t (w_r 0) ?_;(repeat' first|exact w_t|apply w_l);all_goals intros));refine Zab (ι:=Nat) (λi e m=>i≤gs.length∧e 1=.pbox 1 g1 0∧m 1=some (.box g1 49 [.sl 6 M,.sl 5 N] false)∧e 33=.sl 5 N∧e 34=iv gs.length∧e 35=iv i∧∀j,j < i→errG (gs.getD j ⟨0,[],⟨false,[],[]⟩⟩) ss.length=0) (λi=>gs.length - i) 0 zr ?_ ?_
    ·rintro i e m ⟨hi,e1,m1,e33,e34,e35,hz⟩
     by_cases hlt:i < gs.length
     ·have c:=cg i hlt;have hgi:=eg i hlt;have hgj:=eg2 i hlt;have hfa:=@Zkz (λi=>errG (gs.getD i ⟨0,[],⟨false,[],[]⟩⟩) ss.length) i hz;simp only [hgj] at hfa;generalize gs[i]=G at *;by_cases he:errG G ss.length=0
      ·rw [he] at c;clear hfa;obtain⟨k,ar,r,rl,rd⟩:=G;(focus (refine wkap (w_8 e1 m1 e33 e34 e35 hls hlg hgi) (w_1 c) (w_r 0) ?_;(repeat' first|exact w_t|apply w_l);all_goals intros));exact⟨i+1,⟨zo,gW e1,gW m1,gW e33,gW e34,gS,λj hj=>by by_cases e:j=i;rw [e,hgj];exact he;exact hz j zo⟩,zo⟩
      ·rw [hfa he hlt];clear hfa;generalize errG G ss.length=z at *;obtain⟨k,ar,r,rl,rd⟩:=G;(focus (refine wklp (w_8 e1 m1 e33 e34 e35 hls hlg hgi) (w_1 c) w_t (w_r 0) ?_;(repeat' first|exact w_t|apply w_l);all_goals intros))
     ·have hi2:i=gs.length:=zo;subst hi2;rw [Zfx hz];(focus (refine wklp (w_7 e1 m1 e33 e34 e35 hls hlg) w_t w_t (w_r 0) ?_;(repeat' first|exact w_t|apply w_l);all_goals intros))
    ·exact⟨Zyv _,gW e1,gW m1,gC,gW hlg,gC,λj hj=>zo⟩
  ·exact⟨Zyv _,gC,gC,gW hls,gC,λj hj=>zo⟩
theorem rlCheck (ss:List RS) (i:Nat) (hi:i < ss.length) (hl:ss.length≤1000000000) (hs:∀s∈ss,s.sm):Pure prog 32 [.sl 6 (ss.map RS.av),iv i] (iv (errS ss i)):=by
 have hg:=Zad RS.av hi;have hsm:=hs _ (Zy6 hi);unfold errS;rw [show ss.getD i RS.zero=ss[i] from by rw [Zyu,Zym hi];rfl];have hgt:∀k,k < i→∃t:RS,((ss.map RS.av).take i).getD k .u=t.av∧(ss.take i)[k]?=some t:=λk hk=>by
  refine⟨ss[k],?_,?_⟩
  ·rw [Zyu,ZAe,Zyk hk,Zzu,Zym zo];rfl
  ·rw [ZAe,Zyk hk,Zym zo]
 have hlm:(ss.map RS.av).length=ss.length:=Zyn ..;have hlt:(ss.take i).length=i:=by rw [Zy1];omega
 generalize ss.map RS.av=M at *;generalize ss[i]=s at *;generalize ss.take i=T at *;clear hs;obtain⟨h1,h2,h3⟩:=hsm;have ca:=rlAr s.k;have cr:Pure prog 16 [s.r.av] (.v (.bool s.r.ok)):=Zob s.r.s s.r.l s.r.d h1.1 h1.2.1 (Zyz h1.2.2.1 zd) (Zyz h1.2.2.2 zd);have cn:=rlNone s.r;have cm:=Zro s.nm h2;have hst:=Zir s.nm;have hla:(s.ar.map iv).length=s.ar.length:=Zyn ..;obtain⟨k,nm,ar,r,rl,rd⟩:=s;simp only at *;generalize arS k=a at *;generalize RQ.ok ⟨r,rl,rd⟩=ok at *;generalize RQ.none ⟨r,rl,rd⟩=no at *;generalize namB nm=nb at *;by_cases w1:a < 0
 ·rw [Zyk w1];refine pI func32 rfl ntmps32 results32 call32 ?_;exact wkld (w_3 hg hlm hla) (w_1 ca) w_t w_t w_z
 ·rw [Zyj w1];by_cases w2:(ar.length:Int)≠a
  ·rw [Zyk w2];refine pI func32 rfl ntmps32 results32 call32 ?_;exact wkld (w_3 hg hlm hla) (w_1 ca) w_t (w_1 (w_d 4 [(5,iv a)] [] [])) w_z
  ·rw [Zyj w2];refine pI func32 rfl ntmps32 results32 call32 ?_
   (refine wkad (w_3 hg hlm hla) (w_1 ca) (w_1 (w_d 4 [(5,iv a)] [] [])) (w_s ?_);intros)
   rename_i g5;refine Zab (ι:=Nat) (λx e m=>x≤ar.length∧e 0=.sl 6 M∧e 1=iv i∧e 5=.pbox 5 g5 0∧m 5=some (.box g5 78 [iv k,strA nm,ivs ar,.v (.bool r),lim rl,lim rd] false)∧e 26=ivs ar∧e 27=iv ar.length∧e 28=iv x∧outB i (ar.take x)=false) (λx=>ar.length - x) 0 zr ?_ ?_
   ·rintro x e m ⟨hx,e0,e1,e5,m5,e26,e27,e28,hno⟩
    by_cases hlt2:x < ar.length
    ·have hga:=Zad iv hlt2;have hso:=Zki (n:=(i:Int)) hlt2;have hat:=Zqg (n:=(i:Int)) hlt2;rw [hno,Bool.false_or] at hso;generalize ar[x]=y at *;by_cases hy:y < 0∨(i:Int)≤y
     ·have hb:(decide (y < 0) || decide ((i:Int)≤y))=true:=by simpa using hy
      rw [Zyk (hat hb)];clear hat hso hb;rcases hy with hy | hy
      ·exact wkld (w_9 e0 e1 e5 m5 e26 e27 e28 hga hla) w_t w_t w_t w_z
      ·exact wkld (w_9 e0 e1 e5 m5 e26 e27 e28 hga hla) w_t w_t w_t w_z
     ·have hb:(decide (y < 0) || decide ((i:Int)≤y))=false:=by simpa using hy
      rw [hb] at hso;clear hat hb
      (refine wkad (w_9 e0 e1 e5 m5 e26 e27 e28 hga hla) w_t w_t (w_s ?_);intros)
      exact⟨x+1,⟨zo,gW e0,gW e1,gW e5,gW m5,gW e26,gW e27,gS,hso⟩,zo⟩
    ·have hi2:x=ar.length:=zo;subst hi2;rw [ZAf] at hno;rw [hno,Zyj zd];by_cases w3:(k=2∧ok=false)∨(k≠2∧no=false)
     ·rw [Zyk w3];rcases w3 with⟨hk,rfl⟩ | ⟨hk,rfl⟩
      ·subst hk;exact wkld (w_8 e0 e1 e5 m5 e26 e27 e28 hla) (w_1 cr) w_t w_t w_z
      ·exact wkld (w_8 e0 e1 e5 m5 e26 e27 e28 hla) (w_1 cn) w_t w_t w_z
     ·rw [Zyj w3]
      have w4:(k=2∧ok=true)∨(k≠2∧no=true):=by
       by_cases hk:k=2
       ·cases ok
        ·exact absurd (.inl ⟨hk,rfl⟩) w3
        ·exact .inl ⟨hk,rfl⟩
       ·cases no
        ·exact absurd (.inr ⟨hk,rfl⟩) w3
        ·exact .inr ⟨hk,rfl⟩
      clear w3;have rest:∀(e:Nat→AV) (m:Mem),e 0=.sl 6 M→e 1=iv i→e 5=.pbox 5 g5 0→m 5=some (.box g5 78 [iv k,strA nm,ivs ar,.v (.bool r),lim rl,lim rd] false)→True:=λ_ _ _ _ _ _=>trivial;clear rest;by_cases w5:nm.size=0
      ·rw [Zyk w5];rw [Zyo w5] at hst;rcases w4 with⟨hk,rfl⟩ | ⟨hk,rfl⟩
       ·subst hk;exact wkld (w_9 e0 e1 e5 m5 e26 e27 e28 hla hst) (w_1 cr) w_t w_t w_z
       ·exact wkld (w_9 e0 e1 e5 m5 e26 e27 e28 hla hst) (w_1 cn) w_t w_t w_z
      ·rw [Zyj w5];rw [Zyl w5] at hst
       cases nb with
       | false =>
         rw [Zyk rfl];rcases w4 with⟨hk,rfl⟩ | ⟨hk,rfl⟩
         ·subst hk;exact wkld (w_9 e0 e1 e5 m5 e26 e27 e28 hla hst) (w_2 cr cm) w_t w_t w_z
         ·exact wkld (w_9 e0 e1 e5 m5 e26 e27 e28 hla hst) (w_2 cn cm) w_t w_t w_z
       | true =>
         rw [Zyj zd];rcases w4 with⟨hk,rfl⟩ | ⟨hk,rfl⟩
         all_goals first|(subst hk;(refine wkad (w_12 e0 e1 e5 m5 e26 e27 e28 hla hlm hst @Zgo @l_take) (w_2 cr cm) w_t (w_s ?_);intros))|(refine wkad (w_12 e0 e1 e5 m5 e26 e27 e28 hla hlm hst @Zgo @l_take) (w_2 cn cm) w_t (w_s ?_);intros)
         all_goals
          refine Zab (ι:=Nat) (λx e m=>x≤i∧e 5=.pbox 5 g5 0∧(∃k,m 5=some (.box g5 78 [iv k,strA nm,ivs ar,.v (.bool r),lim rl,lim rd] false))∧e 69=.sl 6 (M.take i)∧e 70=iv i∧e 71=iv x∧(T.take x).any (λt=>t.nm.toList == nm.toList)=false) (λx=>i - x) 0 zr ?_ ?_
          ·rintro x e m ⟨hx,e5,⟨k,m5⟩,e69,e70,e71,hnq⟩
           by_cases hlt2:x < i
           ·obtain⟨t,ht,ht2⟩:=hgt x hlt2;have htl:x < T.length:=zo;have htx:T[x]=t:=by rw [Zym htl] at ht2;cases ht2;rfl
            have hsn:T.take (x+1)=T.take x++[t]:=by rw [ZBx htl,htx]
            have hmem:t∈T:=by rw [←htx];exact Zy6 htl
            obtain⟨tk,tn,ta,tr,tl,td⟩:=t;have hll:(M.take i).length=i:=by rw [Zy1];omega
            cases hw:(tn.toList == nm.toList) with
            | true =>
              have hany:T.any (λt=>t.nm.toList == nm.toList)=true:=List.any_eq_true.2 ⟨_,hmem,hw⟩;rw [Zyk hany];exact wkld (w_8 e5 m5 e69 e70 e71 ht hw hll) w_t w_t w_t w_z
            | false =>
              (refine wkad (w_8 e5 m5 e69 e70 e71 ht hw hll) w_t w_t (w_s ?_);intros)
              exact⟨x+1,⟨zo,gW e5,⟨k,gW m5⟩,gW e69,gW e70,gS,by rw [hsn,List.any_append,hnq];simp [hw]⟩,zo⟩
           ·have hxi:x=i:=zo;subst hxi;rw [show T.take x=T from by rw [←hlt,ZAf]] at hnq;rw [hnq,Zyj zd];exact wkld (w_5 e5 m5 e69 e70 e71) w_t w_t w_t w_z
          ·exact⟨Zyv _,gW e5,⟨_,gW m5⟩,gC,by(simp (disch:=omega) only [go_sem,Zy1,hlm,ZAk]<;>repeat' first|rfl|refine⟨?_,?_⟩),gC,by simp⟩
   ·exact⟨Zyv _,gC,gC,gC,gC,gC,gW hla,gC,by simp [outB]⟩
theorem rlRight (ss:List RS) (gs:List RG) (h1:ss.length≤1000000000) (h2:gs.length≤1000000000) (hs:∀s∈ss,s.sm) (hg:∀g∈gs,g.sm):Pure prog 13 [figA ss gs] (iv (figE ss gs)):=by
 have hls:(ss.map RS.av).length=ss.length:=Zyn ..;have hlg:(gs.map RG.av).length=gs.length:=Zyn ..;have eg:∀i (h:i < gs.length),(gs.map RG.av).getD i .u=gs[i].av:=λi h=>Zad RG.av h;have eg2:∀i (h:i < gs.length),gs.getD i ⟨0,[],⟨false,[],[]⟩⟩=gs[i]:=λi h=>by rw [Zyu,Zym h];rfl
 have cc:∀i,i < ss.length→Pure prog 32 [.sl 6 (ss.map RS.av),iv i] (iv (errS ss i)):=λi hi=>rlCheck ss i hi h1 hs;have cg:∀i (h:i < gs.length),Pure prog 33 [gs[i].av,iv ss.length] (iv (errG gs[i] ss.length)):=λi h=>Zvm gs[i] ss.length h1 (hg _ (Zy6 h));unfold figE;show Pure _ _ [.agg [.sl 6 (ss.map RS.av),.sl 5 (gs.map RG.av)]] _;generalize ss.map RS.av=M at *;generalize gs.map RG.av=N at *;by_cases hb:40 < ss.length∨8 < gs.length
 ·rw [Zyk hb];refine pI func13 rfl ntmps13 results13 call13 ?_;exact wklp (w_2 hls hlg) w_t w_t (w_r 0) w_z
 ·rw [Zyj hb];refine pI func13 rfl ntmps13 results13 call13 ?_
  (refine wkap (w_2 hls hlg) w_t (w_r 0) (w_s ?_);intros)
  rename_i g1;refine Zab (ι:=Nat) (λi e m=>i≤ss.length∧e 1=.pbox 1 g1 0∧m 1=some (.box g1 49 [.sl 6 M,.sl 5 N] false)∧e 20=iv ss.length∧e 21=iv i∧∀j,j < i→errS ss j=0) (λi=>ss.length - i) 0 zr ?_ ?_
  ·rintro i e m ⟨hi,e1,m1,e20,e21,hz⟩
   by_cases hlt:i < ss.length
   ·have c:=cc i hlt;by_cases he:errS ss i=0
    ·rw [he] at c
     (refine wkap (w_6 e1 m1 e20 e21 hls hlg) (w_1 c) (w_r 0) (w_s ?_);intros)
     exact⟨i+1,⟨zo,gW e1,gW m1,gW e20,gS,λj hj=>by by_cases e:j=i;rw [e];exact he;exact hz j zo⟩,zo⟩
    ·rw [Zkz hz he hlt,Zyk he];generalize errS ss i=z at *;exact wklp (w_6 e1 m1 e20 e21 hls hlg) (w_1 c) w_t (w_r 0) w_z
   ·have hi2:i=ss.length:=zo;subst hi2;rw [Zfx hz,Zyj zs]
    (refine wkap (w_6 e1 m1 e20 e21 hls hlg) w_t (w_r 0) (w_s ?_);intros)
    refine Zab (ι:=Nat) (λi e m=>i≤gs.length∧e 1=.pbox 1 g1 0∧m 1=some (.box g1 49 [.sl 6 M,.sl 5 N] false)∧e 33=.sl 5 N∧e 34=iv gs.length∧e 35=iv i∧∀j,j < i→errG (gs.getD j ⟨0,[],⟨false,[],[]⟩⟩) ss.length=0) (λi=>gs.length - i) 0 zr ?_ ?_
    ·rintro i e m ⟨hi,e1,m1,e33,e34,e35,hz⟩
     by_cases hlt:i < gs.length
     ·have c:=cg i hlt;have hgi:=eg i hlt;have hgj:=eg2 i hlt;have hfa:=@Zkz (λi=>errG (gs.getD i ⟨0,[],⟨false,[],[]⟩⟩) ss.length) i hz;simp only [hgj] at hfa;generalize gs[i]=G at *;by_cases he:errG G ss.length=0
      ·rw [he] at c;clear hfa;obtain⟨k,ar,r,rl,rd⟩:=G
       (refine wkap (w_8 e1 m1 e33 e34 e35 hls hlg hgi) (w_1 c) (w_r 0) (w_s ?_);intros)
       exact⟨i+1,⟨zo,gW e1,gW m1,gW e33,gW e34,gS,λj hj=>by by_cases e:j=i;rw [e,hgj];exact he;exact hz j zo⟩,zo⟩
      ·rw [hfa he hlt];clear hfa;generalize errG G ss.length=z at *;obtain⟨k,ar,r,rl,rd⟩:=G;exact wklp (w_8 e1 m1 e33 e34 e35 hls hlg hgi) (w_1 c) w_t (w_r 0) w_z
     ·have hi2:i=gs.length:=zo;subst hi2;rw [Zfx hz];exact wklp (w_7 e1 m1 e33 e34 e35 hls hlg) w_t w_t (w_r 0) w_z
    ·exact⟨Zyv _,gW e1,gW m1,gC,gW hlg,gC,λj hj=>zo⟩
  ·exact⟨Zyv _,gC,gC,gW hls,gC,λj hj=>zo⟩
attribute [go_sem] underlying280 underlying156 underlying157 underlying63 zMono
attribute [local go_sem] Zcq Zsv Zej Zrg Zsw Zcr Zcw Zek
theorem Zn1 {q:Rat}:(q.num.sign=0)=(q=0):=by rw [Int.sign_eq_zero_iff_zero,Rat.num_eq_zero]
theorem Zye {p q:Po} {i k:Nat} (hi:i < p.length) (hk:k < q.length):addM (p.drop i) (q.drop k) =
 if ltM q[k].2 p[i].2 then p[i] :: addM (p.drop (i+1)) (q.drop k) else if ltM p[i].2 q[k].2 then q[k] :: addM (p.drop i) (q.drop (k+1))
 else if p[i].1+q[k].1=0 then addM (p.drop (i+1)) (q.drop (k+1)) else (p[i].1+q[k].1,p[i].2) :: addM (p.drop (i+1)) (q.drop (k+1)):=by
 rw [ZBm hi,ZBm hk];rw [show addM (p[i] :: p.drop (i+1)) (q[k] :: q.drop (k+1))=_ from by unfold addM;rw [addP]]
theorem Znp {p q:Po} {i k:Nat} (h:p.length≤i∨q.length≤k):addM (p.drop i) (q.drop k)=p.drop i++q.drop k:=by
 rcases h with h | h
 ·rw [Zz6 h];simp [addM,addP]
 ·rw [Zz6 h,Zzz];exact Zs0 _
theorem poTimes1 {p:Po} {t:Tm} {i:Nat} (hi:i < p.length):Zbi mulM (p.take (i+1)) t=Zbi mulM (p.take i) t++[(p[i].1*t.1,mulM p[i].2 t.2)]:=by
 unfold Zbi;rw [ZBx hi,Zzh];rfl
theorem Zgx (p:Po) (t:Tm):(Zbi mulM p t).length=p.length:=by unfold Zbi;simp
def SumOk (l:List Po) (K e:Nat):Prop:=∀a b,PK (sumH ltM ((l.drop a).take b)) K e∧(sumH ltM ((l.drop a).take b)).length≤1000000
theorem SumOk.take {l:List Po} {K e:Nat} (h:SumOk l K e) (k:Nat):SumOk (l.take k) K e:=λa b=>by
 rw [List.drop_take,List.take_take];exact h a _
theorem SumOk.drop {l:List Po} {K e:Nat} (h:SumOk l K e) (k:Nat):SumOk (l.drop k) K e:=λa b=>by
 rw [ZBu];exact h _ b
theorem SumOk.all {l:List Po} {K e:Nat} (h:SumOk l K e):PK (sumH ltM l) K e∧(sumH ltM l).length≤1000000:=by
 have:=h 0 l.length
 rwa [ZAg,ZAf] at this
def partsM (p q:Po):List Po:=if q.length < p.length then q.map λt=>Zbi mulM p t else p.map λt=>Zbi mulM q t
theorem SumOk.one {l:List Po} {K e:Nat} (hl:l.length≤1) (h:∀p∈l,PK p K e∧p.length≤1000000):SumOk l K e:=λa b=>by
 have h0:PK (sumH ltM []) K e∧(sumH ltM []).length≤1000000:=by rw [show sumH ltM []=[] from by simp [sumH]];exact⟨.nil,by simp⟩
 match l,hl,h with
 | [],_,_=>simpa using h0
 | [p],_,h =>
   match a,b with
   | 0,0=>simpa using h0
   | 0,b+1=>simp only [ZAg,ZDb,List.take_nil];rw [show sumH ltM [p]=p from by simp [sumH]];exact h p (.head _)
   | a+1,b=>simpa using h0
theorem PK.neg {q:Po} {k e:Nat} (hq:PK q k e):PK (Zb0 (-1) q) k e:=λt ht=>by
 obtain⟨s,hs,rfl⟩:=List.mem_map.1 ht;refine⟨?_,(hq s hs).2⟩;show Sz (s.1*-1) k;rw [show s.1*-1=-s.1 by grind];exact(hq s hs).1.neg
theorem Zgg (a:Rat) (p:Po):(Zb0 a p).length=p.length:=by unfold Zb0;simp
theorem unit_set (v:Nat):((List.replicate (v+1) (iv 0)).set v (iv 1))=(Zfi v).map iv:=by
 unfold Zfi;rw [Zzh,List.map_replicate,List.replicate_succ',List.set_append_right _ _ zs];simp
theorem Zv8 (q:Rat) {k:Nat} (h:Sz q k) (hk:k≤100000000000):Pure prog 7 [ratQ q] (.v (.int .i64 q.num.sign)):=by
 have c:=zSign q.num (by have:=h.1;omega);have cn:=Ztn q h hk;generalize q.num.sign=z at *;refine pI func7 rfl ntmps7 results7 call7 ?_;exact wklp w_t (w_2 cn c) w_t (w_r 0) w_z
theorem rpLex (a b:List Int) (hs:Sm a) (ht:Sm b):Pure prog 228 [ivs a,ivs b,iv 0] (iv (lexC a b (max a.length b.length))):=by
 have c:Pure prog 228 [ivs a,ivs b,iv 0] (iv (cmpI a b 0)):=mrCmp a b 0 hs ht;have e:cmpI a b 0=lexC a b (max a.length b.length):=by unfold cmpI;rw [Zyj zo]
 rwa [e] at c
theorem Zn5 (p q:Po) {j k e:Nat} (hp:PK p j e) (hq:PK q k e) (sp:SrtM p) (sq:SrtM q) (lp:p.length≤1000000) (lq:q.length≤1000000) (hj:j≤1000000) (hk:k≤1000000) (he:e≤16777216) :
 Pure prog 200 [poA p,poA q] (poA (addM p q)):=by
 refine pI func200 rfl ntmps200 results200 call200 ?_;(focus (refine wkad (w_1 @Zbm) w_t w_t ?_;(repeat' first|exact w_t|apply w_l);all_goals intros));refine Zc4 (Frz.nilOwn (d:=5) 100 4 280 (gC)) ?_;refine Zab (ι:=Nat × Nat) (λx e m=>x.1≤p.length∧x.2≤q.length∧e 0=poA p∧e 1=poA q∧e 6=iv x.1∧e 7=iv x.2∧∃sv out,e 5=.own 100 sv∧m 100=some (.row sv 280 4 (out.map tmA) 0)∧out.length≤x.1+x.2∧addM p q=out++addM (p.drop x.1) (q.drop x.2)) (λx=>p.length+q.length - (x.1+x.2)) (0,0) zr ?_ ?_
 ·rintro ⟨i,l⟩ e m ⟨hi,hl,e0,e1,e6,e7,sv,out,e5,em,ho,hs⟩
  simp only at hi hl e6 e7 ho hs;by_cases hil:i < p.length∧l < q.length
  ·obtain⟨hi2,hl2⟩:=hil;have hg:=Zad tmA hi2;have hh:=Zad tmA hl2;have st:=Zye hi2 hl2;have ms:=hp _ (Zy6 hi2);have mt:=hq _ (Zy6 hl2);have m1:=hp.sm he (Zy6 hi2);have m2:=hq.sm he (Zy6 hl2);have d1:=sp.dom _ (Zy6 hi2);have d2:=sq.dom _ (Zy6 hl2);generalize p[i]=s at *;generalize q[l]=t at *;have cl:=rpLex s.2 t.2 m1 m2;have ca:=qAdd s.1 t.1 ms.1 mt.1 zo zo;have cz:=Zv8 (s.1+t.1) (ms.1.add mt.1) zo;have hlen:(out.map tmA).length=out.length:=Zyn ..;rw [st] at hs;obtain⟨s1,s2⟩:=s;obtain⟨t1,t2⟩:=t
   simp only at *;rcases Zt2 d1 d2 with⟨h1,h2⟩ | ⟨h1,h1',h2,h3⟩ | ⟨h1,h1',h2⟩
   ·have h3:¬ltM t2 s2:=λh=>ordM.irr _ (ordM.tr _ _ _ h h1);rw [Zyj h3,Zyk h1] at hs;rw [h2] at cl;clear st ms mt m1 m2 d1 d2 ca cz;(focus (refine wkad (w_9 e0 e1 e6 e7 e5 em hg hh @Zbm) (w_1 cl) (w_1 (w_d 8 [(10,iv (-1))] [] [])) ?_;(repeat' first|exact w_t|apply w_l);all_goals intros));refine⟨(i,l+1),⟨by simp only;omega,by simp only;omega,gW e0,gW e1,gW e6,gS,_,out++[(t1,t2)],gC,by(simp (disch:=omega) only [go_sem,Zzh]<;>repeat' first|rfl|refine⟨?_,?_⟩),by simp only [Zza,Zyx,Zy0];omega,by rw [hs,Zzt];rfl⟩,by simp only;omega⟩
   ·rw [Zyj h1',Zyj h1] at hs;rw [h3] at cl;by_cases hz:s1+t1=0
    ·rw [Zyk hz] at hs;have hz2:(s1+t1).num.sign=0:=by rw [Zn1];exact hz
     clear st ms mt m1 m2 d1 d2;generalize (s1+t1)=z at *;(focus (refine wkad (w_10 e0 e1 e6 e7 e5 em hg hh @Zbm hz2) (w_3 cl ca cz) (w_2 (w_d 8 [(10,iv 0)] [] []) (w_d 9 [(10,ratQ z)] [] [9])) ?_;(repeat' first|exact w_t|apply w_l);all_goals intros));refine⟨(i+1,l+1),⟨by simp only;omega,by simp only;omega,gW e0,gW e1,gS,gS,_,out,gW e5,gW em,by simp only;omega,hs⟩,by simp only;omega⟩
    ·rw [Zyj hz] at hs;have hz2:¬(s1+t1).num.sign=0:=by rw [Zn1];exact hz
     clear st ms mt m1 m2 d1 d2;generalize (s1+t1)=z at *;(focus (refine wkax (w_9 e0 e1 e6 e7 e5 em hg hh @Zbm) (w_3 cl ca cz) (w_3 (w_d 8 [(10,iv 0)] [] []) (w_d 9 [(10,ratQ z)] [] [9]) (w_d 11 [] [9,1009] [100,61])) w_t w_t w_t w_y (w_r 0) ?_;(repeat' first|exact w_t|apply w_l);all_goals intros));refine⟨(i+1,l+1),⟨by simp only;omega,by simp only;omega,gW e0,gW e1,gS,gS,_,out++[(z,s2)],gC,by(simp (disch:=omega) only [go_sem,Zzh]<;>repeat' first|rfl|refine⟨?_,?_⟩),by simp only [Zza,Zyx,Zy0];omega,by rw [hs,Zzt];rfl⟩,by simp only;omega⟩
   ·rw [Zyk h1] at hs;rw [h2] at cl;clear st ms mt m1 m2 d1 d2 ca cz;(focus (refine wkad (w_9 e0 e1 e6 e7 e5 em hg hh @Zbm) (w_1 cl) (w_1 (w_d 8 [(10,iv 1)] [] [])) ?_;(repeat' first|exact w_t|apply w_l);all_goals intros));refine⟨(i+1,l),⟨by simp only;omega,by simp only;omega,gW e0,gW e1,gS,gW e7,_,out++[(s1,s2)],gC,by(simp (disch:=omega) only [go_sem,Zzh]<;>repeat' first|rfl|refine⟨?_,?_⟩),by simp only [Zza,Zyx,Zy0];omega,by rw [hs,Zzt];rfl⟩,by simp only;omega⟩
  ·rw [Znp zo] at hs;by_cases hi2:i < p.length
   ·have hl2:l=q.length:=zo;subst hl2;have hg:=Zad tmA hi2;have hd:p.drop i=p[i] :: p.drop (i+1):=ZBm hi2;rw [hd] at hs
    have hs:addM p q=(out++[p[i]])++addM (p.drop (i+1)) (q.drop q.length):=by
     rw [Znp (.inr (Zyp _)),hs];simp
    clear hd;generalize p[i]=s at *;obtain⟨s1,s2⟩:=s;(focus (refine wkad (w_8 e0 e1 e6 e7 e5 em hg @Zbm) w_t w_t ?_;(repeat' first|exact w_t|apply w_l);all_goals intros));refine⟨(i+1,q.length),⟨by simp only;omega,by simp only;omega,gW e0,gW e1,gS,gW e7,_,out++[(s1,s2)],gC,by(simp (disch:=omega) only [go_sem,Zzh]<;>repeat' first|rfl|refine⟨?_,?_⟩),by simp only [Zza,Zyx,Zy0];omega,hs⟩,by simp only;omega⟩
   ·have hi3:i=p.length:=zo;subst hi3;by_cases hl2:l < q.length
    ·have hg:=Zad tmA hl2;have hd:q.drop l=q[l] :: q.drop (l+1):=ZBm hl2;rw [hd] at hs
     have hs:addM p q=(out++[q[l]])++addM (p.drop p.length) (q.drop (l+1)):=by
      rw [Znp (.inl (Zyp _)),hs];simp
     clear hd;generalize q[l]=s at *;obtain⟨s1,s2⟩:=s;(focus (refine wkad (w_8 e0 e1 e6 e7 e5 em hg @Zbm) w_t w_t ?_;(repeat' first|exact w_t|apply w_l);all_goals intros));refine⟨(p.length,l+1),⟨by simp only;omega,by simp only;omega,gW e0,gW e1,gW e6,gS,_,out++[(s1,s2)],gC,by(simp (disch:=omega) only [go_sem,Zzh]<;>repeat' first|rfl|refine⟨?_,?_⟩),by simp only [Zza,Zyx,Zy0];omega,hs⟩,by simp only;omega⟩
    ·have hl3:l=q.length:=zo;subst hl3;rw [ZCg,ZCg,Zzz,Zzz] at hs;rw [hs];(focus (refine wkld (w_7 e0 e1 e6 e7 e5 em @Zbm) w_t (w_1 em) w_t ?_;(repeat' first|exact w_t|apply w_l);all_goals intros))
 ·exact⟨Zyv _,Zyv _,gC,gC,gC,gC,_,[],gC,by(simp (disch:=omega) only [go_sem,Zzx]<;>repeat' first|rfl|refine⟨?_,?_⟩),by simp,by simp⟩
theorem rpTimes (p:Po) (t:Tm) {j k e f:Nat} (hp:PK p j e) (ht:PK [t] k f) (lp:p.length≤1000000) (hj:j≤1000000) (hk:k≤1000000) (he:e≤16777216) (hf:f≤16777216) :
 Pure prog 227 [poA p,tmA t] (poA (Zbi mulM p t)):=by
 obtain⟨t1,t2⟩:=t;refine pI func227 rfl ntmps227 results227 call227 ?_;(focus (refine wkad (w_1 @Zbm) w_t w_t ?_;(repeat' first|exact w_t|apply w_l);all_goals intros));rename_i g3;refine Zc4 (Frz.nilOwn (d:=5) 100 4 280 (gC)) ?_;refine Zab (ι:=Nat) (λi e m=>i≤p.length∧e 3=.pbox 3 g3 0∧m 3=some (.box g3 280 [.v (.bool (decide (t1.num < 0))),lim (toL t1.num.natAbs),lim (toL t1.den),ivs t2] false)∧e 0=poA p∧e 6=iv i∧∃sv,e 5=.own 100 sv∧m 100=some (.row sv 280 4 ((Zbi mulM (p.take i) (t1,t2)).map tmA) 0)) (λi=>p.length - i) 0 zr ?_ ?_
 ·rintro i e m ⟨hi,e3,m3,e0,e6,sv,e5,m11⟩
  by_cases hlt:i < p.length
  ·have hg:=Zad tmA hlt;have hs:=poTimes1 (t:=(t1,t2)) hlt;have ms:=hp _ (Zy6 hlt);have m1:=hp.sm he (Zy6 hlt);have m2:=ht.sm hf (.head _);have mt:=(ht _ (.head _)).1;have hl:(Zbi mulM (p.take i) (t1,t2)).length≤1000000:=by rw [Zgx,Zy1];omega
   generalize p[i]=s at *;have c1:=qMul s.1 t1 ms.1 mt zo zo;have c3:Pure prog 240 [ivs s.2,ivs t2] (ivs (mulM s.2 t2)):=mrMul s.2 t2 m1.wd m2.wd;obtain⟨s1,s2⟩:=s;simp only at *;clear ms m1 m2 mt;generalize s1*t1=z at *;generalize mulM s2 t2=w at *;generalize Zbi mulM (p.take i) (t1,t2)=out at *;(focus (refine wkad (w_8 e3 m3 e0 e6 e5 m11 hg @Zbm) (w_2 c1 c3) (w_1 (w_d 5 [(8,ratQ z),(16,ivs w)] [19,1019] [100,31])) ?_;(repeat' first|exact w_t|apply w_l);all_goals intros));exact⟨i+1,⟨zo,gW e3,gW m3,gW e0,gS,_,gC,by rw [hs,Zzh];exact gC⟩,zo⟩
  ·have hi2:i=p.length:=zo;subst hi2;rw [ZAf] at m11;(focus (refine wkld (w_7 e3 m3 e0 e6 e5 m11 @Zbm) w_t (w_1 m11) w_t ?_;(repeat' first|exact w_t|apply w_l);all_goals intros))
 ·exact⟨Zyv _,gC,gC,gC,gC,_,gC,by(simp (disch:=omega) only [go_sem,ZBd,Zbi,Zzx]<;>repeat' first|rfl|refine⟨?_,?_⟩)⟩
theorem Zth {p:Po} {a:Rat} {i:Nat} (hi:i < p.length):Zb0 a (p.take (i+1))=Zb0 a (p.take i)++[(p[i].1*a,p[i].2)]:=by
 unfold Zb0;rw [ZBx hi,Zzh];rfl
theorem rpScale0 (p:Po) (a:Rat) {j k e:Nat} (hp:PK p j e) (ha:Sz a k) (lp:p.length≤1000000) (hj:j≤1000000) (hk:k≤1000000) (h:a≠0) :
 Pure prog 202 [poA p,ratQ a] (poA (Zb0 a p)):=by
 have cs:=Zv8 a ha zo;have hz:¬a.num.sign=0:=by rw [Zn1];exact h
 generalize a.num.sign=sg at *;refine pI func202 rfl ntmps202 results202 call202 ?_;(focus (refine wkad (w_1 @Zbm) w_t w_t ?_;(repeat' first|exact w_t|apply w_l);all_goals intros));rename_i g3;refine Zc4 (Frz.nilOwn (d:=5) 100 4 280 (gC)) ?_;refine Zab (ι:=Nat) (λi e m=>i≤p.length∧e 3=.pbox 3 g3 0∧m 3=some (.box g3 28 [.v (.bool (decide (a.num < 0))),lim (toL a.num.natAbs),lim (toL a.den)] false)∧e 0=poA p∧e 6=iv i∧∃sv,e 5=.own 100 sv∧m 100=some (.row sv 280 4 ((Zb0 a (p.take i)).map tmA) 0)) (λi=>p.length - i) 0 zr ?_ ?_
 ·rintro i e m ⟨hi,e3,m3,e0,e6,sv,e5,m11⟩
  by_cases hlt:i < p.length
  ·have hg:=Zad tmA hlt;have hs:=Zth (a:=a) hlt;have ms:=(hp _ (Zy6 hlt)).1;have hl:(Zb0 a (p.take i)).length≤1000000:=by rw [Zgg,Zy1];omega
   generalize p[i]=s at *;have c1:=qMul s.1 a ms ha zo zo;obtain⟨s1,s2⟩:=s;simp only at *;clear ms;generalize s1*a=z at *;generalize Zb0 a (p.take i)=out at *;(focus (refine wkad (w_8 e3 m3 e0 e6 e5 m11 hg @Zbm) (w_2 c1 cs) (w_1 (w_d 5 [(7,ratQ z)] [15,1015] [100,32])) ?_;(repeat' first|exact w_t|apply w_l);all_goals intros));exact⟨i+1,⟨zo,gW e3,gW m3,gW e0,gS,_,gC,by rw [hs,Zzh];exact gC⟩,zo⟩
  ·have hi2:i=p.length:=zo;subst hi2;rw [ZAf] at m11;(focus (refine wkld (w_7 e3 m3 e0 e6 e5 m11 @Zbm) w_t (w_1 m11) w_t ?_;(repeat' first|exact w_t|apply w_l);all_goals intros))
 ·exact⟨Zyv _,gC,gC,gC,gC,_,gC,by(simp (disch:=omega) only [go_sem,ZBd,Zb0,Zzx]<;>repeat' first|rfl|refine⟨?_,?_⟩)⟩
theorem rpNeg (p:Po) {j e:Nat} (hp:PK p j e) (lp:p.length≤1000000) (hj:j≤1000000):Pure prog 226 [poA p] (poA (Zb0 (-1) p)):=by
 have c:=rpScale0 p (-1) hp ((Zkm 1 zo).neg) lp hj zo neg1;have co:=qOfM;generalize Zb0 (-1) p=r at *;generalize (-1:Rat)=q at *;refine pI func226 rfl ntmps226 results226 call226 ?_;(focus (refine wklp w_t (w_2 co c) w_t (w_r 0) ?_;(repeat' first|exact w_t|apply w_l);all_goals intros))
theorem Ztk (p q:Po) {j k e:Nat} (hp:PK p j e) (hq:PK q k e) (sp:SrtM p) (sq:SrtM q) (lp:p.length≤1000000) (lq:q.length≤1000000) (hj:j≤1000000) (hk:k≤1000000) (he:e≤16777216) :
 Pure prog 196 [poA p,poA q] (poA (subM p q)):=by
 have c1:=rpNeg q hq lq hk;have c2:=Zn5 p (Zb0 (-1) q) hp hq.neg sp (Zez sq neg1) lp (by rw [Zgg];exact lq) hj hk he;show Pure _ _ _ (poA (addM p (Zb0 (-1) q)));generalize Zb0 (-1) q=n at *;generalize addM p n=r at *;refine pI func196 rfl ntmps196 results196 call196 ?_;(focus (refine wklp w_t (w_2 c1 c2) w_t (w_r 0) ?_;(repeat' first|exact w_t|apply w_l);all_goals intros))
theorem Zov {p q:Po} {i:Nat} (hi:i < q.length):mlM p (q.take (i+1))=addM (mlM p (q.take i)) (Zbi mulM p q[i]):=by
 unfold mlM mulR;rw [ZBx hi,List.foldl_append];rfl
theorem Zjp {q:Po} (h:SrtM q) (i:Nat):SrtM (q.take i):=⟨λt ht=>h.1 t (Zzy ht),List.Pairwise.sublist (List.take_sublist i q) h.2⟩
theorem rpMul (p q:Po) {j k e f K E:Nat} (hp:PK p j e) (hq:PK q k f) (sp:SrtM p) (sq:SrtM q) (lp:p.length≤1000000) (lq:q.length≤1000000) (hj:j≤500000) (hk:k≤500000) (he:e≤8000000) (hf:f≤8000000)
 (ho:∀i,PK (mlM p (q.take i)) K E∧(mlM p (q.take i)).length≤1000000) (hK:K≤1000000) (hE:E≤16777216) :
 Pure prog 197 [poA p,poA q] (poA (mlM p q)):=by
 refine pI func197 rfl ntmps197 results197 call197 ?_;(focus (refine wkap (w_1 @Zbm) w_t (w_r 0) ?_;(repeat' first|exact w_t|apply w_l);all_goals intros));refine Zc4 (Frz.nil (d:=5) 4 (gC)) ?_;refine Zab (ι:=Nat) (λi e' m=>i≤q.length∧e' 0=poA p∧e' 1=poA q∧e' 6=iv i∧e' 5=poA (mlM p (q.take i))) (λi=>q.length - i) 0 zr ?_ ?_
 ·rintro i e' m ⟨hi,e0,e1,e6,e5⟩
  by_cases hlt:i < q.length
  ·have hg:=Zad tmA hlt;have ht:PK [q[i]] k f:=λu hu=>by rw [ZAr] at hu;subst hu;exact hq _ (Zy6 hlt)
   have c1:=rpTimes p q[i] hp ht lp zo zo zo zo;have c2:=Zn5 (mlM p (q.take i)) (Zbi mulM p q[i]) (k:=j+k) (e:=max E (e+f)) ((ho i).1.mono (Zyp _) zo) ((hp.times ht).mono (Zyp _) zo) (Zeq ordM mulK sp (Zjp sq i)) (Zh3 mulK sp (sq.1 _ (Zy6 hlt)).1 (sq.1 _ (Zy6 hlt)).2) (ho i).2 (by rw [Zgx];exact lp) hK zo zo;rw [←Zov hlt] at c2;generalize q[i]=t at *;obtain⟨t1,t2⟩:=t;generalize Zbi mulM p (t1,t2)=w at *;generalize mlM p (q.take i)=out at *;generalize hout:mlM p (q.take (i+1))=out' at *;(focus (refine wkap (w_6 e0 e1 e6 e5 hg @Zbm) (w_2 c1 c2) (w_r 0) ?_;(repeat' first|exact w_t|apply w_l);all_goals intros))
   exact⟨i+1,⟨zo,gW e0,gW e1,gS,by rw [hout];exact gC⟩,zo⟩
  ·have hi2:i=q.length:=zo;subst hi2;rw [ZAf] at e5;(focus (refine wklp (w_5 e0 e1 e6 e5 @Zbm) w_t w_t (w_r 0) ?_;(repeat' first|exact w_t|apply w_l);all_goals intros))
 ·exact⟨Zyv _,gC,gC,gC,by(simp (disch:=omega) only [go_sem,ZBd,mlM,mulR,List.foldl_nil,Zzx]<;>repeat' first|rfl|refine⟨?_,?_⟩)⟩
theorem Zrn (c:Rat) (m:List Int) {k:Nat} (hc:Sz c k) (hk:k≤1000000):Pure prog 225 [.v (.slice none 0 0),ratQ c,ivs m] (poA (if c=0 then [] else [(c,m)])):=by
 have cs:=Zv8 c hc zo;have cn:=Ztn c hc zo;by_cases h:c=0
 ·rw [Zyk h];have hz:c.num.sign=0:=by rw [Zn1];exact h
  refine pI func225 rfl ntmps225 results225 call225 ?_;(focus (refine wkax (w_1 hz) (w_1 cs) w_t w_t w_t w_t w_y (w_r 2) ?_;(repeat' first|exact w_t|apply w_l);all_goals intros))
  (all_goals (try simp (disch:=omega) only [go_sem,Zyo,Zyl,Zyk,Zyj,Int.reduceAdd,Int.reduceSub,Int.reduceToNat,Zyw]));(all_goals first|done|rfl|(congr 2;first|done|omega|(rw [Zzg];simp only [bool_to_prop,Zyy,Zzn,Zzo,Zzp,Zzq];omega))|skip)
 ·rw [Zyj h];have hz:¬c.num.sign=0:=by rw [Zn1];exact h
  generalize c.num.sign=z at *;refine pI func225 rfl ntmps225 results225 call225 ?_;(focus (refine wkax w_t (w_2 cs cn) w_t w_t w_t w_t w_y (w_r 2) ?_;(repeat' first|exact w_t|apply w_l);all_goals intros))
  (all_goals (try simp (disch:=omega) only [go_sem,Zyo,Zyl,Zyk,Zyj,Int.reduceAdd,Int.reduceSub,Int.reduceToNat,Zyw]));(all_goals first|done|rfl|(congr 2;first|done|omega|(rw [Zzg];simp only [bool_to_prop,Zyy,Zzn,Zzo,Zzp,Zzq];omega))|skip)
theorem rpVar (v:Nat) (hv:v < 1000):Pure prog 198 [iv v] (poA (varM v)):=by
 unfold varM;by_cases h:v < 64
 ·rw [Zyk h];have c1:=qOf 1 zo;rw [show((1:Nat):Rat)=1 from rfl] at c1;have c2:=Zrn 1 (Zfi v) (Zkm 1 zo) zo;rw [Zyj (show(1:Rat)≠0 by decide)] at c2;have hu:(iv 0 :: List.replicate v (iv 0)).set v (iv 1)=(Zfi v).map iv:=by rw [←List.replicate_succ];exact unit_set v
  generalize (1:Rat)=q at *;have hl:(List.replicate (v+1) (iv 0)).length=v+1:=by simp
  refine pI func198 rfl ntmps198 results198 call198 ?_;(focus (refine wkax (w_2 hl hu) (w_1 c1) w_t (w_1 c2) w_t w_t w_y (w_r 0) ?_;(repeat' first|exact w_t|apply w_l);all_goals intros))
  (all_goals (try simp (disch:=omega) only [go_sem,Zyo,Zyl,Zyk,Zyj,Int.reduceAdd,Int.reduceSub,Int.reduceToNat,Zyw]));(all_goals first|done|rfl|(congr 2;first|done|omega|(rw [Zzg];simp only [bool_to_prop,Zyy,Zzn,Zzo,Zzp,Zzq];omega))|skip)
 ·rw [Zyj h];refine Zcj (r:=.v (.slice none 0 0)) ?_ (.nil 4);refine pI func198 rfl ntmps198 results198 call198 ?_;(focus (refine wklp w_t w_t w_t (w_r 0) ?_;(repeat' first|exact w_t|apply w_l);all_goals intros))
theorem Zvn (c:Rat) {k:Nat} (hc:Sz c k) (hk:k≤1000000):Pure prog 190 [ratQ c] (poA (if c=0 then [] else [(c,[])])):=by
 have c2:=Zrn c [] hc hk;have c2:=Zry c2 (.cons (.refl _) (.cons (.refl _) (.cons (.nil 1) .nil)));generalize (if c=0 then [] else [(c,[])])=r at *;refine pI func190 rfl ntmps190 results190 call190 ?_;(focus (refine wklp w_t (w_1 c2) w_t (w_r 0) ?_;(repeat' first|exact w_t|apply w_l);all_goals intros))
attribute [go_sem] underlying275 underlying60 underlying203 underlying59 underlying62 zVar zSlV zSlC
attribute [local go_sem] Zfq Zfz Zel Zb7 Zcc Zdc Zem Zbq Zcp
theorem Sub.nil (m:Nat):Sub (.v (.slice none 0 0)) (.sl m []):=λw imm x h=>by
 rw [h.v_inv];exact .pure ((Wk.nil m).rd (.v _))
theorem Sub.agg2 {a b a' b':AV} (h:Sub a a') (k:Sub b b'):Sub (.agg [a,b]) (.agg [a',b']):=Sub.agg _ _ rfl λj x y h1 h2=>by
 match j with
 | 0=>simp at h1 h2;subst h1;subst h2;exact h
 | 1=>simp at h1 h2;subst h1;subst h2;exact k
 | j+2=>simp at h1
theorem Zh2 {σ:Mem} {k:Nat} {e:Ent} (h:σ k=some e):upd σ k (some e)=σ:=by
 funext j;rw [Zal];split
 ·subst_vars;exact h.symm
 ·rfl
theorem Zca {K c:Nat} (h:c < 1000):(K+1000 == c)=false:=by rw [ZDj];omega
theorem Zrf {a b:List Nat} (h:u16s a=u16s b):a=b:=by
 induction a generalizing b with
 | nil=>cases b with
   | nil=>rfl
   | cons y b=>simp [u16s] at h
 | cons x a ih=>cases b with
   | nil=>simp [u16s] at h
   | cons y b =>
     rw [Zux,Zux] at h;simp only [List.cons.injEq,AV.v.injEq,Value.int.injEq,true_and] at h;rw [ih h.2,show x=y by omega]
theorem RQ.ok_eq {r:RQ} {k:Nat} (hl:r.lm k) (h:r.ok=true):r=⟨decide (r.q.num < 0),toL r.q.num.natAbs,toL r.q.den⟩:=by
 have h1:=(RQ.ok_av hl h).1;simp only [RQ.av,ratQ,AV.agg.injEq,List.cons.injEq,AV.v.injEq,Value.bool.injEq,lim,AV.sl.injEq,true_and,and_true] at h1;obtain⟨s,l,d⟩:=r;simp only at h1;rw [RQ.mk.injEq];exact⟨h1.1,Zrf h1.2.1,Zrf h1.2.2⟩
section
attribute [local go_sem] underlying3 underlying4 underlying125 underlying9 underlying53 underlying41 underlying28 underlying26 underlying24 underlying78 underlying46 underlying49 underlying275 underlying60 underlying203 underlying59 underlying62 underlying157 underlying280 sz3 by3 z3 szB zB Zbw zErr Zbp Zbu zStr Za8 zRat Zba zInt Za9 zNat Za6 Za7 Zcd Zcf zFig Zby zSlI Zce zSlS Zfq Zfz zVar Zel zSlV Zb7 Zcc Zdc Zem zSlC Zbq Zcp Zcr Zcw Zek Zcq Zej
end
theorem PK.sub {p q:Po} {j k e:Nat} (hp:PK p j e) (hq:PK q k e):PK (subM p q) (j+k+1) e:=hp.add hq.neg
theorem PK.scl {p:Po} {j k e:Nat} {a:Rat} (hp:PK p j e) (ha:Sz a k):PK (sclM a p) (j+k) e:=by
 unfold sclM;split
 ·exact .nil
 ·exact hp.scale ha
theorem PK.mulV {p:Po} {j e v:Nat} (hp:PK p j e):PK (mlM p (varM v)) (j+1) (e+1):=by
 rw [Zqo];split
 ·refine hp.times (t:=(1,Zfi v)) λu hu=>?_;rw [ZAr] at hu;subst hu;have h:=Zpm v (1,Zfi v) (by unfold varM;rw [Zyk (by assumption)];exact .head _);exact h
 ·exact .nil
theorem Zj8 {a:Rat} {p:Po} (h:SrtM p):SrtM (sclM a p):=by
 unfold sclM;split
 ·exact .nil
 ·exact Zez h ‹_›
theorem Zpv (a:Rat) (p:Po):(sclM a p).length≤p.length:=by
 unfold sclM;split
 ·simp
 ·rw [Zgg];exact Zyp _
theorem Zjr (p:Po) (v:Nat):(mlM p (varM v)).length≤p.length:=by
 rw [Zqo];split
 ·rw [Zgx];exact Zyp _
 ·simp
theorem Zhq (p q:Po):(subM p q).length≤p.length+q.length:=by
 have:=Zjy (lt:=ltM) p (Zb0 (-1) q);rw [Zgg] at this;exact this
structure Co (p:Po):Prop where
 pk:PK p 110 1
 st:SrtM p
 ln:p.length≤4000
structure StOk (cs:List (Po × Po)) (s:RS):Prop where
 k0:0≤arS s.k
 al:(s.ar.length:Int)=arS s.k
 ai:∀k,k < s.ar.length→0≤gI s.ar k∧gI s.ar k < (cs.length:Int)
 r2:s.k=2→s.r.ok=true
 rl:s.r.lm 2
section
attribute [local go_sem] underlying3 underlying4 underlying125 underlying9 underlying53 underlying41 underlying28 underlying26 underlying24 underlying78 underlying46 underlying49 underlying275 underlying60 underlying203 underlying59 underlying62 underlying157 underlying280 sz3 by3 z3 szB zB Zbw zErr Zbp Zbu zStr Za8 zRat Zba zInt Za9 zNat Za6 Za7 Zcd Zcf zFig Zby zSlI Zce zSlS Zfq Zfz zVar Zel zSlV Zb7 Zcc Zdc Zem zSlC Zbq Zcp Zcr Zcw Zek Zcq Zej
end
abbrev frmA (cs:List (Po × Po)) (vs:List Vt):AV:=.agg [.sl 2 (cs.map coA),.sl 3 (vs.map Vt.av)]
def parsN (l:List Vt) (i:Nat):List Int:=((List.range i).filter λj=>decide ((l.getD j (0,0,0)).1=1)).map λn:Nat=>(n:Int)
def cnt1 (l:List Vt):Nat:=(l.filter λv=>decide (v.1=1)).length
def cF (ss:List RS):Nat→Nat
 | 0=>0
 | i+1=>cF ss i+if (ss.getD i RS.zero).k=1 then 1 else 0
def cP (ss:List RS):Nat→Nat
 | 0=>0
 | i+1=>cP ss i+if (ss.getD i RS.zero).k=5∨(ss.getD i RS.zero).k=6 then 1 else 0
def cD (ss:List RS):Nat→Nat
 | 0=>0
 | i+1=>cD ss i+if (ss.getD i RS.zero).k=1∨(ss.getD i RS.zero).k=2∨(ss.getD i RS.zero).k=3∨(ss.getD i RS.zero).k=4∨(ss.getD i RS.zero).k=5 then 0 else 2
theorem Zxq (ss:List RS):∀i,(frN ss i).fr≤i
 | 0=>Zyp _
 | i+1=>by
   have:=Zxq ss i;unfold frN;simp only [FS.push];split<;>omega
theorem Zr7 (ss:List RS):∀i k,nfN ss i≤nfN ss (i+k)
 | i,0=>Zyp _
 | i,k+1=>Zyz (Zr7 ss i k) (by show _≤nfN ss (i+k)+_;omega)
structure FigOk (ss:List RS):Prop where
 len:ss.length≤40
 er:∀i,i < ss.length→errS ss i=0
 lm:∀s∈ss,s.r.lm 2
 nf:nfN ss ss.length≤20
theorem FigOk.fi {ss:List RS} (h:FigOk ss) {i:Nat} (hi:i≤ss.length) (hj:∀j,j < i→bigN ss j=false):∃D,FI (frN ss i) (nfN ss i) D∧nfN ss i≤20:=by
 have hr:∀s∈ss,s.k=2→s.r.ok=true:=λs hs=>by
  obtain⟨j,hj,rfl⟩:=List.mem_iff_getElem.1 hs;exact(Zk2 hj (h.er j hj)).2.2.2
 obtain⟨D,hD⟩:=frN_ok ss hr (λs hs=>lm_bd (h.lm s hs)) i hi hj;refine⟨D,hD,Zyz ?_ h.nf⟩;have:=Zr7 ss i (ss.length - i)
 rwa [show i+(ss.length - i)=ss.length by omega] at this
theorem FI.co {f:FS} {n D:Nat} (h:FI f n D) (hn:n≤20):∀c∈f.cs,Co c.1∧Co c.2:=λc hc=>by
 obtain⟨h1,h2⟩:=h.cs c hc;obtain⟨l1,l2⟩:=h.ln c hc;have hv:=h.nv;exact⟨⟨h1.pk zo h.D0 h.Dl hn,h1.1,l1⟩,⟨h2.pk zo h.D0 h.Dl hn,h2.1,l2⟩⟩
theorem FigOk.st {ss:List RS} (h:FigOk ss) {i:Nat} (hi:i < ss.length):StOk (frN ss i).cs ss[i]:=by
 obtain⟨h1,h2,h3,h4⟩:=Zk2 hi (h.er i hi);exact⟨h1,h2,λk hk=>by rw [Zhy];exact h3 k hk,h4,h.lm _ (Zy6 hi)⟩
theorem Zik {ss:List RS} {i:Nat} (hi:i < ss.length):frN ss (i+1)=⟨(frN ss i).cs++[((frN ss i).nxt i ss[i]).2],(frN ss i).vs++((frN ss i).nxt i ss[i]).1,if ss[i].k=1 then (frN ss i).fr+1 else (frN ss i).fr⟩:=by
 show(frN ss i).push i (ss.getD i RS.zero)=_;rw [show ss.getD i RS.zero=ss[i] from by rw [Zyu,Zym hi];rfl];rfl
theorem Zyb {ss:List RS} {i:Nat} (hi:i < ss.length):bigN ss i=(decide (64 < ((frN ss i).vs++((frN ss i).nxt i ss[i]).1).length) || decide (4000 < ((frN ss i).nxt i ss[i]).2.1.length) || decide (4000 < ((frN ss i).nxt i ss[i]).2.2.length)):=by
 unfold bigN;rw [Zik hi,show ss.getD i ⟨0,.empty,[],⟨false,[],[]⟩⟩=ss[i] from by rw [Zyu,Zym hi];rfl]
theorem Zr5 (f:FS) (i:Nat) (s:RS):(f.nxt i s).1.length≤3:=by
 unfold FS.nxt;simp only
 repeat' split
 all_goals simp
structure PB (p:Po) (n j e:Nat):Prop where
 s:SrtM p
 k:PK p j e
 l:p.length≤n
theorem PB.mono {p:Po} {n j e m i f:Nat} (h:PB p n j e) (hn:n≤m) (hj:j≤i) (he:e≤f):PB p m i f:=⟨h.s,h.k.mono hj he,Zyz h.l hn⟩
theorem PB.nil {n j e:Nat}:PB [] n j e:=⟨.nil,.nil,Zyv _⟩
theorem PB.add {p q:Po} {n j e m k f:Nat} (h:PB p n j e) (g:PB q m k f):PB (addM p q) (n+m) (j+k+1) (max e f) :=
 ⟨Zcx ordM h.s g.s,(h.k.mono (Zyp _) (Nat.le_max_left ..)).add (g.k.mono (Zyp _) (Nat.le_max_right ..)),Zyz (Zjy p q) (ZC5 h.l g.l)⟩
theorem PB.neg {p:Po} {n j e:Nat} (h:PB p n j e):PB (Zb0 (-1) p) n j e:=⟨Zez h.s neg1,h.k.neg,by rw [Zgg];exact h.l⟩
theorem PB.sub {p q:Po} {n j e m k f:Nat} (h:PB p n j e) (g:PB q m k f):PB (subM p q) (n+m) (j+k+1) (max e f):=h.add g.neg
theorem PB.times {p:Po} {t:Tm} {n j e k f:Nat} (h:PB p n j e) (ht:PK [t] k f) (h0:t.1≠0) (hd:Can t.2):PB (Zbi mulM p t) n (j+k) (e+f) :=
 ⟨Zh3 mulK h.s h0 hd,h.k.times ht,by rw [Zgx];exact h.l⟩
theorem PB.take {q:Po} {m k f:Nat} (g:PB q m k f) (i:Nat):PB (q.take i) m k f :=
 ⟨Zjp g.s i,λt ht=>g.k t (Zzy ht),by rw [Zy1];have:=g.l;omega⟩
theorem PB.one {q:Po} {m k f:Nat} (g:PB q m k f) {t:Tm} (ht:t∈q):PK [t] k f:=λu hu=>by rw [ZAr] at hu;subst hu;exact g.k _ ht
theorem Zqp {p q:Po} {n j e m k f:Nat} (h:PB p n j e) (g:PB q m k f):∀i,i≤q.length→PB (mlM p (q.take i)) (n*i) (i*(j+k+1)) (e+f)
 | 0,_=>by rw [ZBd];exact .nil
 | i+1,hi=>by
   rw [Zov hi];have h1:=Zqp h g i zo;have h2:=h.times (g.one (Zy6 hi)) (g.s.1 _ (Zy6 hi)).1 (g.s.1 _ (Zy6 hi)).2;refine(h1.add h2).mono ?_ ?_ ?_
   ·rw [Nat.mul_succ];omega
   ·rw [Nat.succ_mul];omega
   ·omega
theorem Zqq {p q:Po} {n j e m k f:Nat} (h:PB p n j e) (g:PB q m k f) (i:Nat):PB (mlM p (q.take i)) (n*m) (m*(j+k+1)) (e+f):=by
 by_cases hi:i≤q.length
 ·have hm:=g.l;exact(Zqp h g i hi).mono (ZBf _ zo) (Zzf _ zo) (Zyp _)
 ·rw [ZAl zo];have:=Zqp h g q.length (Zyp _);rw [ZAf] at this;exact this.mono (ZBf _ g.l) (Zzf _ g.l) (Zyp _)
theorem PB.mul {p q:Po} {n j e m k f:Nat} (h:PB p n j e) (g:PB q m k f):PB (mlM p q) (n*m) (m*(j+k+1)) (e+f):=by
 have:=Zqq h g q.length
 rwa [ZAf] at this
theorem Zxj {p q:Po} {n j e m k f:Nat} (h:PB p n j e) (g:PB q m k f) (hn:n≤1000000) (hm:m≤1000000) (hj:j≤1000000) (hk:k≤1000000) (he:e≤100) (hf:f≤100) :
 True∧Pure prog 200 [poA p,poA q] (poA (addM p q)) :=
 have l1:=h.l;have l2:=g.l
 ⟨trivial,Zn5 p q (h.k.mono (Zyp _) he) (g.k.mono (Zyp _) hf) h.s g.s zo zo hj hk zo⟩
theorem Zo8 {p q:Po} {n j e m k f:Nat} (h:PB p n j e) (g:PB q m k f) (hn:n≤1000000) (hm:m≤1000000) (hj:j≤1000000) (hk:k≤1000000) (he:e≤100) (hf:f≤100) :
 True∧Pure prog 196 [poA p,poA q] (poA (subM p q)) :=
 have l1:=h.l;have l2:=g.l
 ⟨trivial,Ztk p q (h.k.mono (Zyp _) he) (g.k.mono (Zyp _) hf) h.s g.s zo zo hj hk zo⟩
theorem Zlj {p q:Po} {n j e m k f:Nat} (h:PB p n j e) (g:PB q m k f) (hn:n≤1000000) (hm:m≤1000000) (hj:j≤500000) (hk:k≤500000) (he:e≤100) (hf:f≤100) (hnm:n*m≤1000000) (hK:min n m*(j+k+1)≤1000000) (hR:m*(j+k+1)≤1000000) :
 True∧Pure prog 197 [poA p,poA q] (poA (mlM p q)) :=
 have l1:=h.l;have l2:=g.l
 ⟨trivial,
  rpMul p q h.k g.k h.s g.s zo zo hj hk zo zo (λi=>⟨(Zqq h g i).k,Zyz (Zqq h g i).l hnm⟩) hR zo⟩
abbrev Pt:=Po × Po
abbrev dfM (a b:Pt):Pt:=(subM b.1 a.1,subM b.2 a.2)
def Zb6 (a b c d:Pt):Po:=subM (mlM (subM b.1 a.1) (subM d.2 c.2)) (mlM (subM b.2 a.2) (subM d.1 c.1))
def dotM (a b c d:Pt):Po:=addM (mlM (subM b.1 a.1) (subM d.1 c.1)) (mlM (subM b.2 a.2) (subM d.2 c.2))
def dblM (p:Po):Po:=addM p p
abbrev oneM:Po:=[(1,[])]
def Zd7 (t:Po):Po:=addM oneM (mlM t t)
def Zuc (o a x:Pt) (t:Po):List Po :=
 let s:=dblM (addM (subM o.1 a.1) (mlM t (subM o.2 a.2)))
 [subM (mlM (Zd7 t) (subM x.1 a.1)) s,subM (mlM (Zd7 t) (subM x.2 a.2)) (mlM t s)]
def Zok (p q o x:Pt):List Po :=
 let n:=dotM p q p q
 let s:=dblM (dotM p o p q)
 [subM (mlM n (subM x.1 p.1)) (mlM s (subM q.1 p.1)),subM (mlM n (subM x.2 p.2)) (mlM s (subM q.2 p.2))]
def Zdr (a b c d:Pt):Po:=subM (dotM a b a b) (dotM c d c d)
def eqsM (k:Int) (a b c d x:Pt) (t:Po):List Po :=
 if k=6 then Zuc a b x t
 else if k=7 then [Zb6 b c b x,dotM b c a x]
 else if k=8 then [dotM b c a x,addM (Zb6 b c b a) (Zb6 b c b x)]
 else if k=9 then [Zb6 a b a x,Zb6 c d c x]
 else if k=10 then Zok a b c x
 else if k=11 then [Zdr a x b x,Zdr a x c x]
 else if k=12 then [Zb6 a b a x,Zdr c x c d]
 else if k=13 then [Zdr a x a b,Zdr c x c d]
 else if k=14 then [Zdr a x a b,Zdr b x a b]
 else []
structure CB (c:Pt):Prop where
 x:PB c.1 8 110 8
 y:PB c.2 8 110 8
theorem CB.df {a b:Pt} (h:CB a) (g:CB b):PB (subM b.1 a.1) 16 221 8∧PB (subM b.2 a.2) 16 221 8:=⟨(g.x.sub h.x).mono zo zo zo,(g.y.sub h.y).mono zo zo zo⟩
theorem PB.m2 {p q:Po} (h:PB p 16 221 8) (g:PB q 16 221 8):PB (mlM p q) 256 7088 16:=(h.mul g).mono zo zo zo
theorem CB.cross {a b c d:Pt} (ha:CB a) (hb:CB b) (hc:CB c) (hd:CB d):PB (Zb6 a b c d) 512 14177 16 :=
 (((ha.df hb).1.m2 (hc.df hd).2).sub ((ha.df hb).2.m2 (hc.df hd).1)).mono zo zo zo
theorem CB.dot {a b c d:Pt} (ha:CB a) (hb:CB b) (hc:CB c) (hd:CB d):PB (dotM a b c d) 512 14177 16 :=
 (((ha.df hb).1.m2 (hc.df hd).1).add ((ha.df hb).2.m2 (hc.df hd).2)).mono zo zo zo
theorem PB.dbl {p:Po} {n j e:Nat} (h:PB p n j e):PB (dblM p) (n+n) (j+j+1) (max e e):=h.add h
theorem one_pb:PB oneM 1 1 0:=by
 refine⟨Srt.nil.cons zd Zq7 zs,λt ht=>?_,by simp⟩;rw [ZAr] at ht;subst ht;exact⟨Zkm 1 zo,by simp,λj=>by rw [Zc2 (Zyv _)];omega⟩
theorem Zur (v:Nat):PB (varM v) 1 1 1:=⟨Zfa v,Zpm v,by unfold varM;split<;>simp⟩
theorem one_mul {p:Po} (h:SrtM p):mlM oneM p=p:=by
 rw [Zot zd h];unfold Zb0
 conv=>rhs;rw [←List.map_id p]
 exact ZBn λt ht=>by show(t.1*1,t.2)=t;rw [Rat.mul_one]
theorem CB.subs {a b:Pt} (ha:CB a) (hb:CB b):(True∧Pure prog 196 [poA b.1,poA a.1] (poA (subM b.1 a.1)))∧(True∧Pure prog 196 [poA b.2,poA a.2] (poA (subM b.2 a.2))) :=
 ⟨Zo8 hb.x ha.x zo zo zo zo zo zo,Zo8 hb.y ha.y zo zo zo zo zo zo⟩
theorem hpM2 {p q:Po} (h:PB p 16 221 8) (g:PB q 16 221 8):True∧Pure prog 197 [poA p,poA q] (poA (mlM p q)) :=
 Zlj h g zo zo zo zo zo zo zo zo zo
theorem Zgh {a b c d:Pt} (ha:CB a) (hb:CB b) (hc:CB c) (hd:CB d):Pure prog 146 [coA a,coA b,coA c,coA d] (poA (Zb6 a b c d)):=by
 obtain⟨⟨-,s1⟩,-,s2⟩:=ha.subs hb;obtain⟨⟨-,t1⟩,-,t2⟩:=hc.subs hd;obtain⟨x1,y1⟩:=ha.df hb;obtain⟨x2,y2⟩:=hc.df hd;have m1:=(hpM2 x1 y2).2;have m2:=(hpM2 y1 x2).2;have s:=(Zo8 (x1.m2 y2) (y1.m2 x2) zo zo zo zo zo zo).2;rw [show subM (mlM (subM b.1 a.1) (subM d.2 c.2)) (mlM (subM b.2 a.2) (subM d.1 c.1))=Zb6 a b c d from rfl] at s;generalize Zb6 a b c d=r at *;clear x1 y1 x2 y2 ha hb hc hd;generalize mlM (subM b.1 a.1) (subM d.2 c.2)=p at *;generalize mlM (subM b.2 a.2) (subM d.1 c.1)=q at *;generalize subM b.1 a.1=u1 at *;generalize subM b.2 a.2=u2 at *;generalize subM d.1 c.1=v1 at *;generalize subM d.2 c.2=v2 at *
 obtain⟨a1,a2⟩:=a;obtain⟨b1,b2⟩:=b;obtain⟨c1,c2⟩:=c;obtain⟨d1,d2⟩:=d
 try simp only at *
 refine pI func146 rfl ntmps146 results146 call146 ?_;(focus (refine wkld w_t (w_7 s1 s2 t1 t2 m1 m2 s) w_t (w_1 (w_d 1 [(4,poA u1),(9,poA v2),(10,poA p),(15,poA u2),(20,poA v1),(21,poA q),(22,poA r)] [] [])) ?_;(repeat' first|exact w_t|apply w_l);all_goals intros))
theorem rhDot {a b c d:Pt} (ha:CB a) (hb:CB b) (hc:CB c) (hd:CB d):Pure prog 195 [coA a,coA b,coA c,coA d] (poA (dotM a b c d)):=by
 obtain⟨⟨-,s1⟩,-,s2⟩:=ha.subs hb;obtain⟨⟨-,t1⟩,-,t2⟩:=hc.subs hd;obtain⟨x1,y1⟩:=ha.df hb;obtain⟨x2,y2⟩:=hc.df hd;have m1:=(hpM2 x1 x2).2;have m2:=(hpM2 y1 y2).2;have s:=(Zxj (x1.m2 x2) (y1.m2 y2) zo zo zo zo zo zo).2;rw [show addM (mlM (subM b.1 a.1) (subM d.1 c.1)) (mlM (subM b.2 a.2) (subM d.2 c.2))=dotM a b c d from rfl] at s;generalize dotM a b c d=r at *;clear x1 y1 x2 y2 ha hb hc hd;generalize mlM (subM b.1 a.1) (subM d.1 c.1)=p at *;generalize mlM (subM b.2 a.2) (subM d.2 c.2)=q at *;generalize subM b.1 a.1=u1 at *;generalize subM b.2 a.2=u2 at *;generalize subM d.1 c.1=v1 at *;generalize subM d.2 c.2=v2 at *
 obtain⟨a1,a2⟩:=a;obtain⟨b1,b2⟩:=b;obtain⟨c1,c2⟩:=c;obtain⟨d1,d2⟩:=d
 try simp only at *
 refine pI func195 rfl ntmps195 results195 call195 ?_;(focus (refine wkld w_t (w_7 s1 s2 t1 t2 m1 m2 s) w_t (w_1 (w_d 1 [(4,poA u1),(9,poA v1),(10,poA p),(15,poA u2),(20,poA v2),(21,poA q),(22,poA r)] [] [])) ?_;(repeat' first|exact w_t|apply w_l);all_goals intros))
theorem Zeh {a b:Pt} (ha:CB a) (hb:CB b):Pure prog 145 [coA a,coA b] (poA (dotM a b a b)):=by
 have c:=rhDot ha hb ha hb;generalize dotM a b a b=r at *;clear ha hb;obtain⟨a1,a2⟩:=a;obtain⟨b1,b2⟩:=b;refine pI func145 rfl ntmps145 results145 call145 ?_;(focus (refine wklp w_t (w_1 c) w_t (w_r 0) ?_;(repeat' first|exact w_t|apply w_l);all_goals intros))
theorem Sub.tup2 {a b a' b':AV} (h:Sub a a') (k:Sub b b'):Sub (.tup [a,b]) (.tup [a',b']):=Sub.tup _ _ rfl λj x y h1 h2=>by
 match j with
 | 0=>simp at h1 h2;subst h1;subst h2;exact h
 | 1=>simp at h1 h2;subst h1;subst h2;exact k
 | j+2=>simp at h1
theorem Agr.re {m σ:Mem} {t k:Nat} {e1 e e':Ent} (h:Agr m (upd σ k (some e1))) (ht:t=k+1000) (he:e'=e.sh):Agr (upd m t (some e')) (upd σ k (some e)):=by
 have:=h.put (k:=k) (e:=e) ht he
 rwa [upd_over] at this
theorem Sub.frame (KC KV KC' KV':Nat) (svC svV:Value):Sub (.agg [.own KC svC,.own KV svV]) (.agg [.own KC' svC,.own KV' svV]):=Sub.agg2 (Sub.own _ _ _) (Sub.own _ _ _)
theorem Zhv (σ:Mem) (KC KV:Nat) (svC svV:Value) (vs:List Vt) (kind step number:Int) (hV:σ KV=some (.row svV 275 3 (vs.map Vt.av) 0)) (hl:vs.length≤200) :
 ACall prog 192 [.agg [.own KC svC,.own KV svV],iv kind,iv step,iv number] σ λr σ'=>∃sv,r=.tup [.agg [.own KC svC,.own KV sv],poA (varM vs.length)]∧σ'=upd σ KV (some (.row sv 275 3 ((vs++[(kind,step,number)]).map Vt.av) 0)):=by
 have mV:=Za5 hV;have cv:=rpVar vs.length zo;have hln:(vs.map Vt.av).length=vs.length:=Zyn ..;have hm1:((vs.length+1:Nat):Int) - 1=(vs.length:Int):=zo;simp only [Ent.sh,AV.shL,AV.sh] at mV;simp only [Zzh,Zz2,Zzx];refine Za2 func192 rfl ntmps192 results192 call192 zr zs ?_;(focus (refine wkad (w_6 mV hln hm1 @l_app @Zaj @Zca) (w_1 cv) (w_1 (w_d 2 [(5,poA (varM vs.length))] [] [8])) ?_;(repeat' first|exact w_t|apply w_l);all_goals intros));simp (disch:=omega) only [go_sem];rename_i sv1;refine Zfn (Sub.tup2 (Sub.frame _ _ _ _ _ _) (Sub.refl _)) ⟨sv1,rfl,rfl⟩ ?_
 (repeat (refine Agr.own ?_ zo))
 refine Agr.put ?_ rfl rfl
 (repeat' (first|exact Agr.start _|(refine Agr.own ?_ zo)))
theorem rcFree (σ:Mem) (KC KV:Nat) (svC svV:Value) (vs:List Vt) (i fr:Nat) (hV:σ KV=some (.row svV 275 3 (vs.map Vt.av) 0)) (hl:vs.length≤100) (hf:fr≤1000) :
 ACall prog 188 [.agg [.own KC svC,.own KV svV],iv i,iv fr] σ λr σ'=>∃sv,r=.tup [.agg [.own KC svC,.own KV sv],coA (if fr=0 then ([],[]) else if fr=1 then (varM vs.length,[]) else (varM vs.length,varM (vs.length+1)))] ∧
  σ'=upd σ KV (some (.row sv 275 3 ((vs++(if fr=0 then [] else if fr=1 then [(1,(i:Int),0)] else [(1,(i:Int),0),(1,(i:Int),1)])).map Vt.av) 0)):=by
 have mV:=Za5 hV;simp only [Ent.sh,AV.shL,AV.sh] at mV;by_cases h0:fr=0
 ·subst h0;simp only [Zzb,Zzz];refine Za2 func188 rfl ntmps188 results188 call188 zr zs ?_;(focus (refine wkad (w_1 mV) w_t (w_1 (w_d 6 [] [] [6,7])) ?_;(repeat' first|exact w_t|apply w_l);all_goals intros));simp (disch:=omega) only [go_sem];refine Zfn (Sub.tup2 (Sub.frame _ _ _ _ _ _) (Sub.agg2 (Sub.nil 4) (Sub.nil 4))) ⟨svV,rfl,rfl⟩ ?_;rw [Zh2 hV]
  (repeat' (first|exact Agr.start _|(refine Agr.own ?_ zo)))
 ·by_cases h1:fr=1
  ·subst h1;simp only [Zyj h0,Zzb];refine Za2 func188 rfl ntmps188 results188 call188 zr zs ?_;(focus (refine wkad (w_1 mV) w_t w_t ?_;(repeat' first|exact w_t|apply w_l);all_goals intros));refine Zcm (Zhv _ (KC+1000) (KV+1000) svC svV vs 1 (i:Int) 0 (by(simp (disch:=omega) only [go_sem,mV,Zyj,Zyk,Zzh,Zz2,Zzx]<;>repeat' first|rfl|refine⟨?_,?_⟩)) (by first|omega|(simp;omega))) ?_;intro sv1;(focus (refine wkad (w_1 mV) w_t (w_1 (w_d 6 [] [] [6,7])) ?_;(repeat' first|exact w_t|apply w_l);all_goals intros));simp (disch:=omega) only [go_sem]
   refine Zfn (Sub.tup2 (Sub.frame _ _ _ _ _ _) (Sub.agg2 (Sub.refl _) (Sub.nil 4))) ⟨sv1,rfl,rfl⟩ ?_;simp only [Zzh,Zz2,Zzx]
   (repeat (refine Agr.own ?_ zo))
   refine Agr.put ?_ rfl rfl
   (repeat' (first|exact Agr.start _|(refine Agr.own ?_ zo)))
  ·simp only [Zyj h0,Zyj h1];have hl1:(vs++[((1:Int),(i:Int),(0:Int))]).length=vs.length+1:=by simp
   refine Za2 func188 rfl ntmps188 results188 call188 zr zs ?_;(focus (refine wkad (w_1 mV) w_t w_t ?_;(repeat' first|exact w_t|apply w_l);all_goals intros));refine Zcm (Zhv _ (KC+1000) (KV+1000) svC svV vs 1 (i:Int) 0 (by(simp (disch:=omega) only [go_sem,mV,Zyj,Zyk,Zzh,Zz2,Zzx]<;>repeat' first|rfl|refine⟨?_,?_⟩)) (by first|omega|(simp;omega))) ?_;intro sv1;(focus (refine wkad (w_1 mV) w_t w_t ?_;(repeat' first|exact w_t|apply w_l);all_goals intros));refine Zcm (Zhv _ (KC+1000) (KV+1000) svC sv1 (vs++[(1,(i:Int),0)]) 1 (i:Int) 1 (by(simp (disch:=omega) only [go_sem,mV,Zyj,Zyk,Zzh,Zz2,Zzx]<;>repeat' first|rfl|refine⟨?_,?_⟩)) (by first|omega|(simp;omega))) ?_
   intro sv2;(focus (refine wkad (w_2 mV hl1) w_t (w_1 (w_d 6 [] [] [6,7])) ?_;(repeat' first|exact w_t|apply w_l);all_goals intros));simp (disch:=omega) only [go_sem,hl1];refine Zfn (Sub.tup2 (Sub.frame _ _ _ _ _ _) (Sub.refl _)) ⟨sv2,rfl,rfl⟩ ?_;simp only [Zzt,ZBl,ZB2]
   (repeat (refine Agr.own ?_ zo))
   refine Agr.re (e1:=.row sv1 275 3 ((vs++[(1,(i:Int),0)]).map Vt.av) 0) ?_ rfl rfl
   (repeat (refine Agr.own ?_ zo))
   refine Agr.put ?_ rfl rfl
   (repeat' (first|exact Agr.start _|(refine Agr.own ?_ zo)))
theorem rcDep (σ:Mem) (KC KV:Nat) (svC svV:Value) (vs:List Vt) (i:Nat) (num:Int) (hV:σ KV=some (.row svV 275 3 (vs.map Vt.av) 0)) (hl:vs.length≤100) (hn:0≤num∧num≤10) :
 ACall prog 193 [.agg [.own KC svC,.own KV svV],iv i,iv num] σ λr σ'=>∃sv,r=.tup [.agg [.own KC svC,.own KV sv],coA (varM vs.length,varM (vs.length+1))] ∧
  σ'=upd σ KV (some (.row sv 275 3 ((vs++[(2,(i:Int),num),(2,(i:Int),num+1)]).map Vt.av) 0)):=by
 have mV:=Za5 hV;simp only [Ent.sh,AV.shL,AV.sh] at mV;have hl1:(vs++[((2:Int),(i:Int),num)]).length=vs.length+1:=by simp
 refine Za2 func193 rfl ntmps193 results193 call193 zr zs ?_;(focus (refine wkad (w_1 mV) w_t w_t ?_;(repeat' first|exact w_t|apply w_l);all_goals intros));refine Zcm (Zhv _ (KC+1000) (KV+1000) svC svV vs 2 (i:Int) num (by(simp (disch:=omega) only [go_sem,mV,Zyj,Zyk,Zzh,Zz2,Zzx]<;>repeat' first|rfl|refine⟨?_,?_⟩)) (by first|omega|(simp;omega))) ?_;intro sv1;(focus (refine wkad (w_1 mV) w_t w_t ?_;(repeat' first|exact w_t|apply w_l);all_goals intros));refine Zcm (Zhv _ (KC+1000) (KV+1000) svC sv1 (vs++[(2,(i:Int),num)]) 2 (i:Int) (num+1) (by(simp (disch:=omega) only [go_sem,mV,Zyj,Zyk,Zzh,Zz2,Zzx]<;>repeat' first|rfl|refine⟨?_,?_⟩)) (by first|omega|(simp;omega))) ?_
 intro sv2;(focus (refine wkad (w_2 mV hl1) w_t (w_1 (w_d 4 [] [] [6,7])) ?_;(repeat' first|exact w_t|apply w_l);all_goals intros));simp (disch:=omega) only [go_sem,hl1];refine Zfn (Sub.tup2 (Sub.frame _ _ _ _ _ _) (Sub.refl _)) ⟨sv2,rfl,rfl⟩ ?_;simp only [Zzt,ZBl,ZB2]
 (repeat (refine Agr.own ?_ zo))
 refine Agr.re (e1:=.row sv1 275 3 ((vs++[(2,(i:Int),num)]).map Vt.av) 0) ?_ rfl rfl
 (repeat (refine Agr.own ?_ zo))
 refine Agr.put ?_ rfl rfl
 (repeat' (first|exact Agr.start _|(refine Agr.own ?_ zo)))
theorem Zvv (a b:Po × Po) (m d1 d2 e1 e2 f1 f2:Po) (s1:Pure prog 196 [poA b.1,poA a.1] (poA d1)) (s2:Pure prog 196 [poA b.2,poA a.2] (poA d2))
 (m1:Pure prog 197 [poA m,poA d1] (poA e1)) (m2:Pure prog 197 [poA m,poA d2] (poA e2)) (a1:Pure prog 200 [poA a.1,poA e1] (poA f1)) (a2:Pure prog 200 [poA a.2,poA e2] (poA f2)) :
 Pure prog 189 [coA a,coA b,poA m] (coA (f1,f2)):=by
 obtain⟨x1,x2⟩:=a;obtain⟨y1,y2⟩:=b;simp only at *;refine pI func189 rfl ntmps189 results189 call189 ?_;(focus (refine wkld w_t (w_6 s1 s2 m1 m2 a1 a2) w_t (w_1 (w_d 1 [(7,poA d1),(8,poA e1),(9,poA f1),(17,poA d2),(18,poA e2),(19,poA f2)] [] [6])) ?_;(repeat' first|exact w_t|apply w_l);all_goals intros))
theorem rcPlus (p q r d f:Po) (s:Pure prog 196 [poA q,poA r] (poA d)) (a:Pure prog 200 [poA p,poA d] (poA f)):Pure prog 191 [poA p,poA q,poA r] (poA f):=by
 refine pI func191 rfl ntmps191 results191 call191 ?_;(focus (refine wklp w_t (w_2 s a) w_t (w_r 0) ?_;(repeat' first|exact w_t|apply w_l);all_goals intros))
abbrev cstM (q:Rat):Po:=if q=0 then [] else [(q,[])]
theorem cst_pk (q:Rat) {k:Nat} (h:Sz q k):PK (cstM q) k 1:=by
 unfold cstM;split
 ·exact PK.nil
 ·intro t ht;rw [ZAr] at ht;subst ht;exact⟨h,Zyv _,λj=>by rw [Zc2 (Zyv _)];omega⟩
theorem cst_srt (q:Rat):SrtM (cstM q):=by
 unfold cstM;split
 ·exact .nil
 ·rename_i h;exact Srt.nil.cons h Zq7 zs
theorem cst_len (q:Rat):(cstM q).length≤1:=by
 unfold cstM;split<;>simp
theorem Zxz (q:Rat) {d:Po} (sd:SrtM d):mlM (cstM q) d=sclM q d:=by
 unfold sclM cstM;by_cases h:q=0
 ·rw [Zyk h,Zyk h];exact Zsc d
 ·rw [Zyj h,Zyj h];exact Zot h sd
theorem PK.take {p:Po} {k e:Nat} (h:PK p k e) (i:Nat):PK (p.take i) k e:=λt ht=>h t (Zzy ht)
theorem Zus (v:Nat) {d:Po} (sd:SrtM d):mlM (varM v) d=mlM d (varM v):=Zw1 ordM mulK (Zfa v) sd
theorem var_len (v:Nat):(varM v).length≤1:=by unfold varM;split<;>simp
theorem rcMulC (q:Rat) (d:Po) (hq:Sz q 2) (hd:PK d 221 1) (sd:SrtM d) (ld:d.length≤8000):Pure prog 197 [poA (cstM q),poA d] (poA (sclM q d)):=by
 rw [←Zxz q sd];have:=cst_len q;refine rpMul (cstM q) d (cst_pk q hq) hd (cst_srt q) sd zo zo zo zo zo zo (K:=223) (E:=1) (λi=>?_) zo zo;rw [Zxz q (Zjp sd i)];have h1:=Zpv q (d.take i);have h2:(d.take i).length≤d.length:=by rw [Zy1];omega
 exact⟨((hd.take i).scl hq).mono zo zo,zo⟩
theorem rcMulV (v:Nat) (d:Po) (hd:PK d 221 1) (sd:SrtM d) (ld:d.length≤8000):Pure prog 197 [poA (varM v),poA d] (poA (mlM d (varM v))):=by
 rw [←Zus v sd];have:=var_len v;refine rpMul (varM v) d (Zpm v) hd (Zfa v) sd zo zo zo zo zo zo (K:=222) (E:=2) (λi=>?_) zo zo;rw [Zus v (Zjp sd i)];have h1:=Zjr (d.take i) v;have h2:(d.take i).length≤d.length:=by rw [Zy1];omega
 exact⟨(hd.take i).mulV.mono zo zo,zo⟩
theorem rcAlongS (a b:Po × Po) (q:Rat) (hq:Sz q 2) (a1:Co a.1) (a2:Co a.2) (b1:Co b.1) (b2:Co b.2):Pure prog 189 [coA a,coA b,poA (cstM q)] (coA (addM a.1 (sclM q (subM b.1 a.1)),addM a.2 (sclM q (subM b.2 a.2)))):=by
 have n1:=a1.ln;have n2:=a2.ln;have n3:=b1.ln;have n4:=b2.ln;have s1:=Ztk b.1 a.1 b1.pk a1.pk b1.st a1.st zo zo zo zo zo;have s2:=Ztk b.2 a.2 b2.pk a2.pk b2.st a2.st zo zo zo zo zo;have d1:=b1.pk.sub a1.pk;have d2:=b2.pk.sub a2.pk;have t1:=Zdj ordM b1.st a1.st;have t2:=Zdj ordM b2.st a2.st;have l1:=Zhq b.1 a.1;have l2:=Zhq b.2 a.2;have m1:=rcMulC q (subM b.1 a.1) hq d1 t1 zo;have m2:=rcMulC q (subM b.2 a.2) hq d2 t2 zo;have e1:=Zn5 a.1 (sclM q (subM b.1 a.1)) a1.pk (d1.scl hq) a1.st (Zj8 t1) zo (by have:=Zpv q (subM b.1 a.1);omega) zo zo zo;have e2:=Zn5 a.2 (sclM q (subM b.2 a.2)) a2.pk (d2.scl hq) a2.st (Zj8 t2) zo (by have:=Zpv q (subM b.2 a.2);omega) zo zo zo
 exact Zvv a b (cstM q) _ _ _ _ _ _ s1 s2 m1 m2 e1 e2
theorem rcAlongM (a b:Po × Po) (v:Nat) (a1:Co a.1) (a2:Co a.2) (b1:Co b.1) (b2:Co b.2):Pure prog 189 [coA a,coA b,poA (varM v)] (coA (addM a.1 (mlM (subM b.1 a.1) (varM v)),addM a.2 (mlM (subM b.2 a.2) (varM v)))):=by
 have n1:=a1.ln;have n2:=a2.ln;have n3:=b1.ln;have n4:=b2.ln;have s1:=Ztk b.1 a.1 b1.pk a1.pk b1.st a1.st zo zo zo zo zo;have s2:=Ztk b.2 a.2 b2.pk a2.pk b2.st a2.st zo zo zo zo zo;have d1:=b1.pk.sub a1.pk;have d2:=b2.pk.sub a2.pk;have t1:=Zdj ordM b1.st a1.st;have t2:=Zdj ordM b2.st a2.st;have l1:=Zhq b.1 a.1;have l2:=Zhq b.2 a.2;have m1:=rcMulV v (subM b.1 a.1) d1 t1 zo;have m2:=rcMulV v (subM b.2 a.2) d2 t2 zo;have e1:=Zn5 a.1 (mlM (subM b.1 a.1) (varM v)) (a1.pk.mono (Zyp 110) (show 1≤1+1 by omega)) d1.mulV a1.st (Zeq ordM mulK t1 (Zfa v)) zo (by have:=Zjr (subM b.1 a.1) v;omega) zo zo zo
 have e2:=Zn5 a.2 (mlM (subM b.2 a.2) (varM v)) (a2.pk.mono (Zyp 110) (show 1≤1+1 by omega)) d2.mulV a2.st (Zeq ordM mulK t2 (Zfa v)) zo (by have:=Zjr (subM b.2 a.2) v;omega) zo zo zo;exact Zvv a b (varM v) _ _ _ _ _ _ s1 s2 m1 m2 e1 e2
theorem Zms (p q r:Po) (hp:Co p) (hq:Co q) (hr:Co r):Pure prog 191 [poA p,poA q,poA r] (poA (addM p (subM q r))):=by
 have n1:=hp.ln;have n2:=hq.ln;have n3:=hr.ln;have l1:=Zhq q r;have s:=Ztk q r hq.pk hr.pk hq.st hr.st zo zo zo zo zo;have a:=Zn5 p (subM q r) hp.pk (hq.pk.sub hr.pk) hp.st (Zdj ordM hq.st hr.st) zo zo zo zo zo;exact rcPlus p q r _ _ s a
theorem Agr.at {m σ:Mem} (h:Agr m σ) {k:Nat} {e:Ent} (hk:σ k=some e):m (k+1000)=some e.sh:=by rw [h k,hk];rfl
def ptsN (cs:List (Po × Po)) (ar:List Int):List (Po × Po):=ar.map λa=>cs.getD a.toNat ([],[])
theorem Zib (cs:List (Po × Po)) (ar:List Int):(ptsN cs ar).length=ar.length:=by unfold ptsN;simp
theorem Zrz {cs:List (Po × Po)} {ar:List Int} {k:Nat} (h:k < ar.length):(ptsN cs ar)[k]'(by rw [Zib];exact h)=cs.getD (gI ar k).toNat ([],[]):=by
 unfold ptsN;rw [List.getElem_map,Zf8 h]
theorem Zhj {cs:List (Po × Po)} {ar:List Int} {k:Nat} (h:k < ar.length):((ptsN cs ar).map coA).getD k .u=coA (cs.getD (gI ar k).toNat ([],[])):=by
 rw [Zad coA (by rw [Zib];exact h),Zrz h]
theorem Zwc {cs:List (Po × Po)} {ar:List Int} {k:Nat} (h:k < ar.length):(ptsN cs ar).take (k+1)=(ptsN cs ar).take k++[cs.getD (gI ar k).toNat ([],[])]:=by
 rw [ZB8,Zym (by rw [Zib];exact h),Zrz h];rfl
theorem arS_le (k:Int):arS k≤4:=by
 unfold arS
 repeat' split
 all_goals omega
theorem rcNext (σ:Mem) (KC KV:Nat) (svC svV:Value) (cs:List (Po × Po)) (vs:List Vt) (fr i:Nat) (ss:List RS) (gs:List RG) (s:RS) (hi:i < ss.length) (hs:ss[i]=s) (hV:σ KV=some (.row svV 275 3 (vs.map Vt.av) 0)) (hC:σ KC=some (.row svC 203 2 (cs.map coA) 0)) (hVC:KV≠KC) (hl:vs.length≤64) (hf:fr≤100) (hi1:i≤1000) (hok:StOk cs s) (hco:∀c∈cs,Co c.1∧Co c.2) :
 ACall prog 142 [.agg [.own KC svC,.own KV svV],figA ss gs,iv i,iv fr] σ λr σ'=>∃sv,r=.tup [.agg [.own KC svC,.own KV sv],coA (FS.nxt ⟨cs,vs,fr⟩ i s).2] ∧
  σ'=upd σ KV (some (.row sv 275 3 ((vs++(FS.nxt ⟨cs,vs,fr⟩ i s).1).map Vt.av) 0)):=by
 have hgi:(ss.map RS.av).getD i .u=s.av:=by rw [←hs];exact Zad RS.av hi
 have hls:(ss.map RS.av).length=ss.length:=Zyn ..;have hcl:(cs.map coA).length=cs.length:=Zyn ..;show ACall _ _ [.agg [.own KC svC,.own KV svV],.agg [.sl 6 (ss.map RS.av),.sl 5 (gs.map RG.av)],iv i,iv fr] _ _;generalize ss.map RS.av=M at *;generalize gs.map RG.av=N at *;clear hs;obtain⟨k0,nm,ar,⟨rs,rl,rd⟩⟩:=s;have hll:(ar.map iv).length=ar.length:=Zyn ..;refine Za2 func142 rfl ntmps142 results142 call142 zr zs ?_;(focus (refine wkad (w_3 hgi hls hll) w_t w_t ?_;(repeat' first|exact w_t|apply w_l);all_goals intros));rename_i g4 g5 g8 g9 g10
 refine Zc4 (Frz.nilOwn (d:=11) 37 2 203 (gC)) ?_;refine Zab (ι:=Nat) (λk e m=>k≤ar.length∧e 2=iv i∧e 3=iv fr∧e 4=.pbox 4 g4 0∧m 4=some (.box g4 62 [.own (KC+1000) svC,.own (KV+1000) svV] false)∧e 8=.pbox 8 g8 0∧m 8=some (.box g8 62 [.v (.slice none 0 0),.v (.slice none 0 0)] false)∧e 9=.pbox 9 g9 0∧m 9=some (.box g9 203 [.v (.slice none 0 0),.v (.slice none 0 0)] false)∧e 10=.pbox 10 g10 0∧m 10=some (.box g10 78 [iv k0,strA nm,ivs ar,.v (.bool rs),lim rl,lim rd] false)∧e 24=ivs ar∧e 25=iv ar.length∧e 26=iv k∧(∃sv,e 11=.own 37 sv∧m 37=some (.row sv 203 2 (((ptsN cs ar).take k).map coA) 0))∧Agr m σ) (λk=>ar.length - k) 0 zr ?_ ?_
 ·rintro k e m ⟨hk,hA2,hA3,e4,m4,e8,m8,e9,m9,e10,m10,e24,e25,e26,⟨sv,e11,m37⟩,hAg⟩
  have mV:=Agr.at hAg hV;have mC:=Agr.at hAg hC;simp only [Ent.sh,AV.shL,AV.sh] at mV mC;by_cases hlt:k < ar.length
  ·have h0:=hok.ai k hlt;simp only at h0;have hga:(ar.map iv).getD k .u=iv (gI ar k):=by rw [Zad iv hlt,Zf8 hlt]
   have hgc:(cs.map coA).getD (gI ar k).toNat .u=coA (cs.getD (gI ar k).toNat ([],[])):=Zxl zo;have htk:=Zwc (cs:=cs) hlt
   have har4:ar.length≤4:=by
    have h1:(ar.length:Int)=arS k0:=hok.al;have h2:=arS_le k0;omega
   have hL:((ptsN cs ar).take k).length≤4:=by
    have h1:(ar.length:Int)=arS k0:=hok.al;have h2:=arS_le k0;rw [Zy1];omega
   generalize (ptsN cs ar).take k=L at *;generalize cs.getD (gI ar k).toNat ([],[])=c at *;generalize gI ar k=a at *;obtain⟨c1,c2⟩:=c;(focus (refine wkad (w_21 hA2 hA3 e4 m4 e8 m8 e9 m9 e10 m10 e11 e24 e25 e26 m37 mV mC hll hcl hga hgc) w_t w_t ?_;(repeat' first|exact w_t|apply w_l);all_goals intros));rename_i sv2;refine⟨k+1,⟨zo,by(simp (disch:=omega) only [go_sem,hA2]<;>repeat' first|rfl|refine⟨?_,?_⟩),by(simp (disch:=omega) only [go_sem,hA3]<;>repeat' first|rfl|refine⟨?_,?_⟩),gW e4,gW m4,gW e8,gW m8,gW e9,gW m9,gW e10,gW m10,gW e24,gW e25,gS,⟨_,gC,by(rw [htk,Zzh];exact gC)⟩,?_⟩,zo⟩
   (repeat' (first|exact hAg|(refine Agr.own ?_ zo)))
  ·have hkk:k=ar.length:=zo;subst hkk;rw [show(ptsN cs ar).take ar.length=ptsN cs ar from ZAl (by rw [Zib];exact Zyp _)] at m37;have hlp:((ptsN cs ar).map coA).length=ar.length:=by rw [Zyn,Zib]
   by_cases k1:k0=1
   ·subst k1
    have en:FS.nxt ⟨cs,vs,fr⟩ i ⟨1,nm,ar,⟨rs,rl,rd⟩⟩=(if fr=0 then [] else if fr=1 then [(1,(i:Int),0)] else [(1,(i:Int),0),(1,(i:Int),1)],if fr=0 then ([],[]) else if fr=1 then (varM vs.length,[]) else (varM vs.length,varM (vs.length+1))):=by
     unfold FS.nxt;simp only [Zzb];by_cases f0:fr=0
     ·simp only [Zyk f0]
     ·by_cases f1:fr=1
      ·simp only [Zyj f0,Zyk f1]
      ·simp only [Zyj f0,Zyj f1]
    rw [en];have cF:=rcFree m (KC+1000) (KV+1000) svC svV vs i fr mV zo zo;generalize (if fr=0 then (([],[]):Po × Po) else if fr=1 then (varM vs.length,[]) else (varM vs.length,varM (vs.length+1)))=x at *;generalize (if fr=0 then ([]:List Vt) else if fr=1 then [(1,(i:Int),0)] else [(1,(i:Int),0),(1,(i:Int),1)])=nv at *;obtain⟨x1,x2⟩:=x;(focus (refine wkad (w_21 hA2 hA3 e4 m4 e8 m8 e9 m9 e10 m10 e11 e24 e25 e26 m37 mV mC hll hlp @Zaj @Zca) w_t w_t ?_;(repeat' first|exact w_t|apply w_l);all_goals intros));refine Zcm cF ?_;intro sv1;(focus (refine wkad (w_21 hA2 hA3 e4 m4 e8 m8 e9 m9 e10 m10 e11 e24 e25 e26 m37 mV mC hll hlp @Zaj @Zca) w_t w_t ?_;(repeat' first|exact w_t|apply w_l);all_goals intros))
    simp (disch:=omega) only [go_sem,e8,e9];refine Zfn (Sub.tup2 (Sub.frame _ _ _ _ _ _) (Sub.refl _)) ⟨sv1,rfl,rfl⟩ ?_
    (repeat (refine Agr.own ?_ zo))
    refine Agr.put ?_ rfl rfl
    (repeat' (first|exact hAg|(refine Agr.own ?_ zo)))
   ·by_cases k2:k0=2
    ·subst k2;have hal2:ar.length=2:=by have h1:(ar.length:Int)=arS 2:=hok.al;have h2:arS 2=2:=rfl;omega
     have h0:0≤gI ar 0∧gI ar 0 < (cs.length:Int):=hok.ai 0 (show 0 < ar.length by omega);obtain⟨a1,a2⟩:Co (cs.getD (gI ar 0).toNat ([],[])).1∧Co (cs.getD (gI ar 0).toNat ([],[])).2:=hco _ (Zcu zo);have p0:((ptsN cs ar).map coA).getD 0 .u=coA (cs.getD (gI ar 0).toNat ([],[])):=Zhj zo;generalize ha:cs.getD (gI ar 0).toNat ([],[])=a at *;have h1:0≤gI ar 1∧gI ar 1 < (cs.length:Int):=hok.ai 1 (show 1 < ar.length by omega);obtain⟨b1,b2⟩:Co (cs.getD (gI ar 1).toNat ([],[])).1∧Co (cs.getD (gI ar 1).toNat ([],[])).2:=hco _ (Zcu zo);have p1:((ptsN cs ar).map coA).getD 1 .u=coA (cs.getD (gI ar 1).toNat ([],[])):=Zhj zo
     generalize hb:cs.getD (gI ar 1).toNat ([],[])=b at *;have ro:=hok.r2 rfl;have zr:=(RQ.ok_av hok.rl ro).2;have re:=RQ.ok_eq hok.rl ro
     have en:FS.nxt ⟨cs,vs,fr⟩ i ⟨2,nm,ar,⟨rs,rl,rd⟩⟩=([],(addM a.1 (sclM (RQ.q ⟨rs,rl,rd⟩) (subM b.1 a.1)),addM a.2 (sclM (RQ.q ⟨rs,rl,rd⟩) (subM b.2 a.2)))):=by
      rw [←ha,←hb];rfl
     rw [en];simp only at zr re;generalize hq:RQ.q ⟨rs,rl,rd⟩=q at *;simp only [RQ.mk.injEq] at re;obtain⟨rfl,rfl,rfl⟩:=re;have al:=rcAlongS a b q zr a1 a2 b1 b2;have cc:=Zvn q zr zo;generalize addM a.1 (sclM q (subM b.1 a.1))=x1 at *;generalize addM a.2 (sclM q (subM b.2 a.2))=x2 at *;clear a1 a2 b1 b2 ha hb hok hco en;obtain⟨aa,ab⟩:=a;obtain⟨ba,bb⟩:=b;(focus (refine wkad (w_24 hA2 hA3 e4 m4 e8 m8 e9 m9 e10 m10 e11 e24 e25 e26 m37 mV mC hll hlp @Zaj @Zca hal2 p0 p1) (w_2 cc al) (w_1 (w_d 12 [(9,poA (cstM q)),(10,coA (x1,x2))] [] [8,9])) ?_;(repeat' first|exact w_t|apply w_l);all_goals intros))
     simp (disch:=omega) only [go_sem,e8,e9];refine Zfn (Sub.tup2 (Sub.frame _ _ _ _ _ _) (Sub.refl _)) ⟨svV,rfl,rfl⟩ ?_;simp only [Zzz,Zh2 hV]
     (repeat' (first|exact hAg|(refine Agr.own ?_ zo)))
    ·by_cases k3:k0=3
     ·subst k3;have hal2:ar.length=3:=by have h1:(ar.length:Int)=arS 3:=hok.al;have h2:arS 3=3:=rfl;omega
      have h0:0≤gI ar 0∧gI ar 0 < (cs.length:Int):=hok.ai 0 (show 0 < ar.length by omega);obtain⟨a1,a2⟩:Co (cs.getD (gI ar 0).toNat ([],[])).1∧Co (cs.getD (gI ar 0).toNat ([],[])).2:=hco _ (Zcu zo);have p0:((ptsN cs ar).map coA).getD 0 .u=coA (cs.getD (gI ar 0).toNat ([],[])):=Zhj zo;generalize ha:cs.getD (gI ar 0).toNat ([],[])=a at *;have h1:0≤gI ar 1∧gI ar 1 < (cs.length:Int):=hok.ai 1 (show 1 < ar.length by omega);obtain⟨b1,b2⟩:Co (cs.getD (gI ar 1).toNat ([],[])).1∧Co (cs.getD (gI ar 1).toNat ([],[])).2:=hco _ (Zcu zo);have p1:((ptsN cs ar).map coA).getD 1 .u=coA (cs.getD (gI ar 1).toNat ([],[])):=Zhj zo
      generalize hb:cs.getD (gI ar 1).toNat ([],[])=b at *;have h2:0≤gI ar 2∧gI ar 2 < (cs.length:Int):=hok.ai 2 (show 2 < ar.length by omega);obtain⟨c1,c2⟩:Co (cs.getD (gI ar 2).toNat ([],[])).1∧Co (cs.getD (gI ar 2).toNat ([],[])).2:=hco _ (Zcu zo);have p2:((ptsN cs ar).map coA).getD 2 .u=coA (cs.getD (gI ar 2).toNat ([],[])):=Zhj zo;generalize hc:cs.getD (gI ar 2).toNat ([],[])=c at *
      have en:FS.nxt ⟨cs,vs,fr⟩ i ⟨3,nm,ar,⟨rs,rl,rd⟩⟩=([],(addM a.1 (subM c.1 b.1),addM a.2 (subM c.2 b.2))):=by
       rw [←ha,←hb,←hc];rfl
      rw [en];have q1:=Zms a.1 c.1 b.1 a1 c1 b1;have q2:=Zms a.2 c.2 b.2 a2 c2 b2;generalize addM a.1 (subM c.1 b.1)=x1 at *;generalize addM a.2 (subM c.2 b.2)=x2 at *;clear a1 a2 b1 b2 c1 c2 ha hb hc hok hco en;obtain⟨aa,ab⟩:=a;obtain⟨ba,bb⟩:=b;obtain⟨ca,cb⟩:=c;(focus (refine wkad (w_a hA2 (w_24 hA3 e4 m4 e8 m8 e9 m9 e10 m10 e11 e24 e25 e26 m37 mV mC hll hlp @Zaj @Zca hal2 p0 p1 p2)) (w_2 q1 q2) (w_1 (w_d 14 [(13,poA x1),(26,poA x2)] [] [8,9])) ?_;(repeat' first|exact w_t|apply w_l);all_goals intros));simp (disch:=omega) only [go_sem,e8,e9];refine Zfn (Sub.tup2 (Sub.frame _ _ _ _ _ _) (Sub.refl _)) ⟨svV,rfl,rfl⟩ ?_
      simp only [Zzz,Zh2 hV]
      (repeat' (first|exact hAg|(refine Agr.own ?_ zo)))
     ·by_cases k4:k0=4
      ·subst k4;have hal2:ar.length=3:=by have h1:(ar.length:Int)=arS 4:=hok.al;have h2:arS 4=3:=rfl;omega
       have h0:0≤gI ar 0∧gI ar 0 < (cs.length:Int):=hok.ai 0 (show 0 < ar.length by omega);obtain⟨a1,a2⟩:Co (cs.getD (gI ar 0).toNat ([],[])).1∧Co (cs.getD (gI ar 0).toNat ([],[])).2:=hco _ (Zcu zo);have p0:((ptsN cs ar).map coA).getD 0 .u=coA (cs.getD (gI ar 0).toNat ([],[])):=Zhj zo;generalize ha:cs.getD (gI ar 0).toNat ([],[])=a at *;have h1:0≤gI ar 1∧gI ar 1 < (cs.length:Int):=hok.ai 1 (show 1 < ar.length by omega);obtain⟨b1,b2⟩:Co (cs.getD (gI ar 1).toNat ([],[])).1∧Co (cs.getD (gI ar 1).toNat ([],[])).2:=hco _ (Zcu zo);have p1:((ptsN cs ar).map coA).getD 1 .u=coA (cs.getD (gI ar 1).toNat ([],[])):=Zhj zo
       generalize hb:cs.getD (gI ar 1).toNat ([],[])=b at *;have h2:0≤gI ar 2∧gI ar 2 < (cs.length:Int):=hok.ai 2 (show 2 < ar.length by omega);obtain⟨c1,c2⟩:Co (cs.getD (gI ar 2).toNat ([],[])).1∧Co (cs.getD (gI ar 2).toNat ([],[])).2:=hco _ (Zcu zo);have p2:((ptsN cs ar).map coA).getD 2 .u=coA (cs.getD (gI ar 2).toNat ([],[])):=Zhj zo;generalize hc:cs.getD (gI ar 2).toNat ([],[])=c at *
       have en:FS.nxt ⟨cs,vs,fr⟩ i ⟨4,nm,ar,⟨rs,rl,rd⟩⟩=([],(addM a.1 (subM b.2 c.2),addM a.2 (subM c.1 b.1))):=by
        rw [←ha,←hb,←hc];rfl
       rw [en];have q1:=Zms a.1 b.2 c.2 a1 b2 c2;have q2:=Zms a.2 c.1 b.1 a2 c1 b1;generalize addM a.1 (subM b.2 c.2)=x1 at *;generalize addM a.2 (subM c.1 b.1)=x2 at *;clear a1 a2 b1 b2 c1 c2 ha hb hc hok hco en;obtain⟨aa,ab⟩:=a;obtain⟨ba,bb⟩:=b;obtain⟨ca,cb⟩:=c;(focus (refine wkad (w_a hA2 (w_24 hA3 e4 m4 e8 m8 e9 m9 e10 m10 e11 e24 e25 e26 m37 mV mC hll hlp @Zaj @Zca hal2 p0 p1 p2)) (w_2 q1 q2) (w_1 (w_d 16 [(13,poA x1),(26,poA x2)] [] [8,9])) ?_;(repeat' first|exact w_t|apply w_l);all_goals intros));simp (disch:=omega) only [go_sem,e8,e9];refine Zfn (Sub.tup2 (Sub.frame _ _ _ _ _ _) (Sub.refl _)) ⟨svV,rfl,rfl⟩ ?_
       simp only [Zzz,Zh2 hV]
       (repeat' (first|exact hAg|(refine Agr.own ?_ zo)))
      ·by_cases k5:k0=5
       ·subst k5;have hal2:ar.length=2:=by have h1:(ar.length:Int)=arS 5:=hok.al;have h2:arS 5=2:=rfl;omega
        have h0:0≤gI ar 0∧gI ar 0 < (cs.length:Int):=hok.ai 0 (show 0 < ar.length by omega);obtain⟨a1,a2⟩:Co (cs.getD (gI ar 0).toNat ([],[])).1∧Co (cs.getD (gI ar 0).toNat ([],[])).2:=hco _ (Zcu zo);have p0:((ptsN cs ar).map coA).getD 0 .u=coA (cs.getD (gI ar 0).toNat ([],[])):=Zhj zo;generalize ha:cs.getD (gI ar 0).toNat ([],[])=a at *;have h1:0≤gI ar 1∧gI ar 1 < (cs.length:Int):=hok.ai 1 (show 1 < ar.length by omega);obtain⟨b1,b2⟩:Co (cs.getD (gI ar 1).toNat ([],[])).1∧Co (cs.getD (gI ar 1).toNat ([],[])).2:=hco _ (Zcu zo);have p1:((ptsN cs ar).map coA).getD 1 .u=coA (cs.getD (gI ar 1).toNat ([],[])):=Zhj zo
        generalize hb:cs.getD (gI ar 1).toNat ([],[])=b at *
        have en:FS.nxt ⟨cs,vs,fr⟩ i ⟨5,nm,ar,⟨rs,rl,rd⟩⟩=([(1,(i:Int),0)],(addM a.1 (mlM (subM b.1 a.1) (varM vs.length)),addM a.2 (mlM (subM b.2 a.2) (varM vs.length)))):=by
         rw [←ha,←hb];rfl
        rw [en];have al:=rcAlongM a b vs.length a1 a2 b1 b2;have cP:=Zhv m (KC+1000) (KV+1000) svC svV vs 1 (i:Int) 0 mV zo;generalize addM a.1 (mlM (subM b.1 a.1) (varM vs.length))=x1 at *;generalize addM a.2 (mlM (subM b.2 a.2) (varM vs.length))=x2 at *;clear a1 a2 b1 b2 ha hb hok hco en;obtain⟨aa,ab⟩:=a;obtain⟨ba,bb⟩:=b;generalize varM vs.length=vv at *;(focus (refine wkad (w_22 hA2 hA3 e4 m4 e8 m8 e9 m9 e10 m10 e11 e24 e25 e26 m37 mV mC hll hlp @Zaj @Zca hal2) w_t w_t ?_;(repeat' first|exact w_t|apply w_l);all_goals intros));refine Zcm cP ?_;intro sv1;(focus (refine wkad (w_24 hA2 hA3 e4 m4 e8 m8 e9 m9 e10 m10 e11 e24 e25 e26 m37 mV mC hll hlp @Zaj @Zca hal2 p0 p1) (w_1 al) (w_1 (w_d 19 [(8,coA (x1,x2))] [] [8,9])) ?_;(repeat' first|exact w_t|apply w_l);all_goals intros))
        simp (disch:=omega) only [go_sem,e8,e9];refine Zfn (Sub.tup2 (Sub.frame _ _ _ _ _ _) (Sub.refl _)) ⟨sv1,rfl,rfl⟩ ?_
        (repeat (refine Agr.own ?_ zo))
        refine Agr.put ?_ rfl rfl
        (repeat' (first|exact hAg|(refine Agr.own ?_ zo)))
       ·by_cases k6:k0=6
        ·subst k6;have en:FS.nxt ⟨cs,vs,fr⟩ i ⟨6,nm,ar,⟨rs,rl,rd⟩⟩=([(1,(i:Int),0),(2,(i:Int),1),(2,(i:Int),2)],(varM (vs.length+1),varM (vs.length+2))):=rfl;rw [en];have hl1:(vs++[((1:Int),(i:Int),(0:Int))]).length=vs.length+1:=by simp
         have cP:=Zhv m (KC+1000) (KV+1000) svC svV vs 1 (i:Int) 0 mV zo;(focus (refine wkad (w_21 hA2 hA3 e4 m4 e8 m8 e9 m9 e10 m10 e11 e24 e25 e26 m37 mV mC hll hlp @Zaj @Zca) w_t w_t ?_;(repeat' first|exact w_t|apply w_l);all_goals intros));refine Zcm cP ?_;intro sv1;(focus (refine wkad (w_21 hA2 hA3 e4 m4 e8 m8 e9 m9 e10 m10 e11 e24 e25 e26 m37 mV mC hll hlp @Zaj @Zca) w_t w_t ?_;(repeat' first|exact w_t|apply w_l);all_goals intros));refine Zcm (rcDep _ (KC+1000) (KV+1000) svC sv1 (vs++[(1,(i:Int),0)]) i 1 (by(simp (disch:=omega) only [go_sem,mV,Zyj,Zyk,Zzh,Zz2,Zzx]<;>repeat' first|rfl|refine⟨?_,?_⟩)) (by first|omega|(simp;omega)) zo) ?_
         intro sv2;(focus (refine wkad (w_22 hA2 hA3 e4 m4 e8 m8 e9 m9 e10 m10 e11 e24 e25 e26 m37 mV mC hll hlp @Zaj @Zca hl1) w_t w_t ?_;(repeat' first|exact w_t|apply w_l);all_goals intros));simp (disch:=omega) only [go_sem,hl1,e8,e9];refine Zfn (Sub.tup2 (Sub.frame _ _ _ _ _ _) (Sub.refl _)) ⟨sv2,rfl,rfl⟩ ?_;simp only [Zzt,ZBl,ZB2]
         (repeat (refine Agr.own ?_ zo))
         refine Agr.re (e1:=.row sv1 275 3 ((vs++[(1,(i:Int),0)]).map Vt.av) 0) ?_ rfl rfl
         (repeat (refine Agr.own ?_ zo))
         refine Agr.put ?_ rfl rfl
         (repeat' (first|exact hAg|(refine Agr.own ?_ zo)))
        ·have en:FS.nxt ⟨cs,vs,fr⟩ i ⟨k0,nm,ar,⟨rs,rl,rd⟩⟩=([(2,(i:Int),0),(2,(i:Int),1)],(varM vs.length,varM (vs.length+1))):=by
          unfold FS.nxt;simp only [Zyj k1,Zyj k2,Zyj k3,Zyj k4,Zyj k5,Zyj k6]
         rw [en];have cD:=rcDep m (KC+1000) (KV+1000) svC svV vs i 0 mV zo zo;(focus (refine wkad (w_21 hA2 hA3 e4 m4 e8 m8 e9 m9 e10 m10 e11 e24 e25 e26 m37 mV mC hll hlp @Zaj @Zca) w_t w_t ?_;(repeat' first|exact w_t|apply w_l);all_goals intros));refine Zcm cD ?_;intro sv1;(focus (refine wkad (w_21 hA2 hA3 e4 m4 e8 m8 e9 m9 e10 m10 e11 e24 e25 e26 m37 mV mC hll hlp @Zaj @Zca) w_t w_t ?_;(repeat' first|exact w_t|apply w_l);all_goals intros));simp (disch:=omega) only [go_sem,e8,e9];refine Zfn (Sub.tup2 (Sub.frame _ _ _ _ _ _) (Sub.refl _)) ⟨sv1,rfl,rfl⟩ ?_
         (repeat (refine Agr.own ?_ zo))
         refine Agr.put ?_ rfl rfl
         (repeat' (first|exact hAg|(refine Agr.own ?_ zo)))
 ·refine⟨Zyv _,gC,gC,gC,gC,gC,gC,gC,gC,gC,gC,gC,gW hll,gC,⟨_,gC,by(simp (disch:=omega) only [go_sem,ZBd,Zzx]<;>repeat' first|rfl|refine⟨?_,?_⟩)⟩,?_⟩
  (repeat' (first|exact Agr.start _|(refine Agr.own ?_ zo)))
attribute [go_sem] zSlP
attribute [local go_sem] Zlf
def fstN (vs:List Vt) (i:Int):Nat→Option Nat
 | 0=>none
 | y+1=>match fstN vs i y with
   | some v=>some v
   | none=>if (vs.getD y (0,0,0)).2.1=i then some y else none
theorem Zky {vs:List Vt} {i:Int}:∀{n:Nat},(∀j,j < n→(vs.getD j (0,0,0)).2.1≠i)→fstN vs i n=none
 | 0,_=>rfl
 | n+1,h=>by
   unfold fstN;rw [Zky λj hj=>h j zo];simp only;rw [Zyj (h n zo)]
theorem Zxp {vs:List Vt} {i:Int} {y:Nat} (h:∀j,j < y→(vs.getD j (0,0,0)).2.1≠i) (hy:(vs.getD y (0,0,0)).2.1=i):∀{n:Nat},y < n→fstN vs i n=some y
 | 0,hn=>zo
 | n+1,hn=>by
   unfold fstN;by_cases e:y=n
   ·subst e;rw [Zky h];simp only;rw [Zyk hy]
   ·rw [Zxp h hy (n:=n) zo]
def parM (vs:List Vt) (i:Int):Po:=match fstN vs i vs.length with
 | some v=>varM v
 | none=>[]
def fitS (s:RS):Bool:=!(decide (2 < s.r.l.length) || decide (2 < s.r.d.length) || decide (8 < s.ar.length))
def fitsB (ss:List RS) (gs:List RG):Bool:=ss.all fitS && (decide (nfN ss ss.length≤12) && (decide (ss.length≤42) && decide (gs.length≤10)))
theorem nfN_le (ss:List RS):∀i,nfN ss i≤i
 | 0=>Zyp _
 | i+1=>by
   have:=nfN_le ss i;unfold nfN;split<;>omega
section
attribute [local go_sem] underlying3 underlying4 underlying125 underlying9 underlying53 underlying41 underlying28 underlying26 underlying24 underlying78 underlying46 underlying49 underlying275 underlying60 underlying203 underlying59 underlying62 underlying157 underlying280 sz3 by3 z3 szB zB Zbw zErr Zbp Zbu zStr Za8 zRat Zba zInt Za9 zNat Za6 Za7 Zcd Zcf zFig Zby zSlI Zce zSlS Zfq Zfz zVar Zel zSlV Zb7 Zcc Zdc Zem zSlC Zbq Zcp Zcr Zcw Zek Zcq Zej underlying80 underlying47 szL byL zL Zb2 Zb4 Zdh Zdi zSlF
end
section
variable {N n:Nat} {cs:List AV}
end
theorem ar2 {ar:List Int} {n:Nat} (hl:(ar.length:Int)=2) (h:∀k,k < ar.length→0≤gI ar k∧gI ar k < (n:Int)):∃a b:Nat,ar=[(a:Int),(b:Int)]∧a < n∧b < n:=by
 match ar,hl,h with
 | [x,y],_,h =>
   have h0:=h 0 zs;have h1:=h 1 zs;simp only [gI,ZAa,ZAb] at h0 h1;exact⟨x.toNat,y.toNat,by rw [ZBg h0.1,ZBg h1.1],zo,zo⟩
theorem ar3 {ar:List Int} {n:Nat} (hl:(ar.length:Int)=3) (h:∀k,k < ar.length→0≤gI ar k∧gI ar k < (n:Int)):∃a b c:Nat,ar=[(a:Int),(b:Int),(c:Int)]∧a < n∧b < n∧c < n:=by
 match ar,hl,h with
 | [x,y,z],_,h =>
   have h0:=h 0 zs;have h1:=h 1 zs;have h2:=h 2 zs;simp only [gI,ZAa,ZAb] at h0 h1 h2;exact⟨x.toNat,y.toNat,z.toNat,by rw [ZBg h0.1,ZBg h1.1,ZBg h2.1],zo,zo,zo⟩
theorem ar4 {ar:List Int} {n:Nat} (hl:(ar.length:Int)=4) (h:∀k,k < ar.length→0≤gI ar k∧gI ar k < (n:Int)):∃a b c d:Nat,ar=[(a:Int),(b:Int),(c:Int),(d:Int)]∧a < n∧b < n∧c < n∧d < n:=by
 match ar,hl,h with
 | [x,y,z,w],_,h =>
   have h0:=h 0 zs;have h1:=h 1 zs;have h2:=h 2 zs;have h3:=h 3 zs;simp only [gI,ZAa,ZAb] at h0 h1 h2 h3;exact⟨x.toNat,y.toNat,z.toNat,w.toNat,by rw [ZBg h0.1,ZBg h1.1,ZBg h2.1,ZBg h3.1],zo,zo,zo,zo⟩
def wOf (w:List Int) (s:RS):Int :=
 if s.k=2 then gI w (gI s.ar 0).toNat+gI w (gI s.ar 1).toNat
 else if s.k=3∨s.k=4 then gI w (gI s.ar 0).toNat+gI w (gI s.ar 1).toNat+gI w (gI s.ar 2).toNat
 else if s.k=5 then 2*gI w (gI s.ar 0).toNat+gI w (gI s.ar 1).toNat
 else 1
def wts (ss:List RS):Nat→List Int
 | 0=>[]
 | i+1=>wts ss i++[wOf (wts ss i) (ss.getD i RS.zero)]
theorem Zpl (ss:List RS):∀i,(wts ss i).length=i
 | 0=>rfl
 | i+1=>by show(wts ss i++[_]).length=i+1;rw [Zza,Zpl ss i];rfl
theorem gI_app (l:List Int) (x:Int) (n:Nat):gI (l++[x]) n=if n < l.length then gI l n else if n=l.length then x else 0:=by
 split
 ·rename_i h;rw [Zf8 (by simp;omega),Zf8 h,List.getElem_append_left h]
 ·split
  ·rename_i h1 h2;subst h2;rw [Zf8 zs];simp
  ·rw [Zc2 (by simp;omega)]
def Zs7 (ss:List RS) (gs:List RG):Bool :=
 (wts ss ss.length).all (λw=>decide (w≤8)) && gs.all λg=>!(decide (g.k=6) || decide (g.k=7)) || g.ar.all λa=>decide (gI (wts ss ss.length) a.toNat≤3)
def rat2 (r:RQ):Bool:=decide (r.l.length≤2) && decide (r.d.length≤2)
def fewB (ss:List RS) (gs:List RG):Bool :=
 decide (ss.length≤8) && (decide (gs.length≤3) && (decide (figE ss gs=0) && (Zs7 ss gs && (ss.all (λs=>rat2 s.r) && gs.all λg=>rat2 g.r))))
theorem Zt8 {ss:List RS} {gs:List RG} (h:figE ss gs=0):∀i,i < ss.length→errS ss i=0:=by
 unfold figE at h;split at h
 ·omega
 ·split at h
  ·rename_i h2;exact absurd h h2
  ·rename_i h2;exact Zjv (Decidable.byContradiction λh3=>h2 h3)
end Go.Proofs.YtjbjejmmnbdbiaaGreat
