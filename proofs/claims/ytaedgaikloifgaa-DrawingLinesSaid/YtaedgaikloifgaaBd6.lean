/- Contracts of the functions that the law reaches, and the rules by which they are walked. They say what a call hands back for every input within the bounds that each names; no other condition. -/
import Derived.Test.YtaedgaikloifgaaBd5
import Derived.Laws.RangeString
import Derived.Lib.OthersKept
import Derived.Laws.Strings
import Derived.Shelf.SlSortCmp.NoneTotal
set_option linter.unusedSimpArgs false
set_option linter.unusedVariables false
set_option maxRecDepth 20000
set_option maxHeartbeats 16000000
namespace Go.Proofs.Ytaedgaikloifgaa
open Go Go.RowKit Go.Pg Go.Proofs.Try
def Can (l:List Int):Prop:=(∀j,0≤gI l j)∧(l.length=0∨gI l (l.length - 1)≠0)
def LTm (a b:List Int):Prop:=∃k,gI a k < gI b k∧∀j,k < j→gI a j=gI b j
def ltM (a b:List Int):Prop:=lexC a b (max a.length b.length)=-1
instance:DecidableRel ltM:=λa b=>inferInstanceAs (Decidable (lexC a b (max a.length b.length)=-1))
theorem Zp0 {a b:List Int}:∀n,lexC a b n=-1↔∃k,k < n∧gI a k < gI b k∧∀j,k < j→j < n→gI a j=gI b j
 | 0=>by
   constructor
   ·intro h;exact absurd h (by show ¬(0:Int)=-1;omega)
   ·rintro ⟨k,h,_⟩;omega
 | n+1=>by
   unfold lexC;by_cases h:gI a n=gI b n
   ·rw [Zqv h,Zp0 n];constructor
    ·rintro ⟨k,h1,h2,h3⟩
     exact⟨k,zo,h2,λj h4 h5=>by by_cases hj:j=n;subst hj;exact h;exact h3 j h4 zo⟩
    ·rintro ⟨k,h1,h2,h3⟩
     have:k≠n:=by rintro rfl;omega
     exact⟨k,zo,h2,λj h4 h5=>h3 j h4 zo⟩
   ·rw [Zqw h];unfold lt1;constructor
    ·intro h1;by_cases h2:gI a n < gI b n
     ·exact⟨n,zo,h2,λj h3 h4=>zo⟩
     ·rw [Zqw h2] at h1;omega
    ·rintro ⟨k,h1,h2,h3⟩
     by_cases hk:k=n
     ·subst hk;rw [Zqv h2]
     ·exact absurd (h3 n zo zo) h
theorem Zf9 {a b:List Int}:ltM a b↔LTm a b:=by
 unfold ltM LTm;rw [Zp0];constructor
 ·rintro ⟨k,h1,h2,h3⟩
  refine⟨k,h2,λj h4=>?_⟩;by_cases hj:j < max a.length b.length
  ·exact h3 j h4 hj
  ·rw [Zdx zo,Zdx zo]
 ·rintro ⟨k,h2,h3⟩
  refine⟨k,?_,h2,λj h4 _=>h3 j h4⟩;by_cases hk:k < max a.length b.length
  ·exact hk
  ·rw [Zdx zo,Zdx zo] at h2;omega
theorem Zir {a b:List Int}:∀n,lexC a b n=0∧(∀j,j < n→gI a j=gI b j)∨lexC a b n=-1∨lexC a b n=1
 | 0=>.inl ⟨rfl,λj h=>zo⟩
 | n+1=>by
   unfold lexC;by_cases h:gI a n=gI b n
   ·rw [Zqv h];rcases @Zir a b n with⟨h1,h2⟩ | h1
    ·exact .inl ⟨h1,λj hj=>by by_cases e:j=n;subst e;exact h;exact h2 j zo⟩
    ·exact .inr h1
   ·rw [Zqw h];unfold lt1;split
    ·exact .inr (.inl rfl)
    ·exact .inr (.inr rfl)
theorem Zm9 {a b:List Int}:∀n,lexC b a n=- lexC a b n
 | 0=>rfl
 | n+1=>by
   unfold lexC;by_cases h:gI a n=gI b n
   ·rw [Zqv h,Zqv h.symm,Zm9 n]
   ·rw [Zqw h,Zqw (λe=>h e.symm)];unfold lt1;by_cases h1:gI a n < gI b n
    ·rw [Zqv h1,Zqw zo];rfl
    ·rw [Zqw h1,Zqv zo]
theorem can_ext {a b:List Int} (ha:Can a) (hb:Can b) (h:∀j,gI a j=gI b j):a=b:=by
 have hl:a.length=b.length:=by
  have h1:=h (a.length - 1);have h2:=h (b.length - 1);rcases Nat.lt_trichotomy a.length b.length with hl | hl | hl
  ·rcases hb.2 with hb0 | hb0
   ·omega
   ·rw [←h2,Zdx zo] at hb0;exact absurd rfl hb0
  ·exact hl
  ·rcases ha.2 with ha0 | ha0
   ·omega
   ·rw [h1,Zdx zo] at ha0;exact absurd rfl ha0
 refine List.ext_getElem hl λj h1 h2=>?_;have:=h j
 rwa [Zbo h1,Zbo h2] at this
theorem ordM:Go.Pol.KO Can ltM where
 irr x h:=by obtain⟨k,h1,_⟩:=Zf9.1 h;omega
 tr x y z h g:=by
  obtain⟨k,h1,h2⟩:=Zf9.1 h;obtain⟨i,g1,g2⟩:=Zf9.1 g;rw [Zf9];rcases Nat.lt_trichotomy k i with h3 | h3 | h3
  ·exact⟨i,by rw [h2 i h3];exact g1,λj hj=>by rw [h2 j zo,g2 j hj]⟩
  ·subst h3;exact⟨k,zo,λj hj=>by rw [h2 j hj,g2 j hj]⟩
  ·exact⟨k,by rw [←g2 k h3];exact h1,λj hj=>by rw [h2 j hj,g2 j zo]⟩
 tri x y hx hy:=by
  rcases @Zir x y (max x.length y.length) with⟨_,h⟩ | h | h
  ·refine .inr (.inl (can_ext hx hy λj=>?_));by_cases hj:j < max x.length y.length
   ·exact h j hj
   ·rw [Zdx zo,Zdx zo]
  ·exact .inl h
  ·refine .inr (.inr ?_);unfold ltM;rw [Nat.max_comm,Zm9,h]
theorem Zhs (F:Int→Int→Int) (h0:F 0 0=0) (a b:List Int) (j:Nat):gI (zipI F a b) j=F (gI a j) (gI b j):=by
 by_cases h:j < max a.length b.length
 ·rw [Zbo (by unfold zipI;simpa using h)];unfold zipI;simp only [List.getElem_map,List.getElem_range]
 ·rw [Zdx (by unfold zipI;simp only [Zq1,List.length_range];omega),Zdx zo,Zdx zo,h0]
abbrev mulM (a b:List Int):List Int:=zipI (·+·) a b
theorem Zm2 (a b:List Int):(mulM a b).length=max a.length b.length:=by simp [mulM,zipI]
theorem mulK:Go.Pol.KM Can ltM mulM where
 comm x y:=by
  unfold mulM zipI;rw [Nat.max_comm];exact Zt4 λi _=>Int.add_comm _ _
 dom x y hx hy:=by
  refine⟨λj=>by rw [Zhs _ rfl];have:=hx.1 j;have:=hy.1 j;omega,?_⟩;rw [Zm2,Zhs _ rfl];have a1:=hx.1 (max x.length y.length - 1);have b1:=hy.1 (max x.length y.length - 1);rcases Nat.le_total x.length y.length with h | h
  ·rw [Nat.max_eq_right h] at *;rcases hy.2 with h1 | h1
   ·exact .inl h1
   ·exact .inr zo
  ·rw [Nat.max_eq_left h] at *;rcases hx.2 with h1 | h1
   ·exact .inl h1
   ·exact .inr zo
 mono x y z _ _ _ h:=by
  obtain⟨k,h1,h2⟩:=Zf9.1 h;rw [Zf9];exact⟨k,by rw [Zhs _ rfl,Zhs _ rfl];omega,λj hj=>by rw [Zhs _ rfl,Zhs _ rfl,h2 j hj]⟩
def mvN (v:Nat→Rat) (m:List Int):Nat→Rat
 | 0=>1
 | n+1=>mvN v m n*v n ^ (gI m n).toNat
def mv (v:Nat→Rat) (m:List Int):Rat:=mvN v m m.length
end Go.Proofs.Ytaedgaikloifgaa
namespace Go.Proofs.Ytaedgaikloifgaa
open Go Go.RowKit Go.Pg Go.Pol Go.Proofs.Try
attribute [-bool_to_prop] Bool.and_eq_decide Bool.or_eq_decide Bool.decide_beq_decide decide_eq_decide
abbrev Tm:=Rat × List Int
abbrev Po:=List Tm
abbrev tmA (t:Tm):AV:=.agg [.v (.bool (decide (t.1.num < 0))),lim (toL t.1.num.natAbs),lim (toL t.1.den),ivs t.2]
abbrev poA (p:Po):AV:=.sl 4 (p.map tmA)
abbrev SrtM (p:Po):Prop:=Srt Can ltM p
abbrev addM (p q:Po):Po:=addP ltM p q
abbrev subM (p q:Po):Po:=subP ltM p q
abbrev mlM (p q:Po):Po:=mulR ltM mulM p q
def sclM (a:Rat) (p:Po):Po:=if a=0 then [] else Zmm a p
def PK (p:Po) (k e:Nat):Prop:=∀t∈p,Sz t.1 k∧t.2.length≤1000∧∀j,0≤gI t.2 j∧gI t.2 j≤(e:Int)
theorem PK.mono {p:Po} {k j e f:Nat} (h:PK p k e) (hk:k≤j) (he:e≤f):PK p j f:=λt ht=>⟨(h t ht).1.mono hk,(h t ht).2.1,λi=>by have:=(h t ht).2.2 i;omega⟩
theorem PK.sm {p:Po} {k e:Nat} (h:PK p k e) (he:e≤16777216) {t:Tm} (ht:t∈p):Sm t.2:=⟨(h t ht).2.1,λi=>by have:=(h t ht).2.2 i;omega⟩
theorem PK.nil {k e:Nat}:PK [] k e:=λt ht=>by simp at ht
theorem PK.tail {t:Tm} {p:Po} {k e:Nat} (h:PK (t :: p) k e):PK p k e:=λu hu=>h u (.tail _ hu)
theorem PK.drop {p:Po} {k e:Nat} (h:PK p k e) (i:Nat):PK (p.drop i) k e:=λu hu=>h u (Zsz hu)
theorem PK.add {p q:Po} {j k e:Nat} (hp:PK p j e) (hq:PK q k e):PK (addM p q) (j+k+1) e:=λt ht=>by
 rcases Zkx ht with h | h | ⟨s,hs,u,hu,rfl⟩
 ·exact⟨(hp t h).1.mono zo,(hp t h).2⟩
 ·exact⟨(hq t h).1.mono zo,(hq t h).2⟩
 ·exact⟨(hp s hs).1.add (hq u hu).1,(hp s hs).2⟩
def Zgs (v:Nat):List Int:=List.replicate v 0++[1]
theorem Zec (v:Nat):(Zgs v).length=v+1:=by simp [Zgs]
theorem Zjs (v j:Nat):gI (Zgs v) j=if j=v then 1 else 0:=by
 by_cases h:j < v+1
 ·rw [Zbo (by rw [Zec];exact h)];unfold Zgs;rw [List.getElem_append];by_cases hj:j < v
  ·rw [dif_pos (by simpa using hj),List.getElem_replicate,Zqw zo]
  ·rw [dif_neg (by simpa using hj),Zqv zo];simp
 ·rw [Zdx (by rw [Zec];omega),Zqw zo]
theorem can_unit (v:Nat):Can (Zgs v):=by
 refine⟨λj=>by rw [Zjs];split<;>omega,.inr ?_⟩;rw [Zec,Zjs,Zqv zo];omega
def varM (v:Nat):Po:=if v < 64 then [(1,Zgs v)] else []
theorem Zmd (v:Nat):SrtM (varM v):=by
 unfold varM;split
 ·exact Srt.nil.cons (by show(1:Rat)≠0;decide) (can_unit v) zs
 ·exact .nil
structure RS where
 k:Int
 nm:ByteArray
 ar:List Int
 r:RQ
structure RG where
 k:Int
 ar:List Int
 r:RQ
abbrev RS.av (s:RS):AV:=.agg [iv s.k,strA s.nm,ivs s.ar,.v (.bool s.r.s),lim s.r.l,lim s.r.d]
abbrev RG.av (g:RG):AV:=.agg [iv g.k,ivs g.ar,.v (.bool g.r.s),lim g.r.l,lim g.r.d]
abbrev figA (ss:List RS) (gs:List RG):AV:=.agg [.sl 6 (ss.map RS.av),.sl 5 (gs.map RG.av)]
def RQ.none (r:RQ):Bool:=!r.s && (decide (r.l.length=0) && decide (r.d.length=0))
structure FS where
 cs:List (Po × Po)
 vs:List Vt
 fr:Nat
abbrev coA (c:Po × Po):AV:=.agg [poA c.1,poA c.2]
def FS.at (f:FS) (s:RS) (k:Nat):Po × Po:=f.cs.getD (gI s.ar k).toNat ([],[])
def FS.nxt (f:FS) (i:Nat) (s:RS):List Vt × (Po × Po) :=
 let v:=f.vs.length
 let a:=f.at s 0
 let b:=f.at s 1
 let c:=f.at s 2
 if s.k=1 then
  (if f.fr=0 then ([],([],[]))
   else if f.fr=1 then ([(1,(i:Int),0)],(varM v,[]))
   else ([(1,(i:Int),0),(1,(i:Int),1)],(varM v,varM (v+1))))
 else if s.k=2 then ([],(addM a.1 (sclM s.r.q (subM b.1 a.1)),addM a.2 (sclM s.r.q (subM b.2 a.2))))
 else if s.k=3 then ([],(addM a.1 (subM c.1 b.1),addM a.2 (subM c.2 b.2)))
 else if s.k=4 then ([],(addM a.1 (subM b.2 c.2),addM a.2 (subM c.1 b.1)))
 else if s.k=5 then ([(1,(i:Int),0)],(addM a.1 (mlM (subM b.1 a.1) (varM v)),addM a.2 (mlM (subM b.2 a.2) (varM v))))
 else if s.k=6 then ([(1,(i:Int),0),(2,(i:Int),1),(2,(i:Int),2)],(varM (v+1),varM (v+2)))
 else ([(2,(i:Int),0),(2,(i:Int),1)],(varM v,varM (v+1)))
def FS.push (f:FS) (i:Nat) (s:RS):FS:=⟨f.cs++[(f.nxt i s).2],f.vs++(f.nxt i s).1,if s.k=1 then f.fr+1 else f.fr⟩
def frN (ss:List RS):Nat→FS
 | 0=>⟨[],[],0⟩
 | i+1=>(frN ss i).push i (ss.getD i ⟨0,.empty,[],⟨false,[],[]⟩⟩)
def bigN (ss:List RS) (i:Nat):Bool :=
 decide (64 < (frN ss (i+1)).vs.length) || decide (4000 < ((frN ss i).nxt i (ss.getD i ⟨0,.empty,[],⟨false,[],[]⟩⟩)).2.1.length) || decide (4000 < ((frN ss i).nxt i (ss.getD i ⟨0,.empty,[],⟨false,[],[]⟩⟩)).2.2.length)
def BB (n:Nat):Nat:=65536 ^ (3*n)
theorem BB_pos (n:Nat):1≤BB n:=Nat.one_le_pow _ _ zo
theorem BB_succ (n:Nat):BB (n+1)=BB n*65536 ^ 3:=by unfold BB;rw [←Zst];rfl
def GP (n D v:Nat) (p:Po):Prop:=SrtM p∧∀t∈p,BQ D (BB n) t.1∧t.2.length≤v∧∀j,gI t.2 j≤1
theorem GP.nil {n D v:Nat}:GP n D v []:=⟨.nil,λt h=>by simp at h⟩
theorem GP.mono {n D v m E w:Nat} {p:Po} (h:GP n D v p) (hn:n≤m) (hd:D ∣ E) (hv:v≤w):GP m E w p :=
 ⟨h.1,λt ht=>⟨(h.2 t ht).1.mono hd (Zsy zo zo),by have:=(h.2 t ht).2.1;omega,(h.2 t ht).2.2⟩⟩
def GB (B D v:Nat) (p:Po):Prop:=SrtM p∧∀t∈p,BQ D B t.1∧t.2.length≤v∧∀j,gI t.2 j≤1
theorem GB.mono {B D v C E w:Nat} {p:Po} (h:GB B D v p) (hn:B≤C) (hd:D ∣ E) (hv:v≤w):GB C E w p :=
 ⟨h.1,λt ht=>⟨(h.2 t ht).1.mono hd hn,by have:=(h.2 t ht).2.1;omega,(h.2 t ht).2.2⟩⟩
theorem GB.add {B C D v:Nat} {p q:Po} (h:GB B D v p) (k:GB C D v q):GB (B+C) D v (addM p q):=by
 refine⟨Znj ordM h.1 k.1,λt ht=>?_⟩;rcases Zkx ht with h1 | h1 | ⟨s,hs,u,hu,rfl⟩
 ·exact⟨(h.2 t h1).1.mono (Ztz _) zo,(h.2 t h1).2⟩
 ·exact⟨(k.2 t h1).1.mono (Ztz _) zo,(k.2 t h1).2⟩
 ·exact⟨(h.2 s hs).1.add (k.2 u hu).1,(h.2 s hs).2⟩
theorem GB.neg {B D v:Nat} {p:Po} (h:GB B D v p):GB B D v (Zmm (-1) p):=by
 refine⟨Zkd h.1 neg1,λt ht=>?_⟩;obtain⟨s,hs,rfl⟩:=List.mem_map.1 ht;refine⟨?_,(h.2 s hs).2⟩;have e:s.1*-1=-s.1:=by grind
 show BQ D B (s.1*-1);rw [e];exact(h.2 s hs).1.neg
theorem GB.sub {B C D v:Nat} {p q:Po} (h:GB B D v p) (k:GB C D v q):GB (B+C) D v (subM p q):=h.add k.neg
theorem GB.scl {B C D E v:Nat} {p:Po} {a:Rat} (h:GB B D v p) (ha:BQ E C a):GB (B*C) (D*E) v (sclM a p):=by
 unfold sclM;split
 ·exact⟨.nil,λt h=>by simp at h⟩
 ·rename_i h0;refine⟨Zkd h.1 h0,λt ht=>?_⟩;obtain⟨s,hs,rfl⟩:=List.mem_map.1 ht;exact⟨(h.2 s hs).1.mul ha,(h.2 s hs).2⟩
theorem mul_var (p:Po) (v:Nat):mlM p (varM v)=if v < 64 then Zg4 mulM p (1,Zgs v) else []:=by
 unfold varM;split
 ·show addP ltM [] (Zg4 mulM p (1,Zgs v))=_;simp [addP]
 ·rfl
theorem GB.var {B D v:Nat} {p:Po} (h:GB B D v p):GB B D (v+1) (mlM p (varM v)):=by
 refine⟨mulR_srt ordM mulK h.1 (Zmd v),λt ht=>?_⟩;rw [mul_var] at ht;split at ht
 ·obtain⟨s,hs,rfl⟩:=List.mem_map.1 ht;obtain⟨h1,h2,h3⟩:=h.2 s hs;refine⟨by show BQ D B (s.1*1);rw [Rat.mul_one];exact h1,by show(mulM s.2 (Zgs v)).length≤v+1;rw [Zm2,Zec];omega,λj=>?_⟩;show gI (mulM s.2 (Zgs v)) j≤1;rw [Zhs _ rfl,Zjs];split
  ·rename_i hj;rw [Zdx zo];omega
  ·have:=h3 j;omega
 ·simp at ht
theorem GB.one {B D v w:Nat} (hB:1≤B) (h:v < w):GB B D w (varM v):=by
 refine⟨Zmd v,λt ht=>?_⟩;unfold varM at ht;split at ht
 ·rw [Zts] at ht;subst ht;refine⟨BQ.int 1 (by simpa using hB),by show(Zgs v).length≤w;rw [Zec];omega,λj=>?_⟩;show gI (Zgs v) j≤1;rw [Zjs];split<;>omega
 ·simp at ht
theorem GB.nil {B D v:Nat}:GB B D v []:=⟨.nil,λt h=>by simp at h⟩
structure FI (f:FS) (n D:Nat):Prop where
 D0:D≠0
 Dl:D < 65536 ^ (2*n+1)
 nv:f.vs.length≤64
 cs:∀c∈f.cs,GP n D f.vs.length c.1∧GP n D f.vs.length c.2
 ln:∀c∈f.cs,c.1.length≤4000∧c.2.length≤4000
theorem FI.at {f:FS} {n D:Nat} (h:FI f n D) (s:RS) (k:Nat):(GP n D f.vs.length (f.at s k).1∧GP n D f.vs.length (f.at s k).2)∧(f.at s k).1.length≤4000∧(f.at s k).2.length≤4000:=by
 unfold FS.at;by_cases hk:(gI s.ar k).toNat < f.cs.length
 ·have:=getD_mem (d:=(([],[]):Po × Po)) hk;exact⟨h.cs _ this,h.ln _ this⟩
 ·rw [Zq6,Zse zo];exact⟨⟨.nil,.nil⟩,by simp,by simp⟩
def RQ.bd (r:RQ):Prop:=r.ok=true→r.q.den < 65536 ^ 2∧r.q.num.natAbs < 65536 ^ 2
theorem FI.nxt {f:FS} {n D:Nat} (h:FI f n D) (i:Nat) (s:RS) (hr:s.k=2→s.r.ok=true) (hb:s.r.bd) :
 ∃E,E≠0∧D ∣ E∧E < 65536 ^ (2*(n+if s.k=1 then 0 else 1)+1) ∧
  GP (n+if s.k=1 then 0 else 1) E (f.vs++(f.nxt i s).1).length (f.nxt i s).2.1∧GP (n+if s.k=1 then 0 else 1) E (f.vs++(f.nxt i s).1).length (f.nxt i s).2.2:=by
 obtain⟨⟨a1,a2⟩,-⟩:=h.at s 0;obtain⟨⟨b1,b2⟩,-⟩:=h.at s 1;obtain⟨⟨c1,c2⟩,-⟩:=h.at s 2;have hB:=BB_pos n;have hS:=BB_succ n;unfold FS.nxt;simp only;have one:∀v w,v < w→GP n D w (varM v):=λv w hv=>GB.one hB hv;have up:∀{E v:Nat} {p:Po} {C:Nat},GB C E v p→C≤BB n*65536 ^ 3→GP (n+1) E v p:=λh hc=>GB.mono h (by rw [hS];exact hc) (Ztz _) (Zq0 _);have dl:D < 65536 ^ (2*(n+1)+1):=Zss h.Dl (Zsy zo zo)
 have b3:BB n+(BB n+BB n)≤BB n*65536 ^ 3:=by
  have:BB n*3≤BB n*65536 ^ 3:=Ztn _ zd;omega
 by_cases k1:s.k=1
 ·rw [Zqv k1,Zqv k1];refine⟨D,h.D0,Ztz _,h.Dl,?_⟩;split
  ·exact⟨.nil,.nil⟩
  ·split
   ·exact⟨one _ _ zs,.nil⟩
   ·exact⟨one _ _ zs,one _ _ zs⟩
 ·rw [Zqw k1,Zqw k1];by_cases k2:s.k=2
  ·rw [Zqv k2];obtain⟨h1,h2⟩:=hb (hr k2);refine⟨D*s.r.q.den,Nat.mul_ne_zero h.D0 s.r.q.den_nz,Zuw _ _,?_,?_⟩
   ·calc D*s.r.q.den < 65536 ^ (2*n+1)*65536 ^ 2:=Nat.mul_lt_mul_of_lt_of_lt h.Dl h1
     _=65536 ^ (2*(n+1)+1):=by rw [←Zst];congr 1
   ·have hq:BQ s.r.q.den (65536 ^ 2) s.r.q:=⟨Ztz _,by have:=s.r.q.den_pos;have:=Zt6 (65536 ^ 2) this;omega⟩
    have bd:BB n+(BB n+BB n)*65536 ^ 2≤BB n*65536 ^ 3:=by
     have e1:(BB n+BB n)*65536 ^ 2=BB n*(2*65536 ^ 2):=by rw [←Nat.mul_two,Zr1]
     rw [e1];have:BB n*(1+2*65536 ^ 2)≤BB n*65536 ^ 3:=Ztn _ zd;omega
    rw [Zso];exact⟨up ((GB.mono a1 (Zq0 _) (Zuw _ _) (Zq0 _)).add ((GB.sub b1 a1).scl hq)) bd,up ((GB.mono a2 (Zq0 _) (Zuw _ _) (Zq0 _)).add ((GB.sub b2 a2).scl hq)) bd⟩
  ·rw [Zqw k2];refine⟨D,h.D0,Ztz _,dl,?_⟩;have one':∀v w,v < w→GP (n+1) D w (varM v):=λv w hv=>GB.one (BB_pos _) hv;by_cases k3:s.k=3
   ·rw [Zqv k3,Zso];exact⟨up (GB.add a1 (GB.sub c1 b1)) b3,up (GB.add a2 (GB.sub c2 b2)) b3⟩
   ·rw [Zqw k3];by_cases k4:s.k=4
    ·rw [Zqv k4,Zso];exact⟨up (GB.add a1 (GB.sub b2 c2)) b3,up (GB.add a2 (GB.sub c1 b1)) b3⟩
    ·rw [Zqw k4];by_cases k5:s.k=5
     ·rw [Zqv k5];have e:(f.vs++[(1,(i:Int),0)]).length=f.vs.length+1:=by simp
      rw [e];exact⟨up (GB.add (GB.mono a1 (Zq0 _) (Ztz _) zo) (GB.sub b1 a1).var) b3,up (GB.add (GB.mono a2 (Zq0 _) (Ztz _) zo) (GB.sub b2 a2).var) b3⟩
     ·rw [Zqw k5];by_cases k6:s.k=6
      ·rw [Zqv k6];exact⟨one' _ _ zs,one' _ _ zs⟩
      ·rw [Zqw k6];exact⟨one' _ _ zs,one' _ _ zs⟩
def nfN (ss:List RS):Nat→Nat
 | 0=>0
 | i+1=>nfN ss i+if (ss.getD i ⟨0,.empty,[],⟨false,[],[]⟩⟩).k=1 then 0 else 1
section
variable {N n:Nat} {cs:List AV}
theorem agInt:Zer prog 3=false:=by kernel_rfl
theorem csInt:prog.cellsOf 3=1:=by kernel_rfl
theorem shIvs (h:Zbs prog N n 32 cs):∃l:List Int,cs=[ivs l]∧l.length≤N:=by
 obtain⟨bs,rfl,hl,_⟩:=Zc0 (g:=λk:Int=>[iv k]) (Q:=λ_=>True) underlying32 h λm x hx=>by
  obtain⟨i,rfl,_⟩:=Zfr underlying3 hx;exact⟨i,rfl,trivial⟩
 refine⟨bs,?_,hl⟩;rw [csInt];have:(bs.map λb:Int=>Zca prog 3 [iv b])=bs.map iv:=Zt4 λb _=>Zj3 agInt _;rw [this]
theorem shStep (h:Zbs prog N n 40 cs):∃s:RS,cs=[iv s.k,strA s.nm,ivs s.ar,.v (.bool s.r.s),lim s.r.l,lim s.r.d]∧s.r.lm N∧s.nm.size≤N∧s.ar.length≤N:=by
 obtain⟨m,rfl,hs⟩:=Zcp underlying40 zk h;obtain⟨x,y,rfl,h1,hs⟩:=hs.inv;obtain⟨x2,y,rfl,h2,hs⟩:=hs.inv;obtain⟨x3,y,rfl,h3,hs⟩:=hs.inv;obtain⟨x4,y,rfl,h4,hs⟩:=hs.inv;obtain rfl:=hs.inv0;obtain⟨k,rfl,_⟩:=Zfr underlying3 h1;obtain⟨nm,rfl,hn⟩:=Zkb underlying9 h2;obtain⟨ar,rfl,ha⟩:=shIvs h3;obtain⟨r,rfl,hr⟩:=shRat h4;exact⟨⟨k,nm,ar,r⟩,rfl,hr,hn,ha⟩
theorem shFact (h:Zbs prog N n 42 cs):∃g:RG,cs=[iv g.k,ivs g.ar,.v (.bool g.r.s),lim g.r.l,lim g.r.d]∧g.r.lm N∧g.ar.length≤N:=by
 obtain⟨m,rfl,hs⟩:=Zcp underlying42 zk h;obtain⟨x,y,rfl,h1,hs⟩:=hs.inv;obtain⟨x3,y,rfl,h3,hs⟩:=hs.inv;obtain⟨x4,y,rfl,h4,hs⟩:=hs.inv;obtain rfl:=hs.inv0;obtain⟨k,rfl,_⟩:=Zfr underlying3 h1;obtain⟨ar,rfl,ha⟩:=shIvs h3;obtain⟨r,rfl,hr⟩:=shRat h4;exact⟨⟨k,ar,r⟩,rfl,hr,ha⟩
theorem shSteps (h:Zbs prog N n 22 cs):∃l:List RS,cs=[.sl 6 (l.map RS.av)]∧l.length≤N∧∀s∈l,s.r.lm N∧s.nm.size≤N∧s.ar.length≤N:=by
 obtain⟨bs,rfl,hl,hq⟩:=Zc0 (g:=λs:RS=>[iv s.k,strA s.nm,ivs s.ar,.v (.bool s.r.s),lim s.r.l,lim s.r.d]) (Q:=λs=>s.r.lm N∧s.nm.size≤N∧s.ar.length≤N) underlying22 h λm x hx=>shStep hx;refine⟨bs,?_,hl,hq⟩;rw [show prog.cellsOf 40=6 from by kernel_rfl];have:(bs.map λs:RS=>Zca prog 40 [iv s.k,strA s.nm,ivs s.ar,.v (.bool s.r.s),lim s.r.l,lim s.r.d])=bs.map RS.av:=Zt4 λb _=>Zg2 underlying40 _;rw [this]
theorem shFacts (h:Zbs prog N n 23 cs):∃l:List RG,cs=[.sl 5 (l.map RG.av)]∧l.length≤N∧∀s∈l,s.r.lm N∧s.ar.length≤N:=by
 obtain⟨bs,rfl,hl,hq⟩:=Zc0 (g:=λs:RG=>[iv s.k,ivs s.ar,.v (.bool s.r.s),lim s.r.l,lim s.r.d]) (Q:=λs=>s.r.lm N∧s.ar.length≤N) underlying23 h λm x hx=>shFact hx;refine⟨bs,?_,hl,hq⟩;rw [show prog.cellsOf 42=5 from by kernel_rfl];have:(bs.map λs:RG=>Zca prog 42 [iv s.k,ivs s.ar,.v (.bool s.r.s),lim s.r.l,lim s.r.d])=bs.map RG.av:=Zt4 λb _=>Zg2 underlying42 _;rw [this]
theorem shFigure (h:Zbs prog N n 25 cs):∃(ss:List RS) (gs:List RG),Zca prog 25 cs=figA ss gs∧ss.length≤N∧gs.length≤N∧(∀s∈ss,s.r.lm N∧s.nm.size≤N∧s.ar.length≤N)∧∀s∈gs,s.r.lm N∧s.ar.length≤N:=by
 obtain⟨m,rfl,hs⟩:=Zcp underlying25 zk h;obtain⟨x,y,rfl,h1,hs⟩:=hs.inv;obtain⟨x3,y,rfl,h3,hs⟩:=hs.inv;obtain rfl:=hs.inv0;obtain⟨ss,rfl,hl,hq⟩:=shSteps h1;obtain⟨gs,rfl,kl,kq⟩:=shFacts h3;exact⟨ss,gs,Zg2 underlying25 _,hl,kl,hq,kq⟩
end
end Go.Proofs.Ytaedgaikloifgaa
namespace Go.Pg
open Go Go.RowKit Go.Lib
section
variable {P:Program} {n:Nat}
theorem Zmb {x y:Code} {Q:AE→St→Prop} {st:St} (h:AWP P n x (AE.then (AWP P n y Q) Q) st):AWP P n (.seq x y) Q st:=λc a w imm hr=>by
 refine wp_seq (Ztm (λe a' w' hp=>?_) (h c a w imm hr));obtain⟨ae,st',imm',rfl,h2,h3⟩:=hp
 cases ae with
 | normal=>exact h2 c a' w' imm' h3
 | exit id=>exact⟨.exit id,st',imm',rfl,h2,h3⟩
 | ret=>exact⟨.ret,st',imm',rfl,h2,h3⟩
theorem Znm {o:Oper} {a:Act} {w w':World} {ops:Array Oper} {Qp:Exit→Act→World→Prop} {l:List Oper} {y:Value} (hg:o.guard=none) (hr:(execOp a.eval o).run P w=.ok (.value y) w') (h:wpList P ops Qp l (a.put o.dst y) w'):wpList P ops Qp (o :: l) a w:=by
 unfold wpList;rw [Zqv (by simp [Region.wanted,hg])];refine .inl ?_;unfold Oper.wp;rw [hr];exact h
theorem rebase {c:Cx} {e:Nat→AV} {a:Act} {w:World} {imm:Imm} (h:Rel c n ⟨e,Zac⟩ a w imm):Rel ⟨w.heap.size,w,imm⟩ n ⟨e,Zac⟩ a w imm :=
 ⟨h.env,h.size,h.defers,⟨⟨λk e hk=>by simp [Zac] at hk,λk k' e e' b hk=>by simp [Zac] at hk,h.mem.ok.lt,h.mem.ok.spot⟩,Blw.refl _ _,Zq0 _,λ_ h1=>h1,λ_ h1=>.inl h1,λ_ _=>rfl⟩⟩
theorem unbase {c:Cx} {st':St} {a':Act} {w w':World} {imm imm':Imm} (hm:Mx c Zac w imm) (h:Rel ⟨w.heap.size,w,imm⟩ n st' a' w' imm') (h0:st'.mem=Zac):Rel c n st' a' w' imm':=by
 refine⟨h.env,h.size,h.defers,?_⟩;have hm':=h.mem;rw [h0] at hm' ⊢;exact⟨⟨λk e hk=>by simp [Zac] at hk,λk k' e e' b hk=>by simp [Zac] at hk,hm'.ok.lt,hm'.ok.spot⟩,hm.below.trans (hm'.below.mono hm.lt),Zrn hm.lt hm'.lt,λad h1=>hm'.old ad (hm.old ad h1),λad h1=>(hm'.new ad h1).elim (hm.new ad) (λh2=>.inr (Zrn hm.lt h2)),λad h1=>(hm'.cells ad (hm.old ad h1)).trans (hm.cells ad h1)⟩
structure ItS (c:Cx) (n:Nat) (s:ByteArray) (tI:Nat) (J:Nat→(Nat→AV)→Prop) (pos:Nat) (a:Act) (w:World):Prop where
 h:∃e imm g,Rel c n ⟨e,Zac⟩ a w imm∧w.heap[g]?=some (.stringIter s pos)∧c.B≤g∧(∀ad,imm ad→ad.block≠g)∧e tI=.v (.pointer (some ⟨g,0,none⟩))∧J pos e
theorem Zqo {s:ByteArray} {id1 id2 bid d1 tI d2 d3:Nat} {x:Operand} {ty1 ty2 ty3 ty4 tys:TypeId} {p1 p2 p3 p4:String} {f1 f2 f3 f4:Array Edge} {r2:Code} {Q:AE→St→Prop} {e:Nat→AV}
 (hx:St.ev ⟨e,Zac⟩ x=.v (.string s)) (hty:P.underlying tys=some .string) (h1:d1 < n) (hI:tI < n) (h2:d2 < n) (h3:d3 < n) (hne:tI≠d2) (hne3:tI≠d3) (hne1:d2≠d3) (hf:Zan n r2=true)
 (J:Nat→(Nat→AV)→Prop) (h0:∀pv,J 0 (upd (upd e d1 (.v (.string s))) tI (.v pv)))
 (hstep:∀pos e pv,J pos e→e tI=.v pv→pos < s.size→Zam P 0 n r2 (AE.then (λst'=>st'.mem=Zac∧J (pos+(Utf8.decode s pos).2) st'.env∧st'.env tI=.v pv) λae st'=>st'.mem=Zac∧AE.inBlock bid Q ae st')
  ⟨upd (upd e d2 (.tup [.v (.bool true),.v (.int .i64 pos),.v (.int .i32 (Utf8.decode s pos).1)])) d3 (.v (.bool true)),Zac⟩)
 (hw:∀pos,pos < s.size→0 < (Utf8.decode s pos).2)
 (hend:∀pos e pv,J pos e→e tI=.v pv→¬pos < s.size→Zam P 0 n r2 (AE.then (λ_=>False) λae st'=>st'.mem=Zac∧AE.inBlock bid Q ae st')
  ⟨upd (upd e d2 (.tup [.v (.bool false)])) d3 (.v (.bool false)),Zac⟩) :
 AWP P n (.seq (.region id1 #[⟨some d1,.move x,ty1,p1,f1,none⟩,⟨some tI,.range tys (.tmp d1),ty2,p2,f2,none⟩] false)
  (.block bid (.loop (.seq (.region id2 #[⟨some d2,.next (.tmp tI) true,ty3,p3,f3,none⟩,⟨some d3,.extract (.tmp d2) 0,ty4,p4,f4,none⟩] false) r2)))) Q ⟨e,Zac⟩:=by
 intro c a w imm hr;refine wp_seq (wp_region_list ?_);have ex:=hr.ev x;rw [hx] at ex;have ex:=ex.v_inv;refine Znm rfl (y:=.string s) (w':=w) (by simp [execOp,ex]) ?_;have r1:=hr.step (dst:=some d1) (av:=.v (.string s)) (x:=.string s) (Keeps.refl w imm) hr.mem (λd hd=>by cases hd;exact h1) (.pure (.v _));have e1:=(r1.ev (.tmp d1))
 have e1:(a.put (some d1) (.string s)).eval (.tmp d1)=.string s:=by
  have h9:St.ev (St.put ⟨e,Zac⟩ (some d1) (.v (.string s))) (.tmp d1)=.v (.string s):=by simp [St.ev,St.put,Zaj]
  rw [h9] at e1;exact e1.v_inv
 refine Znm rfl (y:=.pointer (some ⟨w.heap.size,0,none⟩)) (w':=w.iter s 0) (by
  simp only [execOp,e1];exact Zfs (run_range_string w tys s hty)) ?_
 have hcell:∀ad,imm ad→(w.iter s 0).cell? ad=w.cell? ad:=λad h9=>Zt8 w _ ad (hr.mem.ok.lt ad h9);have hm2:Mx c Zac (w.iter s 0) imm:=⟨⟨λk e hk=>by simp [Zac] at hk,λk k' e e' b hk=>by simp [Zac] at hk,λad h9=>Zss (hr.mem.ok.lt ad h9) (Zt0 w (.stringIter s 0) none).size,hr.mem.ok.spot⟩,
  hr.mem.below.grown (Zt0 w (.stringIter s 0) none) (Zq0 _) hr.mem.lt (λg hg=>by cases hg),Zrn hr.mem.lt (Zt0 w (.stringIter s 0) none).size,hr.mem.old,hr.mem.new,λad h9=>(hcell ad (hr.mem.old ad h9)).trans (hr.mem.cells ad h9)⟩
 have r2':=r1.step (dst:=some tI) (av:=.v (.pointer (some ⟨w.heap.size,0,none⟩))) (x:=.pointer (some ⟨w.heap.size,0,none⟩)) (w':=w.iter s 0) (imm':=imm) (λad h9=>⟨h9,hcell ad h9⟩) hm2 (λd hd=>by cases hd;exact hI) (.pure (.v _));show(Code.block bid _).wp P (post c n Q) _ _;refine wp_block ?_;have start:ItS c n s tI J 0 ((a.put (some d1) (.string s)).put (some tI) (.pointer (some ⟨w.heap.size,0,none⟩))) (w.iter s 0) :=
  ⟨_,imm,w.heap.size,r2',World.iter_heap w s 0,hr.mem.lt,λad h9=>Nat.ne_of_lt (hr.mem.ok.lt ad h9),by simp [St.put,Zaj],h0 _⟩
 generalize (a.put (some d1) (.string s)).put (some tI) (.pointer (some ⟨w.heap.size,0,none⟩))=a1 at start;generalize w.iter s 0=w1 at start;clear r2' r1 hm2 hcell e1 ex hr
 let Qp:Exit→Act→World→Prop:=Exit.inBlock bid (post c n Q)
 have lift:∀(ae:AE) (st':St) (a':Act) (w w':World) (imm imm':Imm),Mx c Zac w imm→Rel ⟨w.heap.size,w,imm⟩ n st' a' w' imm'→st'.mem=Zac→AE.inBlock bid Q ae st'→ae≠.normal→Qp ae.to a' w':=by
  intro ae st' a' w w' imm imm' hm hr h9 hq hn;have hr':=unbase hm hr h9
  cases ae with
  | normal=>exact absurd rfl hn
  | exit i =>
    show Exit.inBlock bid (post c n Q) (.exit i) a' w';simp only [AE.inBlock] at hq;by_cases hi:i=bid
    ·subst hi;rw [Zqv rfl] at hq;simp only [Exit.inBlock,Zry];exact⟨.normal,st',imm',rfl,hq,hr'⟩
    ·rw [Zqw hi] at hq;simp only [Exit.inBlock,Zqw hi];exact⟨.exit i,st',imm',rfl,hq,hr'⟩
  | ret=>exact⟨.ret,st',imm',rfl,hq,hr'⟩
 have round:∀pos a w,ItS c n s tI J pos a w→(Code.seq (.region id2 #[⟨some d2,.next (.tmp tI) true,ty3,p3,f3,none⟩,⟨some d3,.extract (.tmp d2) 0,ty4,p4,f4,none⟩] false) r2).wp P
  (Exit.then (λa w=>∃pos',ItS c n s tI J pos' a w∧s.size - pos' < s.size - pos) Qp) a w:=by
  rintro pos a w ⟨e,imm,g,hr,hg,hB,hng,heI,hJ⟩
  have eI:=hr.ev (.tmp tI)
  have eI:a.eval (.tmp tI)=.pointer (some ⟨g,0,none⟩):=by
   rw [show St.ev ⟨e,Zac⟩ (.tmp tI)=_ from heI] at eI;exact eI.v_inv
  refine wp_seq (wp_region_list ?_);have glt:g < w.heap.size:=(Array.getElem?_eq_some_iff.1 hg).1;by_cases hp:pos < s.size
  ·refine Znm rfl (y:=.tuple #[.bool true,.int .i64 pos,.int .i32 (Utf8.decode s pos).1]) (w':=w.iterAt g s (pos+(Utf8.decode s pos).2)) (by
    simp only [execOp,eI];exact Zfs (run_next_any_at w g s pos _ hg hp)) ?_
   have hgrow:w.grownBy (w.iterAt g s (pos+(Utf8.decode s pos).2)) (some g):=by
    refine⟨rfl,rfl,rfl,?_,λk hk hne=>?_⟩
    ·simp [World.iterAt]
    ·simp only [World.iterAt];rw [Zva (λh9=>hne (by rw [h9]))]
   have hcell:∀ad,imm ad→(w.iterAt g s (pos+(Utf8.decode s pos).2)).cell? ad=w.cell? ad:=λad h9=>Zcl hgrow (hr.mem.ok.lt ad h9) (λh8=>hng ad h9 (by cases h8;rfl));have hm2:Mx c Zac (w.iterAt g s (pos+(Utf8.decode s pos).2)) imm:=⟨⟨λk e hk=>by simp [Zac] at hk,λk k' e e' b hk=>by simp [Zac] at hk,λad h9=>Zss (hr.mem.ok.lt ad h9) hgrow.size,hr.mem.ok.spot⟩,
    hr.mem.below.grown hgrow (Zq0 _) hr.mem.lt (λg' hg'=>by cases hg';exact hB),Zrn hr.mem.lt hgrow.size,hr.mem.old,hr.mem.new,λad h9=>(hcell ad (hr.mem.old ad h9)).trans (hr.mem.cells ad h9)⟩
   have q1:=hr.step (dst:=some d2) (av:=.tup [.v (.bool true),.v (.int .i64 pos),.v (.int .i32 (Utf8.decode s pos).1)]) (x:=.tuple #[.bool true,.int .i64 pos,.int .i32 (Utf8.decode s pos).1]) (imm':=imm) (λad h9=>⟨h9,hcell ad h9⟩) hm2 (λd hd=>by cases hd;exact h2)
    (.pure (.tup _ _ rfl λj a x k1 k2=>by
     match j with
     | 0=>simp at k1 k2;subst k1;subst k2;exact .v _
     | 1=>simp at k1 k2;subst k1;subst k2;exact .v _
     | 2=>simp at k1 k2;subst k1;subst k2;exact .v _
     | j+3=>simp at k1))
   have v2:=q1.env d2
   have v2:(a.put (some d2) (.tuple #[.bool true,.int .i64 pos,.int .i32 (Utf8.decode s pos).1])).eval (.tmp d2)=.tuple #[.bool true,.int .i64 pos,.int .i32 (Utf8.decode s pos).1]:=by
    show(a.put (some d2) _).tmps.getD d2 undef=_;rw [Act.put_getD a d2 _ (by rw [hr.size];exact h2),Zqv rfl]
   refine Znm rfl (y:=.bool true) (w':=w.iterAt g s (pos+(Utf8.decode s pos).2)) (by
    simp only [execOp,v2];simp [Instr.extract]) ?_
   have q2:=q1.step (dst:=some d3) (av:=.v (.bool true)) (x:=.bool true) (Keeps.refl _ imm) hm2 (λd hd=>by cases hd;exact h3) (.pure (.v _));have hst:=hstep pos e _ hJ heI hp;have q3:=rebase q2;refine Ztm (λee a' w' hpost=>?_) (Zat r2 _ _ hf hst _ _ _ _ q3);obtain⟨ae,st',imm',rfl,hq,hrel⟩:=hpost
   cases ae with
   | normal =>
     obtain⟨hm,hJ',hpv⟩:=hq;have hr':=unbase hm2 hrel hm;refine⟨pos+(Utf8.decode s pos).2,⟨st'.env,imm',g,?_,?_,hB,λad h9=>?_,hpv,hJ'⟩,by have:=hw pos hp;omega⟩
     ·obtain⟨en,me⟩:=st';simp only at hm;subst hm;exact hr'
     ·rw [hrel.mem.below.block g (Zss glt hgrow.size)];exact iterAt_heap w g s pos _ hg
     ·rcases hrel.mem.new ad h9 with h8 | h8
      ·exact hng ad h8
      ·have:(w.iterAt g s (pos+(Utf8.decode s pos).2)).heap.size≤ad.block:=h8;have:=hgrow.size;omega
   | exit i=>exact lift (.exit i) st' a' _ w' imm imm' hm2 hrel hq.1 hq.2 zs
   | ret=>exact lift .ret st' a' _ w' imm imm' hm2 hrel hq.1 hq.2 zs
  ·refine Znm rfl (y:=.tuple #[.bool false]) (w':=w) (by
    simp only [execOp,eI];exact Zfs (run_next_end_at w g s pos _ hg hp)) ?_
   have q1:=hr.step (dst:=some d2) (av:=.tup [.v (.bool false)]) (x:=.tuple #[.bool false]) (Keeps.refl w imm) hr.mem (λd hd=>by cases hd;exact h2)
    (.pure (.tup _ _ rfl λj a x k1 k2=>by
     match j with
     | 0=>simp at k1 k2;subst k1;subst k2;exact .v _
     | j+1=>simp at k1))
   have v2:(a.put (some d2) (.tuple #[.bool false])).eval (.tmp d2)=.tuple #[.bool false]:=by
    show(a.put (some d2) _).tmps.getD d2 undef=_;rw [Act.put_getD a d2 _ (by rw [hr.size];exact h2),Zqv rfl]
   refine Znm rfl (y:=.bool false) (w':=w) (by
    simp only [execOp,v2];simp [Instr.extract]) ?_
   have q2:=q1.step (dst:=some d3) (av:=.v (.bool false)) (x:=.bool false) (Keeps.refl _ imm) hr.mem (λd hd=>by cases hd;exact h3) (.pure (.v _));have hst:=hend pos e _ hJ heI hp;have q3:=rebase q2;refine Ztm (λee a' w' hpost=>?_) (Zat r2 _ _ hf hst _ _ _ _ q3);obtain⟨ae,st',imm',rfl,hq,hrel⟩:=hpost
   cases ae with
   | normal=>exact hq.elim
   | exit i=>exact lift (.exit i) st' a' _ w' imm imm' hr.mem hrel hq.1 hq.2 zs
   | ret=>exact lift .ret st' a' _ w' imm imm' hr.mem hrel hq.1 hq.2 zs
 intro b k cs;have key:∀m pos a w,s.size - pos=m→ItS c n s tI J pos a w →
  ∃ee a' w',Qp ee a' w'∧Arrives P (lone (b.at a (.code (Code.seq (.region id2 #[⟨some d2,.next (.tmp tI) true,ty3,p3,f3,none⟩,⟨some d3,.extract (.tmp d2) 0,ty4,p4,f4,none⟩] false) r2) :: .inLoop (Code.seq (.region id2 #[⟨some d2,.next (.tmp tI) true,ty3,p3,f3,none⟩,⟨some d3,.extract (.tmp d2) 0,ty4,p4,f4,none⟩] false) r2) :: k)) cs w) b k cs ee a' w':=by
  intro m
  induction m using Nat.strongRecOn with
  | _ m ih =>
    intro pos a w hm hI';obtain⟨ee,a₁,w₁,hq,harr⟩:=round pos a w hI' b (.inLoop _ :: k) cs
    cases ee with
    | normal =>
      obtain⟨pos',h8,h9⟩:=hq;obtain⟨e₂,a₂,w₂,hq₂,harr₂⟩:=ih (s.size - pos') (hm ▸ h9) pos' a₁ w₁ rfl h8;exact⟨e₂,a₂,w₂,hq₂,.of_steps (Steps.trans harr (.one step_inLoop)) harr₂⟩
    | exit id=>exact⟨.exit id,a₁,w₁,hq,.pass (x:=.inLoop _) rfl (λ_ _=>.inl zs) harr⟩
    | goto l=>exact⟨.goto l,a₁,w₁,hq,.pass (x:=.inLoop _) rfl (λ_ _=>.inl zs) harr⟩
    | ret=>exact⟨.ret,a₁,w₁,hq,.pass (x:=.inLoop _) rfl (λ_ _=>.inl zs) harr⟩
    | panic ch=>exact⟨.panic ch,a₁,w₁,hq,.pass (x:=.inLoop _) rfl (λ_ _=>.inl zs) harr⟩
    | outgrown=>exact⟨.outgrown,a₁,w₁,hq,.pass (x:=.inLoop _) rfl (λ_ _=>.inl zs) harr⟩
 obtain⟨ee,a',w',hq,harr⟩:=key _ 0 a1 w1 rfl start;exact⟨ee,a',w',hq,.of_steps (.one step_loop) harr⟩
theorem Zlr {f:FuncId} {fn:Func} {code:Code} {rs:List ResultVar} {args:List AV} {r:AV} (hf:P.funcs[f]?=some fn) (hb:fn.body=some code) (hn:fn.ntmps=n) (hrs:fn.results=rs.toArray)
 (hc:∀(vs:Array Value) (w:World),(callFunc f vs).run P w=.ok (.enter f vs) w) (hal:args.length≤n)
 (h:AWP P n code (Done P rs λst=>Zik st r) ⟨λt=>args.getD t .u,Zac⟩):Pure P f args r:=by
 refine⟨hc,λw imm vs himm hl hr=>?_⟩;refine calls_of_wp hf hb ?_
 let c:Cx:=⟨w.heap.size,w,imm⟩
 have hrel:Rel c n ⟨λt=>args.getD t .u,Zac⟩ { tmps:=vs++Array.replicate (fn.ntmps - vs.size) undef,defers:=[] } w imm:=by
  refine⟨λt=>?_,by simp [hn];omega,rfl,⟨⟨λk e hk=>by simp [Zac] at hk,λk k' e e' b hk=>by simp [Zac] at hk,λad h1=>(himm ad h1).1,λad h1=>(himm ad h1).2⟩,Blw.refl _ _,Zq0 _,λ_ h1=>h1,λ_ h1=>.inl h1,λ_ _=>rfl⟩⟩;simp only [Zq6];rcases Zrc t args.length with ht | ht
  ·have ht2:t < vs.size:=zo;rw [Zqx ht,Zsg,Ztw ht2,Zrq ht2];exact .pure (hr t _ _ (Zqx ht) (Zrq ht2))
  ·rw [Zse ht];exact .pure (.u _)
 refine Ztm (λe a' w' hp=>?_) (h c _ w imm hrel);obtain⟨ae,st',imm',rfl,hdone,hrel'⟩:=hp;have hret:=Zjy hdone;have hae:∀id,ae≠.exit id:=by rintro id rfl;exact hdone
 obtain⟨y,b,hrun,⟨hpo,hpv⟩,hrs'⟩:=Zja hrs hrel' hret;obtain⟨i2,hm2,hk2⟩:=Zbv b.toks hrel'.mem;have hrd:=Zd8 hm2 (hk2.rs hrs') hpo;rw [hpv] at hrd;have fin:a'.defers=[]∧∃v,(results fn a'.tmps).run P w'=.ok v w'∧(λe w'=>∃x imm',e=Ending.returned x∧Rd w' imm' r x∧(∀ad,imm ad→imm' ad)∧(∀ad,imm' ad→(imm ad∨w.heap.size≤ad.block)∧ad.block < w'.heap.size∧ad.spot=none)∧Blw w.heap.size w w') (Ending.returned v) w' :=
  ⟨hrel'.defers,y,hrun,y,i2,rfl,hrd,hm2.old,λad h1=>⟨hm2.new ad h1,hm2.ok.lt ad h1,hm2.ok.spot ad h1⟩,hm2.below⟩
 cases ae with
 | normal=>exact fin
 | ret=>exact fin
 | exit id=>exact absurd rfl (hae id)
theorem Zog (s:ByteArray) (i:Nat):0 < (Utf8.decode s i).2:=by
 unfold Utf8.decode;simp only
 repeat' split
 all_goals simp
end
end Go.Pg
namespace Go.Proofs.Ytaedgaikloifgaa
open Go Go.RowKit Go.Pg Go.Proofs.Try
attribute [-bool_to_prop] Bool.and_eq_decide Bool.or_eq_decide Bool.decide_beq_decide decide_eq_decide
attribute [go_sem] underlying75 zStr
attribute [local go_sem] Zgt Zgu
def kwL:List ByteArray:=[
 ⟨#[97,110,103,108,101]⟩,
 ⟨#[97,112,101,120]⟩,
 ⟨#[98,105,115,101,99,116,111,114]⟩,
 ⟨#[99,101,110,116,101,114]⟩,
 ⟨#[99,105,114,99,108,101]⟩,
 ⟨#[99,105,114,99,117,109]⟩,
 ⟨#[99,111,108,108,105,110,101,97,114]⟩,
 ⟨#[99,111,109,109,111,110]⟩,
 ⟨#[99,111,110,99,121,99,108,105,99]⟩,
 ⟨#[99,111,110,103,114,117,101,110,116]⟩,
 ⟨#[99,114,111,115,115]⟩,
 ⟨#[99,117,116]⟩,
 ⟨#[100,105,118,105,100,101]⟩,
 ⟨#[102,111,111,116]⟩,
 ⟨#[108,105,110,101]⟩,
 ⟨#[109,101,101,116]⟩,
 ⟨#[109,105,100,112,111,105,110,116]⟩,
 ⟨#[109,105,114,114,111,114]⟩,
 ⟨#[111,110]⟩,
 ⟨#[111,116,104,101,114]⟩,
 ⟨#[112,97,114,97,108,108,101,108]⟩,
 ⟨#[112,101,114,112,101,110,100,105,99,117,108,97,114]⟩,
 ⟨#[112,111,105,110,116,115]⟩,
 ⟨#[112,114,111,118,101]⟩,
 ⟨#[114,97,116,105,111]⟩,
 ⟨#[114,101,102,108,101,99,116]⟩,
 ⟨#[115,97,109,101]⟩,
 ⟨#[115,104,105,102,116]⟩,
 ⟨#[116,117,114,110]⟩]
def letB (c:Nat):Bool:=decide (97≤c∧c≤122) || decide (65≤c∧c≤90)
def digB (c:Nat):Bool:=decide (48≤c∧c≤57)
def gB (s:ByteArray) (k:Nat):Nat:=(s.data.toList.getD k 0).toNat
theorem Zp9 (s:ByteArray) (k:Nat):gB s k < 256:=UInt8.toNat_lt _
def namB (s:ByteArray):Bool:=decide (0 < s.size∧s.size≤20) && (letB (gB s 0) && ((List.range s.size).all (λk=>letB (gB s k) || digB (gB s k)) && !(kwL.any λw=>w.toList == s.toList)))
theorem Zi7 (s:ByteArray):(s.toList == (⟨#[]⟩:ByteArray).toList)=decide (s.size=0):=by
 rw [ByteArray.toList_eq,ByteArray.toList_eq,Zrt,Zsq,Zrs];constructor
 ·intro h;have:=congrArg List.length h;exact this
 ·intro h;exact List.length_eq_zero_iff.1 h
theorem Zqa (s:ByteArray) (k:Nat):((s.data.toList.getD k 0).toNat:Int)=(gB s k:Int):=rfl
theorem Zgc (s:ByteArray):∀n,n≤s.size→∃k,k≤n∧(∀j,j < k→(letB (gB s j) || digB (gB s j))=true)∧(k < n→(letB (gB s k) || digB (gB s k))=false)
 | 0,_=>⟨0,zo,λj h=>zo,λh=>zo⟩
 | n+1,h=>by
   obtain⟨k,h1,h2,h3⟩:=Zgc s n zo;by_cases hk:k < n
   ·exact⟨k,zo,h2,λ_=>h3 hk⟩
   ·have:k=n:=zo;subst this
    cases hb:(letB (gB s k) || digB (gB s k)) with
    | true=>exact⟨k+1,zo,λj hj=>by by_cases e:j=k;rw [e];exact hb;exact h2 j zo,λh=>zo⟩
    | false=>exact⟨k,zo,h2,λ_=>hb⟩
def kinB (c:Nat):Int:=if c=32∨c=9∨c=13∨c=10 then 1 else if letB c=true then 2 else if digB c=true then 3 else if c=40∨c=41∨c=44∨c=59∨c=47∨c=45 then 4 else if c=58 then 5 else if c=35 then 6 else 0
theorem Zna (c:Nat):kinB c=2↔letB c=true:=by
 unfold kinB letB;simp only [Zsk,Zrs]
 repeat' split
 all_goals omega
theorem kinB_dig (c:Nat):kinB c=3↔digB c=true:=by
 unfold kinB letB digB;simp only [Zsk,Zrs]
 repeat' split
 all_goals omega
theorem nmKind (c:Nat) (hc:c < 256):Pure prog 48 [.v (.int .u8 (c:Int))] (iv (kinB c)):=by
 unfold kinB letB digB;simp only [Zsk,Zrs];refine pI func48 rfl ntmps48 results48 call48 ?_;(focus (refine wklp w_t w_t w_t (w_r 0) ?_;(repeat' first|exact w_t|apply w_l);all_goals intros));all_goals (congr 2;repeat' split)
 all_goals (first|rfl|omega)
theorem nmEnd (s:ByteArray) (hs:s.size≤9223372036854775807):∃n:Nat,Pure prog 49 [strA s,iv 0,.v (.bool true)] (iv n)∧n≤s.size∧(n=s.size↔(List.range s.size).all (λk=>letB (gB s k) || digB (gB s k))=true):=by
 obtain⟨n,h1,h2,h3⟩:=Zgc s s.size (Zq0 _);refine⟨n,?_,h1,?_⟩
 ·refine pI func49 rfl ntmps49 results49 call49 ?_;(focus (refine wkap w_t w_t (w_r 0) ?_;(repeat' first|exact w_t|apply w_l);all_goals intros));refine Zai (ι:=Nat) (λi e m=>i≤n∧e 0=strA s∧e 1=iv i∧e 2=.v (.bool true)) (λi=>n - i) 0 zr ?_ ?_
  ·rintro i e m ⟨hi,e0,e1,e2⟩
   have hk:=nmKind (gB s i) (Zp9 s i);have kl:=Zna (gB s i);have kd:=kinB_dig (gB s i);by_cases hlt:i < n
   ·have hb:=h2 i hlt;rw [Zsk,←kl,←kd] at hb;clear kl kd;have hg:=Zqa s i;generalize kinB (gB s i)=x at *;rcases hb with hb | hb
    ·subst hb;(focus (refine wkap (w_4 e0 e1 e2 hg) (w_1 hk) (w_r 0) ?_;(repeat' first|exact w_t|apply w_l);all_goals intros));exact⟨i+1,⟨zo,gW e0,gS,gW e2⟩,zo⟩
    ·subst hb;(focus (refine wkap (w_4 e0 e1 e2 hg) (w_1 hk) (w_r 0) ?_;(repeat' first|exact w_t|apply w_l);all_goals intros));exact⟨i+1,⟨zo,gW e0,gS,gW e2⟩,zo⟩
   ·have hin:i=n:=zo;subst hin;by_cases hsz:i < s.size
    ·have hb:=h3 hsz;rw [Zth] at hb;have b1:kinB (gB s i)≠2:=λh=>by rw [kl.1 h] at hb;exact absurd hb.1 zd
     have b2:kinB (gB s i)≠3:=λh=>by rw [kd.1 h] at hb;exact absurd hb.2 zd
     clear kl kd;have hg:=Zqa s i;generalize kinB (gB s i)=x at *;(focus (refine wklp (w_4 e0 e1 e2 hg) (w_1 hk) w_t (w_r 0) ?_;(repeat' first|exact w_t|apply w_l);all_goals intros))
    ·(focus (refine wklp (w_3 e0 e1 e2) w_t w_t (w_r 0) ?_;(repeat' first|exact w_t|apply w_l);all_goals intros))
  ·exact⟨Zre _,gC,gC,gC⟩
 ·rw [Ztf];constructor
  ·intro h x hx;exact h2 x (by rw [h];exact List.mem_range.1 hx)
  ·intro h;rcases Zrc n s.size with h4 | h4
   ·have:=h n (List.mem_range.2 h4);rw [h3 h4] at this;cases this
   ·omega
theorem nmKeys:Pure prog 50 [] (.sl 1 (kwL.map strA)):=by
 unfold kwL;refine pI func50 rfl ntmps50 results50 call50 ?_;(focus (refine wklp w_t w_t w_t (w_r 0) ?_;(repeat' first|exact w_t|apply w_l);all_goals intros))
theorem rnKeys:Pure prog 69 [] (.sl 1 (kwL.map strA)):=by
 unfold kwL;refine pI func69 rfl ntmps69 results69 call69 ?_;exact wklp w_t w_t w_t (w_r 0) w_z
theorem Zmn (c:Nat) (hc:c < 256):Pure prog 67 [.v (.int .u8 (c:Int))] (.v (.bool (letB c))):=by
 unfold letB;refine pI func67 rfl ntmps67 results67 call67 ?_;exact wklp w_t w_t w_t (w_r 0) w_z
theorem rnDigit (c:Nat) (hc:c < 256):Pure prog 68 [.v (.int .u8 (c:Int))] (.v (.bool (digB c))):=by
 unfold digB;refine pI func68 rfl ntmps68 results68 call68 ?_;exact wklp w_t w_t w_t (w_r 0) w_z
theorem Zcu:kwL.length=29:=rfl
theorem nmName (s:ByteArray) (hs:s.size≤9223372036854775807):Pure prog 31 [strA s] (.v (.bool (namB s))):=by
 have he:=Zi7 s;unfold namB;by_cases h0:0 < s.size∧s.size≤20
 ·rw [Zqz h0,Zs0];have h00:(decide (s.size=0))=false:=Zqy zo;rw [h00] at he;have hk:=nmKind (gB s 0) (Zp9 s 0);have hg:=Zqa s 0;have kl:=Zna (gB s 0)
  cases hl:letB (gB s 0) with
  | false =>
    have hx:kinB (gB s 0)≠2:=λh=>by rw [kl.1 h] at hl;cases hl
    clear kl;rw [Zr3];generalize kinB (gB s 0)=x at *;refine pI func31 rfl ntmps31 results31 call31 ?_;(focus (refine wklp (w_2 he hg) (w_1 hk) w_t (w_r 0) ?_;(repeat' first|exact w_t|apply w_l);all_goals intros))
  | true =>
    have hx:kinB (gB s 0)=2:=kl.2 hl;rw [hx] at hk;rw [Zs0];obtain⟨n,ce,hn,hall⟩:=nmEnd s hs
    cases ha:(List.range s.size).all (λk=>letB (gB s k) || digB (gB s k)) with
    | false =>
      have hlt:n < s.size:=by
       rcases Zrc n s.size with h | h
       ·exact h
       ·rw [hall.1 zo] at ha;cases ha
      rw [Zr3];clear hall ha;refine pI func31 rfl ntmps31 results31 call31 ?_;(focus (refine wklp (w_2 he hg) (w_2 hk ce) w_t (w_r 0) ?_;(repeat' first|exact w_t|apply w_l);all_goals intros))
    | true =>
      have hnn:n=s.size:=hall.2 ha;subst hnn;rw [Zs0];clear hall ha hl hx kl;have ck:=nmKeys;refine pI func31 rfl ntmps31 results31 call31 ?_;(focus (refine wkap (w_4 he hg @Zf0 @Zcu) (w_3 hk ce ck) (w_r 0) ?_;(repeat' first|exact w_t|apply w_l);all_goals intros));refine Zai (ι:=Nat) (λi e m=>i≤29∧e 0=strA s∧e 25=.sl 1 (kwL.map strA)∧e 26=iv 29∧e 27=iv i∧(kwL.take i).any (λw=>w.toList == s.toList)=false) (λi=>29 - i) 0 zr ?_ ?_
      ·rintro i e m ⟨hi,e0,e25,e26,e27,hno⟩
       by_cases hlt:i < 29
       ·have hlt':i < kwL.length:=by rw [Zcu];exact hlt
        have hgk:=Zah strA hlt';have hsn:kwL.take (i+1)=kwL.take i++[kwL[i]]:=Zul hlt';have hmem:kwL[i]∈kwL:=Zrz hlt';generalize kwL[i]=w at *
        cases hw:(w.toList == s.toList) with
        | true =>
          have:kwL.any (λw=>w.toList == s.toList)=true:=List.any_eq_true.2 ⟨w,hmem,hw⟩;rw [this];(focus (refine wklp (w_8 e0 e25 e26 e27 hgk hw @Zf0 @Zcu) w_t (w_1 @Zue) (w_r 0) ?_;(repeat' first|exact w_t|apply w_l);all_goals intros))
        | false =>
          (focus (refine wkap (w_8 e0 e25 e26 e27 hgk hw @Zf0 @Zcu) w_t (w_r 0) ?_;(repeat' first|exact w_t|apply w_l);all_goals intros));exact⟨i+1,⟨zo,gW e0,gW e25,gW e26,gS,by rw [hsn,List.any_append,hno];simp [hw]⟩,zo⟩
       ·have hi2:i=29:=zo;subst hi2;rw [show kwL.take 29=kwL from by rw [←Zcu,Ztp]] at hno;rw [hno];(focus (refine wklp (w_4 e0 e25 e26 e27) w_t (w_1 @Zuk) (w_r 0) ?_;(repeat' first|exact w_t|apply w_l);all_goals intros))
      ·exact⟨Zre _,gC,gC,by(simp (disch:=omega) only [go_sem,Zq1,Zcu]<;>repeat' first|rfl|refine⟨?_,?_⟩),gC,by simp⟩
 ·rw [Zqy h0,Zr3];by_cases h1:s.size=0
  ·rw [Zqz h1] at he;refine pI func31 rfl ntmps31 results31 call31 ?_;(focus (refine wklp (w_1 he) w_t w_t (w_r 0) ?_;(repeat' first|exact w_t|apply w_l);all_goals intros))
  ·rw [Zqy h1] at he;refine pI func31 rfl ntmps31 results31 call31 ?_;(focus (refine wklp (w_1 he) w_t w_t (w_r 0) ?_;(repeat' first|exact w_t|apply w_l);all_goals intros))
theorem decode_1 (s:ByteArray) (k:Nat) (hk:k < s.size) (h:gB s k < 128):(Utf8.decode s k).2=1:=by
 have e:(s[k]'hk).toNat=gB s k:=by
  unfold gB;rw [Zq6,Zqx (by simpa using hk)];rfl
 rw [decode_ascii s k hk zo]
theorem ld_ascii {c:Nat} (h:(letB c || digB c)=true):c < 128:=by
 unfold letB digB at h;simp only [Zsk,Zrs] at h;omega
theorem rnName (s:ByteArray) (hs:s.size≤9223372036854775807):Pure prog 41 [strA s] (.v (.bool (namB s))):=by
 have he:=Zi7 s;unfold namB;by_cases h0:0 < s.size∧s.size≤20
 ·rw [Zqz h0,Zs0];have h00:(decide (s.size=0))=false:=Zqy zo;rw [h00] at he;have hk:=Zmn (gB s 0) (Zp9 s 0);have hg:=Zqa s 0
  cases hl:letB (gB s 0) with
  | false =>
    rw [hl] at hk;rw [Zr3];refine pI func41 rfl ntmps41 results41 call41 ?_;exact wklp (w_2 he hg) (w_1 hk) w_t (w_r 0) w_z
  | true =>
    rw [hl] at hk;rw [Zs0];obtain⟨n,h1,h2,h3⟩:=Zgc s s.size (Zq0 _)
    have hall:(List.range s.size).all (λk=>letB (gB s k) || digB (gB s k))=decide (n=s.size):=by
     rw [Zrt,Ztf,Zrs];constructor
     ·intro h;rcases Zrc n s.size with h4 | h4
      ·have:=h n (List.mem_range.2 h4);rw [h3 h4] at this;cases this
      ·omega
     ·intro h x hx;exact h2 x (by rw [h];exact List.mem_range.1 hx)
    rw [hall];have ck:=rnKeys;refine Zlr (rs:=[.tmp 2]) func41 rfl ntmps41 results41 call41 zs ?_;refine Zmb (Zat (tok:=0) _ _ _ zr ?_)
    (refine wkap w_t w_t (w_r 0) (w_s ?_);intros)
    refine Zmb (Zat (tok:=0) _ _ _ zr ?_)
    (refine wkap (w_2 he hg) (w_1 hk) (w_r 0) (w_s ?_);intros)
    refine Zmb ?_;clear hk hg he hall;refine Zqo (s:=s) (gC) underlying9 zo zo zo zo zo zo zo zr (λpos e=>pos≤n∧e 0=strA s) ?_ ?_ (λpos _=>Zog s pos) ?_
    ·intro pv;exact⟨Zre _,gC⟩
    ·rintro pos e pv ⟨hp,e0⟩ epv hlt
     have hkl:=Zmn (gB s pos) (Zp9 s pos);have hkd:=rnDigit (gB s pos) (Zp9 s pos);have hg:=Zqa s pos;by_cases hpn:pos < n
     ·have hb:=h2 pos hpn;have hd:=decode_1 s pos hlt (ld_ascii hb);rw [hd];generalize (Utf8.decode s pos).1=cc
      cases hl2:letB (gB s pos) with
      | true =>
        rw [hl2] at hkl
        (refine wkap (w_2 e0 hg) (w_2 hkl hkd) (w_r 0) (w_s ?_);intros)
        exact⟨rfl,⟨zo,gW e0⟩,gW epv⟩
      | false =>
        rw [hl2,Bool.false_or] at hb;rw [hl2] at hkl;rw [hb] at hkd
        (refine wkap (w_2 e0 hg) (w_2 hkl hkd) (w_r 0) (w_s ?_);intros)
        exact⟨rfl,⟨zo,gW e0⟩,gW epv⟩
     ·have hpe:pos=n:=zo;subst hpe;have hb:=h3 hlt;rw [Zth] at hb;rw [hb.1] at hkl;rw [hb.2] at hkd;have hne:decide (pos=s.size)=false:=Zqy zo;rw [hne];generalize (Utf8.decode s pos).1=cc;generalize (Utf8.decode s pos).2=cw
      (refine wkap (w_2 e0 hg) (w_2 hkl hkd) (w_r 0) (w_s ?_);intros)
      refine⟨rfl,?_⟩;exact wklp w_t w_t w_t (w_r 0) w_z
    ·rintro pos e pv ⟨hp,e0⟩ epv hlt
     have hpe:n=s.size:=zo;rw [Zqz hpe,Zs0]
     (refine wkap (w_1 e0) w_t (w_r 0) (w_s ?_);intros)
     refine⟨rfl,?_⟩;refine Zj8 (t_then ?_);refine Zat (tok:=0) _ _ _ zr ?_
     (refine wkap (w_3 e0 @Zf0 @Zcu) (w_1 ck) (w_r 0) (w_s ?_);intros)
     refine Zai (ι:=Nat) (λi e m=>i≤29∧e 0=strA s∧e 36=.sl 1 (kwL.map strA)∧e 37=iv 29∧e 38=iv i∧(kwL.take i).any (λw=>w.toList == s.toList)=false) (λi=>29 - i) 0 zr ?_ ?_
     ·rintro i e m ⟨hi,e0,e25,e26,e27,hno⟩
      by_cases hlt:i < 29
      ·have hlt':i < kwL.length:=by rw [Zcu];exact hlt
       have hgk:=Zah strA hlt';have hsn:kwL.take (i+1)=kwL.take i++[kwL[i]]:=Zul hlt';have hmem:kwL[i]∈kwL:=Zrz hlt';generalize kwL[i]=w at *;have hsy:(s.toList == w.toList)=(w.toList == s.toList):=by rw [Zrt,Zsq,Zsq];exact eq_comm
       cases hw:(w.toList == s.toList) with
       | true =>
         have:kwL.any (λw=>w.toList == s.toList)=true:=List.any_eq_true.2 ⟨w,hmem,hw⟩;rw [this];rw [hw] at hsy;exact wklp (w_8 e0 e25 e26 e27 hgk hsy @Zf0 @Zcu) w_t (w_1 @Zue) (w_r 0) w_z
       | false =>
         rw [hw] at hsy
         (refine wkap (w_8 e0 e25 e26 e27 hgk hsy @Zf0 @Zcu) w_t (w_r 0) (w_s ?_);intros)
         exact⟨i+1,⟨zo,gW e0,gW e25,gW e26,gS,by rw [hsn,List.any_append,hno];simp [hw]⟩,zo⟩
      ·have hi2:i=29:=zo;subst hi2;rw [show kwL.take 29=kwL from by rw [←Zcu,Ztp]] at hno;rw [hno];exact wklp (w_4 e0 e25 e26 e27) w_t (w_1 @Zuk) (w_r 0) w_z
     ·exact⟨Zre _,gW e0,gC,by(simp (disch:=omega) only [go_sem,Zq1,Zcu]<;>repeat' first|rfl|refine⟨?_,?_⟩),gC,by simp⟩
 ·rw [Zqy h0,Zr3];by_cases h1:s.size=0
  ·rw [Zqz h1] at he;refine pI func41 rfl ntmps41 results41 call41 ?_;exact wklp (w_1 he) w_t w_t (w_r 0) w_z
  ·rw [Zqy h1] at he;refine pI func41 rfl ntmps41 results41 call41 ?_;exact wklp (w_1 he) w_t w_t (w_r 0) w_z
end Go.Proofs.Ytaedgaikloifgaa
namespace Go.Proofs.Ytaedgaikloifgaa
open Go Go.RowKit Go.Pg Go.Pol Go.Proofs.Try
attribute [-bool_to_prop] Bool.and_eq_decide Bool.or_eq_decide Bool.decide_beq_decide decide_eq_decide
def arS (k:Int):Int :=
 if k=1 then 0 else if k=2∨k=5∨k=6∨k=14 then 2 else if k=3∨k=4∨k=7∨k=8∨k=10∨k=11 then 3 else if k=9∨k=12∨k=13 then 4 else -1
def arG (k:Int):Int :=
 if k=8 then 2 else if k=1∨k=5 then 3 else if k=2∨k=3∨k=4∨k=6∨k=9 then 4 else if k=7 then 8 else 0
def outB (n:Int) (l:List Int):Bool:=l.any λa=>decide (a < 0) || decide (n≤a)
abbrev RS.zero:RS:=⟨0,.empty,[],⟨false,[],[]⟩⟩
def errS (ss:List RS) (i:Nat):Int :=
 let s:=ss.getD i RS.zero
 if arS s.k < 0 then 8
 else if (s.ar.length:Int)≠arS s.k then 1
 else if outB (i:Int) s.ar=true then 2
 else if (s.k=2∧s.r.ok=false)∨(s.k≠2∧s.r.none=false) then 1
 else if s.nm.size=0 then 0
 else if namB s.nm=false then 6
 else if (ss.take i).any (λt=>t.nm.toList == s.nm.toList)=true then 7
 else 0
def errG (g:RG) (n:Nat):Int :=
 if arG g.k=0 then 8
 else if (g.ar.length:Int)≠arG g.k then 1
 else if outB (n:Int) g.ar=true then 2
 else if (g.k=9∧g.r.ok=false)∨(g.k≠9∧g.r.none=false) then 1
 else 0
def fstE (f:Nat→Int):Nat→Int
 | 0=>0
 | n+1=>if fstE f n≠0 then fstE f n else f n
theorem Zdy {f:Nat→Int}:∀{n:Nat},(∀j,j < n→f j=0)→fstE f n=0
 | 0,_=>rfl
 | n+1,h=>by
   unfold fstE;rw [Zqw (by rw [Zdy λj hj=>h j zo];simp)];exact h n zo
theorem Zht {f:Nat→Int} {i:Nat} (h:∀j,j < i→f j=0) (hi:f i≠0):∀{n:Nat},i < n→fstE f n=f i
 | 0,hn=>zo
 | n+1,hn=>by
   unfold fstE;by_cases e:i=n
   ·subst e;rw [Zqw (by rw [Zdy h];simp)]
   ·have:=Zht h hi (n:=n) zo;rw [this,Zqv hi]
theorem Zjt {f:Nat→Int}:∀{n:Nat},fstE f n=0→∀j,j < n→f j=0
 | 0,_,j,hj=>zo
 | n+1,h,j,hj=>by
   unfold fstE at h;split at h
   ·rename_i h1;exact absurd h h1
   ·rename_i h1;by_cases e:j=n
    ·subst e;exact h
    ·exact Zjt (n:=n) (by rcases Decidable.em (fstE f n=0) with h2 | h2;exact h2;exact absurd h2 h1) j zo
def figE (ss:List RS) (gs:List RG):Int :=
 if 40 < ss.length∨8 < gs.length then 4
 else if fstE (errS ss) ss.length≠0 then fstE (errS ss) ss.length
 else fstE (λi=>errG (gs.getD i ⟨0,[],⟨false,[],[]⟩⟩) ss.length) gs.length
def frame (ss:List RS) (gs:List RG):List (Po × Po) × List Vt × Int :=
 if figE ss gs≠0 then ([],[],figE ss gs)
 else if (List.range ss.length).any (bigN ss)=true then ([],[],4)
 else ((frN ss ss.length).cs,(frN ss ss.length).vs,0)
theorem Zpk {n:Int} {l:List Int} (h:outB n l=false) {k:Nat} (hk:k < l.length):0≤gI l k∧gI l k < n:=by
 unfold outB at h;rw [List.any_eq_false] at h;have:=h (gI l k) (by rw [Zbo hk];exact Zrz hk);simp only [Zsk,Zrs] at this;omega
theorem Zqb {ss:List RS} {i:Nat} (hi:i < ss.length) (h:errS ss i=0):0≤arS ss[i].k∧(ss[i].ar.length:Int)=arS ss[i].k∧(∀k,k < ss[i].ar.length→0≤gI ss[i].ar k∧gI ss[i].ar k < (i:Int))∧(ss[i].k=2→ss[i].r.ok=true):=by
 unfold errS at h;rw [show ss.getD i RS.zero=ss[i] from by rw [Zq6,Zqx hi];rfl] at h;generalize ss[i]=s at *;simp only at h;split at h
 ·omega
 ·split at h
  ·omega
  ·split at h
   ·omega
   ·split at h
    ·omega
    ·rename_i h1 h2 h3 h4;refine⟨zo,zo,λk hk=>Zpk (by simpa using h3) hk,λh5=>?_⟩
     cases h6:s.r.ok with
     | true=>rfl
     | false=>exact absurd (.inl ⟨h5,h6⟩) h4
abbrev Pr:=Int × Int
def prA (p:Pr):AV:=.agg [iv p.1,iv p.2]
def Zbx (k:Int):List Pr :=
 if k=2∨k=5∨k=12∨k=10 then [(0,1)] else if k=8 then [(1,2)] else if k=3∨k=4∨k=7 then [(1,2),(0,-1)] else if k=9 then [(0,1),(2,3)] else if k=14 then [(0,1),(0,-1),(1,-1)] else []
def Zby (k:Int):List Pr :=
 if k=1 then [(0,1),(1,2)] else if k=2∨k=3∨k=4∨k=9 then [(0,1),(2,3)] else if k=5 then [(1,2)] else if k=7 then [(0,1),(2,3),(4,5),(6,7)] else []
def atN (i:Int) (ar:List Int) (k:Int):Int:=if k < 0 then i else gI ar k.toNat
def Zcw (i:Nat) (s:RS):List Pr:=(Zbx s.k).map λp=>(atN i s.ar p.1,atN i s.ar p.2)
def Zcy (g:RG):List Pr:=(Zby g.k).map λp=>(gI g.ar p.1.toNat,gI g.ar p.2.toNat)
def Zas (ss:List RS):Nat→List Pr
 | 0=>[]
 | i+1=>Zas ss i++(match ss[i]? with | some s=>Zcw i s | none=>[])
def Za8 (gs:List RG):Nat→List Pr
 | 0=>[]
 | i+1=>Za8 gs i++(match gs[i]? with | some g=>Zcy g | none=>[])
def Zbu (ss:List RS) (gs:List RG):List Pr:=Zas ss ss.length++Za8 gs gs.length
theorem Zed {ss:List RS} {i:Nat} (h:i < ss.length):Zas ss (i+1)=Zas ss i++Zcw i ss[i]:=by
 unfold Zas;rw [Zqx h];cases i<;>rfl
theorem Zek {gs:List RG} {i:Nat} (h:i < gs.length):Za8 gs (i+1)=Za8 gs i++Zcy gs[i]:=by
 unfold Za8;rw [Zqx h];cases i<;>rfl
def ori (p:Pr):List Pr:=if p.1 < p.2 then [p] else if p.1 > p.2 then [(p.2,p.1)] else []
def oris (l:List Pr):List Pr:=l.flatMap ori
def cmpP (p q:Pr):Int:=if p.1≠q.1 then p.1 - q.1 else p.2 - q.2
theorem Zk9 (x y:Pr):cmpP x x=0∧(cmpP x y < 0↔0 < cmpP y x):=by
 unfold cmpP;refine⟨by simp,?_⟩;by_cases h:x.1=y.1
 ·rw [Zqw (by simpa using h),Zqw (by simpa using h.symm)];omega
 ·rw [Zqv h,Zqv (Zsv h)];omega
theorem cmpP_2 (x y z:Pr) (h1:cmpP x y≤0) (h2:cmpP y z≤0):cmpP x z≤0:=by
 unfold cmpP at *;by_cases a:x.1=y.1<;>by_cases b:y.1=z.1
 ·rw [Zqw (by simpa using a)] at h1;rw [Zqw (by simpa using b)] at h2;rw [Zqw (by simp [a,b])];omega
 ·rw [Zqw (by simpa using a)] at h1;rw [Zqv b] at h2;rw [Zqv (by rw [a];exact b)];omega
 ·rw [Zqv a] at h1;rw [Zqw (by simpa using b)] at h2;rw [Zqv (by rw [←b];exact a)];omega
 ·rw [Zqv a] at h1;rw [Zqv b] at h2;have:x.1≠z.1:=zo;rw [Zqv this];omega
theorem Zqg {x y:Pr} (h:cmpP x y=0):x=y:=by
 unfold cmpP at h;by_cases a:x.1=y.1
 ·rw [Zqw (by simpa using a)] at h;exact Prod.ext a zo
 ·rw [Zqv a] at h;omega
def Zar:List Pr→List Pr
 | []=>[]
 | [a]=>[a]
 | a :: b :: r=>if a=b then Zar (b :: r) else a :: Zar (b :: r)
theorem Zhw:∀(l:List Pr) (x:Pr),x∈Zar l↔x∈l
 | [],x=>Iff.rfl
 | [a],x=>Iff.rfl
 | a :: b :: r,x=>by
   unfold Zar;have ih:=Zhw (b :: r) x;split
   ·rename_i h;rw [ih,h];simp
   ·rw [Zsi,ih,Zsi,Zsi,Zsi]
theorem Zgo:∀(l:List Pr),l.Pairwise (λx y=>cmpP x y≤0)→(Zar l).Pairwise λx y=>cmpP x y < 0
 | [],_=>.nil
 | [a],_=>by unfold Zar;simp
 | a :: b :: r,h=>by
   unfold Zar;have h2:=(List.pairwise_cons.1 h).2;have ih:=Zgo (b :: r) h2;split
   ·exact ih
   ·rename_i hab;refine List.pairwise_cons.2 ⟨λy hy=>?_,ih⟩;have hy:=(Zhw (b :: r) y).1 hy;have h1:=(List.pairwise_cons.1 h).1 y hy;have hb:cmpP a b≤0:=(List.pairwise_cons.1 h).1 b (Zsm ..);rcases Int.lt_or_eq_of_le h1 with h3 | h3
    ·exact h3
    ·exfalso;have e:=Zqg h3;subst e;rcases List.mem_cons.1 hy with e | hy
     ·exact hab e
     ·have h4:=(List.pairwise_cons.1 h2).1 a hy;have h5:=(Zk9 b a).2;rcases Int.lt_or_eq_of_le h4 with h6 | h6
      ·have:=h5.1 h6;omega
      ·exact hab (Zqg h6).symm
theorem Zka:∀(l m:List Pr),l.Pairwise (λx y=>cmpP x y < 0)→m.Pairwise (λx y=>cmpP x y < 0)→(∀x,x∈l↔x∈m)→l=m
 | [],[],_,_,_=>rfl
 | [],b :: m,_,_,h=>by have:=(h b).2 (Zsm ..);cases this
 | a :: l,[],_,_,h=>by have:=(h a).1 (Zsm ..);cases this
 | a :: l,b :: m,hl,hm,h=>by
   obtain⟨l1,l2⟩:=List.pairwise_cons.1 hl;obtain⟨m1,m2⟩:=List.pairwise_cons.1 hm
   have e:a=b:=by
    rcases List.mem_cons.1 ((h a).1 (Zsm ..)) with e | ha
    ·exact e
    ·rcases List.mem_cons.1 ((h b).2 (Zsm ..)) with e | hb
     ·exact e.symm
     ·have h1:=l1 b hb;have h2:=m1 a ha;have:=(Zk9 a b).2.1 h1;omega
   subst e;rw [Zka l m l2 m2 λx=>?_];constructor
   ·intro hx;rcases List.mem_cons.1 ((h x).1 (Zs7 _ hx)) with e | h3
    ·subst e;have:=l1 x hx;rw [(Zk9 x x).1] at this;omega
    ·exact h3
   ·intro hx;rcases List.mem_cons.1 ((h x).2 (Zs7 _ hx)) with e | h3
    ·subst e;have:=m1 x hx;rw [(Zk9 x x).1] at this;omega
    ·exact h3
def hasB (all:List Pr) (i k:Nat):Bool:=decide (((i:Int),(k:Int))∈all) || decide (((k:Int),(i:Int))∈all)
def Zc1 (all:List Pr) (i:Nat):Nat→List Pr
 | 0=>[]
 | k+1=>Zc1 all i k++(if hasB all i (i+1+k) then [((i:Int),((i+1+k:Nat):Int))] else [])
def Zcq (all:List Pr) (n:Nat):Nat→List Pr
 | 0=>[]
 | i+1=>Zcq all n i++Zc1 all i (n - (i+1))
theorem Zft (all:List Pr) (i:Nat):∀(m:Nat) (x:Pr),x∈Zc1 all i m↔∃k,i < k∧k < i+1+m∧hasB all i k=true∧x=((i:Int),(k:Int))
 | 0,x=>by
   unfold Zc1;constructor
   ·intro h;cases h
   ·rintro ⟨k,h1,h2,_⟩;omega
 | m+1,x=>by
   unfold Zc1;rw [Zs8,Zft all i m x];constructor
   ·rintro (⟨k,h1,h2,h3,h4⟩ | h)
    ·exact⟨k,h1,zo,h3,h4⟩
    ·split at h
     ·rename_i hh;simp only [Zts] at h;exact⟨i+1+m,zo,zo,hh,h⟩
     ·cases h
   ·rintro ⟨k,h1,h2,h3,h4⟩
    by_cases hk:k=i+1+m
    ·subst hk;right;rw [Zqv h3];simp [h4]
    ·left;exact⟨k,h1,zo,h3,h4⟩
theorem Zhd (all:List Pr) (n:Nat):∀(m:Nat) (x:Pr),x∈Zcq all n m↔∃i k:Nat,i < m∧i < k∧k < n∧hasB all i k=true∧x=((i:Int),(k:Int))
 | 0,x=>by
   unfold Zcq;constructor
   ·intro h;cases h
   ·rintro ⟨i,k,h1,_⟩;omega
 | m+1,x=>by
   unfold Zcq;rw [Zs8,Zhd all n m x,Zft];constructor
   ·rintro (⟨i,k,h1,h2,h3,h4,h5⟩ | ⟨k,h1,h2,h3,h4⟩)
    ·exact⟨i,k,zo,h2,h3,h4,h5⟩
    ·exact⟨m,k,zo,h1,zo,h3,h4⟩
   ·rintro ⟨i,k,h1,h2,h3,h4,h5⟩
    by_cases hi:i=m
    ·subst hi;right;exact⟨k,h2,zo,h4,h5⟩
    ·left;exact⟨i,k,zo,h2,h3,h4,h5⟩
theorem Zgi (all:List Pr) (i:Nat):∀m,(Zc1 all i m).Pairwise λx y=>cmpP x y < 0
 | 0=>.nil
 | m+1=>by
   unfold Zc1;refine List.pairwise_append.2 ⟨Zgi all i m,by split<;>simp,λx hx y hy=>?_⟩;obtain⟨k,h1,h2,h3,rfl⟩:=(Zft all i m x).1 hx;split at hy
   ·simp only [Zts] at hy;subst hy;unfold cmpP;simp only [ne_eq,not_true_eq_false,Zrl];omega
   ·cases hy
theorem Zgj (all:List Pr) (n:Nat):∀m,(Zcq all n m).Pairwise λx y=>cmpP x y < 0
 | 0=>.nil
 | m+1=>by
   unfold Zcq;refine List.pairwise_append.2 ⟨Zgj all n m,Zgi all m _,λx hx y hy=>?_⟩;obtain⟨i,k,h1,h2,h3,h4,rfl⟩:=(Zhd all n m x).1 hx;obtain⟨k',h1',h2',h3',rfl⟩:=(Zft all m _ y).1 hy;unfold cmpP;simp only;rw [Zqv zo];omega
theorem Zmx {l:List Pr} {x:Pr}:x∈oris l↔x.1 < x.2∧(x∈l∨(x.2,x.1)∈l):=by
 unfold oris;rw [List.mem_flatMap];constructor
 ·rintro ⟨p,hp,hx⟩
  unfold ori at hx;split at hx
  ·simp only [Zts] at hx;subst hx;exact⟨by assumption,.inl hp⟩
  ·split at hx
   ·simp only [Zts] at hx;subst hx;exact⟨by simp only;omega,.inr hp⟩
   ·cases hx
 ·rintro ⟨h1,h | h⟩
  ·exact⟨x,h,by unfold ori;rw [Zqv h1];simp⟩
  ·exact⟨(x.2,x.1),h,by unfold ori;simp only;rw [Zqw zo,Zqv h1];simp⟩
theorem lines_eq {all l:List Pr} {n:Nat} (hb:∀p∈all,0≤p.1∧p.1 < n∧0≤p.2∧p.2 < n) (hp:l.Perm (oris all)) (hs:l.Pairwise λx y=>cmpP x y≤0):Zar l=Zcq all n n:=by
 refine Zka _ _ (Zgo l hs) (Zgj all n n) λx=>?_;rw [Zhw,hp.mem_iff,Zmx,Zhd];constructor
 ·rintro ⟨h1,h⟩
  have hx:0≤x.1∧x.1 < n∧0≤x.2∧x.2 < n:=by
   rcases h with h | h
   ·exact hb x h
   ·obtain⟨a,b,c,d⟩:=hb _ h;exact⟨c,d,a,b⟩
  obtain⟨a,b,c,d⟩:=hx;have e1:((x.1.toNat:Nat):Int)=x.1:=Zvg a;have e2:((x.2.toNat:Nat):Int)=x.2:=Zvg c;refine⟨x.1.toNat,x.2.toNat,zo,zo,zo,?_,by rw [e1,e2]⟩;unfold hasB;rw [e1,e2];rcases h with h | h
  ·simp [h]
  ·simp [h]
 ·rintro ⟨i,k,h1,h2,h3,h4,rfl⟩
  refine⟨by simp only;omega,?_⟩;unfold hasB at h4;simp only [Zsk,Zrs] at h4;exact h4
theorem szP2:szOf prog 48=some 2:=by kernel_rfl
theorem byP2:Zie prog 48=some 16:=by kernel_rfl
theorem zP2:Zbd prog 48=some (.agg #[.int .i64 0,.int .i64 0]):=by kernel_rfl
theorem eqP2:eqTy prog 48=true:=by kernel_rfl
theorem rg2 (t:TypeId):List.map (λi=>(t,i*1)) (List.range 0++[0]++[1])=[(t,0),(t,1)]:=rfl
theorem Zi6:szOf prog 27=some 1:=by kernel_rfl
theorem zSlP:Zbd prog 27=some (.slice none 0 0):=by kernel_rfl
theorem Zj9:szOf prog 47=some 1:=by kernel_rfl
attribute [go_sem] underlying40 underlying22 underlying42 underlying23 underlying25 zErr zFig zSlI zSlS zSlF underlying48 underlying27 underlying47 szP2 byP2 zP2 zSlP
attribute [local go_sem] Zh9 Zgt Zgu Ze6 Ze8 Ze7 Zfa Zfe Zh3 Zfb Zff Zh4 Zh8 Zh6 Zh5 Zh7 eqP2 Zi6 Zj9 rg2
def Zml (k:Int):AV :=
 if k=2∨k=5∨k=12∨k=10 then .sl 2 [.agg [iv 0,iv 1]] else if k=8 then .sl 2 [.agg [iv 1,iv 2]] else if k=3∨k=4∨k=7 then .sl 2 [.agg [iv 1,iv 2],.agg [iv 0,iv (-1)]] else if k=9 then .sl 2 [.agg [iv 0,iv 1],.agg [iv 2,iv 3]] else if k=14 then .sl 2 [.agg [iv 0,iv 1],.agg [iv 0,iv (-1)],.agg [iv 1,iv (-1)]] else .v (.slice none 0 0)
theorem Zi4 {c:Prop} [Decidable c] {a b:AV} {l m:List Pr} (h1:Vk a (.sl 2 (l.map prA))) (h2:Vk b (.sl 2 (m.map prA))):Vk (if c then a else b) (.sl 2 ((if c then l else m).map prA)):=by
 split
 ·exact h1
 ·exact h2
theorem sidesV (k:Int):Vk (Zml k) (.sl 2 ((Zbx k).map prA)):=by
 unfold Zml Zbx;exact Zi4 (.refl _) (Zi4 (.refl _) (Zi4 (.refl _) (Zi4 (.refl _) (Zi4 (.refl _) (.nil 2)))))
theorem drSides (k:Int):Pure prog 10 [iv k] (.sl 2 ((Zbx k).map prA)):=by
 refine Ze0 (r:=Zml k) ?_ (sidesV k);refine pI func10 rfl ntmps10 results10 call10 ?_;(focus (refine wkad w_t w_t w_t ?_;(repeat' first|exact w_t|apply w_l);all_goals intros));all_goals (all_goals (try simp (disch:=omega) only [go_sem,Zml,Zqz,Zqy,Zqv,Zqw,Int.reduceAdd,Int.reduceSub,Int.reduceToNat,Zq2]));(all_goals first|done|rfl|(congr 2;first|done|omega|(rw [Zrt];simp only [bool_to_prop,Zrb,Zsa,Zsb,Zsc,Zsd];omega))|skip)
def Zmw (k:Int):AV :=
 if k=1 then .sl 2 [.agg [iv 0,iv 1],.agg [iv 1,iv 2]] else if k=2∨k=3∨k=4∨k=9 then .sl 2 [.agg [iv 0,iv 1],.agg [iv 2,iv 3]] else if k=5 then .sl 2 [.agg [iv 1,iv 2]] else if k=7 then .sl 2 [.agg [iv 0,iv 1],.agg [iv 2,iv 3],.agg [iv 4,iv 5],.agg [iv 6,iv 7]] else .v (.slice none 0 0)
theorem partsV (k:Int):Vk (Zmw k) (.sl 2 ((Zby k).map prA)):=by
 unfold Zmw Zby;exact Zi4 (.refl _) (Zi4 (.refl _) (Zi4 (.refl _) (Zi4 (.refl _) (.nil 2))))
theorem drParts (k:Int):Pure prog 11 [iv k] (.sl 2 ((Zby k).map prA)):=by
 refine Ze0 (r:=Zmw k) ?_ (partsV k);refine pI func11 rfl ntmps11 results11 call11 ?_;(focus (refine wkad w_t w_t w_t ?_;(repeat' first|exact w_t|apply w_l);all_goals intros));all_goals (all_goals (try simp (disch:=omega) only [go_sem,Zmw,Zqz,Zqy,Zqv,Zqw,Int.reduceAdd,Int.reduceSub,Int.reduceToNat,Zq2]));(all_goals first|done|rfl|(congr 2;first|done|omega|(rw [Zrt];simp only [bool_to_prop,Zrb,Zsa,Zsb,Zsc,Zsd];omega))|skip)
theorem drAt (i k k0:Int) (nm:ByteArray) (ar:List Int) (bo:Bool) (l d:List Nat) (hk:k < (ar.length:Int)):Pure prog 20 [iv k,.pimm [iv i],.pimm [iv k0,strA nm,ivs ar,.v (.bool bo),lim l,lim d]] (iv (atN i ar k)):=by
 have hll:(ar.map iv).length=ar.length:=Zq1 ..;unfold atN;by_cases h:k < 0
 ·rw [Zqv h];refine pI func20 rfl ntmps20 results20 call20 ?_;(focus (refine wkad (w_1 h) w_t w_t ?_;(repeat' first|exact w_t|apply w_l);all_goals intros));all_goals exact gL
 ·rw [Zqw h];have hg:(ar.map iv).getD k.toNat .u=iv (gI ar k.toNat):=by rw [Zah iv zo,Zbo zo]
  refine pI func20 rfl ntmps20 results20 call20 ?_;(focus (refine wkad (w_3 h hll hg) w_t w_t ?_;(repeat' first|exact w_t|apply w_l);all_goals intros));all_goals exact gL
abbrev fnV (f:FuncId):Value:=.func (.func f) #[] #[]
theorem rd_fnV {w:World} {imm:Imm} {f:FuncId} {x:Value} (h:Rd w imm (.fn f []) x):Rd w imm (.v (fnV f)) x:=by
 cases h with
 | fn _ _ vs hl _ =>
   obtain rfl:vs=#[]:=Array.eq_empty_of_size_eq_zero (by simpa using hl.symm);exact .v _
theorem rd_Vfn {w:World} {imm:Imm} {f:FuncId} {x:Value} (h:Rd w imm (.v (fnV f)) x):Rd w imm (.fn f []) x:=by
 cases h;exact .fn f [] #[] rfl λj a x h1 _=>by simp at h1
theorem Zo1 (f:FuncId):Sub (.pimm [.v (fnV f)]) (.pimm [.fn f []]):=λw imm x hx=>by
 obtain⟨ad,g,rfl,h1,h2⟩:=hx.pimm_inv;refine .pure (.pimm _ ad g h1 λj a ha=>?_)
 match j with
 | 0=>simp only [Zt3,Option.some.injEq] at ha;subst ha;exact rd_Vfn (h2 0 _ rfl)
 | j+1=>simp at ha
theorem Zne (M N:List AV) (f g:FuncId):Pure prog 9 [.agg [.sl 6 M,.sl 5 N],.v (fnV f),.v (fnV g)] (.fn 19 [.pimm [.sl 6 M,.sl 5 N],.pimm [.v (fnV f)],.pimm [.v (fnV g)]]):=by
 refine pI func9 rfl ntmps9 results9 call9 ?_;(focus (refine wkad w_t w_t w_t ?_;(repeat' first|exact w_t|apply w_l);all_goals intros));all_goals exact gL
theorem drPairs (M N:List AV) (f g:FuncId):Pure prog 9 [.agg [.sl 6 M,.sl 5 N],.fn f [],.fn g []] (.fn 19 [.pimm [.sl 6 M,.sl 5 N],.pimm [.v (fnV f)],.pimm [.v (fnV g)]]):=by
 refine⟨(Zne M N f g).1,λw imm vs him hl hr=>(Zne M N f g).2 w imm vs him hl λj a x h1 h2=>?_⟩
 match j with
 | 0=>simp only [Zt3,Option.some.injEq] at h1;subst h1;exact hr 0 _ x rfl h2
 | 1=>simp only [Zuf,Zt3,Option.some.injEq] at h1;subst h1;exact rd_fnV (hr 1 _ x rfl h2)
 | 2=>simp only [Zuf,Zt3,Option.some.injEq] at h1;subst h1;exact rd_fnV (hr 2 _ x rfl h2)
 | j+3=>simp at h1
theorem Zqr {P:Program} {f:FuncId} {args args':List AV} {σ:Mem} {R:AV→Mem→Prop} (hs:Subs args args') (h:ACall P f args' σ R):ACall P f args σ R :=
 ⟨h.1,λc w imm vs hm hl hr=>h.2 c w imm vs hm (by rw [←hs.len];exact hl) λj a x h1 h2=>by
  have hj:j < args.length:=by rw [hs.len];exact(List.getElem?_eq_some_iff.1 h1).1
  exact hs.get j args[j] a (Zqx hj) h1 w imm x (hr j args[j] x (Zqx hj) h2)⟩
theorem Zji {P:Program} {f:FuncId} {args:List AV} {e:Nat→AV} {m:Mem} {t d:Nat} {K:St→Prop} {R:AV→Mem→Prop} (c:ACall P f args m R) (h:∀r σ',R r σ'→K ⟨upd e d r,σ'⟩):aRes P t (some d) (.call f args) K ⟨e,m⟩:=c.mono h
theorem Zit {P:Program} {n:Nat} {K:St→Prop} {st:St} (h:K st):Zgr P n [] K st:=h
theorem Frz.pub {n:Nat} {e:Nat→AV} {m:Mem} {d:Nat} {a:AV} (he:e d=a) (ho:Zdt (marks m a.toks) a):Frz n ⟨e,m⟩ ⟨upd e d (pubV (marks m a.toks) a),marks m a.toks⟩:=λc ac w imm h=>by
 obtain⟨i',hm,hk⟩:=Zbv a.toks h.mem;refine⟨i',λt=>?_,h.size,h.defers,hm⟩;show Rs w i' (upd e d (pubV (marks m a.toks) a) t) (ac.tmps.getD t undef);rw [Zaj];split
 ·rename_i ht;subst ht;have:=h.env t;rw [show(⟨e,m⟩:St).env t=a from he] at this;exact .pure (Zd8 hm (hk.rs this) ho)
 ·exact hk.rs (h.env t)
theorem Zes {P:Program} {t:TypeId} {w:World} (h:(P.underlying t).map Zdw=some false):(isAgg t).run P w=.ok false w:=by
 obtain⟨d,hd,h⟩:=Option.map_eq_some_iff.1 h;simp only [isAgg,Zq4,Zq5 hd,Zq3];cases d<;>first|rfl|cases h
theorem ag_st {P:Program} {t:TypeId} {w:World} (h:(P.underlying t).map Zdw=some true):(isAgg t).run P w=.ok true w:=by
 obtain⟨d,hd,h⟩:=Option.map_eq_some_iff.1 h;simp only [isAgg,Zq4,Zq5 hd,Zq3];cases d<;>first|rfl|cases h
def ppR:Go.Shelf.Ren:=⟨fun | 14=>36 | 15=>37 | 20=>52 | 21=>53 | 22=>54 | 23=>55 | 24=>56 | 25=>57 | 26=>58 | 27=>59 | 28=>60 | 29=>61 | 46=>74 | 47=>75 | 48=>76 | 49=>77 | 50=>78 | 57=>87 | n=>n,fun | 0=>0 | 3=>3 | 4=>4 | 5=>5 | 9=>9 | 22=>27 | 24=>48 | 25=>58 | 39=>67 | 45=>79 | 46=>80 | 50=>84 | 53=>87 | 55=>89 | 66=>100 | 70=>104 | 76=>111 | 77=>112 | n=>n,λn=>n⟩
theorem ppL:Go.Proofs.SlLaysF0.n14 prog ppR:={
 mixed:=by kernel_rfl
 f14:=⟨f36.name,by decide,by kernel_rfl⟩
 f15:=by kernel_rfl
 f20:=⟨f52.name,by decide,by kernel_rfl⟩
 f21:=⟨f53.name,by decide,by kernel_rfl⟩
 f22:=⟨f54.name,by decide,by kernel_rfl⟩
 f23:=⟨f55.name,by decide,by kernel_rfl⟩
 f24:=⟨f56.name,by decide,by kernel_rfl⟩
 f25:=⟨f57.name,by decide,by kernel_rfl⟩
 f26:=⟨f58.name,by decide,by kernel_rfl⟩
 f27:=⟨f59.name,by decide,by kernel_rfl⟩
 f28:=by kernel_rfl
 f29:=by kernel_rfl
 f46:=⟨f74.name,by decide,by kernel_rfl⟩
 f47:=by kernel_rfl
 f48:=by kernel_rfl
 f49:=⟨f77.name,by decide,by kernel_rfl⟩
 f50:=⟨f78.name,by decide,by kernel_rfl⟩
 f57:=⟨f87.name,by decide,by kernel_rfl⟩
 t0:=by kernel_rfl
 a0:=λ_=>Zes (t:=0) zk
 z0:=λ_=>Zae zk
 v0:=λ_=>Zaf zk
 t3:=by kernel_rfl
 a3:=λ_=>Zes (t:=3) zk
 z3:=λ_=>Zae zk
 v3:=λ_=>Zaf zk
 t4:=by kernel_rfl
 a4:=λ_=>Zes (t:=4) zk
 z4:=λ_=>Zae zk
 v4:=λ_=>Zaf zk
 t5:=by kernel_rfl
 a5:=λ_=>Zes (t:=5) zk
 z5:=λ_=>Zae zk
 v5:=λ_=>Zaf zk
 t9:=by kernel_rfl
 a9:=λ_=>Zes (t:=9) zk
 z9:=λ_=>Zae zk
 v9:=λ_=>Zaf zk
 t22:=by kernel_rfl
 a22:=λ_=>Zes (t:=27) zk
 z22:=λ_=>Zae zk
 v22:=λ_=>Zaf zk
 t25:=by kernel_rfl
 a25:=λ_=>Zes (t:=58) zk
 z25:=λ_=>Zae zk
 v25:=λ_=>Zaf zk
 t39:=by kernel_rfl
 a39:=λ_=>Zes (t:=67) zk
 z39:=λ_=>Zae zk
 v39:=λ_=>Zaf zk
 t45:=by kernel_rfl
 a45:=λ_=>Zes (t:=79) zk
 z45:=λ_=>Zae zk
 v45:=λ_=>Zaf zk
 t46:=by kernel_rfl
 a46:=λ_=>Zes (t:=80) zk
 z46:=λ_=>Zae zk
 v46:=λ_=>Zaf zk
 t50:=by kernel_rfl
 a50:=λ_=>Zes (t:=84) zk
 z50:=λ_=>Zae zk
 v50:=λ_=>Zaf zk
 t53:=by kernel_rfl
 a53:=λ_=>Zes (t:=87) zk
 z53:=λ_=>Zae zk
 v53:=λ_=>Zaf zk
 t55:=by kernel_rfl
 a55:=λ_=>Zes (t:=89) zk
 z55:=λ_=>Zae zk
 v55:=λ_=>Zaf zk
 t66:=by kernel_rfl
 a66:=λ_=>Zes (t:=100) zk
 z66:=λ_=>Zae zk
 v66:=λ_=>Zaf zk
 t70:=by kernel_rfl
 a70:=λ_=>Zes (t:=104) zk
 z70:=λ_=>Zae zk
 v70:=λ_=>Zaf zk
 t76:=by kernel_rfl
 a76:=λ_=>Zes (t:=111) zk
 z76:=λ_=>Zae zk
 v76:=λ_=>Zaf zk
 t77:=by kernel_rfl
 a77:=λ_=>Zes (t:=112) zk
 z77:=λ_=>Zae zk
 v77:=λ_=>Zaf zk
}
def smP (p:Pr):Prop:=0≤p.1∧p.1 < 1000000000∧0≤p.2∧p.2 < 1000000000
theorem cmpC (p q:Pr) (hp:smP p) (hq:smP q):Pure prog 22 [prA p,prA q] (iv (cmpP p q)):=by
 obtain⟨a,b⟩:=p;obtain⟨c,d⟩:=q;obtain⟨a1,a2,a3,a4⟩:=hp;obtain⟨c1,c2,c3,c4⟩:=hq;simp only at a1 a2 a3 a4 c1 c2 c3 c4;show Pure _ _ [.agg [iv a,iv b],.agg [iv c,iv d]] (iv (cmpP (a,b) (c,d)));unfold cmpP;simp only;have w1:IntKind.i64.wrap (a - c)=a - c:=Zeu zo zo;have w2:IntKind.i64.wrap (b - d)=b - d:=Zeu zo zo;by_cases h:a=c
 ·rw [Zqw (by simpa using h)];refine pI func22 rfl ntmps22 results22 call22 ?_;(focus (refine wkad (w_3 h w1 w2) w_t w_t ?_;(repeat' first|exact w_t|apply w_l);all_goals intros));all_goals exact gL
 ·rw [Zqv h];refine pI func22 rfl ntmps22 results22 call22 ?_;(focus (refine wkad (w_3 h w1 w2) w_t w_t ?_;(repeat' first|exact w_t|apply w_l);all_goals intros));all_goals exact gL
theorem ppPdqK (σ:Mem) (K:Nat) (sv:Value) (L:List Pr) (lm:Nat) (hK:σ K=some (.row sv 48 2 (L.map prA) 0)) (hl:L.length≤1000000000) (hlim:lm≤1000000000) (hs:∀p∈L,smP p):ACall prog 36 [.own K sv,iv 0,iv L.length,iv lm,.fn 22 []] σ λr σ'=>∃l':List Pr,l'.Perm L∧l'.Pairwise (λx y=>cmpP x y≤0)∧r=.tup []∧σ'=upd σ K (some (.row sv 48 2 (l'.map prA) 0)) :=
 Zns ppL (k:=2) (λ_=>ag_st (t:=48) zk) (λ_=>Zae zk) zo (λp:Pr=>[iv p.1,iv p.2]) cmpP (g:=22) L (λ_=>rfl) hK zo Zk9 cmpP_2 (λx hx y hy=>cmpC x y (hs x hx) (hs y hy)) call36 lm zo λp cap w=>Go.Proofs.AnyF.pdqsortCmpFunc_none ppL p cap lm _ w
theorem ppSort (σ:Mem) (K:Nat) (sv:Value) (L:List Pr) (hK:σ K=some (.row sv 48 2 (L.map prA) 0)) (hl:L.length < 256) (hs:∀p∈L,smP p):ACall prog 21 [.own K sv,.fn 22 []] σ λr σ'=>∃l':List Pr,l'.Perm L∧l'.Pairwise (λx y=>cmpP x y≤0)∧r=.tup []∧σ'=upd σ K (some (.row sv 48 2 (l'.map prA) 0)):=by
 refine Zbb (tok:=0) func21 rfl ntmps21 results21 call21 zr zs ?_;have cb:=bitsLen L.length hl;have hb:=Zga (i:=L.length) hl;have hml:(L.map prA).length=L.length:=Zq1 ..;have ci:=fun(σ:Mem) h=>ppPdqK σ K sv L (len8 L.length) h zo zo hs;generalize len8 L.length=lim at *;have ci:∀(σ:Mem),σ K=some (.row sv 48 2 (L.map prA) 0)→ACall prog 36 [.own K sv,iv 0,iv L.length,iv lim,.fn 22 []] σ _:=ci;generalize L.map prA=LA at *;(focus (refine wkad (w_2 hK hml) (w_1 cb) w_t ?_;(repeat' first|exact w_t|apply w_l);all_goals intros));refine Zji (ci _ (by(simp (disch:=omega) only [go_sem,hK]<;>repeat' first|rfl|refine⟨?_,?_⟩))) ?_
 rintro _ _ ⟨l',h1,h2,rfl,rfl⟩
 (focus (refine wkad w_t w_t w_t ?_;(repeat' first|exact w_t|apply w_l);all_goals intros));simp (disch:=omega) only [go_sem];exact⟨l',h1,h2,rfl⟩
theorem Zgd:∀(l:List Pr) (b a:Pr),Zar (l++[b,a])=if a=b then Zar (l++[b]) else Zar (l++[b])++[a]
 | [],b,a=>by
   show Zar [b,a]=if a=b then Zar [b] else Zar [b]++[a];unfold Zar;by_cases h:b=a
   ·rw [Zqv h,Zqv h.symm,h];rfl
   ·rw [Zqw h,Zqw (Zsv h)];rfl
 | [x],b,a=>by
   have ih:=Zgd [] b a;simp only [Zuz] at ih;show Zar (x :: b :: [a])=if a=b then Zar (x :: b :: []) else Zar (x :: b :: [])++[a];unfold Zar;rw [ih];by_cases h:x=b<;>by_cases h2:a=b<;>simp [h,h2]
 | x :: y :: r,b,a=>by
   have ih:=Zgd (y :: r) b a;simp only [Zt5] at ih ⊢;show Zar (x :: y :: (r++[b,a]))=if a=b then Zar (x :: y :: (r++[b])) else Zar (x :: y :: (r++[b]))++[a];rw [show Zar (x :: y :: (r++[b,a]))=if x=y then Zar (y :: (r++[b,a])) else x :: Zar (y :: (r++[b,a])) from rfl,show Zar (x :: y :: (r++[b]))=if x=y then Zar (y :: (r++[b])) else x :: Zar (y :: (r++[b])) from rfl,ih];by_cases h:x=y<;>by_cases h2:a=b<;>simp [h,h2]
theorem Ziy {l:List Pr} {j:Nat} (h:j+1 < l.length):Zar (l.take (j+2))=if l[j+1]=l[j] then Zar (l.take (j+1)) else Zar (l.take (j+1))++[l[j+1]]:=by
 have e1:l.take (j+1)=l.take j++[l[j]]:=by rw [Zuy,Zqx zo];rfl
 have e2:l.take (j+2)=l.take j++[l[j],l[j+1]]:=by rw [show j+2=(j+1)+1 from rfl,Zuy,Zqx (by omega:j+1 < l.length),e1,Zr6];rfl
 rw [e2,e1];exact Zgd _ _ _
theorem Zqf {l:List Pr} (h:0 < l.length):Zar (l.take 1)=l.take 1:=by
 cases l with
 | nil=>simp at h
 | cons a r=>rfl
theorem Znf:∀(l:List Pr),(Zar l).length≤l.length
 | []=>Zq0 _
 | [a]=>Zq0 _
 | a :: b :: r=>by
   have ih:=Znf (b :: r);unfold Zar;split
   ·exact Zrn ih (Nat.le_succ _)
   ·simp only [Zrj] at ih ⊢;omega
theorem set_take {fs:List Pr} {k:Nat} (h:k < fs.length) (x:Pr):(fs.set k x).take (k+1)=fs.take k++[x]:=by
 rw [Zuy,List.getElem?_set_self h,List.take_set_of_le (Zq0 _)];rfl
theorem Zpe {fs:List Pr} {k:Nat} (h:k < fs.length):(fs.map prA).getD k .u=.agg [iv fs[k].1,iv fs[k].2]:=Zah prA h
def CmpR (K:Nat) (sv:Value) (l:List Pr) (σ:Mem) (r:AV) (σ':Mem):Prop :=
 (Zar l=l∧σ'=σ∧r=.own K sv)∨((Zar l).length≤l.length∧r=.view K sv 2 0 (Zar l).length∧σ'=upd σ K (some (.row sv 48 2 ((Zar l).map prA++List.replicate (l.length - (Zar l).length) (.agg [iv 0,iv 0])) 0)))
theorem Zpf (σ:Mem) (K:Nat) (sv:Value) (l:List Pr) (hK:σ K=some (.row sv 48 2 (l.map prA) 0)) (hl:l.length < 256):ACall prog 23 [.own K sv] σ (CmpR K sv l σ):=by
 refine Zbb (tok:=0) func23 rfl ntmps23 results23 call23 zr zs ?_;have hml:(l.map prA).length=l.length:=Zq1 ..;by_cases h2:l.length < 2
 ·have hd:Zar l=l:=by
   match l,h2 with
   | [],_=>rfl
   | [a],_=>rfl
   | a :: b :: r,h=>exact absurd h (by simp only [Zrj];omega)
  have hR:CmpR K sv l σ (.own K sv) σ:=.inl ⟨hd,rfl,rfl⟩;generalize CmpR K sv l σ=R at *;(focus (refine wkad (w_2 hK hml) w_t w_t ?_;(repeat' first|exact w_t|apply w_l);all_goals intros));all_goals (all_goals (try simp (disch:=omega) only [go_sem,Zqz,Zqy,Zqv,Zqw,Int.reduceAdd,Int.reduceSub,Int.reduceToNat,Zq2]));(all_goals first|done|rfl|(congr 2;first|done|omega|(rw [Zrt];simp only [bool_to_prop,Zrb,Zsa,Zsb,Zsc,Zsd];omega))|skip)
  all_goals assumption
 ·have hg:∀j (h:j < l.length),(l.map prA).getD j .u=.agg [iv l[j].1,iv l[j].2]:=λj h=>Zah prA h;generalize hM:l.map prA=M at *;(focus (refine wkad (w_2 hK hml) w_t w_t ?_;(repeat' first|exact w_t|apply w_l);all_goals intros));refine Zai (ι:=Nat) (λk e m=>(1≤k∧k≤l.length)∧Zar (l.take k)=l.take k∧e 0=.own K sv∧e 3=iv k∧σ=m) (λk=>l.length - k) 1 zr ?_ ?_
  ·rintro k e m ⟨⟨hk1,hk⟩,hdk,e0,e3,rfl⟩
   by_cases hlt:k < l.length
   ·obtain⟨k,rfl⟩:∃q,k=q+1:=⟨k - 1,zo⟩;have g1:=hg (k+1) hlt;have g0:=hg k zo;have hst:=Ziy hlt;have hi1:((k+1:Nat):Int) - 1=(k:Int):=zo;by_cases heq:l[k+1]=l[k]
    ·rw [Zqv heq,hdk] at hst;rw [heq] at g1;have hsl:((l.length:Nat):Int).toNat=l.length:=zo;(focus (refine wkad (w_7 e0 e3 hK hml g1 g0 hi1) w_t w_t ?_;(repeat' first|exact w_t|apply w_l);all_goals intros));refine Zai (ι:=Nat) (λq e m=>k+2+q≤l.length∧e 0=.own K sv∧e 4=.view K sv 2 (k+1) (l.length - (k+1))∧e 5=iv ((q+1:Nat):Int)∧∃fs:List Pr,fs.length=l.length∧(Zar (l.take (k+2+q))).length≤k+1+q∧fs.take (Zar (l.take (k+2+q))).length=Zar (l.take (k+2+q))∧(∀j,k+1+q≤j→fs[j]?=l[j]?)∧e 3=iv ((Zar (l.take (k+2+q))).length:Nat)∧m K=some (.row sv 48 2 (fs.map prA) 0)∧∀t,t≠K→m t=σ t) (λq=>l.length - q) 0 zr ?_ ?_
     ·rintro q e m ⟨hq,e0,e4,e5,fs,hfl,hle,htk,hfs,e3,mK,mo⟩
      have hfm:(fs.map prA).length=l.length:=by rw [Zq1,hfl]
      by_cases hq2:q+1 < l.length - (k+1)
      ·have hq3:k+1+(q+1) < l.length:=zo;have hst2:=Ziy (l:=l) (j:=k+1+q) zo
       have f1:fs[k+1+(q+1)]'zo=l[k+1+q+1]'zo:=by
        have:=hfs (k+1+(q+1)) zo;rw [Zqx zo,Zqx zo] at this;exact Option.some.inj this
       have f0:fs[k+1+q]'zo=l[k+1+q]'zo:=by
        have:=hfs (k+1+q) zo;rw [Zqx zo,Zqx zo] at this;exact Option.some.inj this
       have g1:=Zpe (fs:=fs) (k:=k+1+(q+1)) zo;have g0:=Zpe (fs:=fs) (k:=k+1+q) zo;rw [f1] at g1;rw [f0] at g0;have hi2:((q+1:Nat):Int) - 1=(q:Int):=zo;have hqi:((q+1:Nat):Int) < ((l.length - (k+1):Nat):Int):=zo;have e12:k+1+q+2=k+2+(q+1):=zo;have e11:k+1+q+1=k+2+q:=zo;have e13:l.take (k+1+q+2)=l.take (k+2+(q+1)):=by rw [e12]
       have e14:l.take (k+1+q+1)=l.take (k+2+q):=by rw [e11]
       rw [e13,e14] at hst2;clear f1 f0;by_cases hne:l[k+1+q+1]'zo=l[k+1+q]'zo
       ·rw [Zqv hne] at hst2;rw [hne] at g1;generalize l[k+1+q]'zo=x at *;obtain⟨x1,x2⟩:=x;simp only at g0 g1;obtain⟨F,hF⟩:∃F,fs.map prA=F:=⟨_,rfl⟩;rw [hF] at mK hfm g0 g1;(focus (refine wkad (w_10 e0 e3 e4 e5 mK hfm g1 g0 hi2 hqi) w_t w_t ?_;(repeat' first|exact w_t|apply w_l);all_goals intros));refine⟨q+1,⟨zo,gW e0,gW e4,gS,fs,hfl,by rw [hst2];omega,by rw [hst2];exact htk,λj hj=>hfs j zo,by rw [hst2];exact gW e3,by rw [hF];(simp (disch:=omega) only [go_sem,mK]<;>repeat' first|rfl|refine⟨?_,?_⟩),mo⟩,zo⟩
       ·rw [Zqw hne] at hst2;have hls:(Zar (l.take (k+2+(q+1)))).length=(Zar (l.take (k+2+q))).length+1:=by rw [hst2,Zro];rfl
        have hkl:(Zar (l.take (k+2+q))).length < fs.length:=zo;have hti:((Zar (l.take (k+2+q))).length:Int) < (l.length:Int):=zo;generalize hdl:Zar (l.take (k+2+q))=dl at *;have hgx:l[k+1+q+1]?=some (l[k+1+q+1]'zo):=Zqx _;generalize l[k+1+q+1]'zo=x at *;generalize l[k+1+q]'zo=y at *;have hst3:=set_take hkl x;rw [htk,←hst2] at hst3;have hsm:(fs.map prA).set dl.length (.agg [iv x.1,iv x.2])=(fs.set dl.length x).map prA:=by rw [List.map_set];rfl
        have gz:=Zpe hkl;generalize fs[(dl.length)]'hkl=z at *;obtain⟨x1,x2⟩:=x;obtain⟨y1,y2⟩:=y;simp only at g0 g1 hsm;obtain⟨F,hF⟩:∃F,fs.map prA=F:=⟨_,rfl⟩;rw [hF] at mK hfm g0 g1 hsm gz;by_cases hx:x1=y1
        ·subst hx;have hy:¬x2=y2:=λe=>hne (by rw [e]);(focus (refine wkad (w_13 e0 e3 e4 e5 mK hfm g1 g0 gz hi2 hqi hy hti) w_t w_t ?_;(repeat' first|exact w_t|apply w_l);all_goals intros));refine⟨q+1,⟨zo,gW e0,gW e4,gS,fs.set dl.length (x1,x2),by rw [List.length_set];exact hfl,by rw [hls];omega,by rw [hls];exact hst3,λj hj=>by rw [List.getElem?_set_ne zo];exact hfs j zo,by rw [hls];exact gS,by rw [←hsm];exact gC,λt ht=>by rw [←mo t ht];show upd _ _ _ t=_;rw [Zaj,Zqw ht];rfl⟩,zo⟩
        ·(focus (refine wkad (w_13 e0 e3 e4 e5 mK hfm g1 g0 gz hi2 hqi hx hti) w_t w_t ?_;(repeat' first|exact w_t|apply w_l);all_goals intros));all_goals first|(rename_i hz;exact absurd hz.1 zs)|refine⟨q+1,⟨zo,gW e0,gW e4,gS,fs.set dl.length (x1,x2),by rw [List.length_set];exact hfl,by rw [hls];omega,by rw [hls];exact hst3,λj hj=>by rw [List.getElem?_set_ne zo];exact hfs j zo,by rw [hls];exact gS,by rw [←hsm];exact gC,λt ht=>by rw [←mo t ht];show upd _ _ _ t=_;rw [Zaj,Zqw ht];rfl⟩,zo⟩
      ·have hn:k+2+q=l.length:=zo;rw [hn,Ztp] at hle htk e3;have hfm2:(fs.map prA).take (Zar l).length=(Zar l).map prA:=by rw [←List.map_take,htk]
       have hfd:(fs.map prA).drop ((Zar l).length+(l.length - (Zar l).length))=[]:=Zr4 (by rw [hfm];omega);have hkn:(Zar l).length≤l.length:=Znf l;have hR:CmpR K sv l σ (.view K sv 2 0 (Zar l).length) (upd σ K (some (.row sv 48 2 ((Zar l).map prA++List.replicate (l.length - (Zar l).length) (.agg [iv 0,iv 0])) 0))):=.inr ⟨hkn,rfl,rfl⟩;have hmm:∀x,upd m K x=upd σ K x:=λx=>by
        funext t
        rw [Zaj,Zaj];split
        ·rfl
        ·rename_i ht;exact mo t ht
       generalize CmpR K sv l σ=R at *;generalize Zar l=dl at *;generalize fs.map prA=F at *;have hrl:(dl.map prA++List.replicate (l.length - dl.length) (AV.agg [iv 0,iv 0])).length=l.length:=by rw [Zro,Zq1,Zt1];omega
       rw [←hmm] at hR;generalize hRP:List.replicate (l.length - dl.length) (AV.agg [iv 0,iv 0])=RP at *
       (repeat' (first|(with_reducible first|refine stp ?_|apply gx1|apply gx2|apply gx3|apply gx4|apply gx5|apply gx6|apply gx7|apply gy8|apply gz2|apply gz3)|(with_reducible refine Zb1 ?_;intro _)|((with_reducible refine gE ?_);(try simp (disch:=omega) only [go_sem,e0,e3,e4,e5,mK,hfm,hfm2,hfd,hrl,hRP,Zso,Zqz,Zqy,Zqv,Zqw,Int.reduceAdd,Int.reduceSub,Int.reduceToNat,Zq2])<;>first|rfl|omega)|with_reducible refine Zag zd ?_|((with_reducible apply gy1);iterate 3 focus rfl)|((with_reducible apply gy2);iterate 3 focus rfl)|((with_reducible apply gy3);iterate 2 focus rfl)|((with_reducible apply gy4);iterate 1 focus rfl)|((with_reducible apply gy5);iterate 4 focus rfl)|((with_reducible apply gy5c);iterate 4 focus rfl)|((with_reducible apply gy6);iterate 4 focus rfl)|((with_reducible apply Zfo);iterate 3 focus rfl)|((with_reducible apply Zfj);iterate 1 focus rfl)|((with_reducible apply gy7);iterate 1 focus rfl)|((with_reducible apply gy9);(focus ((with_reducible refine gE ?_);(try simp (disch:=omega) only [go_sem,e0,e3,e4,e5,mK,hfm,hfm2,hfd,hrl,hRP,Zso,Zqz,Zqy,Zqv,Zqw,Int.reduceAdd,Int.reduceSub,Int.reduceToNat,Zq2])<;>rfl)))|((with_reducible apply gz1);(focus first|rfl|(simp (disch:=omega) only [go_sem,e0,e3,e4,e5,mK,hfm,hfm2,hfd,hrl,hRP,Zso,Zqz,Zqy,Zqv,Zqw,Int.reduceAdd,Int.reduceSub,Int.reduceToNat,Zq2];done)))|((with_reducible apply Zbz (Zdq []) [] []);(focus kernel_rfl);(focus rfl);(focus kernel_rfl);(focus (simp only [Zrj,Zrr,Nat.reduceAdd];rfl)))|((with_reducible first|apply Zb5|apply Zcn|apply Zb6);all_goals (intro hc;(try simp only [bool_to_prop] at hc);try (exfalso;omega)))))
       all_goals (all_goals (try simp (disch:=omega) only [go_sem,Zqz,Zqy,Zqv,Zqw,Int.reduceAdd,Int.reduceSub,Int.reduceToNat,Zq2]));(all_goals first|done|rfl|(congr 2;first|done|omega|(rw [Zrt];simp only [bool_to_prop,Zrb,Zsa,Zsb,Zsc,Zsd];omega))|skip)
       all_goals assumption
     ·have hln:(Zar (l.take (k+2+0))).length=k+1:=by show(Zar (l.take (k+2))).length=_;rw [hst,Zrd];omega
      refine⟨zo,gW e0,gC,gC,l,rfl,zo,by rw [hln];exact hst.symm,λ_ _=>rfl,by rw [hln];exact gW e3,by rw [hM];(simp (disch:=omega) only [go_sem,hK]<;>repeat' first|rfl|refine⟨?_,?_⟩),λ_ _=>gC⟩
    ·rw [Zqw heq,hdk] at hst
     have hdk2:Zar (l.take (k+2))=l.take (k+2):=by
      have e:l.take ((k+1)+1)=l.take (k+1)++[l[k+1]]:=by rw [Zuy,Zqx hlt];rfl
      exact hst.trans e.symm
     generalize l[k+1]=x at *;generalize l[k]'zo=y at *;obtain⟨x1,x2⟩:=x;obtain⟨y1,y2⟩:=y;simp only at g0 g1;by_cases hx:x1=y1
     ·subst hx;have hy:¬x2=y2:=λe=>heq (by rw [e]);(focus (refine wkad (w_8 e0 e3 hK hml g1 g0 hi1 hy) w_t w_t ?_;(repeat' first|exact w_t|apply w_l);all_goals intros));exact⟨k+2,⟨zo,hdk2,gW e0,gS,gC⟩,zo⟩
     ·(focus (refine wkad (w_8 e0 e3 hK hml g1 g0 hi1 hx) w_t w_t ?_;(repeat' first|exact w_t|apply w_l);all_goals intros));all_goals first|(rename_i hz;exact absurd hz.1 zs)|exact⟨k+2,⟨zo,hdk2,gW e0,gS,gC⟩,zo⟩
   ·have hkn:k=l.length:=zo;subst hkn;rw [Ztp] at hdk;have hR:CmpR K sv l σ (.own K sv) σ:=.inl ⟨hdk,rfl,rfl⟩;generalize CmpR K sv l σ=R at *;(focus (refine wkad (w_4 e0 e3 hK hml) w_t w_t ?_;(repeat' first|exact w_t|apply w_l);all_goals intros));all_goals (all_goals (try simp (disch:=omega) only [go_sem,Zqz,Zqy,Zqv,Zqw,Int.reduceAdd,Int.reduceSub,Int.reduceToNat,Zq2]));(all_goals first|done|rfl|(congr 2;first|done|omega|(rw [Zrt];simp only [bool_to_prop,Zrb,Zsa,Zsb,Zsc,Zsd];omega))|skip)
    all_goals assumption
  ·exact⟨zo,Zqf zo,gC,gC,gC⟩
abbrev yV (l:Nat):Value:=.func (.yield l) #[] #[]
theorem Znu (k:Int):(Zbx k).length≤10:=by
 unfold Zbx
 repeat' split
 all_goals simp
theorem Zn1 (k:Int):(Zby k).length≤10:=by
 unfold Zby
 repeat' split
 all_goals simp
theorem Zg6 (ss:List RS) (i:Nat):∀n,i≤n→∃r,Zas ss n=Zas ss i++r
 | 0,h=>⟨[],by rw [Nat.le_zero.1 h,Zso]⟩
 | n+1,h=>by
   by_cases hi:i=n+1
   ·subst hi;exact⟨[],(Zso _).symm⟩
   ·obtain⟨r,hr⟩:=Zg6 ss i n zo;exact⟨r++(match ss[n]? with | some s=>Zcw n s | none=>[]),by rw [←Zr6,←hr];rfl⟩
theorem Zhr (gs:List RG) (i:Nat):∀n,i≤n→∃r,Za8 gs n=Za8 gs i++r
 | 0,h=>⟨[],by rw [Nat.le_zero.1 h,Zso]⟩
 | n+1,h=>by
   by_cases hi:i=n+1
   ·subst hi;exact⟨[],(Zso _).symm⟩
   ·obtain⟨r,hr⟩:=Zhr gs i n zo;exact⟨r++(match gs[n]? with | some s=>Zcy s | none=>[]),by rw [←Zr6,←hr];rfl⟩
theorem Zoo {ss:List RS} {gs:List RG} {i j:Nat} (h:i < ss.length) {p:Pr} (hp:(Zcw i ss[i])[j]?=some p):(Zbu ss gs)[(Zas ss i).length+j]?=some p:=by
 obtain⟨r,hr⟩:=Zg6 ss (i+1) ss.length zo;have hj:j < (Zcw i ss[i]).length:=(List.getElem?_eq_some_iff.1 hp).1;unfold Zbu;rw [hr,Zed h,Zr6,Zr6,Zrw zo,Ztj,Zru hj];exact hp
theorem Zop {ss:List RS} {gs:List RG} {i j:Nat} (h:i < gs.length) {p:Pr} (hp:(Zcy gs[i])[j]?=some p):(Zbu ss gs)[(Zas ss ss.length).length+((Za8 gs i).length+j)]?=some p:=by
 obtain⟨r,hr⟩:=Zhr gs (i+1) gs.length zo;have hj:j < (Zcy gs[i]).length:=(List.getElem?_eq_some_iff.1 hp).1;unfold Zbu;rw [hr,Zek h,Zrw zo,Ztj,Zr6,Zrw zo,Ztj,Zru hj];exact hp
theorem prIt (l:Nat) (ss:List RS) (gs:List RG) (σ:Mem) (J:Nat→Mem→Prop) (hl:ss.length≤40) (hgl:gs.length≤8)
 (hs:∀i (h:i < ss.length),∀p∈Zbx ss[i].k,p.1 < (ss[i].ar.length:Int)∧p.2 < (ss[i].ar.length:Int))
 (hg:∀i (h:i < gs.length),∀p∈Zby gs[i].k,0≤p.1∧p.1 < (gs[i].ar.length:Int)∧0≤p.2∧p.2 < (gs[i].ar.length:Int))
 (hY:∀(j:Nat) (p:Pr),(Zbu ss gs)[j]?=some p→∀(m σ':Mem),Agr m σ'→J j σ'→YCall prog l [prA p] m λr m'=>r=.v (.bool true)∧∃σ'',Agr m' σ''∧J (j+1) σ'')
 (h0:J 0 σ):ACall prog 19 [.v (yV l),.pimm [.sl 6 (ss.map RS.av),.sl 5 (gs.map RG.av)],.pimm [.fn 10 []],.pimm [.fn 11 []]] σ λr σ'=>J (Zbu ss gs).length σ':=by
 have hls:(ss.map RS.av).length=ss.length:=Zq1 ..;have hlg:(gs.map RG.av).length=gs.length:=Zq1 ..;have kS:∀i (h:i < ss.length),(ss.map RS.av).getD i .u=ss[i].av:=λi h=>Zah RS.av h;have kG:∀i (h:i < gs.length),(gs.map RG.av).getD i .u=gs[i].av:=λi h=>Zah RG.av h;generalize ss.map RS.av=M at *;generalize gs.map RG.av=N at *;refine Zmc func19 rfl ntmps19 results19 call19 zr zs ?_;have hAg:=Agr.start σ;generalize lents σ=m0 at *;have hYd:∀(V:Value),V=yV l→True:=λ_ _=>trivial;show Zam _ _ _ _ _ ⟨λt=>[AV.v (yV l),.pimm [.sl 6 M,.sl 5 N],.pimm [.fn 10 []],.pimm [.fn 11 []]].getD t .u,m0⟩
 obtain⟨yv,hyv⟩:∃yv:AV,AV.v (yV l)=yv:=⟨_,rfl⟩;rw [hyv];(focus (refine wkad (w_1 hls) w_t w_t ?_;(repeat' first|exact w_t|apply w_l);all_goals intros));refine Zai (ι:=Nat) (λi e m=>i≤ss.length∧(e 0=yv∧e 1=.pimm [.sl 6 M,.sl 5 N]∧e 2=.pimm [.fn 10 []]∧e 3=.pimm [.fn 11 []])∧e 15=.sl 6 M∧e 16=iv ss.length∧e 17=iv i∧∃σ',Agr m σ'∧J (Zas ss i).length σ') (λi=>ss.length - i) 0 zr ?_ ?_
 ·rintro i e m ⟨hi,⟨e0,e1,e2,e3⟩,e15,e16,e17,σ1,hA1,hJ1⟩
  by_cases hlt:i < ss.length
  ·have gi:=kS i hlt;have hsi:=hs i hlt;have hsu:=Zed hlt;have hap:=fun(j:Nat) (p:Pr) (h:(Zcw i ss[i])[j]?=some p)=>hY _ p (Zoo (gs:=gs) hlt h);generalize ss[i]=s at *;obtain⟨k0,nm,ar,⟨rs,rl,rd⟩⟩:=s;have cS:=drSides k0;simp only at hsi;have hLl:((Zbx k0).map prA).length=(Zbx k0).length:=Zq1 ..;have kLs:∀j (h:j < (Zbx k0).length),((Zbx k0).map prA).getD j .u=prA (Zbx k0)[j]:=λj h=>Zah prA h;have hst:Zcw i ⟨k0,nm,ar,⟨rs,rl,rd⟩⟩=(Zbx k0).map λp=>(atN i ar p.1,atN i ar p.2):=rfl;rw [hst] at hsu;have hLb:=Znu k0;generalize Zbx k0=L at *
   generalize L.map prA=LA at *;(focus (refine wkad (w_9 e0 e1 e2 e3 e15 e16 e17 gi hLl) (w_1 cS) w_t ?_;(repeat' first|exact w_t|apply w_l);all_goals intros));rename_i g5 g6;refine Zki (Frz.pub (d:=7) (a:=.fn 20 [.pbox 5 g5 0,.pbox 6 g6 0]) (gC) (gC)) ?_;refine Zai (ι:=Nat) (λj e m=>j≤L.length∧(e 0=yv∧e 1=.pimm [.sl 6 M,.sl 5 N]∧e 2=.pimm [.fn 10 []]∧e 3=.pimm [.fn 11 []])∧e 15=.sl 6 M∧e 16=iv ss.length∧e 17=iv i∧e 7=.fn 20 [.pimm [iv i],.pimm [iv k0,strA nm,ivs ar,.v (.bool rs),lim rl,lim rd]]∧e 26=.sl 2 LA∧e 27=iv L.length∧e 28=iv j∧∃σ',Agr m σ'∧J ((Zas ss i).length+j) σ') (λj=>L.length - j) 0 zr ?_ ?_
   ·rintro j e m ⟨hj,⟨e0,e1,e2,e3⟩,e15,e16,e17,e7,e26,e27,e28,σ1,hA1,hJ1⟩
    by_cases hjl:j < L.length
    ·have gj:=kLs j hjl;obtain⟨hp1,hp2⟩:=hsi _ (Zrz hjl);have cA1:=drAt i _ k0 nm ar rs rl rd hp1;have cA2:=drAt i _ k0 nm ar rs rl rd hp2;have hh:=fun(m':Mem) (hA:Agr m' σ1)=>hap j (atN i ar L[j].1,atN i ar L[j].2) (by rw [hst,Zrx,Zqx hjl];rfl) m' σ1 hA hJ1;clear hap;generalize L[j]=p at *;obtain⟨p1,p2⟩:=p;simp only at cA1 cA2 hh;have gj:LA.getD j .u=.agg [iv p1,iv p2]:=gj;(focus (refine wkax (w_13 e0 e1 e2 e3 e15 e16 e17 e7 e26 e27 e28 gj hLl) w_t w_t w_t w_t w_t w_t (w_r 0) ?_;(repeat' first|exact w_t|apply w_l);all_goals intros));refine Zpd 10 (Zdq [(4,iv (atN i ar p1)),(8,iv (atN i ar p2))]) [] [] (by simp only [Zvc,Zu1];rfl) (by simp only [Zvb,Zsr];rfl) zk zr zk zk (by simp only [Zrj,Zrr,Nat.reduceAdd];rfl) ?_
     (focus (refine wkax (w_11 e0 e1 e2 e3 e15 e16 e17 e7 e26 e27 e28) (w_2 cA1 cA2) w_t w_t w_t w_t w_t (w_r 0) ?_;(repeat' first|exact w_t|apply w_l);all_goals intros));intro _;refine⟨_,Frz.refl _ _,.inr ⟨.tmp 32,l,#[.tmp 41],_,rfl,?_,?_⟩⟩
     ·rw [hyv];exact gW e0
     ·refine YCall.mono (show YCall prog l [.agg [iv (atN i ar p1),iv (atN i ar p2)]] _ _ from hh _ ?_) ?_
      ·(repeat' (first|exact hA1|(refine Agr.own ?_ zo)))
      ·rintro _ m2 ⟨rfl,σ2,hA2,hJ2⟩
       refine⟨_,Frz.refl _ _,λ_=>⟨_,Frz.refl _ _,.inl ?_⟩⟩;(focus (refine wkax (w_11 e0 e1 e2 e3 e15 e16 e17 e7 e26 e27 e28) w_t w_t w_t w_t w_t w_t (w_r 0) ?_;(repeat' first|exact w_t|apply w_l);all_goals intros));refine⟨_,Frz.refl _ _,Zit ?_⟩;(focus (refine wkad (w_11 e0 e1 e2 e3 e15 e16 e17 e7 e26 e27 e28) w_t w_t ?_;(repeat' first|exact w_t|apply w_l);all_goals intros));exact⟨j+1,⟨zo,⟨gW e0,gW e1,gW e2,gW e3⟩,gW e15,gW e16,gW e17,gW e7,gW e26,gW e27,gS,σ2,hA2,hJ2⟩,zo⟩
    ·have hjj:j=L.length:=zo;subst hjj;have hsl:(Zas ss (i+1)).length=(Zas ss i).length+L.length:=by rw [hsu,Zro,Zq1]
     rw [←hsl] at hJ1;(focus (refine wkad (w_11 e0 e1 e2 e3 e15 e16 e17 e7 e26 e27 e28) w_t w_t ?_;(repeat' first|exact w_t|apply w_l);all_goals intros));exact⟨i+1,⟨zo,⟨gW e0,gW e1,gW e2,gW e3⟩,gW e15,gW e16,gS,σ1,hA1,hJ1⟩,zo⟩
   ·exact⟨Zre _,⟨gW e0,gW e1,gW e2,gW e3⟩,gW e15,gW e16,gW e17,gC,gC,by(simp (disch:=omega) only [go_sem,hLl]<;>repeat' first|rfl|refine⟨?_,?_⟩),gC,σ1,by(repeat' (first|exact hA1|(refine Agr.own ?_ zo))),hJ1⟩
  ·have hii:i=ss.length:=zo;subst hii;(focus (refine wkad (w_8 e0 e1 e2 e3 e15 e16 e17 hlg) w_t w_t ?_;(repeat' first|exact w_t|apply w_l);all_goals intros));refine Zai (ι:=Nat) (λi e m=>i≤gs.length∧(e 0=yv∧e 1=.pimm [.sl 6 M,.sl 5 N]∧e 3=.pimm [.fn 11 []])∧e 47=.sl 5 N∧e 48=iv gs.length∧e 49=iv i∧∃σ',Agr m σ'∧J ((Zas ss ss.length).length+(Za8 gs i).length) σ') (λi=>gs.length - i) 0 zr ?_ ?_
   ·rintro i e m ⟨hi,⟨e0,e1,e3⟩,e47,e48,e49,σ1,hA1,hJ1⟩
    by_cases hlt:i < gs.length
    ·have gi:=kG i hlt;have hgi:=hg i hlt;have hsu:=Zek hlt;have hap:=fun(j:Nat) (p:Pr) (h:(Zcy gs[i])[j]?=some p)=>hY _ p (Zop (ss:=ss) hlt h);generalize gs[i]=g at *;obtain⟨k0,ar,⟨rs,rl,rd⟩⟩:=g;have cS:=drParts k0;simp only at hgi;have hLl:((Zby k0).map prA).length=(Zby k0).length:=Zq1 ..;have kLs:∀j (h:j < (Zby k0).length),((Zby k0).map prA).getD j .u=prA (Zby k0)[j]:=λj h=>Zah prA h;have hst:Zcy ⟨k0,ar,⟨rs,rl,rd⟩⟩=(Zby k0).map λp=>(gI ar p.1.toNat,gI ar p.2.toNat):=rfl;rw [hst] at hsu;have hll:(ar.map iv).length=ar.length:=Zq1 ..
     have kA:∀j:Nat,j < ar.length→(ar.map iv).getD j .u=iv (gI ar j):=λj h=>by rw [Zah iv h,Zbo h]
     have hLb:=Zn1 k0;generalize Zby k0=L at *;generalize L.map prA=LA at *;(focus (refine wkad (w_8 e0 e1 e3 e47 e48 e49 gi hLl) (w_1 cS) w_t ?_;(repeat' first|exact w_t|apply w_l);all_goals intros));rename_i g11;refine Zki (Frz.pub (d:=11) (a:=.pbox 11 g11 0) (gC) (gC)) ?_;refine Zai (ι:=Nat) (λj e m=>j≤L.length∧(e 0=yv∧e 1=.pimm [.sl 6 M,.sl 5 N]∧e 3=.pimm [.fn 11 []])∧e 47=.sl 5 N∧e 48=iv gs.length∧e 49=iv i∧e 11=.pimm [iv k0,ivs ar,.v (.bool rs),lim rl,lim rd]∧e 56=.sl 2 LA∧e 57=iv L.length∧e 58=iv j∧∃σ',Agr m σ'∧J ((Zas ss ss.length).length+((Za8 gs i).length+j)) σ') (λj=>L.length - j) 0 zr ?_ ?_
     ·rintro j e m ⟨hj,⟨e0,e1,e3⟩,e47,e48,e49,e11,e56,e57,e58,σ1,hA1,hJ1⟩
      by_cases hjl:j < L.length
      ·have gj:=kLs j hjl;obtain⟨hp0,hp1,hp2,hp3⟩:=hgi _ (Zrz hjl);have hh:=fun(m':Mem) (hA:Agr m' σ1)=>hap j (gI ar L[j].1.toNat,gI ar L[j].2.toNat) (by rw [hst,Zrx,Zqx hjl];rfl) m' σ1 hA hJ1;clear hap;have a1:=kA L[j].1.toNat zo;have a2:=kA L[j].2.toNat zo;generalize L[j]=p at *;obtain⟨p1,p2⟩:=p;simp only at hp0 hp1 hp2 hp3 hh a1 a2;have gj:LA.getD j .u=.agg [iv p1,iv p2]:=gj;(focus (refine wkax (w_12 e0 e1 e3 e47 e48 e49 e11 e56 e57 e58 gj hLl) w_t w_t w_t w_t w_t w_t (w_r 0) ?_;(repeat' first|exact w_t|apply w_l);all_goals intros));refine Zpd 14 (Zdq []) [] [] (by simp only [Zvc,Zu1];rfl) (by simp only [Zvb,Zsr];rfl) zk zr zk zk (by simp only [Zrj,Zrr,Nat.reduceAdd];rfl) ?_
       (focus (refine wkax (w_13 e0 e1 e3 e47 e48 e49 e11 e56 e57 e58 hll a1 a2) w_t w_t w_t w_t w_t w_t (w_r 0) ?_;(repeat' first|exact w_t|apply w_l);all_goals intros));intro _;refine⟨_,Frz.refl _ _,.inr ⟨.tmp 62,l,#[.tmp 75],_,rfl,?_,?_⟩⟩
       ·rw [hyv];exact gW e0
       ·refine YCall.mono (show YCall prog l [.agg [iv (gI ar p1.toNat),iv (gI ar p2.toNat)]] _ _ from hh _ ?_) ?_
        ·(repeat' (first|exact hA1|(refine Agr.own ?_ zo)))
        ·rintro _ m2 ⟨rfl,σ2,hA2,hJ2⟩
         refine⟨_,Frz.refl _ _,λ_=>⟨_,Frz.refl _ _,.inl ?_⟩⟩;(focus (refine wkax (w_10 e0 e1 e3 e47 e48 e49 e11 e56 e57 e58) w_t w_t w_t w_t w_t w_t (w_r 0) ?_;(repeat' first|exact w_t|apply w_l);all_goals intros));refine⟨_,Frz.refl _ _,Zit ?_⟩;(focus (refine wkad (w_10 e0 e1 e3 e47 e48 e49 e11 e56 e57 e58) w_t w_t ?_;(repeat' first|exact w_t|apply w_l);all_goals intros));exact⟨j+1,⟨zo,⟨gW e0,gW e1,gW e3⟩,gW e47,gW e48,gW e49,gW e11,gW e56,gW e57,gS,σ2,hA2,hJ2⟩,zo⟩
      ·have hjj:j=L.length:=zo;subst hjj;have hsl:(Za8 gs (i+1)).length=(Za8 gs i).length+L.length:=by rw [hsu,Zro,Zq1]
       rw [←hsl] at hJ1;(focus (refine wkad (w_10 e0 e1 e3 e47 e48 e49 e11 e56 e57 e58) w_t w_t ?_;(repeat' first|exact w_t|apply w_l);all_goals intros));exact⟨i+1,⟨zo,⟨gW e0,gW e1,gW e3⟩,gW e47,gW e48,gS,σ1,hA1,hJ1⟩,zo⟩
     ·exact⟨Zre _,⟨gW e0,gW e1,gW e3⟩,gW e47,gW e48,gW e49,gC,gC,by(simp (disch:=omega) only [go_sem,hLl]<;>repeat' first|rfl|refine⟨?_,?_⟩),gC,σ1,by(repeat' (first|exact hA1|(refine Agr.own ?_ zo))),hJ1⟩
    ·have hii:i=gs.length:=zo;subst hii;have hal:(Zas ss ss.length).length+(Za8 gs gs.length).length=(Zbu ss gs).length:=(Zro ..).symm;rw [hal] at hJ1;(focus (refine wkad (w_6 e0 e1 e3 e47 e48 e49) w_t w_t ?_;(repeat' first|exact w_t|apply w_l);all_goals intros));exact backS (r:=.tup []) (Sub.refl _) hJ1 hA1
   ·exact⟨Zre _,⟨gW e0,gW e1,gW e3⟩,gC,gW hlg,gC,σ1,hA1,hJ1⟩
 ·exact⟨Zre _,⟨gC,gC,gC,gC⟩,gC,gC,gC,σ,hAg,h0⟩
theorem irRaw (s:Bool) (l:List Nat) (hl:Lm l) (hs:l.length≤100000000):Pure prog 45 [.agg [.v (.bool s),lim l]] (.v (.bool (RQ.zok s l))):=by
 unfold RQ.zok valL;by_cases h:l.length=0
 ·rw [Zqz h,Bool.true_or,Zs0,Bool.and_true];cases s
  ·refine pI func45 rfl ntmps45 results45 call45 ?_;exact wklp (w_1 @Zap) w_t w_t (w_r 0) w_z
  ·refine pI func45 rfl ntmps45 results45 call45 ?_;exact wklp (w_1 @Zap) w_t w_t (w_r 0) w_z
 ·rw [Zqy h,Bool.false_or,Zux,Zuk,Bool.and_true];have ei:(l.length:Int) - 1=((l.length - 1:Nat):Int):=zo;have hlm:=Zbm hl (l.length - 1);by_cases hg:gN l (l.length - 1)=0
  ·rw [Zqz hg];cases s
   ·refine pI func45 rfl ntmps45 results45 call45 ?_;exact wklp (w_2 ei @Zap) w_t (w_1 @Zue) (w_r 0) w_z
   ·refine pI func45 rfl ntmps45 results45 call45 ?_;exact wklp (w_2 ei @Zap) w_t (w_1 @Zue) (w_r 0) w_z
  ·rw [Zqy hg];cases s
   ·refine pI func45 rfl ntmps45 results45 call45 ?_;exact wklp (w_2 ei @Zap) w_t (w_1 @Zuk) (w_r 0) w_z
   ·refine pI func45 rfl ntmps45 results45 call45 ?_;exact wklp (w_2 ei @Zap) w_t (w_1 @Zuk) (w_r 0) w_z
theorem Zo8 (r:RQ) (h:r.lm 100000000):Pure prog 29 [r.av] (.v (.bool r.ok)):=by
 obtain⟨s,l,d⟩:=r;obtain⟨h1,h2,h3,h4⟩:=h;simp only at h1 h2 h3 h4;have c1:=irRaw s l h1 h3;unfold RQ.ok;simp only;generalize RQ.zok s l=z at *;by_cases hd:d.length=0
 ·have:decide (0 < d.length)=false:=Zqy zo;rw [this,Zux];cases z
  ·refine pI func29 rfl ntmps29 results29 call29 ?_;exact wklp (w_1 @Zap) (w_1 c1) w_t (w_r 0) w_z
  ·refine pI func29 rfl ntmps29 results29 call29 ?_;exact wklp (w_1 @Zap) (w_1 c1) w_t (w_r 0) w_z
 ·have:decide (0 < d.length)=true:=Zqz zo;rw [this,Bool.and_true];have ei:(d.length:Int) - 1=((d.length - 1:Nat):Int):=zo;have hlm:=Zbm h2 (d.length - 1)
  cases z with
  | false =>
    rw [Zr3,Zr3];refine pI func29 rfl ntmps29 results29 call29 ?_;exact wklp (w_1 @Zap) (w_1 c1) w_t (w_r 0) w_z
  | true =>
    rw [Zs0];by_cases hg:gN d (d.length - 1)=0
    ·have:valL d=false:=by unfold valL;rw [Zqy hd,Zqz hg];rfl
     rw [this,Zr3];refine pI func29 rfl ntmps29 results29 call29 ?_;exact wklp (w_2 ei @Zap) (w_1 c1) w_t (w_r 0) w_z
    ·have hv:valL d=true:=by unfold valL;rw [Zqy hd,Zqy hg];rfl
     rw [hv,Zs0];have hdt:=(valL_iff h2).1 hv;have l4:(toL (nv d)).length≤100000000:=by rw [←hdt];exact h4
     have c2:=ratOne (nv d) zo;have c3:=natGcd l d zo zo h1 h2
     have n0:nv d≠0:=by
      intro h0;rw [h0,Zay] at hdt;rw [hdt] at hd;exact hd rfl
     have gl:(toL (Nat.gcd (nv l) (nv d))).length≤100000000:=Zrn (Zho (Nat.gcd_le_right _ zo)) l4;have c4:=ratOne (Nat.gcd (nv l) (nv d)) zo;rw [←hdt] at c2;have hb:(Nat.gcd (nv l) (nv d) == 1)=decide (Nat.gcd (nv l) (nv d)=1):=by rw [Zrt,Zsq,Zrs]
     rw [hb];by_cases h1d:nv d=1
     ·rw [Zqz h1d] at c2;rw [Zqz (show Nat.gcd (nv l) (nv d)=1 by rw [h1d,Nat.gcd_one_right])];clear c3 c4 hdt;refine pI func29 rfl ntmps29 results29 call29 ?_;exact wklp (w_2 ei @Zap) (w_2 c1 c2) (w_1 @decide_true) (w_r 0) w_z
     ·rw [Zqy h1d] at c2;clear hdt hb gl;generalize decide (Nat.gcd (nv l) (nv d)=1)=v at *;generalize toL (Nat.gcd (nv l) (nv d))=lg' at *;refine pI func29 rfl ntmps29 results29 call29 ?_;exact wklp (w_2 ei @Zap) (w_4 c1 c2 c3 c4) w_t (w_r 0) w_z
theorem lwAr (k:Int):Pure prog 26 [iv k] (iv (arS k)):=by
 unfold arS;refine pI func26 rfl ntmps26 results26 call26 ?_;(focus (refine wklp w_t w_t w_t (w_r 0) ?_;(repeat' first|exact w_t|apply w_l);all_goals intros));all_goals (congr 2;repeat' split)
 all_goals (first|rfl|omega)
theorem lwNone (r:RQ):Pure prog 30 [r.av] (.v (.bool r.none)):=by
 obtain⟨s,l,d⟩:=r;unfold RQ.none;simp only;cases s
 ·refine pI func30 rfl ntmps30 results30 call30 ?_;(focus (refine wklp (w_1 @Zap) w_t w_t (w_r 0) ?_;(repeat' first|exact w_t|apply w_l);all_goals intros))
 ·refine pI func30 rfl ntmps30 results30 call30 ?_;(focus (refine wklp (w_1 @Zap) w_t w_t (w_r 0) ?_;(repeat' first|exact w_t|apply w_l);all_goals intros))
theorem rlAr (k:Int):Pure prog 38 [iv k] (iv (arS k)):=by
 unfold arS;refine pI func38 rfl ntmps38 results38 call38 ?_;exact wklp w_t w_t w_t (w_r 0) w_z;all_goals (congr 2;repeat' split)
 all_goals (first|rfl|omega)
theorem rlNone (r:RQ):Pure prog 40 [r.av] (.v (.bool r.none)):=by
 obtain⟨s,l,d⟩:=r;unfold RQ.none;simp only;cases s
 ·refine pI func40 rfl ntmps40 results40 call40 ?_;exact wklp (w_1 @Zap) w_t w_t (w_r 0) w_z
 ·refine pI func40 rfl ntmps40 results40 call40 ?_;exact wklp (w_1 @Zap) w_t w_t (w_r 0) w_z
theorem prAr (k:Int):Pure prog 34 [iv k] (iv (arG k)):=by
 unfold arG;refine pI func34 rfl ntmps34 results34 call34 ?_;(focus (refine wklp w_t w_t w_t (w_r 0) ?_;(repeat' first|exact w_t|apply w_l);all_goals intros));all_goals (congr 2;repeat' split)
 all_goals (first|rfl|omega)
theorem prNone (r:RQ):Pure prog 35 [r.av] (.v (.bool r.none)):=by
 obtain⟨s,l,d⟩:=r;unfold RQ.none;simp only;cases s
 ·refine pI func35 rfl ntmps35 results35 call35 ?_;(focus (refine wklp (w_1 @Zap) w_t w_t (w_r 0) ?_;(repeat' first|exact w_t|apply w_l);all_goals intros))
 ·refine pI func35 rfl ntmps35 results35 call35 ?_;(focus (refine wklp (w_1 @Zap) w_t w_t (w_r 0) ?_;(repeat' first|exact w_t|apply w_l);all_goals intros))
theorem rrAr (k:Int):Pure prog 42 [iv k] (iv (arG k)):=by
 unfold arG;refine pI func42 rfl ntmps42 results42 call42 ?_;exact wklp w_t w_t w_t (w_r 0) w_z;all_goals (congr 2;repeat' split)
 all_goals (first|rfl|omega)
theorem rrNone (r:RQ):Pure prog 43 [r.av] (.v (.bool r.none)):=by
 obtain⟨s,l,d⟩:=r;unfold RQ.none;simp only;cases s
 ·refine pI func43 rfl ntmps43 results43 call43 ?_;exact wklp (w_1 @Zap) w_t w_t (w_r 0) w_z
 ·refine pI func43 rfl ntmps43 results43 call43 ?_;exact wklp (w_1 @Zap) w_t w_t (w_r 0) w_z
theorem Zix {α:Type} (F:α→Bool) (l:List α):∃n,n≤l.length∧(∀j (h:j < l.length),j < n→F l[j]=false)∧(∀h:n < l.length,F l[n]=true)∧l.any F=decide (n < l.length):=by
 induction l with
 | nil=>exact⟨0,by simp,by simp,by simp,by simp⟩
 | cons a l ih =>
   obtain⟨n,h1,h2,h3,h4⟩:=ih
   cases ha:F a with
   | true=>exact⟨0,by simp,λj h h'=>zo,λ_=>ha,by simp [ha]⟩
   | false =>
     refine⟨n+1,by simpa using h1,λj h h'=>?_,λh=>h3 (by simpa using h),by simp [ha,h4]⟩
     cases j with
     | zero=>exact ha
     | succ j=>exact h2 j (by simpa using h) zo
theorem ck1 (a i:Int):Pure prog 28 [iv a,.pimm [iv i]] (.v (.bool (decide (a < 0) || decide (i≤a)))):=by
 refine pI func28 rfl ntmps28 results28 call28 ?_;(focus (refine wklp w_t w_t w_t (w_r 0) ?_;(repeat' first|exact w_t|apply w_l);all_goals intros))
theorem slIdx1 (l:List Int) (i:Int) (hl:l.length≤1000000000):∃z:Int,Pure prog 44 [ivs l,.fn 28 [.pimm [iv i]]] (iv z)∧decide (0≤z)=outB i l:=by
 obtain⟨n,h1,h2,h3,h4⟩:=Zix (λa=>decide (a < 0) || decide (i≤a)) l;refine⟨if n < l.length then (n:Int) else -1,?_,?_⟩
 ·refine pI func44 rfl ntmps44 results44 call44 ?_;(focus (refine wkap (w_1 @Zf0) w_t (w_r 0) ?_;(repeat' first|exact w_t|apply w_l);all_goals intros));refine Zai (ι:=Nat) (λk e m=>k≤n∧e 0=ivs l∧e 1=.fn 28 [.pimm [iv i]]∧e 7=iv l.length∧e 8=iv k) (λk=>n - k) 0 zr ?_ ?_
  ·rintro k e m ⟨hk,e0,e1,e7,e8⟩
   by_cases hlt:k < l.length
   ·have hg:=Zah iv hlt;by_cases hkn:k < n
    ·have hb:=h2 k hlt hkn;have c:=ck1 l[k] i;rw [hb] at c;clear hb;generalize l[k]=a at *;(focus (refine wkap (w_6 e0 e1 e7 e8 hg @Zf0) (w_1 c) (w_r 0) ?_;(repeat' first|exact w_t|apply w_l);all_goals intros));exact⟨k+1,⟨zo,gW e0,gW e1,gW e7,gS⟩,zo⟩
    ·have hkn:k=n:=zo;subst hkn;have hb:=h3 hlt;have c:=ck1 l[k] i;rw [hb] at c;rw [Zqv hlt];clear hb;generalize l[k]=a at *;(focus (refine wklp (w_6 e0 e1 e7 e8 hg @Zf0) (w_1 c) w_t (w_r 0) ?_;(repeat' first|exact w_t|apply w_l);all_goals intros))
   ·rw [Zqw zo];(focus (refine wklp (w_5 e0 e1 e7 e8 @Zf0) w_t w_t (w_r 0) ?_;(repeat' first|exact w_t|apply w_l);all_goals intros))
  ·exact⟨Zre _,gC,gC,by(simp (disch:=omega) only [go_sem,Zq1]<;>repeat' first|rfl|refine⟨?_,?_⟩),gC⟩
 ·unfold outB;rw [h4,Zrt,Zrs,Zrs];split<;>omega
theorem slCon1 (l:List Int) (i:Int) (hl:l.length≤1000000000):Pure prog 27 [ivs l,.fn 28 [.pimm [iv i]]] (.v (.bool (outB i l))):=by
 obtain⟨z,c,hz⟩:=slIdx1 l i hl;rw [←hz];refine pI func27 rfl ntmps27 results27 call27 ?_;(focus (refine wklp w_t (w_1 c) w_t (w_r 0) ?_;(repeat' first|exact w_t|apply w_l);all_goals intros))
theorem ck2 (t s:RS):Pure prog 33 [t.av,.pimm [iv s.k,strA s.nm,ivs s.ar,.v (.bool s.r.s),lim s.r.l,lim s.r.d]] (.v (.bool (t.nm.toList == s.nm.toList))):=by
 obtain⟨a,b,c,d⟩:=t;obtain⟨a',b',c',d'⟩:=s;refine pI func33 rfl ntmps33 results33 call33 ?_;(focus (refine wklp w_t w_t w_t (w_r 0) ?_;(repeat' first|exact w_t|apply w_l);all_goals intros))
theorem slIdx2 (l:List RS) (s:RS) (hl:l.length≤1000000000):∃z:Int,Pure prog 51 [.sl 6 (l.map RS.av),.fn 33 [.pimm [iv s.k,strA s.nm,ivs s.ar,.v (.bool s.r.s),lim s.r.l,lim s.r.d]]] (iv z)∧decide (0≤z)=l.any (λt=>t.nm.toList == s.nm.toList):=by
 obtain⟨n,h1,h2,h3,h4⟩:=Zix (λt:RS=>t.nm.toList == s.nm.toList) l;refine⟨if n < l.length then (n:Int) else -1,?_,?_⟩
 ·refine pI func51 rfl ntmps51 results51 call51 ?_;(focus (refine wkap (w_1 @Zf0) w_t (w_r 0) ?_;(repeat' first|exact w_t|apply w_l);all_goals intros));refine Zai (ι:=Nat) (λk e m=>k≤n∧e 0=.sl 6 (l.map RS.av)∧e 1=.fn 33 [.pimm [iv s.k,strA s.nm,ivs s.ar,.v (.bool s.r.s),lim s.r.l,lim s.r.d]]∧e 7=iv l.length∧e 8=iv k) (λk=>n - k) 0 zr ?_ ?_
  ·rintro k e m ⟨hk,e0,e1,e7,e8⟩
   by_cases hlt:k < l.length
   ·have hg:=Zah RS.av hlt;by_cases hkn:k < n
    ·have hb:=h2 k hlt hkn;have c:=ck2 l[k] s;rw [hb] at c;clear hb;generalize l[k]=a at *;obtain⟨a1,a2,a3,a4⟩:=a;(focus (refine wkap (w_6 e0 e1 e7 e8 hg @Zf0) (w_1 c) (w_r 0) ?_;(repeat' first|exact w_t|apply w_l);all_goals intros));exact⟨k+1,⟨zo,gW e0,gW e1,gW e7,gS⟩,zo⟩
    ·have hkn:k=n:=zo;subst hkn;have hb:=h3 hlt;have c:=ck2 l[k] s;rw [hb] at c;rw [Zqv hlt];clear hb;generalize l[k]=a at *;obtain⟨a1,a2,a3,a4⟩:=a;(focus (refine wklp (w_6 e0 e1 e7 e8 hg @Zf0) (w_1 c) w_t (w_r 0) ?_;(repeat' first|exact w_t|apply w_l);all_goals intros))
   ·rw [Zqw zo];(focus (refine wklp (w_5 e0 e1 e7 e8 @Zf0) w_t w_t (w_r 0) ?_;(repeat' first|exact w_t|apply w_l);all_goals intros))
  ·exact⟨Zre _,gC,gC,by(simp (disch:=omega) only [go_sem,Zq1]<;>repeat' first|rfl|refine⟨?_,?_⟩),gC⟩
 ·rw [h4,Zrt,Zrs,Zrs];split<;>omega
theorem slCon2 (l:List RS) (s:RS) (hl:l.length≤1000000000):Pure prog 32 [.sl 6 (l.map RS.av),.fn 33 [.pimm [iv s.k,strA s.nm,ivs s.ar,.v (.bool s.r.s),lim s.r.l,lim s.r.d]]] (.v (.bool (l.any (λt=>t.nm.toList == s.nm.toList)))):=by
 obtain⟨z,c,hz⟩:=slIdx2 l s hl;rw [←hz];refine pI func32 rfl ntmps32 results32 call32 ?_;(focus (refine wklp w_t (w_1 c) w_t (w_r 0) ?_;(repeat' first|exact w_t|apply w_l);all_goals intros))
def RS.sm (s:RS):Prop:=s.r.lm 100000000∧s.nm.size≤9223372036854775807∧s.ar.length≤1000000000
def RG.sm (g:RG):Prop:=g.r.lm 100000000∧g.ar.length≤1000000000
theorem lwCheck (ss:List RS) (i:Nat) (hi:i < ss.length) (hl:ss.length≤1000000000) (hs:∀s∈ss,s.sm):Pure prog 17 [.sl 6 (ss.map RS.av),iv i] (iv (errS ss i)):=by
 have hg:=Zah RS.av hi;have hsm:=hs _ (Zrz hi);have e0:errS ss i=errS ss i:=rfl;unfold errS at e0 ⊢;rw [show ss.getD i RS.zero=ss[i] from by rw [Zq6,Zqx hi];rfl];clear e0;have htk:(ss.map RS.av).take i=(ss.take i).map RS.av:=(List.map_take ..).symm;have c2:=slCon2 (ss.take i) ss[i] (by rw [Zrd];omega);rw [←htk] at c2;have hlm:(ss.map RS.av).length=ss.length:=Zq1 ..;generalize ss.map RS.av=M at *;generalize ss[i]=s at *;clear htk;clear hs;obtain⟨h1,h2,h3⟩:=hsm;have ca:=lwAr s.k;have cr:=Zo8 s.r h1;have cn:=lwNone s.r
 have cm:=nmName s.nm h2;have c1:=slCon1 s.ar i h3;have hst:=Zi7 s.nm;have hla:(s.ar.map iv).length=s.ar.length:=Zq1 ..;obtain⟨k,nm,ar,r,rl,rd⟩:=s;simp only at *;generalize (ss.take i).any (λt=>t.nm.toList == nm.toList)=any at *;generalize arS k=a at *;generalize outB (i:Int) ar=o at *;generalize RQ.ok ⟨r,rl,rd⟩=ok at *;generalize RQ.none ⟨r,rl,rd⟩=no at *;generalize namB nm=nb at *;by_cases w1:a < 0
 ·rw [Zqv w1];refine pI func17 rfl ntmps17 results17 call17 ?_;(focus (refine wklp (w_3 hg hlm hla) (w_1 ca) w_t (w_r 0) ?_;(repeat' first|exact w_t|apply w_l);all_goals intros))
 ·rw [Zqw w1];by_cases w2:(ar.length:Int)≠a
  ·rw [Zqv w2];refine pI func17 rfl ntmps17 results17 call17 ?_;(focus (refine wklp (w_3 hg hlm hla) (w_1 ca) w_t (w_r 0) ?_;(repeat' first|exact w_t|apply w_l);all_goals intros))
  ·rw [Zqw w2]
   cases o with
   | true =>
     rw [Zqv rfl];refine pI func17 rfl ntmps17 results17 call17 ?_;(focus (refine wkax (w_3 hg hlm hla) (w_1 ca) w_t (w_1 c1) w_t w_t w_y (w_r 0) ?_;(repeat' first|exact w_t|apply w_l);all_goals intros))
     (all_goals (try simp (disch:=omega) only [go_sem,Zqz,Zqy,Zqv,Zqw,Int.reduceAdd,Int.reduceSub,Int.reduceToNat,Zq2]));(all_goals first|done|rfl|(congr 2;first|done|omega|(rw [Zrt];simp only [bool_to_prop,Zrb,Zsa,Zsb,Zsc,Zsd];omega))|skip)
   | false =>
     rw [Zqw zd];by_cases w3:(k=2∧ok=false)∨(k≠2∧no=false)
     ·rw [Zqv w3];rcases w3 with⟨hk,rfl⟩ | ⟨hk,rfl⟩
      ·subst hk;refine pI func17 rfl ntmps17 results17 call17 ?_;(focus (refine wkax (w_3 hg hlm hla) (w_2 ca cr) w_t (w_1 c1) w_t w_t w_y (w_r 0) ?_;(repeat' first|exact w_t|apply w_l);all_goals intros))
       (all_goals (try simp (disch:=omega) only [go_sem,Zqz,Zqy,Zqv,Zqw,Int.reduceAdd,Int.reduceSub,Int.reduceToNat,Zq2]));(all_goals first|done|rfl|(congr 2;first|done|omega|(rw [Zrt];simp only [bool_to_prop,Zrb,Zsa,Zsb,Zsc,Zsd];omega))|skip)
      ·refine pI func17 rfl ntmps17 results17 call17 ?_;(focus (refine wkax (w_3 hg hlm hla) (w_2 ca cn) w_t (w_1 c1) w_t w_t w_y (w_r 0) ?_;(repeat' first|exact w_t|apply w_l);all_goals intros))
       (all_goals (try simp (disch:=omega) only [go_sem,Zqz,Zqy,Zqv,Zqw,Int.reduceAdd,Int.reduceSub,Int.reduceToNat,Zq2]));(all_goals first|done|rfl|(congr 2;first|done|omega|(rw [Zrt];simp only [bool_to_prop,Zrb,Zsa,Zsb,Zsc,Zsd];omega))|skip)
     ·rw [Zqw w3]
      have w4:(k=2∧ok=true)∨(k≠2∧no=true):=by
       by_cases hk:k=2
       ·cases ok
        ·exact absurd (.inl ⟨hk,rfl⟩) w3
        ·exact .inl ⟨hk,rfl⟩
       ·cases no
        ·exact absurd (.inr ⟨hk,rfl⟩) w3
        ·exact .inr ⟨hk,rfl⟩
      clear w3;by_cases w5:nm.size=0
      ·rw [Zqv w5];rw [Zqz w5] at hst;rcases w4 with⟨hk,rfl⟩ | ⟨hk,rfl⟩
       ·subst hk;refine pI func17 rfl ntmps17 results17 call17 ?_;(focus (refine wkax (w_4 hg hlm hla hst) (w_2 ca cr) w_t (w_1 c1) w_t w_t w_y (w_r 0) ?_;(repeat' first|exact w_t|apply w_l);all_goals intros))
        (all_goals (try simp (disch:=omega) only [go_sem,Zqz,Zqy,Zqv,Zqw,Int.reduceAdd,Int.reduceSub,Int.reduceToNat,Zq2]));(all_goals first|done|rfl|(congr 2;first|done|omega|(rw [Zrt];simp only [bool_to_prop,Zrb,Zsa,Zsb,Zsc,Zsd];omega))|skip)
       ·refine pI func17 rfl ntmps17 results17 call17 ?_;(focus (refine wkax (w_4 hg hlm hla hst) (w_2 ca cn) w_t (w_1 c1) w_t w_t w_y (w_r 0) ?_;(repeat' first|exact w_t|apply w_l);all_goals intros))
        (all_goals (try simp (disch:=omega) only [go_sem,Zqz,Zqy,Zqv,Zqw,Int.reduceAdd,Int.reduceSub,Int.reduceToNat,Zq2]));(all_goals first|done|rfl|(congr 2;first|done|omega|(rw [Zrt];simp only [bool_to_prop,Zrb,Zsa,Zsb,Zsc,Zsd];omega))|skip)
      ·rw [Zqw w5];rw [Zqy w5] at hst
       cases nb with
       | false =>
         rw [Zqv rfl];rcases w4 with⟨hk,rfl⟩ | ⟨hk,rfl⟩
         ·subst hk;refine pI func17 rfl ntmps17 results17 call17 ?_;(focus (refine wkax (w_4 hg hlm hla hst) (w_3 ca cr cm) w_t (w_1 c1) w_t w_t w_y (w_r 0) ?_;(repeat' first|exact w_t|apply w_l);all_goals intros))
          (all_goals (try simp (disch:=omega) only [go_sem,Zqz,Zqy,Zqv,Zqw,Int.reduceAdd,Int.reduceSub,Int.reduceToNat,Zq2]));(all_goals first|done|rfl|(congr 2;first|done|omega|(rw [Zrt];simp only [bool_to_prop,Zrb,Zsa,Zsb,Zsc,Zsd];omega))|skip)
         ·refine pI func17 rfl ntmps17 results17 call17 ?_;(focus (refine wkax (w_4 hg hlm hla hst) (w_3 ca cn cm) w_t (w_1 c1) w_t w_t w_y (w_r 0) ?_;(repeat' first|exact w_t|apply w_l);all_goals intros))
          (all_goals (try simp (disch:=omega) only [go_sem,Zqz,Zqy,Zqv,Zqw,Int.reduceAdd,Int.reduceSub,Int.reduceToNat,Zq2]));(all_goals first|done|rfl|(congr 2;first|done|omega|(rw [Zrt];simp only [bool_to_prop,Zrb,Zsa,Zsb,Zsc,Zsd];omega))|skip)
       | true =>
         rw [Zqw zd];rcases w4 with⟨hk,rfl⟩ | ⟨hk,rfl⟩
         ·subst hk;cases any
          ·refine pI func17 rfl ntmps17 results17 call17 ?_;(focus (refine wkax (w_5 hg hlm hla hst @Zej) (w_3 ca cr cm) w_t (w_2 c1 c2) w_t w_t w_y (w_r 0) ?_;(repeat' first|exact w_t|apply w_l);all_goals intros))
           (all_goals (try simp (disch:=omega) only [go_sem,Zqz,Zqy,Zqv,Zqw,Int.reduceAdd,Int.reduceSub,Int.reduceToNat,Zq2]));(all_goals first|done|rfl|(congr 2;first|done|omega|(rw [Zrt];simp only [bool_to_prop,Zrb,Zsa,Zsb,Zsc,Zsd];omega))|skip)
          ·refine pI func17 rfl ntmps17 results17 call17 ?_;(focus (refine wkax (w_5 hg hlm hla hst @Zej) (w_3 ca cr cm) w_t (w_2 c1 c2) w_t w_t w_y (w_r 0) ?_;(repeat' first|exact w_t|apply w_l);all_goals intros))
           (all_goals (try simp (disch:=omega) only [go_sem,Zqz,Zqy,Zqv,Zqw,Int.reduceAdd,Int.reduceSub,Int.reduceToNat,Zq2]));(all_goals first|done|rfl|(congr 2;first|done|omega|(rw [Zrt];simp only [bool_to_prop,Zrb,Zsa,Zsb,Zsc,Zsd];omega))|skip)
         ·cases any
          ·refine pI func17 rfl ntmps17 results17 call17 ?_;(focus (refine wkax (w_5 hg hlm hla hst @Zej) (w_3 ca cn cm) w_t (w_2 c1 c2) w_t w_t w_y (w_r 0) ?_;(repeat' first|exact w_t|apply w_l);all_goals intros))
           (all_goals (try simp (disch:=omega) only [go_sem,Zqz,Zqy,Zqv,Zqw,Int.reduceAdd,Int.reduceSub,Int.reduceToNat,Zq2]));(all_goals first|done|rfl|(congr 2;first|done|omega|(rw [Zrt];simp only [bool_to_prop,Zrb,Zsa,Zsb,Zsc,Zsd];omega))|skip)
          ·refine pI func17 rfl ntmps17 results17 call17 ?_;(focus (refine wkax (w_5 hg hlm hla hst @Zej) (w_3 ca cn cm) w_t (w_2 c1 c2) w_t w_t w_y (w_r 0) ?_;(repeat' first|exact w_t|apply w_l);all_goals intros))
           (all_goals (try simp (disch:=omega) only [go_sem,Zqz,Zqy,Zqv,Zqw,Int.reduceAdd,Int.reduceSub,Int.reduceToNat,Zq2]));(all_goals first|done|rfl|(congr 2;first|done|omega|(rw [Zrt];simp only [bool_to_prop,Zrb,Zsa,Zsb,Zsc,Zsd];omega))|skip)
theorem Zhi {n:Int} {l:List Int} {k:Nat} (hk:k < l.length):outB n (l.take (k+1))=(outB n (l.take k) || (decide (l[k] < 0) || decide (n≤l[k]))):=by
 unfold outB;rw [Zul hk,List.any_append,List.any_cons,List.any_nil,Bool.or_false]
theorem Zlv {n:Int} {l:List Int} {k:Nat} (hk:k < l.length) (h:(decide (l[k] < 0) || decide (n≤l[k]))=true):outB n l=true:=List.any_eq_true.2 ⟨l[k],Zrz hk,h⟩
theorem prRight (g:RG) (n:Nat) (hn:n≤1000000000) (hs:g.sm):Pure prog 18 [g.av,iv n] (iv (errG g n)):=by
 obtain⟨h1,h3⟩:=hs;unfold errG;have ca:=prAr g.k;have cr:Pure prog 29 [g.r.av] (.v (.bool g.r.ok)):=Zo8 g.r h1;have cn:=prNone g.r;have hla:(g.ar.map iv).length=g.ar.length:=Zq1 ..;obtain⟨k,ar,r,rl,rd⟩:=g;simp only at *;generalize arG k=a at *;generalize RQ.ok ⟨r,rl,rd⟩=ok at *;generalize RQ.none ⟨r,rl,rd⟩=no at *;by_cases w1:a=0
 ·rw [Zqv w1];subst w1;refine pI func18 rfl ntmps18 results18 call18 ?_;(focus (refine wklp (w_1 hla) (w_1 ca) w_t (w_r 0) ?_;(repeat' first|exact w_t|apply w_l);all_goals intros))
 ·rw [Zqw w1];by_cases w2:(ar.length:Int)≠a
  ·rw [Zqv w2];refine pI func18 rfl ntmps18 results18 call18 ?_;(focus (refine wklp (w_1 hla) (w_1 ca) w_t (w_r 0) ?_;(repeat' first|exact w_t|apply w_l);all_goals intros))
  ·rw [Zqw w2];refine pI func18 rfl ntmps18 results18 call18 ?_;(focus (refine wkap (w_1 hla) (w_1 ca) (w_r 0) ?_;(repeat' first|exact w_t|apply w_l);all_goals intros));rename_i g2;refine Zai (ι:=Nat) (λi e m=>i≤ar.length∧e 1=iv n∧e 2=.pbox 2 g2 0∧m 2=some (.box g2 42 [iv k,ivs ar,.v (.bool r),lim rl,lim rd] false)∧e 19=ivs ar∧e 20=iv ar.length∧e 21=iv i∧outB n (ar.take i)=false) (λi=>ar.length - i) 0 zr ?_ ?_
   ·rintro i e m ⟨hi,e1,e2,m2,ea,en,ei,hno⟩
    by_cases hlt:i < ar.length
    ·have hg:=Zah iv hlt;have hst:=Zhi (n:=n) hlt;have hat:=Zlv (n:=n) hlt;rw [hno,Bool.false_or] at hst;generalize ar[i]=x at *;by_cases hx:x < 0∨(n:Int)≤x
     ·have hb:(decide (x < 0) || decide ((n:Int)≤x))=true:=by simpa using hx
      rw [Zqv (hat hb)];clear hat hst hb;rcases hx with hx | hx
      ·(focus (refine wklp (w_8 e1 e2 m2 ea en ei hg hla) w_t w_t (w_r 0) ?_;(repeat' first|exact w_t|apply w_l);all_goals intros))
      ·(focus (refine wklp (w_8 e1 e2 m2 ea en ei hg hla) w_t w_t (w_r 0) ?_;(repeat' first|exact w_t|apply w_l);all_goals intros))
     ·have hb:(decide (x < 0) || decide ((n:Int)≤x))=false:=by simpa using hx
      rw [hb] at hst;clear hat hb;(focus (refine wkap (w_8 e1 e2 m2 ea en ei hg hla) w_t (w_r 0) ?_;(repeat' first|exact w_t|apply w_l);all_goals intros));exact⟨i+1,⟨zo,gW e1,gW e2,gW m2,gW ea,gW en,gS,hst⟩,zo⟩
    ·have hi2:i=ar.length:=zo;subst hi2;rw [Ztp] at hno;rw [hno,Zqw zd];by_cases hk:k=9
     ·subst hk;cases ok
      ·rw [Zqv zs];(focus (refine wklp (w_7 e1 e2 m2 ea en ei hla) (w_2 cr cn) w_t (w_r 0) ?_;(repeat' first|exact w_t|apply w_l);all_goals intros))
      ·rw [Zqw zs];(focus (refine wklp (w_7 e1 e2 m2 ea en ei hla) (w_2 cr cn) w_t (w_r 0) ?_;(repeat' first|exact w_t|apply w_l);all_goals intros))
     ·cases no
      ·rw [Zqv (by simp [hk])];(focus (refine wklp (w_7 e1 e2 m2 ea en ei hla) (w_2 cr cn) w_t (w_r 0) ?_;(repeat' first|exact w_t|apply w_l);all_goals intros))
      ·rw [Zqw (by simp [hk])];(focus (refine wklp (w_7 e1 e2 m2 ea en ei hla) (w_2 cr cn) w_t (w_r 0) ?_;(repeat' first|exact w_t|apply w_l);all_goals intros))
   ·exact⟨Zre _,gC,gC,gC,gC,gW hla,gC,by simp [outB]⟩
theorem rrRight (g:RG) (n:Nat) (hn:n≤1000000000) (hs:g.sm):Pure prog 25 [g.av,iv n] (iv (errG g n)):=by
 obtain⟨h1,h3⟩:=hs;unfold errG;have ca:=rrAr g.k;have cr:Pure prog 39 [g.r.av] (.v (.bool g.r.ok)):=qRight g.r.s g.r.l g.r.d h1.1 h1.2.1 (Zrn h1.2.2.1 zd) (Zrn h1.2.2.2 zd);have cn:=rrNone g.r;have hla:(g.ar.map iv).length=g.ar.length:=Zq1 ..;obtain⟨k,ar,r,rl,rd⟩:=g;simp only at *;generalize arG k=a at *;generalize RQ.ok ⟨r,rl,rd⟩=ok at *;generalize RQ.none ⟨r,rl,rd⟩=no at *;by_cases w1:a=0
 ·rw [Zqv w1];subst w1;refine pI func25 rfl ntmps25 results25 call25 ?_;exact wkld (w_1 hla) (w_1 ca) w_t w_t w_z
 ·rw [Zqw w1];by_cases w2:(ar.length:Int)≠a
  ·rw [Zqv w2];refine pI func25 rfl ntmps25 results25 call25 ?_;exact wkld (w_1 hla) (w_1 ca) w_t (w_1 (w_d 3 [(5,iv a)] [] [])) w_z
  ·rw [Zqw w2];refine pI func25 rfl ntmps25 results25 call25 ?_
   (refine wkad (w_1 hla) (w_1 ca) (w_1 (w_d 3 [(5,iv a)] [] [])) (w_s ?_);intros)
   rename_i g2;refine Zai (ι:=Nat) (λi e m=>i≤ar.length∧e 1=iv n∧e 2=.pbox 2 g2 0∧m 2=some (.box g2 42 [iv k,ivs ar,.v (.bool r),lim rl,lim rd] false)∧e 19=ivs ar∧e 20=iv ar.length∧e 21=iv i∧outB n (ar.take i)=false) (λi=>ar.length - i) 0 zr ?_ ?_
   ·rintro i e m ⟨hi,e1,e2,m2,ea,en,ei,hno⟩
    by_cases hlt:i < ar.length
    ·have hg:=Zah iv hlt;have hst:=Zhi (n:=n) hlt;have hat:=Zlv (n:=n) hlt;rw [hno,Bool.false_or] at hst;generalize ar[i]=x at *;by_cases hx:x < 0∨(n:Int)≤x
     ·have hb:(decide (x < 0) || decide ((n:Int)≤x))=true:=by simpa using hx
      rw [Zqv (hat hb)];clear hat hst hb;rcases hx with hx | hx
      ·exact wkld (w_8 e1 e2 m2 ea en ei hg hla) w_t w_t w_t w_z
      ·exact wkld (w_8 e1 e2 m2 ea en ei hg hla) w_t w_t w_t w_z
     ·have hb:(decide (x < 0) || decide ((n:Int)≤x))=false:=by simpa using hx
      rw [hb] at hst;clear hat hb
      (refine wkad (w_8 e1 e2 m2 ea en ei hg hla) w_t w_t (w_s ?_);intros)
      exact⟨i+1,⟨zo,gW e1,gW e2,gW m2,gW ea,gW en,gS,hst⟩,zo⟩
    ·have hi2:i=ar.length:=zo;subst hi2;rw [Ztp] at hno;rw [hno,Zqw zd];by_cases hk:k=9
     ·subst hk;cases ok
      ·rw [Zqv zs];exact wkld (w_7 e1 e2 m2 ea en ei hla) (w_2 cr cn) w_t w_t w_z
      ·rw [Zqw zs];exact wkld (w_7 e1 e2 m2 ea en ei hla) (w_2 cr cn) w_t w_t w_z
     ·cases no
      ·rw [Zqv (by simp [hk])];exact wkld (w_7 e1 e2 m2 ea en ei hla) (w_2 cr cn) w_t w_t w_z
      ·rw [Zqw (by simp [hk])];exact wkld (w_7 e1 e2 m2 ea en ei hla) (w_2 cr cn) w_t w_t w_z
   ·exact⟨Zre _,gC,gC,gC,gC,gW hla,gC,by simp [outB]⟩
theorem lwRight (ss:List RS) (gs:List RG) (h1:ss.length≤1000000000) (h2:gs.length≤1000000000) (hs:∀s∈ss,s.sm) (hg:∀g∈gs,g.sm):Pure prog 8 [figA ss gs] (iv (figE ss gs)):=by
 have hls:(ss.map RS.av).length=ss.length:=Zq1 ..;have hlg:(gs.map RG.av).length=gs.length:=Zq1 ..;have eg:∀i (h:i < gs.length),(gs.map RG.av).getD i .u=gs[i].av:=λi h=>Zah RG.av h;have eg2:∀i (h:i < gs.length),gs.getD i ⟨0,[],⟨false,[],[]⟩⟩=gs[i]:=λi h=>by rw [Zq6,Zqx h];rfl
 have cc:∀i,i < ss.length→Pure prog 17 [.sl 6 (ss.map RS.av),iv i] (iv (errS ss i)):=λi hi=>lwCheck ss i hi h1 hs;have cg:∀i (h:i < gs.length),Pure prog 18 [gs[i].av,iv ss.length] (iv (errG gs[i] ss.length)):=λi h=>prRight gs[i] ss.length h1 (hg _ (Zrz h));unfold figE;show Pure _ _ [.agg [.sl 6 (ss.map RS.av),.sl 5 (gs.map RG.av)]] _;generalize ss.map RS.av=M at *;generalize gs.map RG.av=N at *;by_cases hb:40 < ss.length∨8 < gs.length
 ·rw [Zqv hb];refine pI func8 rfl ntmps8 results8 call8 ?_;(focus (refine wklp (w_2 hls hlg) w_t w_t (w_r 0) ?_;(repeat' first|exact w_t|apply w_l);all_goals intros))
 ·rw [Zqw hb];refine pI func8 rfl ntmps8 results8 call8 ?_;(focus (refine wkap (w_2 hls hlg) w_t (w_r 0) ?_;(repeat' first|exact w_t|apply w_l);all_goals intros));rename_i g1;refine Zai (ι:=Nat) (λi e m=>i≤ss.length∧e 1=.pbox 1 g1 0∧m 1=some (.box g1 25 [.sl 6 M,.sl 5 N] false)∧e 20=iv ss.length∧e 21=iv i∧∀j,j < i→errS ss j=0) (λi=>ss.length - i) 0 zr ?_ ?_
  ·rintro i e m ⟨hi,e1,m1,e20,e21,hz⟩
   by_cases hlt:i < ss.length
   ·have c:=cc i hlt;by_cases he:errS ss i=0
    ·rw [he] at c;(focus (refine wkap (w_6 e1 m1 e20 e21 hls hlg) (w_1 c) (w_r 0) ?_;(repeat' first|exact w_t|apply w_l);all_goals intros));exact⟨i+1,⟨zo,gW e1,gW m1,gW e20,gS,λj hj=>by by_cases e:j=i;rw [e];exact he;exact hz j zo⟩,zo⟩
    ·rw [Zht hz he hlt,Zqv he];generalize errS ss i=z at *;(focus (refine wklp (w_6 e1 m1 e20 e21 hls hlg) (w_1 c) w_t (w_r 0) ?_;(repeat' first|exact w_t|apply w_l);all_goals intros))
   ·have hi2:i=ss.length:=zo;subst hi2;rw [Zdy hz,Zqw zs];(focus (refine wkap (w_6 e1 m1 e20 e21 hls hlg) w_t (w_r 0) ?_;(repeat' first|exact w_t|apply w_l);all_goals intros));refine Zai (ι:=Nat) (λi e m=>i≤gs.length∧e 1=.pbox 1 g1 0∧m 1=some (.box g1 25 [.sl 6 M,.sl 5 N] false)∧e 33=.sl 5 N∧e 34=iv gs.length∧e 35=iv i∧∀j,j < i→errG (gs.getD j ⟨0,[],⟨false,[],[]⟩⟩) ss.length=0) (λi=>gs.length - i) 0 zr ?_ ?_
    ·rintro i e m ⟨hi,e1,m1,e33,e34,e35,hz⟩
     by_cases hlt:i < gs.length
     ·have c:=cg i hlt;have hgi:=eg i hlt;have hgj:=eg2 i hlt;have hfa:=@Zht (λi=>errG (gs.getD i ⟨0,[],⟨false,[],[]⟩⟩) ss.length) i hz;simp only [hgj] at hfa;generalize gs[i]=G at *;by_cases he:errG G ss.length=0
      ·rw [he] at c;clear hfa;obtain⟨k,ar,r,rl,rd⟩:=G;(focus (refine wkap (w_8 e1 m1 e33 e34 e35 hls hlg hgi) (w_1 c) (w_r 0) ?_;(repeat' first|exact w_t|apply w_l);all_goals intros));exact⟨i+1,⟨zo,gW e1,gW m1,gW e33,gW e34,gS,λj hj=>by by_cases e:j=i;rw [e,hgj];exact he;exact hz j zo⟩,zo⟩
      ·rw [hfa he hlt];clear hfa;generalize errG G ss.length=z at *;obtain⟨k,ar,r,rl,rd⟩:=G;(focus (refine wklp (w_8 e1 m1 e33 e34 e35 hls hlg hgi) (w_1 c) w_t (w_r 0) ?_;(repeat' first|exact w_t|apply w_l);all_goals intros))
     ·have hi2:i=gs.length:=zo;subst hi2;rw [Zdy hz];(focus (refine wklp (w_7 e1 m1 e33 e34 e35 hls hlg) w_t w_t (w_r 0) ?_;(repeat' first|exact w_t|apply w_l);all_goals intros))
    ·exact⟨Zre _,gW e1,gW m1,gC,gW hlg,gC,λj hj=>zo⟩
  ·exact⟨Zre _,gC,gC,gW hls,gC,λj hj=>zo⟩
theorem rlCheck (ss:List RS) (i:Nat) (hi:i < ss.length) (hl:ss.length≤1000000000) (hs:∀s∈ss,s.sm):Pure prog 24 [.sl 6 (ss.map RS.av),iv i] (iv (errS ss i)):=by
 have hg:=Zah RS.av hi;have hsm:=hs _ (Zrz hi);unfold errS;rw [show ss.getD i RS.zero=ss[i] from by rw [Zq6,Zqx hi];rfl];have hgt:∀k,k < i→∃t:RS,((ss.map RS.av).take i).getD k .u=t.av∧(ss.take i)[k]?=some t:=λk hk=>by
  refine⟨ss[k],?_,?_⟩
  ·rw [Zq6,Zr9,Zqv hk,Zrx,Zqx zo];rfl
  ·rw [Zr9,Zqv hk,Zqx zo]
 have hlm:(ss.map RS.av).length=ss.length:=Zq1 ..;have hlt:(ss.take i).length=i:=by rw [Zrd];omega
 generalize ss.map RS.av=M at *;generalize ss[i]=s at *;generalize ss.take i=T at *;clear hs;obtain⟨h1,h2,h3⟩:=hsm;have ca:=rlAr s.k;have cr:Pure prog 39 [s.r.av] (.v (.bool s.r.ok)):=qRight s.r.s s.r.l s.r.d h1.1 h1.2.1 (Zrn h1.2.2.1 zd) (Zrn h1.2.2.2 zd);have cn:=rlNone s.r;have cm:=rnName s.nm h2;have hst:=Zi7 s.nm;have hla:(s.ar.map iv).length=s.ar.length:=Zq1 ..;obtain⟨k,nm,ar,r,rl,rd⟩:=s;simp only at *;generalize arS k=a at *;generalize RQ.ok ⟨r,rl,rd⟩=ok at *;generalize RQ.none ⟨r,rl,rd⟩=no at *;generalize namB nm=nb at *;by_cases w1:a < 0
 ·rw [Zqv w1];refine pI func24 rfl ntmps24 results24 call24 ?_;exact wkld (w_3 hg hlm hla) (w_1 ca) w_t w_t w_z
 ·rw [Zqw w1];by_cases w2:(ar.length:Int)≠a
  ·rw [Zqv w2];refine pI func24 rfl ntmps24 results24 call24 ?_;exact wkld (w_3 hg hlm hla) (w_1 ca) w_t (w_1 (w_d 4 [(5,iv a)] [] [])) w_z
  ·rw [Zqw w2];refine pI func24 rfl ntmps24 results24 call24 ?_
   (refine wkad (w_3 hg hlm hla) (w_1 ca) (w_1 (w_d 4 [(5,iv a)] [] [])) (w_s ?_);intros)
   rename_i g5;refine Zai (ι:=Nat) (λx e m=>x≤ar.length∧e 0=.sl 6 M∧e 1=iv i∧e 5=.pbox 5 g5 0∧m 5=some (.box g5 40 [iv k,strA nm,ivs ar,.v (.bool r),lim rl,lim rd] false)∧e 26=ivs ar∧e 27=iv ar.length∧e 28=iv x∧outB i (ar.take x)=false) (λx=>ar.length - x) 0 zr ?_ ?_
   ·rintro x e m ⟨hx,e0,e1,e5,m5,e26,e27,e28,hno⟩
    by_cases hlt2:x < ar.length
    ·have hga:=Zah iv hlt2;have hso:=Zhi (n:=(i:Int)) hlt2;have hat:=Zlv (n:=(i:Int)) hlt2;rw [hno,Bool.false_or] at hso;generalize ar[x]=y at *;by_cases hy:y < 0∨(i:Int)≤y
     ·have hb:(decide (y < 0) || decide ((i:Int)≤y))=true:=by simpa using hy
      rw [Zqv (hat hb)];clear hat hso hb;rcases hy with hy | hy
      ·exact wkld (w_9 e0 e1 e5 m5 e26 e27 e28 hga hla) w_t w_t w_t w_z
      ·exact wkld (w_9 e0 e1 e5 m5 e26 e27 e28 hga hla) w_t w_t w_t w_z
     ·have hb:(decide (y < 0) || decide ((i:Int)≤y))=false:=by simpa using hy
      rw [hb] at hso;clear hat hb
      (refine wkad (w_9 e0 e1 e5 m5 e26 e27 e28 hga hla) w_t w_t (w_s ?_);intros)
      exact⟨x+1,⟨zo,gW e0,gW e1,gW e5,gW m5,gW e26,gW e27,gS,hso⟩,zo⟩
    ·have hi2:x=ar.length:=zo;subst hi2;rw [Ztp] at hno;rw [hno,Zqw zd];by_cases w3:(k=2∧ok=false)∨(k≠2∧no=false)
     ·rw [Zqv w3];rcases w3 with⟨hk,rfl⟩ | ⟨hk,rfl⟩
      ·subst hk;exact wkld (w_8 e0 e1 e5 m5 e26 e27 e28 hla) (w_1 cr) w_t w_t w_z
      ·exact wkld (w_8 e0 e1 e5 m5 e26 e27 e28 hla) (w_1 cn) w_t w_t w_z
     ·rw [Zqw w3]
      have w4:(k=2∧ok=true)∨(k≠2∧no=true):=by
       by_cases hk:k=2
       ·cases ok
        ·exact absurd (.inl ⟨hk,rfl⟩) w3
        ·exact .inl ⟨hk,rfl⟩
       ·cases no
        ·exact absurd (.inr ⟨hk,rfl⟩) w3
        ·exact .inr ⟨hk,rfl⟩
      clear w3;have rest:∀(e:Nat→AV) (m:Mem),e 0=.sl 6 M→e 1=iv i→e 5=.pbox 5 g5 0→m 5=some (.box g5 40 [iv k,strA nm,ivs ar,.v (.bool r),lim rl,lim rd] false)→True:=λ_ _ _ _ _ _=>trivial;clear rest;by_cases w5:nm.size=0
      ·rw [Zqv w5];rw [Zqz w5] at hst;rcases w4 with⟨hk,rfl⟩ | ⟨hk,rfl⟩
       ·subst hk;exact wkld (w_9 e0 e1 e5 m5 e26 e27 e28 hla hst) (w_1 cr) w_t w_t w_z
       ·exact wkld (w_9 e0 e1 e5 m5 e26 e27 e28 hla hst) (w_1 cn) w_t w_t w_z
      ·rw [Zqw w5];rw [Zqy w5] at hst
       cases nb with
       | false =>
         rw [Zqv rfl];rcases w4 with⟨hk,rfl⟩ | ⟨hk,rfl⟩
         ·subst hk;exact wkld (w_9 e0 e1 e5 m5 e26 e27 e28 hla hst) (w_2 cr cm) w_t w_t w_z
         ·exact wkld (w_9 e0 e1 e5 m5 e26 e27 e28 hla hst) (w_2 cn cm) w_t w_t w_z
       | true =>
         rw [Zqw zd];rcases w4 with⟨hk,rfl⟩ | ⟨hk,rfl⟩
         all_goals first|(subst hk;(refine wkad (w_12 e0 e1 e5 m5 e26 e27 e28 hla hlm hst @Zej @l_take) (w_2 cr cm) w_t (w_s ?_);intros))|(refine wkad (w_12 e0 e1 e5 m5 e26 e27 e28 hla hlm hst @Zej @l_take) (w_2 cn cm) w_t (w_s ?_);intros)
         all_goals
          refine Zai (ι:=Nat) (λx e m=>x≤i∧e 5=.pbox 5 g5 0∧(∃k,m 5=some (.box g5 40 [iv k,strA nm,ivs ar,.v (.bool r),lim rl,lim rd] false))∧e 69=.sl 6 (M.take i)∧e 70=iv i∧e 71=iv x∧(T.take x).any (λt=>t.nm.toList == nm.toList)=false) (λx=>i - x) 0 zr ?_ ?_
          ·rintro x e m ⟨hx,e5,⟨k,m5⟩,e69,e70,e71,hnq⟩
           by_cases hlt2:x < i
           ·obtain⟨t,ht,ht2⟩:=hgt x hlt2;have htl:x < T.length:=zo;have htx:T[x]=t:=by rw [Zqx htl] at ht2;cases ht2;rfl
            have hsn:T.take (x+1)=T.take x++[t]:=by rw [Zul htl,htx]
            have hmem:t∈T:=by rw [←htx];exact Zrz htl
            obtain⟨tk,tn,ta,tr,tl,td⟩:=t;have hll:(M.take i).length=i:=by rw [Zrd];omega
            cases hw:(tn.toList == nm.toList) with
            | true =>
              have hany:T.any (λt=>t.nm.toList == nm.toList)=true:=List.any_eq_true.2 ⟨_,hmem,hw⟩;rw [Zqv hany];exact wkld (w_8 e5 m5 e69 e70 e71 ht hw hll) w_t w_t w_t w_z
            | false =>
              (refine wkad (w_8 e5 m5 e69 e70 e71 ht hw hll) w_t w_t (w_s ?_);intros)
              exact⟨x+1,⟨zo,gW e5,⟨k,gW m5⟩,gW e69,gW e70,gS,by rw [hsn,List.any_append,hnq];simp [hw]⟩,zo⟩
           ·have hxi:x=i:=zo;subst hxi;rw [show T.take x=T from by rw [←hlt,Ztp]] at hnq;rw [hnq,Zqw zd];exact wkld (w_5 e5 m5 e69 e70 e71) w_t w_t w_t w_z
          ·exact⟨Zre _,gW e5,⟨_,gW m5⟩,gC,by(simp (disch:=omega) only [go_sem,Zrd,hlm,Zsn]<;>repeat' first|rfl|refine⟨?_,?_⟩),gC,by simp⟩
   ·exact⟨Zre _,gC,gC,gC,gC,gC,gW hla,gC,by simp [outB]⟩
theorem rlRight (ss:List RS) (gs:List RG) (h1:ss.length≤1000000000) (h2:gs.length≤1000000000) (hs:∀s∈ss,s.sm) (hg:∀g∈gs,g.sm):Pure prog 13 [figA ss gs] (iv (figE ss gs)):=by
 have hls:(ss.map RS.av).length=ss.length:=Zq1 ..;have hlg:(gs.map RG.av).length=gs.length:=Zq1 ..;have eg:∀i (h:i < gs.length),(gs.map RG.av).getD i .u=gs[i].av:=λi h=>Zah RG.av h;have eg2:∀i (h:i < gs.length),gs.getD i ⟨0,[],⟨false,[],[]⟩⟩=gs[i]:=λi h=>by rw [Zq6,Zqx h];rfl
 have cc:∀i,i < ss.length→Pure prog 24 [.sl 6 (ss.map RS.av),iv i] (iv (errS ss i)):=λi hi=>rlCheck ss i hi h1 hs;have cg:∀i (h:i < gs.length),Pure prog 25 [gs[i].av,iv ss.length] (iv (errG gs[i] ss.length)):=λi h=>rrRight gs[i] ss.length h1 (hg _ (Zrz h));unfold figE;show Pure _ _ [.agg [.sl 6 (ss.map RS.av),.sl 5 (gs.map RG.av)]] _;generalize ss.map RS.av=M at *;generalize gs.map RG.av=N at *;by_cases hb:40 < ss.length∨8 < gs.length
 ·rw [Zqv hb];refine pI func13 rfl ntmps13 results13 call13 ?_;exact wklp (w_2 hls hlg) w_t w_t (w_r 0) w_z
 ·rw [Zqw hb];refine pI func13 rfl ntmps13 results13 call13 ?_
  (refine wkap (w_2 hls hlg) w_t (w_r 0) (w_s ?_);intros)
  rename_i g1;refine Zai (ι:=Nat) (λi e m=>i≤ss.length∧e 1=.pbox 1 g1 0∧m 1=some (.box g1 25 [.sl 6 M,.sl 5 N] false)∧e 20=iv ss.length∧e 21=iv i∧∀j,j < i→errS ss j=0) (λi=>ss.length - i) 0 zr ?_ ?_
  ·rintro i e m ⟨hi,e1,m1,e20,e21,hz⟩
   by_cases hlt:i < ss.length
   ·have c:=cc i hlt;by_cases he:errS ss i=0
    ·rw [he] at c
     (refine wkap (w_6 e1 m1 e20 e21 hls hlg) (w_1 c) (w_r 0) (w_s ?_);intros)
     exact⟨i+1,⟨zo,gW e1,gW m1,gW e20,gS,λj hj=>by by_cases e:j=i;rw [e];exact he;exact hz j zo⟩,zo⟩
    ·rw [Zht hz he hlt,Zqv he];generalize errS ss i=z at *;exact wklp (w_6 e1 m1 e20 e21 hls hlg) (w_1 c) w_t (w_r 0) w_z
   ·have hi2:i=ss.length:=zo;subst hi2;rw [Zdy hz,Zqw zs]
    (refine wkap (w_6 e1 m1 e20 e21 hls hlg) w_t (w_r 0) (w_s ?_);intros)
    refine Zai (ι:=Nat) (λi e m=>i≤gs.length∧e 1=.pbox 1 g1 0∧m 1=some (.box g1 25 [.sl 6 M,.sl 5 N] false)∧e 33=.sl 5 N∧e 34=iv gs.length∧e 35=iv i∧∀j,j < i→errG (gs.getD j ⟨0,[],⟨false,[],[]⟩⟩) ss.length=0) (λi=>gs.length - i) 0 zr ?_ ?_
    ·rintro i e m ⟨hi,e1,m1,e33,e34,e35,hz⟩
     by_cases hlt:i < gs.length
     ·have c:=cg i hlt;have hgi:=eg i hlt;have hgj:=eg2 i hlt;have hfa:=@Zht (λi=>errG (gs.getD i ⟨0,[],⟨false,[],[]⟩⟩) ss.length) i hz;simp only [hgj] at hfa;generalize gs[i]=G at *;by_cases he:errG G ss.length=0
      ·rw [he] at c;clear hfa;obtain⟨k,ar,r,rl,rd⟩:=G
       (refine wkap (w_8 e1 m1 e33 e34 e35 hls hlg hgi) (w_1 c) (w_r 0) (w_s ?_);intros)
       exact⟨i+1,⟨zo,gW e1,gW m1,gW e33,gW e34,gS,λj hj=>by by_cases e:j=i;rw [e,hgj];exact he;exact hz j zo⟩,zo⟩
      ·rw [hfa he hlt];clear hfa;generalize errG G ss.length=z at *;obtain⟨k,ar,r,rl,rd⟩:=G;exact wklp (w_8 e1 m1 e33 e34 e35 hls hlg hgi) (w_1 c) w_t (w_r 0) w_z
     ·have hi2:i=gs.length:=zo;subst hi2;rw [Zdy hz];exact wklp (w_7 e1 m1 e33 e34 e35 hls hlg) w_t w_t (w_r 0) w_z
    ·exact⟨Zre _,gW e1,gW m1,gC,gW hlg,gC,λj hj=>zo⟩
  ·exact⟨Zre _,gC,gC,gW hls,gC,λj hj=>zo⟩
theorem Zqd (σ:Mem) (K:Nat) (sv:Value) (L:List Pr) (hK:σ K=some (.row sv 48 2 (L.map prA) 0)) (hl:L.length < 256) (hs:∀p∈L,smP p):ACall prog 12 [.own K sv] σ λr σ'=>∃l':List Pr,l'.Perm L∧l'.Pairwise (λx y=>cmpP x y≤0)∧CmpR K sv l' (upd σ K (some (.row sv 48 2 (l'.map prA) 0))) r σ':=by
 refine Zbb (tok:=0) func12 rfl ntmps12 results12 call12 zr zs ?_;have cs:=ppSort σ K sv L hK hl hs;(focus (refine wkad w_t w_t w_t ?_;(repeat' first|exact w_t|apply w_l);all_goals intros));refine Zji cs ?_
 rintro _ _ ⟨l',h1,h2,rfl,rfl⟩
 have cc:=Zpf (upd σ K (some (.row sv 48 2 (l'.map prA) 0))) K sv l' (by rw [Zaj,Zqv rfl]) (by rw [h1.length_eq];exact hl);obtain⟨σ1,hσ1⟩:∃σ1,upd σ K (some (.row sv 48 2 (l'.map prA) 0))=σ1:=⟨_,rfl⟩;rw [hσ1] at cc ⊢;(focus (refine wkad w_t w_t w_t ?_;(repeat' first|exact w_t|apply w_l);all_goals intros));refine Zji cc ?_;intro r σ2 hr;(focus (refine wkad w_t w_t w_t ?_;(repeat' first|exact w_t|apply w_l);all_goals intros));exact⟨l',h1,h2,by rw [hσ1];exact hr⟩
theorem sides_in {k:Int} {p:Pr} (h:p∈Zbx k):p.1 < arS k∧p.2 < arS k:=by
 unfold Zbx at h;split at h
 ·rename_i hk;simp only [Zsi,List.not_mem_nil,or_false] at h;subst h;rcases hk with rfl | rfl | rfl | rfl<;>decide
 ·split at h
  ·rename_i hk;simp only [Zsi,List.not_mem_nil,or_false] at h;subst h;subst hk;decide
  ·split at h
   ·rename_i hk;simp only [Zsi,List.not_mem_nil,or_false] at h;rcases h with rfl | rfl<;>rcases hk with rfl | rfl | rfl<;>decide
   ·split at h
    ·rename_i hk;simp only [Zsi,List.not_mem_nil,or_false] at h;subst hk;rcases h with rfl | rfl<;>decide
    ·split at h
     ·rename_i hk;simp only [Zsi,List.not_mem_nil,or_false] at h;subst hk;rcases h with rfl | rfl | rfl<;>decide
     ·cases h
theorem parts_in {k:Int} {p:Pr} (h:p∈Zby k):0≤p.1∧p.1 < arG k∧0≤p.2∧p.2 < arG k:=by
 unfold Zby at h;split at h
 ·rename_i hk;simp only [Zsi,List.not_mem_nil,or_false] at h;subst hk;rcases h with rfl | rfl<;>decide
 ·split at h
  ·rename_i hk;simp only [Zsi,List.not_mem_nil,or_false] at h;rcases h with rfl | rfl<;>rcases hk with rfl | rfl | rfl | rfl<;>decide
  ·split at h
   ·rename_i hk;simp only [Zsi,List.not_mem_nil,or_false] at h;subst h;subst hk;decide
   ·split at h
    ·rename_i hk;simp only [Zsi,List.not_mem_nil,or_false] at h;subst hk;rcases h with rfl | rfl | rfl | rfl<;>decide
    ·cases h
theorem Zmk (k:Int):(Zbx k).length≤3:=by
 unfold Zbx
 repeat' split
 all_goals simp
theorem Zmv (k:Int):(Zby k).length≤4:=by
 unfold Zby
 repeat' split
 all_goals simp
theorem Zd4 (ss:List RS):∀i,(Zas ss i).length≤3*i
 | 0=>Zq0 _
 | i+1=>by
   have ih:=Zd4 ss i;unfold Zas;rw [Zro];split
   ·rename_i s _;have:=Zmk s.k;unfold Zcw;rw [Zq1];omega
   ·simp;omega
theorem Zfm (gs:List RG):∀i,(Za8 gs i).length≤4*i
 | 0=>Zq0 _
 | i+1=>by
   have ih:=Zfm gs i;unfold Za8;rw [Zro];split
   ·rename_i s _;have:=Zmv s.k;unfold Zcy;rw [Zq1];omega
   ·simp;omega
theorem Zih {ss:List RS} {p:Pr}:∀{i:Nat},p∈Zas ss i→∃j,∃h:j < ss.length,p∈Zcw j ss[j]
 | 0,h=>by cases h
 | i+1,h=>by
   unfold Zas at h;rcases List.mem_append.1 h with h | h
   ·exact Zih h
   ·split at h
    ·rename_i s hs;obtain⟨hj,e⟩:=List.getElem?_eq_some_iff.1 hs;exact⟨i,hj,by rw [e];exact h⟩
    ·cases h
theorem Ziv {gs:List RG} {p:Pr}:∀{i:Nat},p∈Za8 gs i→∃g∈gs,p∈Zcy g
 | 0,h=>by cases h
 | i+1,h=>by
   unfold Za8 at h;rcases List.mem_append.1 h with h | h
   ·exact Ziv h
   ·split at h
    ·rename_i s hs;exact⟨s,Zs3 hs,h⟩
    ·cases h
structure LnOk (ss:List RS) (gs:List RG):Prop where
 l1:ss.length≤40
 l2:gs.length≤8
 hs:∀i (h:i < ss.length),∀p∈Zbx ss[i].k,p.1 < (ss[i].ar.length:Int)∧p.2 < (ss[i].ar.length:Int)
 hg:∀i (h:i < gs.length),∀p∈Zby gs[i].k,0≤p.1∧p.1 < (gs[i].ar.length:Int)∧0≤p.2∧p.2 < (gs[i].ar.length:Int)
 b:∀p∈Zbu ss gs,0≤p.1∧p.1 < ss.length∧0≤p.2∧p.2 < ss.length
 len:(Zbu ss gs).length≤152
theorem Zqc {g:RG} {n:Nat} (h:errG g n=0):(g.ar.length:Int)=arG g.k∧∀i,i < g.ar.length→0≤gI g.ar i∧gI g.ar i < (n:Int):=by
 unfold errG at h;split at h
 ·cases h
 ·split at h
  ·cases h
  ·rename_i h1;split at h
   ·cases h
   ·rename_i h2;exact⟨by simpa using h1,λi hi=>Zpk (by simpa using h2) hi⟩
theorem lnOk {ss:List RS} {gs:List RG} (h:figE ss gs=0):LnOk ss gs:=by
 unfold figE at h;split at h
 ·cases h
 ·rename_i h0;split at h
  ·rename_i h1;exact absurd h h1
  ·rename_i h1;have h1:fstE (errS ss) ss.length=0:=by simpa using h1
   have e1:∀i,i < ss.length→errS ss i=0:=Zjt h1;have e2:∀i (hi:i < gs.length),errG gs[i] ss.length=0:=λi hi=>by
    have:=Zjt h i hi
    rwa [show gs.getD i ⟨0,[],⟨false,[],[]⟩⟩=gs[i] from by rw [Zq6,Zqx hi];rfl] at this
   have k1:∀i (h:i < ss.length),∀p∈Zbx ss[i].k,p.1 < (ss[i].ar.length:Int)∧p.2 < (ss[i].ar.length:Int):=λi hi p hp=>by
    obtain⟨_,a,_⟩:=Zqb hi (e1 i hi);rw [a];exact sides_in hp
   have k2:∀i (h:i < gs.length),∀p∈Zby gs[i].k,0≤p.1∧p.1 < (gs[i].ar.length:Int)∧0≤p.2∧p.2 < (gs[i].ar.length:Int):=λi hi p hp=>by
    obtain⟨a,_⟩:=Zqc (e2 i hi);rw [a];exact parts_in hp
   refine⟨zo,zo,k1,k2,λp hp=>?_,?_⟩
   ·unfold Zbu at hp;rcases List.mem_append.1 hp with hp | hp
    ·obtain⟨i,hi,hp⟩:=Zih hp;unfold Zcw at hp;obtain⟨q,hq,rfl⟩:=List.mem_map.1 hp;obtain⟨_,_,a,_⟩:=Zqb hi (e1 i hi);obtain⟨b1,b2⟩:=k1 i hi q hq;have at_in:∀k:Int,k < (ss[i].ar.length:Int)→0≤atN i ss[i].ar k∧atN i ss[i].ar k < ss.length:=λk hk=>by
      unfold atN;split
      ·omega
      ·have:=a k.toNat zo;omega
     have c1:=at_in _ b1;have c2:=at_in _ b2;exact⟨c1.1,c1.2,c2.1,c2.2⟩
    ·obtain⟨g,hg,hp⟩:=Ziv hp;obtain⟨i,hi,rfl⟩:=List.mem_iff_getElem.1 hg;unfold Zcy at hp;obtain⟨q,hq,rfl⟩:=List.mem_map.1 hp;obtain⟨_,a⟩:=Zqc (e2 i hi);obtain⟨b1,b2,b3,b4⟩:=k2 i hi q hq;have c1:=a q.1.toNat zo;have c2:=a q.2.toNat zo;exact⟨c1.1,c1.2,c2.1,c2.2⟩
   ·have a:=Zd4 ss ss.length;have b:=Zfm gs gs.length;unfold Zbu;rw [Zro];omega
theorem ori_len (p:Pr):(ori p).length≤1:=by
 unfold ori
 repeat' split
 all_goals simp
theorem Zje:∀(l:List Pr),(oris l).length≤l.length
 | []=>Zq0 _
 | p :: l=>by
   have ih:=Zje l;have:=ori_len p;show(ori p++oris l).length≤_;rw [Zro,Zrj];omega
theorem Zpl {l:List Pr} {j:Nat} {p:Pr} (h:l[j]?=some p):oris (l.take (j+1))=oris (l.take j)++ori p:=by
 unfold oris;rw [Zuy,h,List.flatMap_append];simp
end Go.Proofs.Ytaedgaikloifgaa
