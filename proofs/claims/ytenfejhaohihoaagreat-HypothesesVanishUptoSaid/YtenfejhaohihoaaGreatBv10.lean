/- Contracts of the functions that the law reaches, and the rules by which they are walked. They say what a call hands back for every input within the bounds that each names; no other condition. -/
import Derived.Test.YtenfejhaohihoaaGreatBv9
set_option linter.unusedSimpArgs false
set_option linter.unusedVariables false
set_option maxRecDepth 20000
set_option maxHeartbeats 16000000
namespace Go.Proofs.YtenfejhaohihoaaGreat
open Go Go.RowKit Go.Pg Go.Pol Go.Proofs.Tryz
attribute [-bool_to_prop] Bool.and_eq_decide Bool.or_eq_decide Bool.decide_beq_decide decide_eq_decide
def useN (k:Int) (n:Nat):Nat:=if k=1 then min n 2 else if k=5∨k=6 then 1 else 0
def brN (k:Int):Nat:=if twoB k=true then 1 else 0
abbrev bvA (b:Bool):AV:=.v (.bool b)
def PtR (s:RS) (A:List PQ) (W:List Rat) (n:Nat) (x:PQ):Prop :=
 if s.k=1 then x=(if n=0 then (0,0) else if n=1 then (W.getD 0 0,0) else (W.getD 0 0,W.getD 1 0))
 else StR s.k (A.getD 0 (0,0)) (A.getD 1 (0,0)) (A.getD 2 (0,0)) (A.getD 3 (0,0)) (if s.k=2 then s.r.q else W.getD 0 0) x∧Zlx s.k (A.getD 0 (0,0)) (A.getD 1 (0,0)) (A.getD 2 (0,0)) (A.getD 3 (0,0)) x
def Outc (s:RS) (A:List PQ) (W:List Rat) (C:List Bool) (n:Nat):Prop :=
 (∃x:PQ,Zlw s A (W.map ratQ) (C.map bvA) n x.av 0 ((W.drop (useN s.k n)).map ratQ) ((C.drop (brN s.k)).map bvA) ((if s.k=1 then n+1 else n:Nat):Int)∧PtR s A W n x) ∨
 ∃(e:Int) (W' C':List AV) (n':Int),(0 < e∧e < 100)∧Zlw s A (W.map ratQ) (C.map bvA) n pt0 e W' C' n'
theorem Zsp {K:Nat} {p:PQ} (h:Hv K p) (hK:K≤1400000000):p.sz 100000000:=by
 have:=hv_sz h;exact⟨this.1.mono zo,this.2.mono zo⟩
theorem hq_sz {q:Rat} (h:Sz q 2):Sz q 100000000:=h.mono zo
theorem st_q {k:Int} {a b c d x:PQ} {q:Rat} (h7:7≤k) (h13:k≤13) (h:StR k a b c d 0 x):StR k a b c d q x:=by
 unfold StR at h ⊢;rw [Zzb zo,Zzb zo,Zzb zo,Zzb zo] at h ⊢;exact h
theorem out7 (a b c:PQ) (ha:a.sz 100000000) (hb:b.sz 100000000) (hc:c.sz 100000000) (nm:ByteArray) (ar:List Int) (r:RQ) (W:List Rat) (C:List Bool) (n:Nat) (lW:W.length≤1000) (lC:C.length≤1000):Outc ⟨7,nm,ar,r⟩ [a,b,c] W C n:=by
 have c0:=Zwr a b c ha hb hc zo
 cases h:eqP b c with
 | true =>
   rw [h,Zzc rfl] at c0;exact .inr ⟨11,_,_,_,⟨by decide,by decide⟩,(Zzb (show ¬((7:Int)=1∨(7:Int)=5∨(7:Int)=6∨twoB 7=true) from by decide)).mpr ⟨r22F7n a.1 a.2 b.1 b.2 c.1 c.2 nm ar r.s r.l r.d 11 c0,rfl,rfl,rfl⟩⟩
 | false =>
   rw [h,Zzb zd] at c0;have hm:Zlx 7 a b c (0,0) (Zf0 a b c):=⟨h,rfl⟩;have hs:=Zk6 zd zd hm;exact .inl ⟨Zf0 a b c,(Zzb (show ¬((7:Int)=1∨(7:Int)=5∨(7:Int)=6∨twoB 7=true) from by decide)).mpr ⟨r22F7 a.1 a.2 b.1 b.2 c.1 c.2 nm ar r.s r.l r.d _ _ c0,rfl,rfl,rfl⟩,(Zzb (show ¬((7:Int)=1) from by decide)).mpr ⟨st_q (k:=7) zd zd hs,hm⟩⟩
theorem out8 (a b c:PQ) (ha:a.sz 100000000) (hb:b.sz 100000000) (hc:c.sz 100000000) (nm:ByteArray) (ar:List Int) (r:RQ) (W:List Rat) (C:List Bool) (n:Nat) (lW:W.length≤1000) (lC:C.length≤1000):Outc ⟨8,nm,ar,r⟩ [a,b,c] W C n:=by
 have c0:=r13Mir a b c ha hb hc zo
 cases h:eqP b c with
 | true =>
   rw [h,Zzc rfl] at c0;exact .inr ⟨11,_,_,_,⟨by decide,by decide⟩,(Zzb (show ¬((8:Int)=1∨(8:Int)=5∨(8:Int)=6∨twoB 8=true) from by decide)).mpr ⟨r22F8n a.1 a.2 b.1 b.2 c.1 c.2 nm ar r.s r.l r.d 11 c0,rfl,rfl,rfl⟩⟩
 | false =>
   rw [h,Zzb zd] at c0;have hm:Zlx 8 a b c (0,0) (mirP a b c):=⟨h,rfl⟩;have hs:=Zk6 zd zd hm;exact .inl ⟨mirP a b c,(Zzb (show ¬((8:Int)=1∨(8:Int)=5∨(8:Int)=6∨twoB 8=true) from by decide)).mpr ⟨r22F8 a.1 a.2 b.1 b.2 c.1 c.2 nm ar r.s r.l r.d _ _ c0,rfl,rfl,rfl⟩,(Zzb (show ¬((8:Int)=1) from by decide)).mpr ⟨st_q (k:=8) zd zd hs,hm⟩⟩
theorem out9 (a b c d:PQ) (ha:a.sz 100000000) (hb:b.sz 100000000) (hc:c.sz 100000000) (hd:d.sz 100000000) (nm:ByteArray) (ar:List Int) (r:RQ) (W:List Rat) (C:List Bool) (n:Nat) (lW:W.length≤1000) (lC:C.length≤1000):Outc ⟨9,nm,ar,r⟩ [a,b,c,d] W C n:=by
 have c0:=r13Meet a b c d ha hb hc hd zo;by_cases h:Zbs a b c d=0
 ·rw [Zzc h] at c0;exact .inr ⟨11,_,_,_,⟨by decide,by decide⟩,(Zzb (show ¬((9:Int)=1∨(9:Int)=5∨(9:Int)=6∨twoB 9=true) from by decide)).mpr ⟨r22F9n a.1 a.2 b.1 b.2 c.1 c.2 d.1 d.2 nm ar r.s r.l r.d 11 c0,rfl,rfl,rfl⟩⟩
 ·rw [Zzb h] at c0;have hm:Zlx 9 a b c d (Zxt a b c d):=⟨h,rfl⟩;have hs:=Zk6 zd zd hm;exact .inl ⟨Zxt a b c d,(Zzb (show ¬((9:Int)=1∨(9:Int)=5∨(9:Int)=6∨twoB 9=true) from by decide)).mpr ⟨r22F9 a.1 a.2 b.1 b.2 c.1 c.2 d.1 d.2 nm ar r.s r.l r.d _ _ c0,rfl,rfl,rfl⟩,(Zzb (show ¬((9:Int)=1) from by decide)).mpr ⟨st_q (k:=9) zd zd hs,hm⟩⟩
theorem out10 (a b c:PQ) (ha:a.sz 100000000) (hb:b.sz 100000000) (hc:c.sz 100000000) (nm:ByteArray) (ar:List Int) (r:RQ) (W:List Rat) (C:List Bool) (n:Nat) (lW:W.length≤1000) (lC:C.length≤1000):Outc ⟨10,nm,ar,r⟩ [a,b,c] W C n:=by
 have c0:=r13Oth a b c ha hb hc zo
 cases h:eqP a b with
 | true =>
   rw [h,Zzc rfl] at c0;exact .inr ⟨11,_,_,_,⟨by decide,by decide⟩,(Zzb (show ¬((10:Int)=1∨(10:Int)=5∨(10:Int)=6∨twoB 10=true) from by decide)).mpr ⟨r22F10n a.1 a.2 b.1 b.2 c.1 c.2 nm ar r.s r.l r.d 11 c0,rfl,rfl,rfl⟩⟩
 | false =>
   rw [h,Zzb zd] at c0;have hm:Zlx 10 a b c (0,0) (othP a b c):=⟨h,rfl⟩;have hs:=Zk6 zd zd hm;exact .inl ⟨othP a b c,(Zzb (show ¬((10:Int)=1∨(10:Int)=5∨(10:Int)=6∨twoB 10=true) from by decide)).mpr ⟨r22F10 a.1 a.2 b.1 b.2 c.1 c.2 nm ar r.s r.l r.d _ _ c0,rfl,rfl,rfl⟩,(Zzb (show ¬((10:Int)=1) from by decide)).mpr ⟨st_q (k:=10) zd zd hs,hm⟩⟩
theorem out11 (a b c:PQ) (ha:a.sz 100000000) (hb:b.sz 100000000) (hc:c.sz 100000000) (nm:ByteArray) (ar:List Int) (r:RQ) (W:List Rat) (C:List Bool) (n:Nat) (lW:W.length≤1000) (lC:C.length≤1000):Outc ⟨11,nm,ar,r⟩ [a,b,c] W C n:=by
 have c0:=r13Cen a b c ha hb hc zo;by_cases h:Zbs a b a c=0
 ·rw [Zzc h] at c0;exact .inr ⟨11,_,_,_,⟨by decide,by decide⟩,(Zzb (show ¬((11:Int)=1∨(11:Int)=5∨(11:Int)=6∨twoB 11=true) from by decide)).mpr ⟨r22F11n a.1 a.2 b.1 b.2 c.1 c.2 nm ar r.s r.l r.d 11 c0,rfl,rfl,rfl⟩⟩
 ·rw [Zzb h] at c0;have hm:Zlx 11 a b c (0,0) (cenP a b c):=⟨h,rfl⟩;have hs:=Zk6 zd zd hm;exact .inl ⟨cenP a b c,(Zzb (show ¬((11:Int)=1∨(11:Int)=5∨(11:Int)=6∨twoB 11=true) from by decide)).mpr ⟨r22F11 a.1 a.2 b.1 b.2 c.1 c.2 nm ar r.s r.l r.d _ _ c0,rfl,rfl,rfl⟩,(Zzb (show ¬((11:Int)=1) from by decide)).mpr ⟨st_q (k:=11) zd zd hs,hm⟩⟩
theorem out2 (a b:PQ) (ha:a.sz 100000000) (hb:b.sz 100000000) (nm:ByteArray) (ar:List Int) (r:RQ) (W:List Rat) (C:List Bool) (n:Nat) (lW:W.length≤1000) (lC:C.length≤1000) (hr:r.ok=true) (hl:r.lm 2):Outc ⟨2,nm,ar,r⟩ [a,b] W C n:=by
 obtain⟨e,z⟩:=RQ.ok_av hl hr;have c0:=Zox a b r.q ha hb (hq_sz z) zo;have c1:=r22F2 a.1 a.2 b.1 b.2 nm ar r.q _ _ c0
 have e':RS.av ⟨2,nm,ar,r⟩=.agg [iv 2,strA nm,ivs ar,.v (.bool (decide (r.q.num < 0))),lim (toL r.q.num.natAbs),lim (toL r.q.den)]:=by
  have:=e;injection this with this
  simp only [List.cons.injEq,and_true] at this;simp only [RS.av,this.1,this.2.1,this.2.2]
 rw [←e'] at c1;exact .inl ⟨Zgf a b r.q,(Zzb (show ¬((2:Int)=1∨(2:Int)=5∨(2:Int)=6∨twoB 2=true) from by decide)).mpr ⟨c1,rfl,rfl,rfl⟩,(Zzb (show ¬((2:Int)=1) from by decide)).mpr ⟨rfl,trivial⟩⟩
theorem out3 (a b c:PQ) (ha:a.sz 100000000) (hb:b.sz 100000000) (hc:c.sz 100000000) (nm:ByteArray) (ar:List Int) (r:RQ) (W:List Rat) (C:List Bool) (n:Nat) (lW:W.length≤1000) (lC:C.length≤1000):Outc ⟨3,nm,ar,r⟩ [a,b,c] W C n:=by
 have c0:=r13Shift a b c ha hb hc zo;exact .inl ⟨Zjt a b c,(Zzb (show ¬((3:Int)=1∨(3:Int)=5∨(3:Int)=6∨twoB 3=true) from by decide)).mpr ⟨r22F3 a.1 a.2 b.1 b.2 c.1 c.2 nm ar r.s r.l r.d _ _ c0,rfl,rfl,rfl⟩,(Zzb (show ¬((3:Int)=1) from by decide)).mpr ⟨show Zjt a b c=(a.1+(c.1 - b.1),a.2+(c.2 - b.2)) by unfold Zjt;rw [ZBf,ZBf],trivial⟩⟩
theorem out4 (a b c:PQ) (ha:a.sz 100000000) (hb:b.sz 100000000) (hc:c.sz 100000000) (nm:ByteArray) (ar:List Int) (r:RQ) (W:List Rat) (C:List Bool) (n:Nat) (lW:W.length≤1000) (lC:C.length≤1000):Outc ⟨4,nm,ar,r⟩ [a,b,c] W C n:=by
 have c0:=r13Turn a b c ha hb hc zo;exact .inl ⟨Zod a b c,(Zzb (show ¬((4:Int)=1∨(4:Int)=5∨(4:Int)=6∨twoB 4=true) from by decide)).mpr ⟨r22F4 a.1 a.2 b.1 b.2 c.1 c.2 nm ar r.s r.l r.d _ _ c0,rfl,rfl,rfl⟩,(Zzb (show ¬((4:Int)=1) from by decide)).mpr ⟨show Zod a b c=(a.1 - (c.2 - b.2),a.2+(c.1 - b.1)) by unfold Zod;exact Prod.ext (by simp only;grind) (by simp only;grind),trivial⟩⟩
theorem out12 (a b c d:PQ) (ha:a.sz 100000000) (hb:b.sz 100000000) (hc:c.sz 100000000) (hd:d.sz 100000000) (nm:ByteArray) (ar:List Int) (r:RQ) (W:List Rat) (C:List Bool) (n:Nat) (lW:W.length≤1000) (lC:C.length≤1000) (eC:1≤C.length):Outc ⟨12,nm,ar,r⟩ [a,b,c,d] W C n:=by
 obtain _ | ⟨l,C⟩:=C
 ·simp at eC
 have lC':C.length≤1000:=by rw [Zzq] at lC;omega
 rcases r13Cut a b c d l ha hb hc hd zo with⟨x,c0,hs⟩ | ⟨e,he,c0⟩
 ·exact .inl ⟨x,(Zzc (show _ from by first|exact .inl rfl|exact .inr (.inl rfl)|exact .inr (.inr (.inl rfl))|exact .inr (.inr (.inr rfl)))).mpr (r22C12 a.1 a.2 b.1 b.2 c.1 c.2 d.1 d.2 x.1 x.2 l (W.map ratQ) (C.map bvA) n (by rw [Zzg];exact lW) (by rw [Zzg];exact lC') c0),(Zzb (show ¬((12:Int)=1) from by decide)).mpr ⟨st_q (k:=12) zd zd hs,trivial⟩⟩
 ·exact .inr ⟨e,_,_,_,he,(Zzc (show _ from by first|exact .inl rfl|exact .inr (.inl rfl)|exact .inr (.inr (.inl rfl))|exact .inr (.inr (.inr rfl)))).mpr (r22C12n a.1 a.2 b.1 b.2 c.1 c.2 d.1 d.2 e l (W.map ratQ) (C.map bvA) n (by rw [Zzg];exact lW) (by rw [Zzg];exact lC') c0)⟩
theorem out13 (a b c d:PQ) (ha:a.sz 100000000) (hb:b.sz 100000000) (hc:c.sz 100000000) (hd:d.sz 100000000) (nm:ByteArray) (ar:List Int) (r:RQ) (W:List Rat) (C:List Bool) (n:Nat) (lW:W.length≤1000) (lC:C.length≤1000) (eC:1≤C.length):Outc ⟨13,nm,ar,r⟩ [a,b,c,d] W C n:=by
 obtain _ | ⟨l,C⟩:=C
 ·simp at eC
 have lC':C.length≤1000:=by rw [Zzq] at lC;omega
 rcases r13Int a b c d l ha hb hc hd zo with⟨x,c0,hs⟩ | ⟨e,he,c0⟩
 ·exact .inl ⟨x,(Zzc (show _ from by first|exact .inl rfl|exact .inr (.inl rfl)|exact .inr (.inr (.inl rfl))|exact .inr (.inr (.inr rfl)))).mpr (r22C13 a.1 a.2 b.1 b.2 c.1 c.2 d.1 d.2 x.1 x.2 l (W.map ratQ) (C.map bvA) n (by rw [Zzg];exact lW) (by rw [Zzg];exact lC') c0),(Zzb (show ¬((13:Int)=1) from by decide)).mpr ⟨st_q (k:=13) zd zd hs,trivial⟩⟩
 ·exact .inr ⟨e,_,_,_,he,(Zzc (show _ from by first|exact .inl rfl|exact .inr (.inl rfl)|exact .inr (.inr (.inl rfl))|exact .inr (.inr (.inr rfl)))).mpr (r22C13n a.1 a.2 b.1 b.2 c.1 c.2 d.1 d.2 e l (W.map ratQ) (C.map bvA) n (by rw [Zzg];exact lW) (by rw [Zzg];exact lC') c0)⟩
theorem out14 (a b:PQ) (ha:a.sz 100000000) (hb:b.sz 100000000) (nm:ByteArray) (ar:List Int) (r:RQ) (W:List Rat) (C:List Bool) (n:Nat) (lW:W.length≤1000) (lC:C.length≤1000) (eC:1≤C.length):Outc ⟨14,nm,ar,r⟩ [a,b] W C n:=by
 obtain _ | ⟨l,C⟩:=C
 ·simp at eC
 have lC':C.length≤1000:=by rw [Zzq] at lC;omega
 obtain⟨e,he,c0⟩:=r13Apex a b l ha hb zo;exact .inr ⟨e,_,_,_,he,(Zzc (show _ from by first|exact .inl rfl|exact .inr (.inl rfl)|exact .inr (.inr (.inl rfl))|exact .inr (.inr (.inr rfl)))).mpr (r22C14n a.1 a.2 b.1 b.2 e l (W.map ratQ) (C.map bvA) n (by rw [Zzg];exact lW) (by rw [Zzg];exact lC') c0)⟩
theorem out5 (a b:PQ) (ha:a.sz 100000000) (hb:b.sz 100000000) (nm:ByteArray) (ar:List Int) (r:RQ) (W:List Rat) (C:List Bool) (n:Nat) (lW:W.length≤1000) (lC:C.length≤1000) (eW:1≤W.length) (hW:∀q∈W,Sz q 2):Outc ⟨5,nm,ar,r⟩ [a,b] W C n:=by
 obtain _ | ⟨v,W⟩:=W
 ·simp at eW
 have lW':W.length≤1000:=by rw [Zzq] at lW;omega
 have c0:=Zkw v (W.map ratQ) (C.map bvA) n (by rw [Zzg];exact lW') (by rw [Zzg];exact lC);have c1:=Zox a b v ha hb (hq_sz (hW v (ZBs ..))) zo;exact .inl ⟨Zgf a b v,(Zzc (show _ from by first|exact .inl rfl|exact .inr (.inl rfl)|exact .inr (.inr (.inl rfl))|exact .inr (.inr (.inr rfl)))).mpr (r22C5 a.1 a.2 b.1 b.2 v _ _ ((v :: W).map ratQ) (W.map ratQ) (C.map bvA) n n (by rw [Zzg];exact lW) (by rw [Zzg];exact lW') (by rw [Zzg];exact lC) c0 c1),(Zzb (show ¬((5:Int)=1) from by decide)).mpr ⟨rfl,trivial⟩⟩
theorem out6 (a b:PQ) (ha:a.sz 100000000) (hb:b.sz 100000000) (nm:ByteArray) (ar:List Int) (r:RQ) (W:List Rat) (C:List Bool) (n:Nat) (lW:W.length≤1000) (lC:C.length≤1000) (eW:1≤W.length) (hW:∀q∈W,Sz q 2):Outc ⟨6,nm,ar,r⟩ [a,b] W C n:=by
 obtain _ | ⟨v,W⟩:=W
 ·simp at eW
 have lW':W.length≤1000:=by rw [Zzq] at lW;omega
 have c0:=Zkw v (W.map ratQ) (C.map bvA) n (by rw [Zzg];exact lW') (by rw [Zzg];exact lC);have c1:=r13Onc a b v ha hb (hq_sz (hW v (ZBs ..))) zo;exact .inl ⟨oncP a b v,(Zzc (show _ from by first|exact .inl rfl|exact .inr (.inl rfl)|exact .inr (.inr (.inl rfl))|exact .inr (.inr (.inr rfl)))).mpr (r22C6 a.1 a.2 b.1 b.2 v _ _ ((v :: W).map ratQ) (W.map ratQ) (C.map bvA) n n (by rw [Zzg];exact lW) (by rw [Zzg];exact lW') (by rw [Zzg];exact lC) c0 c1),(Zzb (show ¬((6:Int)=1) from by decide)).mpr ⟨⟨oncS a b v,show oncS a b v*(1+v*v)=2*((a.1 - b.1)+v*(a.2 - b.2)) from by unfold oncS;rw [show(1:Rat)+v*v=1*1+v*v by rw [ZBf],Rat.div_mul_cancel (one_sq v)];grind,show oncP a b v=(b.1+oncS a b v,b.2+oncS a b v*v) from by unfold oncP;rw [ZCh]⟩,trivial⟩⟩
theorem out1 (nm:ByteArray) (ar:List Int) (r:RQ) (W:List Rat) (C:List Bool) (n:Nat) (lW:W.length≤1000) (lC:C.length≤1000) (hn:n≤999) (eW:min n 2≤W.length):Outc ⟨1,nm,ar,r⟩ [] W C n:=by
 have z0:Pure prog 42 [iv 0] (ratQ 0):=qOf 0 zo;by_cases h0:n=0
 ·subst h0;have c0:=r22Free0 (W.map ratQ) (C.map bvA) 0 (by rw [Zzg];exact lW) (by rw [Zzg];exact lC) z0;exact .inl ⟨(0,0),(Zzc (show _ from by first|exact .inl rfl|exact .inr (.inl rfl)|exact .inr (.inr (.inl rfl))|exact .inr (.inr (.inr rfl)))).mpr (r22C1 0 0 (W.map ratQ) (W.map ratQ) (C.map bvA) 0 1 (by rw [Zzg];exact lW) (by rw [Zzg];exact lW) (by rw [Zzg];exact lC) c0),(Zzc rfl).mpr rfl⟩
 by_cases h1:n=1
 ·subst h1;obtain _ | ⟨v,W⟩:=W
  ·simp at eW
  have lW':W.length≤1000:=by rw [Zzq] at lW;omega
  have c1:=Zkw v (W.map ratQ) (C.map bvA) 2 (by rw [Zzg];exact lW') (by rw [Zzg];exact lC);have c0:=r22Free1 ((v :: W).map ratQ) (W.map ratQ) (C.map bvA) v 0 (by rw [Zzg];exact lW) (by rw [Zzg];exact lW') (by rw [Zzg];exact lC) z0 c1;exact .inl ⟨(v,0),(Zzc (show _ from by first|exact .inl rfl|exact .inr (.inl rfl)|exact .inr (.inr (.inl rfl))|exact .inr (.inr (.inr rfl)))).mpr (r22C1 v 0 ((v :: W).map ratQ) (W.map ratQ) (C.map bvA) 1 2 (by rw [Zzg];exact lW) (by rw [Zzg];exact lW') (by rw [Zzg];exact lC) c0),(Zzc rfl).mpr rfl⟩
 obtain _ | ⟨v,_ | ⟨w,W⟩⟩:=W
 ·simp at eW;omega
 ·simp at eW;omega
 have lW':W.length≤998:=by rw [Zzq,Zzq] at lW;omega
 have e2:useN 1 n=2:=by unfold useN;rw [Zzc rfl];omega
 have c1:=Zkw v ((w :: W).map ratQ) (C.map bvA) ((n+1:Nat):Int) (by rw [Zzg,Zzq];omega) (by rw [Zzg];exact lC);have c2:=Zkw w (W.map ratQ) (C.map bvA) ((n+1:Nat):Int) (by rw [Zzg];omega) (by rw [Zzg];exact lC);have c0:=r22Free2 ((v :: w :: W).map ratQ) ((w :: W).map ratQ) (W.map ratQ) (C.map bvA) v w n zo zo (by rw [Zzg];exact lW) (by rw [Zzg,Zzq];omega) (by rw [Zzg];omega) (by rw [Zzg];exact lC) c1 c2;refine .inl ⟨(v,w),?_,(Zzc rfl).mpr ?_⟩
 ·rw [show useN (RS.k ⟨1,nm,ar,r⟩) n=2 from e2];exact(Zzc (show _ from by first|exact .inl rfl|exact .inr (.inl rfl)|exact .inr (.inr (.inl rfl))|exact .inr (.inr (.inr rfl)))).mpr (r22C1 v w ((v :: w :: W).map ratQ) (W.map ratQ) (C.map bvA) n ((n+1:Nat):Int) (by rw [Zzg];exact lW) (by rw [Zzg];omega) (by rw [Zzg];exact lC) c0)
 ·rw [Zzb h0,Zzb h1];rfl
theorem outAll (s:RS) (A:List PQ) (W:List Rat) (C:List Bool) (n:Nat) (hl:(A.length:Int)=arS s.k) (hA:∀p∈A,p.sz 100000000) (hW:∀q∈W,Sz q 2) (lW:W.length≤1000) (lC:C.length≤1000) (hn:n≤999) (eW:useN s.k n≤W.length) (eC:brN s.k≤C.length) (hr:s.k=2→s.r.ok=true) (hm:s.r.lm 2):Outc s A W C n:=by
 obtain⟨k,nm,ar,r⟩:=s;simp only at *;have hk:=Zn3 hl;obtain _ | ⟨a,_ | ⟨b,_ | ⟨c,_ | ⟨d,_ | ⟨x,A⟩⟩⟩⟩⟩:=A<;>simp only [Zzq,Zzs] at hk
 ·obtain rfl:k=1:=zo;exact out1 nm ar r W C n lW lC hn eW
 ·omega
 ·have ha:=hA a zs;have hb:=hA b zs;have:k=2∨k=5∨k=6∨k=14:=zo;rcases this with rfl | rfl | rfl | rfl
  ·exact out2 a b ha hb nm ar r W C n lW lC (hr rfl) hm
  ·exact out5 a b ha hb nm ar r W C n lW lC eW hW
  ·exact out6 a b ha hb nm ar r W C n lW lC eW hW
  ·exact out14 a b ha hb nm ar r W C n lW lC eC
 ·have ha:=hA a zs;have hb:=hA b zs;have hc:=hA c zs;have:k=3∨k=4∨k=7∨k=8∨k=10∨k=11:=zo;rcases this with rfl | rfl | rfl | rfl | rfl | rfl
  ·exact out3 a b c ha hb hc nm ar r W C n lW lC
  ·exact out4 a b c ha hb hc nm ar r W C n lW lC
  ·exact out7 a b c ha hb hc nm ar r W C n lW lC
  ·exact out8 a b c ha hb hc nm ar r W C n lW lC
  ·exact out10 a b c ha hb hc nm ar r W C n lW lC
  ·exact out11 a b c ha hb hc nm ar r W C n lW lC
 ·have ha:=hA a zs;have hb:=hA b zs;have hc:=hA c zs;have hd:=hA d zs;have:k=9∨k=12∨k=13:=zo;rcases this with rfl | rfl | rfl
  ·exact out9 a b c d ha hb hc hd nm ar r W C n lW lC
  ·exact out12 a b c d ha hb hc hd nm ar r W C n lW lC eC
  ·exact out13 a b c d ha hb hc hd nm ar r W C n lW lC eC
 ·omega
attribute [local go_sem] Zcf Zcy Zbm Zbo Zbn Zb5 Zb6 Zdc Zc6 Zqu Zqt Zdn Zdm Zog Zqg Zvg Zl1 Zqe Zt4 Za5 Zb4 Zd0 Zdd
theorem Zmv {α:Type} {l:List α} {i:Nat} (h:i < l.length):l.take (i+1)=l.take i++[l[i]]:=by rw [List.take_add_one,Zzn h];rfl
def twoN (ss:List RS) (i:Nat):Nat:=((ss.take i).filter λs=>twoB s.k).length
theorem Zqo (ss:List RS) (i:Nat):twoN ss i≤i:=Zzi (List.length_filter_le _ _) (by rw [Zzv];omega)
theorem twoN_y {ss:List RS} {i:Nat} (hi:i < ss.length) (h:twoB ss[i].k=true):twoN ss (i+1)=twoN ss i+1:=by
 unfold twoN;rw [Zmv hi,ZD4,Zz0];simp only [ZD5,h,Zzc,List.filter_nil,Zzq,Zzs]
theorem twoN_n {ss:List RS} {i:Nat} (hi:i < ss.length) (h:twoB ss[i].k=false):twoN ss (i+1)=twoN ss i:=by
 unfold twoN;rw [Zmv hi,ZD4,Zz0];simp only [ZD5,h,Zzr,Zz8,List.filter_nil,Zzs,ZAh]
theorem r22Cho (ss:List RS) (gs:List RG) (cs:List (Po × Po)) (vs:List Vt) (hl:ss.length≤1000) (hv:vs.length≤70) (co:Pure prog 9 [figA ss gs] (.tup [frmA cs vs,iv 0])):Pure prog 28 [figA ss gs] (.tup [iv (Zet vs vs.length).length,iv (twoN ss ss.length),iv 0]):=by
 have hg:∀i (h:i < ss.length),(ss.map RS.av).getD i .u=ss[i].av:=λi h=>Zaj RS.av h;have hls:(ss.map RS.av).length=ss.length:=Zzg ..;have c2:Pure prog 39 [.agg [.sl 2 (cs.map coA),.sl 3 (vs.map Vt.av)]] (ivs (Zet vs vs.length)):=Zsy cs vs hv;have hpl:=Zo8 vs vs.length;have hil:((Zet vs vs.length).map iv).length=(Zet vs vs.length).length:=Zzg ..;show Pure _ _ [.agg [.sl 6 (ss.map RS.av),.sl 5 (gs.map RG.av)]] _;have c1:Pure prog 9 [.agg [.sl 6 (ss.map RS.av),.sl 5 (gs.map RG.av)]] (.tup [.agg [.sl 2 (cs.map coA),.sl 3 (vs.map Vt.av)],iv 0]):=co
 clear co;have hty:=λi (h:i < ss.length)=>twoN_y (ss:=ss) h;have htn:=λi (h:i < ss.length)=>twoN_n (ss:=ss) h;have htl:=Zqo ss;generalize ss.map RS.av=M at *;generalize gs.map RG.av=N at *;generalize cs.map coA=C at *;generalize vs.map Vt.av=V at *;generalize Zet vs vs.length=p at *;refine pI func28 rfl ntmps28 results28 call28 ?_;(focus (refine wkap (w_1 hls) (w_1 c1) (w_r 0) ?_;(repeat' first|exact w_t|apply w_l);all_goals intros));rename_i g1 g5;refine Zab (ι:=Nat) (λi e m=>i≤ss.length∧e 1=.pbox 1 g1 0∧e 5=.pbox 5 g5 0∧e 8=iv i∧e 7=iv (twoN ss i)∧m 1=some (.box g1 25 [.sl 6 M,.sl 5 N] false)∧m 5=some (.box g5 40 [.sl 2 C,.sl 3 V] false)) (λi=>ss.length - i) 0 zr ?_ ?_
 ·rintro i e m ⟨hi,e1,e5,e8,e7,m1,m5⟩
  by_cases hlt:i < ss.length
  ·have hgi:=hg i hlt;have hlt':(i:Int) < (ss.length:Int):=zo;have hy:=hty i hlt;have hn:=htn i hlt;have h3:=htl i;have ct:=Zkv ss[i].k;clear hg hty htn htl;generalize ss[i]=s at *;obtain⟨k,nm,ar,⟨rs,rl,rd⟩⟩:=s;simp only at *;generalize twoB k=b at *;generalize hT:twoN ss i=T at *
   cases b with
   | true =>
     have hy:=hy rfl;(focus (refine wkap (w_9 e1 e5 e8 e7 m1 m5 hls hgi hlt') (w_1 ct) (w_r 0) ?_;(repeat' first|exact w_t|apply w_l);all_goals intros));exact⟨i+1,⟨zo,gW e1,gW e5,gS,by rw [hy];exact gS,gW m1,gW m5⟩,zo⟩
   | false =>
     have hn:=hn rfl;(focus (refine wkap (w_9 e1 e5 e8 e7 m1 m5 hls hgi hlt') (w_1 ct) (w_r 0) ?_;(repeat' first|exact w_t|apply w_l);all_goals intros));exact⟨i+1,⟨zo,gW e1,gW e5,gS,by rw [hn];exact gW e7,gW m1,gW m5⟩,zo⟩
  ·have hin:i=ss.length:=zo;subst hin;have hlt':¬(ss.length:Int) < (ss.length:Int):=zo;have h3:=htl ss.length;clear hg hty htn htl;generalize twoN ss ss.length=T at *;(focus (refine wkap (w_9 e1 e5 e8 e7 m1 m5 hls hlt' hil) (w_1 c2) (w_r 0) ?_;(repeat' first|exact w_t|apply w_l);all_goals intros));all_goals exact gM (w_1 hil)
 ·exact⟨Zzp _,gC,gC,gC,gC,gC,gC⟩
theorem hq_pt {v w:Rat} (hv:Hq 64 v) (hw:Hq 64 w):Hv 128 ((v,w):PQ):=by
 obtain⟨d,h0,h1,h2⟩:=hv;obtain⟨c,g0,g1,g2⟩:=hw;refine Hv.of (k:=128) (d:=d*c) (X:=v*d*c) (Y:=w*c*d) (nz2 h0 g0) ((h1.mul g1).mono zo) ?_ ?_ ((h2.mul g1).mono zo) ((g2.mul h1).mono zo) (Zze _)
 ·simp only;grind
 ·simp only;grind
theorem Zyc:Hq 64 (0:Rat):=⟨1,by decide,IB.one.mono zo,⟨0,by rw [Rat.zero_mul];rfl,ZCy 64⟩⟩
theorem Zts {W:List Rat} (hW:∀q∈W,Sz q 2) (i:Nat):Hq 64 (W.getD i 0):=by
 rw [Zzo];rcases Zzy i W.length with h | h
 ·rw [Zzn h];exact sz_hq (hW _ (Zzt h))
 ·rw [ZAr h];exact Zyc
theorem Zp3 {A:List PQ} {K:Nat} (hA:∀p∈A,Hv K p) (hK:70≤K) (i:Nat):Hv K (A.getD i (0,0)):=by
 rw [Zzo];rcases Zzy i A.length with h | h
 ·rw [Zzn h];exact hA _ (Zzt h)
 ·rw [ZAr h];exact Zx8 K zo
theorem ptr_hv {s:RS} {A:List PQ} {W:List Rat} {n K:Nat} {x:PQ} (h:PtR s A W n x) (hA:∀p∈A,Hv K p) (hK:70≤K) (hW:∀q∈W,Sz q 2) (hm:s.r.lm 2) (hr:s.k=2→s.r.ok=true):Hv (11*K) x:=by
 unfold PtR at h;by_cases h1:s.k=1
 ·rw [Zzc h1] at h;subst h;split
  ·exact Zx8 _ zo
  ·split
   ·exact(hq_pt (Zts hW 0) Zyc).mono zo
   ·exact(hq_pt (Zts hW 0) (Zts hW 1)).mono zo
 ·rw [Zzb h1] at h;refine st_hv h.1 (Zp3 hA hK 0) (Zp3 hA hK 1) (Zp3 hA hK 2) (Zp3 hA hK 3) ?_ hK;split
  ·rename_i h2;exact sz_hq (RQ.ok_av hm (hr h2)).2
  ·exact Zts hW 0
def RunAt (ss:List RS) (Vs:List Rat) (Bs:List Bool) (u nf:Nat→Nat) (L:List PQ) (i:Nat) (h:i < ss.length) (x:PQ):Prop :=
 Zlw ss[i] (argP L ss[i]) ((Vs.drop (u i)).map ratQ) ((Bs.drop (twoN ss i)).map bvA) (nf i) x.av 0 ((Vs.drop (u (i+1))).map ratQ) ((Bs.drop (twoN ss (i+1))).map bvA) (nf (i+1))∧PtR ss[i] (argP L ss[i]) (Vs.drop (u i)) (nf i) x
def RunEr (ss:List RS) (Vs:List Rat) (Bs:List Bool) (u nf:Nat→Nat) (L:List PQ) (i:Nat):Prop :=
 ∃(h:i < ss.length) (e:Int) (W' C':List AV) (n':Int),(0 < e∧e < 100)∧Zlw ss[i] (argP L ss[i]) ((Vs.drop (u i)).map ratQ) ((Bs.drop (twoN ss i)).map bvA) (nf i) pt0 e W' C' n'
theorem pow_70 {i:Nat} (h:i≤7):70≤70*11 ^ i∧70*11 ^ i≤1400000000:=by
 have:11 ^ i≤11 ^ 7:=ZAt zo h;have:=ZBe (show 11 ^ i≠0 from Nat.ne_of_gt (ZDc zo));omega
theorem run22 (ss:List RS) (Vs:List Rat) (Bs:List Bool) (u nf:Nat→Nat) (hl:ss.length≤8) (her:∀i,i < ss.length→errS ss i=0) (hlm:∀s∈ss,s.r.lm 2) (hVs:∀q∈Vs,Sz q 2) (lV:Vs.length≤900) (lB:Bs.length≤900)
 (hu:∀i (h:i < ss.length),u (i+1)=u i+useN ss[i].k (nf i)) (hnf:∀i (h:i < ss.length),nf (i+1)=if ss[i].k=1 then nf i+1 else nf i) (hn9:∀i,i≤ss.length→nf i≤900) (eV:∀i,i≤ss.length→u i≤Vs.length) (eB:∀i,i≤ss.length→twoN ss i≤Bs.length) :
 ∀m,m≤ss.length→∃L:List PQ,L.length≤m∧(∀i (h:i < ss.length) (h':i < L.length),RunAt ss Vs Bs u nf (L.take i) i h L[i])∧(∀i (h':i < L.length),Hv (70*11 ^ (i+1)) L[i])∧(L.length=m∨RunEr ss Vs Bs u nf L L.length):=by
 intro m
 induction m with
 | zero=>exact λ_=>⟨[],Zze _,λi _ h'=>absurd h' (Nat.not_lt_zero _),λi h'=>absurd h' (Nat.not_lt_zero _),.inl rfl⟩
 | succ m ih =>
   intro hm;obtain⟨L,h1,h2,h3,h4⟩:=ih zo;rcases h4 with h4 | h4
   ·have hlt:m < ss.length:=zo;obtain⟨k1,k2,k3,k4⟩:=Zgu hlt (her m hlt);have hp:=pow_70 (i:=m) zo;have hLv:∀p∈L,Hv (70*11 ^ m) p:=λp hp=>by
     obtain⟨j,hj,rfl⟩:=List.mem_iff_getElem.1 hp;exact(h3 j hj).mono (ZBb _ (ZAt zo zo))
    have hA:∀p∈argP L ss[m],Hv (70*11 ^ m) p:=λp hp'=>by
     obtain⟨a,-,rfl⟩:=List.mem_map.1 hp';exact Zp3 hLv hp.1 _
    have hW:∀q∈Vs.drop (u m),Sz q 2:=λq hq=>hVs q (ZBg hq);have e1:=hu m hlt;have e2:=eV (m+1) hm;have e3:=eB (m+1) hm
    have e4:twoN ss (m+1)=twoN ss m+brN ss[m].k:=by
     unfold brN;by_cases hb:twoB ss[m].k=true
     ·rw [twoN_y hlt hb,Zzc hb]
     ·rw [twoN_n hlt (by simpa using hb),Zzb hb];rfl
    have o:=outAll ss[m] (argP L ss[m]) (Vs.drop (u m)) (Bs.drop (twoN ss m)) (nf m) (by unfold argP;rw [Zzg];exact k2) (λp hp'=>Zsp (hA p hp') hp.2) hW (by rw [ZA1];omega) (by rw [ZA1];omega) (by have:=hn9 m zo;omega) (by rw [ZA1];omega) (by rw [ZA1];omega) k4 (hlm _ (Zzt hlt));rcases o with⟨x,ho,hx⟩ | ⟨e,W',C',n',he,ho⟩
    ·rw [ZCk,ZCk,←e1,←e4,←hnf m hlt] at ho;refine⟨L++[x],by rw [Zz0];simp only [Zzq,Zzs];omega,λi h h'=>?_,λi h'=>?_,.inl (by rw [Zz0];simp only [Zzq,Zzs];omega)⟩
     ·rcases Zzy i L.length with hi | hi
      ·rw [List.take_append_of_le_length zo,List.getElem_append_left hi];exact h2 i h hi
      ·have:i=L.length:=by rw [Zz0] at h';simp only [Zzq,Zzs] at h';omega
       subst this;rw [List.take_left,List.getElem_append_right (Zze _)];simp only [ZCo,List.getElem_cons_zero];subst h4;exact⟨ho,hx⟩
     ·rcases Zzy i L.length with hi | hi
      ·rw [List.getElem_append_left hi];exact h3 i hi
      ·have:i=L.length:=by rw [Zz0] at h';simp only [Zzq,Zzs] at h';omega
       subst this;rw [List.getElem_append_right (Zze _)];simp only [ZCo,List.getElem_cons_zero];subst h4;exact(ptr_hv hx hA hp.1 hW (hlm _ (Zzt hlt)) k4).mono (by rw [ZAp];omega)
    ·refine⟨L,zo,h2,h3,.inr ?_⟩;subst h4;exact⟨hlt,e,W',C',n',he,ho⟩
   ·exact⟨L,zo,h2,h3,.inr h4⟩
theorem r22AtRun (ss:List RS) (gs:List RG) (Vs:List Rat) (Bs:List Bool) (u nf:Nat→Nat) (hl:ss.length≤8) (her:∀i,i < ss.length→errS ss i=0) (hlm:∀s∈ss,s.r.lm 2) (hVs:∀q∈Vs,Sz q 2) (lV:Vs.length≤900) (lB:Bs.length≤900)
 (u0:u 0=0) (n0:nf 0=0) (hu:∀i (h:i < ss.length),u (i+1)=u i+useN ss[i].k (nf i)) (hnf:∀i (h:i < ss.length),nf (i+1)=if ss[i].k=1 then nf i+1 else nf i) (hn9:∀i,i≤ss.length→nf i≤900) (eV:∀i,i≤ss.length→u i≤Vs.length) (eB:∀i,i≤ss.length→twoN ss i≤Bs.length)
 (cc:Pure prog 28 [figA ss gs] (.tup [iv Vs.length,iv Bs.length,iv 0])) :
 (∃L:List PQ,L.length=ss.length∧(∀i (h:i < ss.length) (h':i < L.length),RunAt ss Vs Bs u nf (L.take i) i h L[i])∧(∀i (h':i < L.length),Hv (70*11 ^ (i+1)) L[i])∧Pure prog 8 [figA ss gs,.sl 3 (Vs.map ratQ),.sl 1 (Bs.map bvA)] (.tup [.agg [.sl 3 (Vs.map ratQ),.sl 1 (Bs.map bvA),.sl 6 (L.map PQ.av)],iv 0,iv 0])) ∨
 ∃(K:Nat) (e:Int),(0 < e∧e < 100)∧Pure prog 8 [figA ss gs,.sl 3 (Vs.map ratQ),.sl 1 (Bs.map bvA)] (.tup [Zry,iv K,iv e]):=by
 obtain⟨L,h1,h2,h3,h4⟩:=run22 ss Vs Bs u nf hl her hlm hVs lV lB hu hnf hn9 eV eB ss.length (Zze _);have key:=λr hr=>r22AtV ss gs (Vs.map ratQ) (Bs.map bvA) hl (by rw [Zzg];omega) (by rw [Zzg];omega) (by rw [Zzg,Zzg];exact cc) L.length h1 (λi=>L.take i) (λi=>(Vs.drop (u i)).map ratQ) (λi=>(Bs.drop (twoN ss i)).map bvA) (λi=>(nf i:Int)) (λi=>by rw [Zzg,ZA1];omega) (λi=>by rw [Zzg,ZA1];omega) (λi hi=>by rw [Zzv];omega) (ZB6) (by simp only [u0,ZBd]) (by simp only [show twoN ss 0=0 from Nat.le_zero.1 (Zqo ss 0),ZBd]) (by simp only [n0];rfl)
  (λi h=>by obtain⟨k1,k2,k3,k4⟩:=Zgu h (her i h);exact⟨k2,k1,k3⟩)
  (λi h hK=>⟨L[i],Zmv hK,(h2 i h hK).1⟩) r hr
 rcases h4 with h4 | ⟨h,e,W',C',n',he,hp⟩
 ·refine .inl ⟨L,h4,h2,h3,key _ (.inl ⟨h4,?_⟩)⟩;rw [ZAe]
 ·refine .inr ⟨L.length,e,he,key _ (.inr ⟨h,e,W',C',n',he,?_,rfl⟩)⟩;simp only [ZAe];exact hp
attribute [local go_sem] Zfb Zbu Zfv Zc4 Zbq Zbt Zcw Zbg Zbh Zcj Zdl Zdt Zec
abbrev i8s (l:List Int):List AV:=l.map λk=>.v (.int .i8 k)
structure StV (s:RS) (i:Nat) (vs:List Vt) (x:Nat→Rat) (P:Nat→PQ):Prop where
 k2:s.k=2→∃(a b:Nat) (q:Rat),s.ar=[(a:Int),(b:Int)]∧a < i∧b < i∧s.r.av=ratQ q∧Pure prog 74 [(P a).av,(P b).av,ratQ q] (P i).av
 k3:s.k=3→∃a b c:Nat,s.ar=[(a:Int),(b:Int),(c:Int)]∧a < i∧b < i∧c < i∧Pure prog 79 [(P a).av,(P b).av,(P c).av] (P i).av
 k4:s.k=4→∃a b c:Nat,s.ar=[(a:Int),(b:Int),(c:Int)]∧a < i∧b < i∧c < i∧Pure prog 80 [(P a).av,(P b).av,(P c).av] (P i).av
 k5:s.k=5→∃a b:Nat,s.ar=[(a:Int),(b:Int)]∧a < i∧b < i∧∀j (h:j < vs.length),vs[j].2.1=(i:Int)→Pure prog 74 [(P a).av,(P b).av,ratQ (x j)] (P i).av
def valI (l:List Int) (j:Nat):Int:=if j < l.length then (gI l j).tmod 101 else j
def valX (l:List Int) (n j:Nat):Rat:=((List.range n).map λj=>((valI l j:Int):Rat)).getD j 0
theorem Zs9 (f:FS) (i:Nat) (s:RS):∀v∈(f.nxt i s).1,v.2.1=(i:Int):=by
 unfold FS.nxt;simp only
 repeat' split
 all_goals (intro v hv;simp at hv)
 all_goals (try (rcases hv with rfl | rfl | rfl<;>rfl))
 all_goals (try (rcases hv with rfl | rfl<;>rfl))
 all_goals (try (subst hv;rfl))
theorem vs_lt (ss:List RS):∀i,∀v∈(frN ss i).vs,v.2.1 < (i:Int)
 | 0,v,h=>by simp [frN] at h
 | i+1,v,h=>by
   rcases List.mem_append.1 (show v∈(frN ss i).vs++((frN ss i).nxt i (ss.getD i RS.zero)).1 from h) with h1 | h1
   ·have:=vs_lt ss i v h1;omega
   ·have:=Zs9 _ _ _ v h1;omega
theorem Zyr (ss:List RS) (i:Nat):∀d,∃l,(frN ss (i+d)).cs=(frN ss i).cs++l
 | 0=>⟨[],by rw [ZA6];rfl⟩
 | d+1=>by
   obtain⟨l,hl⟩:=Zyr ss i d;refine⟨l++[((frN ss (i+d)).nxt (i+d) (ss.getD (i+d) RS.zero)).2],?_⟩;show(frN ss (i+d)).cs++_=_;rw [hl,ZAk];rfl
theorem cs_at {ss:List RS} {i j:Nat} (hi:i≤ss.length) (hj:j < i):(frN ss ss.length).cs.getD j ([],[])=(frN ss i).cs.getD j ([],[]):=by
 obtain⟨l,hl⟩:=Zyr ss i (ss.length - i);rw [show i+(ss.length - i)=ss.length by omega] at hl;rw [hl,Zzo,Zzo,ZAx (by rw [Zcm];omega)]
theorem cs_nxt {ss:List RS} {i:Nat} (hi:i < ss.length):(frN ss ss.length).cs.getD i ([],[])=((frN ss i).nxt i ss[i]).2:=by
 rw [cs_at (show i+1≤ss.length by omega) zo,Zea hi,Zzo,ZAy (by rw [Zcm];omega),Zcm,ZCo];rfl
theorem Zv1 {a:Rat} {p:Po} (h:SrtM p):SrtM (sclM a p):=by
 unfold sclM;split
 ·exact .nil
 ·rename_i h0;exact Zbd h h0
theorem Za2 {p q:Po} (hp:SrtM p) (hq:SrtM q):SrtM (subM p q):=Za4 ordM hp (Zbd hq neg1)
abbrev ptV (x:Nat→Rat) (c:Po × Po):PQ:=(evP x c.1,evP x c.2)
theorem nxt_val (x:Nat→Rat) (f:FS) (i:Nat) (s:RS) (hs:∀k,SrtM (f.at s k).1∧SrtM (f.at s k).2) (hv:f.vs.length < 64∨s.k≠5) :
 (s.k=2→ptV x (f.nxt i s).2=Zgf (ptV x (f.at s 0)) (ptV x (f.at s 1)) s.r.q) ∧
 (s.k=3→ptV x (f.nxt i s).2=Zjt (ptV x (f.at s 0)) (ptV x (f.at s 1)) (ptV x (f.at s 2))) ∧
 (s.k=4→ptV x (f.nxt i s).2=Zod (ptV x (f.at s 0)) (ptV x (f.at s 1)) (ptV x (f.at s 2))) ∧
 (s.k=5→ptV x (f.nxt i s).2=Zgf (ptV x (f.at s 0)) (ptV x (f.at s 1)) (x f.vs.length)):=by
 obtain⟨a1,a2⟩:=hs 0;obtain⟨b1,b2⟩:=hs 1;obtain⟨c1,c2⟩:=hs 2;refine⟨λh=>?_,λh=>?_,λh=>?_,λh=>?_⟩
 ·unfold FS.nxt Zgf ptV;simp only [h];rw [Zzb zd,Zzc trivial];simp only [Zds x a1 (Zv1 (Za2 b1 a1)),Zds x a2 (Zv1 (Za2 b2 a2)),evP_scl,Zbc x b1 a1,Zbc x b2 a2]
 ·unfold FS.nxt Zjt ptV;simp only [h];rw [Zzb zd,Zzb zd,Zzc trivial];simp only [Zds x a1 (Za2 c1 b1),Zds x a2 (Za2 c2 b2),Zbc x c1 b1,Zbc x c2 b2,ZBf]
 ·unfold FS.nxt Zod ptV;simp only [h];rw [Zzb zd,Zzb zd,Zzb zd,Zzc trivial];simp only [Zds x a1 (Za2 b2 c2),Zds x a2 (Za2 c1 b1),Zbc x b2 c2,Zbc x c1 b1,ZBf];congr 1
  grind
 ·have h64:f.vs.length < 64:=hv.resolve_right λk=>k h;unfold FS.nxt Zgf ptV;simp only [h];rw [Zzb zd,Zzb zd,Zzb zd,Zzb zd,Zzc trivial];simp only [Zds x a1 (Zam ordM mulK (Za2 b1 a1) (Zb1 _)),Zds x a2 (Zam ordM mulK (Za2 b2 a2) (Zb1 _)),Zdr x (Za2 b1 a1) (Zb1 _),Zdr x (Za2 b2 a2) (Zb1 _),Zbc x b1 a1,Zbc x b2 a2,Zgt x h64,Rat.mul_comm]
def Zd3 (k:Int) (n:Nat) (W:List Rat) (x:PQ):List Rat :=
 if k=1 then (if n=0 then [] else if n=1 then [W.getD 0 0] else [W.getD 0 0,W.getD 1 0])
 else if k=2∨k=3∨k=4 then []
 else if k=5 then [W.getD 0 0]
 else if k=6 then [W.getD 0 0,x.1,x.2]
 else [x.1,x.2]
def vaL (ss:List RS) (Vs:List Rat) (u nf:Nat→Nat) (L:List PQ):Nat→List Rat
 | 0=>[]
 | i+1=>vaL ss Vs u nf L i++Zd3 (ss.getD i ⟨0,.empty,[],⟨false,[],[]⟩⟩).k (nf i) (Vs.drop (u i)) (L.getD i (0,0))
theorem Zxb (f:FS) (i:Nat) (s:RS) (W:List Rat) (x:PQ):(f.nxt i s).1.length=(Zd3 s.k f.fr W x).length:=by
 unfold FS.nxt Zd3;simp only;by_cases h1:s.k=1
 ·rw [Zzc h1,Zzc h1];split
  ·rfl
  ·split<;>rfl
 ·rw [Zzb h1,Zzb h1];by_cases h2:s.k=2
  ·rw [Zzc h2,Zzc (.inl h2)];rfl
  ·rw [Zzb h2];by_cases h3:s.k=3
   ·rw [Zzc h3,Zzc (.inr (.inl h3))];rfl
   ·rw [Zzb h3];by_cases h4:s.k=4
    ·rw [Zzc h4,Zzc (.inr (.inr h4))];rfl
    ·rw [Zzb h4,Zzb (show ¬(s.k=2∨s.k=3∨s.k=4) from λh=>h.elim h2 λh=>h.elim h3 h4)];by_cases h5:s.k=5
     ·rw [Zzc h5,Zzc h5];rfl
     ·rw [Zzb h5,Zzb h5];by_cases h6:s.k=6
      ·rw [Zzc h6,Zzc h6];rfl
      ·rw [Zzb h6,Zzb h6];rfl
theorem Zqn {ss:List RS} {Vs:List Rat} {u nf:Nat→Nat} {L:List PQ} (hf:∀i,i≤ss.length→nf i=(frN ss i).fr):∀i,i≤ss.length→(vaL ss Vs u nf L i).length=(frN ss i).vs.length
 | 0,_=>rfl
 | i+1,h=>by
   unfold vaL;rw [Zz0,Zqn hf i zo,hf i zo];show _=((frN ss i).vs++((frN ss i).nxt i (ss.getD i ⟨0,.empty,[],⟨false,[],[]⟩⟩)).1).length;rw [Zz0,Zxb _ _ _ (Vs.drop (u i)) (L.getD i (0,0))]
theorem Zvm {ss:List RS} {Vs:List Rat} {u nf:Nat→Nat} {L:List PQ} (i:Nat):∀d,∃l,vaL ss Vs u nf L (i+d)=vaL ss Vs u nf L i++l
 | 0=>⟨[],by rw [ZA6];rfl⟩
 | d+1=>by
   obtain⟨l,h⟩:=Zvm (ss:=ss) (Vs:=Vs) (u:=u) (nf:=nf) (L:=L) i d;refine⟨l++Zd3 (ss.getD (i+d) ⟨0,.empty,[],⟨false,[],[]⟩⟩).k (nf (i+d)) (Vs.drop (u (i+d))) (L.getD (i+d) (0,0)),?_⟩;show vaL ss Vs u nf L (i+d)++_=_;rw [h,ZAk];rfl
attribute [go_sem] byVec
theorem plPlusV (a1 a2 u1 u2 x y:Rat) (c0:Pure prog 150 [ratQ a1,ratQ u1] (ratQ x)) (c1:Pure prog 150 [ratQ a2,ratQ u2] (ratQ y)):Pure prog 93 [ptQ a1 a2,ptQ u1 u2] (ptQ x y):=by
 refine pI func93 rfl ntmps93 results93 call93 ?_;(focus (refine wkad w_t (w_2 c0 c1) (w_1 (w_d 1 [(4,ratQ x),(9,ratQ y)] [] [4])) ?_;(repeat' first|exact w_t|apply w_l);all_goals intros));all_goals exact gL
theorem Zo3 (a1 a2 u1 u2:Rat) {j:Nat} (h1:Sz a1 j) (h2:Sz a2 j) (h3:Sz u1 j) (h4:Sz u2 j) (hj:j≤10000000000):Pure prog 93 [ptQ a1 a2,ptQ u1 u2] (ptQ (a1+u1) (a2+u2)):=plPlusV _ _ _ _ _ _ (Zou _ _ h1 h3 zo zo) (Zou _ _ h2 h4 zo zo)
theorem plTimesV (u1 u2 s x y:Rat) (c0:Pure prog 99 [ratQ s,ratQ u1] (ratQ x)) (c1:Pure prog 99 [ratQ s,ratQ u2] (ratQ y)):Pure prog 94 [ptQ u1 u2,ratQ s] (ptQ x y):=by
 refine pI func94 rfl ntmps94 results94 call94 ?_;(focus (refine wkad w_t (w_2 c0 c1) (w_1 (w_d 1 [(3,ratQ x),(7,ratQ y)] [] [4])) ?_;(repeat' first|exact w_t|apply w_l);all_goals intros));all_goals exact gL
theorem Zre (u1 u2 s:Rat) {j:Nat} (h1:Sz u1 j) (h2:Sz u2 j) (h3:Sz s j) (hj:j≤10000000000):Pure prog 94 [ptQ u1 u2,ratQ s] (ptQ (s*u1) (s*u2)):=plTimesV _ _ _ _ _ (Zfo _ _ h3 h1 zo zo) (Zfo _ _ h3 h2 zo zo)
theorem plOverV (a b q:Rat) (e:Int) (c0:Pure prog 151 [ratQ a,ratQ b] (.tup [ratQ q,iv e])):Pure prog 95 [ratQ a,ratQ b] (ratQ q):=by
 refine pI func95 rfl ntmps95 results95 call95 ?_;(focus (refine wkap w_t (w_1 c0) (w_r 0) ?_;(repeat' first|exact w_t|apply w_l);all_goals intros));all_goals exact gL
theorem Zo4 (a b:Rat) {j:Nat} (ha:Sz a j) (hb:Sz b j) (hj:j≤10000000000) (h0:b≠0):Pure prog 95 [ratQ a,ratQ b] (ratQ (a/b)):=plOverV a b (a/b) 0 (ratDiv a b ha hb zo zo h0)
theorem plSqV (u1 u2 r:Rat) (c0:Pure prog 96 [ptQ u1 u2,ptQ u1 u2] (ratQ r)):Pure prog 97 [ptQ u1 u2] (ratQ r):=by
 refine pI func97 rfl ntmps97 results97 call97 ?_;(focus (refine wkap w_t (w_1 c0) (w_r 0) ?_;(repeat' first|exact w_t|apply w_l);all_goals intros));all_goals exact gL
theorem plFootV (p1 p2 a1 a2 b1 b2 u1 u2 w1 w2 n d s t1 t2 x y:Rat) (c0:Pure prog 56 [ptQ a1 a2,ptQ b1 b2] (.v (.bool false))) (c1:Pure prog 92 [ptQ a1 a2,ptQ b1 b2] (ptQ u1 u2)) (c2:Pure prog 92 [ptQ a1 a2,ptQ p1 p2] (ptQ w1 w2)) (c3:Pure prog 96 [ptQ u1 u2,ptQ w1 w2] (ratQ n)) (c4:Pure prog 97 [ptQ u1 u2] (ratQ d)) (c5:Pure prog 95 [ratQ n,ratQ d] (ratQ s)) (c6:Pure prog 94 [ptQ u1 u2,ratQ s] (ptQ t1 t2)) (c7:Pure prog 93 [ptQ a1 a2,ptQ t1 t2] (ptQ x y)):Pure prog 33 [ptQ p1 p2,ptQ a1 a2,ptQ b1 b2] (.tup [ptQ x y,iv 0]):=by
 refine pI func33 rfl ntmps33 results33 call33 ?_;(focus (refine wkad w_t (w_8 c0 c1 c2 c3 c4 c5 c6 c7) (w_1 (w_d 4 [(5,ptQ w1 w2),(6,ratQ n),(8,ratQ d),(9,ratQ s),(10,ptQ t1 t2),(11,ptQ x y)] [] [6])) ?_;(repeat' first|exact w_t|apply w_l);all_goals intros));all_goals exact gL
theorem plFoot (p a b:PQ) {j:Nat} (hp:p.sz j) (ha:a.sz j) (hb:b.sz j) (hj:j≤100000000) (h:eqP a b=false):Pure prog 33 [p.av,a.av,b.av] (.tup [(Zf0 p a b).av,iv 0]):=by
 have c0:=Zwx a b ha hb zo;rw [h] at c0;have z1:=Zci ha hb ha hp;have z2:=Zci ha hb ha hb;have zs:=(z1.div z2).mono (show _≤16*j+10 by omega);have u1:=hb.1.sub ha.1;have u2:=hb.2.sub ha.2;exact plFootV _ _ _ _ _ _ _ _ _ _ _ _ _ _ _ _ _ c0 (Zh9 a.1 a.2 b.1 b.2 ha.1 ha.2 hb.1 hb.2 zo) (Zh9 a.1 a.2 p.1 p.2 ha.1 ha.2 hp.1 hp.2 zo) (Zuq _ _ _ _ u1 u2 (hp.1.sub ha.1) (hp.2.sub ha.2) zo) (plSqV _ _ _ (Zuq _ _ _ _ u1 u2 u1 u2 zo)) (Zo4 _ _ z1 z2 zo (Znt h)) (Zre _ _ _ (j:=16*j+10) (u1.mono zo) (u2.mono zo) zs zo) (Zo3 _ _ _ _ (j:=18*j+11) (ha.1.mono zo) (ha.2.mono zo) ((zs.mul u1).mono zo) ((zs.mul u2).mono zo) zo)
theorem plMirV (p1 p2 a1 a2 b1 b2 f1 f2 u1 u2 x y:Rat) (c0:Pure prog 33 [ptQ p1 p2,ptQ a1 a2,ptQ b1 b2] (.tup [ptQ f1 f2,iv 0])) (c1:Pure prog 92 [ptQ p1 p2,ptQ f1 f2] (ptQ u1 u2)) (c2:Pure prog 93 [ptQ f1 f2,ptQ u1 u2] (ptQ x y)):Pure prog 34 [ptQ p1 p2,ptQ a1 a2,ptQ b1 b2] (.tup [ptQ x y,iv 0]):=by
 refine pI func34 rfl ntmps34 results34 call34 ?_;(focus (refine wkad w_t (w_3 c0 c1 c2) (w_1 (w_d 4 [(3,ptQ u1 u2),(4,ptQ x y)] [] [6])) ?_;(repeat' first|exact w_t|apply w_l);all_goals intros));all_goals exact gL
theorem plMir (p a b:PQ) {j:Nat} (hp:p.sz j) (ha:a.sz j) (hb:b.sz j) (hj:j≤100000000) (h:eqP a b=false):Pure prog 34 [p.av,a.av,b.av] (.tup [(mirP p a b).av,iv 0]):=by
 have z:=Ztu hp ha hb h;have e:mirP p a b=((Zf0 p a b).1+((Zf0 p a b).1 - p.1),(Zf0 p a b).2+((Zf0 p a b).2 - p.2)):=by unfold mirP;rw [ZBf,ZBf]
 rw [e];exact plMirV _ _ _ _ _ _ _ _ _ _ _ _ (plFoot p a b hp ha hb hj h) (Zh9 p.1 p.2 (Zf0 p a b).1 (Zf0 p a b).2 (j:=19*j+12) (hp.1.mono zo) (hp.2.mono zo) z.1 z.2 zo) (Zo3 _ _ _ _ (j:=21*j+13) (z.1.mono zo) (z.2.mono zo) ((z.1.sub hp.1).mono zo) ((z.2.sub hp.2).mono zo) zo)
theorem plMeetV (a1 a2 b1 b2 g1 g2 d1 d2 u1 u2 v1 v2 n w1 w2 m s t1 t2 x y:Rat) (hn:¬n.num.sign=0) (c0:Pure prog 92 [ptQ a1 a2,ptQ b1 b2] (ptQ u1 u2)) (c1:Pure prog 92 [ptQ g1 g2,ptQ d1 d2] (ptQ v1 v2)) (c2:Pure prog 98 [ptQ u1 u2,ptQ v1 v2] (ratQ n)) (c3:Pure prog 57 [ratQ n] (iv n.num.sign)) (c4:Pure prog 92 [ptQ a1 a2,ptQ g1 g2] (ptQ w1 w2)) (c5:Pure prog 98 [ptQ w1 w2,ptQ v1 v2] (ratQ m)) (c6:Pure prog 95 [ratQ m,ratQ n] (ratQ s)) (c7:Pure prog 94 [ptQ u1 u2,ratQ s] (ptQ t1 t2)) (c8:Pure prog 93 [ptQ a1 a2,ptQ t1 t2] (ptQ x y)):Pure prog 35 [ptQ a1 a2,ptQ b1 b2,ptQ g1 g2,ptQ d1 d2] (.tup [ptQ x y,iv 0]):=by
 generalize n.num.sign=z at *;refine pI func35 rfl ntmps35 results35 call35 ?_;(focus (refine wkad (w_1 hn) (w_9 c0 c1 c2 c3 c4 c5 c6 c7 c8) (w_2 (w_d 1 [(2,ptQ u1 u2),(5,ptQ v1 v2)] [] []) (w_d 5 [(4,ptQ w1 w2),(6,ratQ m),(8,ratQ s),(9,ptQ t1 t2),(10,ptQ x y)] [] [8])) ?_;(repeat' first|exact w_t|apply w_l);all_goals intros));all_goals exact gL
theorem plMeet (a b c d:PQ) {j:Nat} (ha:a.sz j) (hb:b.sz j) (hc:c.sz j) (hd:d.sz j) (hj:j≤100000000) (h:Zbs a b c d≠0):Pure prog 35 [a.av,b.av,c.av,d.av] (.tup [(Zxt a b c d).av,iv 0]):=by
 have z:=Zgd ha hb hc hd;have z1:=Zgd ha hc hc hd;have zs:=(z1.div z).mono (show _≤16*j+10 by omega);have u1:=hb.1.sub ha.1;have u2:=hb.2.sub ha.2;have v1:=hd.1.sub hc.1;have v2:=hd.2.sub hc.2;have cs:=Zgj (Zbs a b c d) z zo;exact plMeetV _ _ _ _ _ _ _ _ _ _ _ _ _ _ _ _ _ _ _ _ _ (λe=>h (by rw [←Rat.num_eq_zero];exact Int.sign_eq_zero_iff_zero.1 e)) (Zh9 a.1 a.2 b.1 b.2 ha.1 ha.2 hb.1 hb.2 zo) (Zh9 c.1 c.2 d.1 d.2 hc.1 hc.2 hd.1 hd.2 zo) (Zrf _ _ _ _ u1 u2 v1 v2 zo) cs (Zh9 a.1 a.2 c.1 c.2 ha.1 ha.2 hc.1 hc.2 zo) (Zrf _ _ _ _ (hc.1.sub ha.1) (hc.2.sub ha.2) v1 v2 zo) (Zo4 (Zbs a c c d) (Zbs a b c d) z1 z zo h) (Zre _ _ _ (j:=16*j+10) (u1.mono zo) (u2.mono zo) zs zo) (Zo3 _ _ _ _ (j:=18*j+11) (ha.1.mono zo) (ha.2.mono zo) ((zs.mul u1).mono zo) ((zs.mul u2).mono zo) zo)
theorem plOthV (p1 p2 q1 q2 o1 o2 u1 u2 t2 w1 w2 n m d s t3 t4 x y:Rat) (c0:Pure prog 56 [ptQ p1 p2,ptQ q1 q2] (.v (.bool false))) (c1:Pure prog 92 [ptQ p1 p2,ptQ q1 q2] (ptQ u1 u2)) (c2:Pure prog 100 [iv 2] (ratQ t2)) (c3:Pure prog 92 [ptQ p1 p2,ptQ o1 o2] (ptQ w1 w2)) (c4:Pure prog 96 [ptQ w1 w2,ptQ u1 u2] (ratQ n)) (c5:Pure prog 99 [ratQ t2,ratQ n] (ratQ m)) (c6:Pure prog 97 [ptQ u1 u2] (ratQ d)) (c7:Pure prog 95 [ratQ m,ratQ d] (ratQ s)) (c8:Pure prog 94 [ptQ u1 u2,ratQ s] (ptQ t3 t4)) (c9:Pure prog 93 [ptQ p1 p2,ptQ t3 t4] (ptQ x y)):Pure prog 36 [ptQ p1 p2,ptQ q1 q2,ptQ o1 o2] (.tup [ptQ x y,iv 0]):=by
 refine pI func36 rfl ntmps36 results36 call36 ?_;(focus (refine wkax w_t (w_10 c0 c1 c2 c3 c4 c5 c6 c7 c8 c9) (w_1 (w_d 4 [(2,ratQ t2),(5,ptQ w1 w2),(7,ratQ n),(8,ratQ m),(10,ratQ d),(11,ratQ s),(12,ptQ t3 t4),(13,ptQ x y)] [] [6])) w_t w_t w_t w_y (w_r 0) ?_;(repeat' first|exact w_t|apply w_l);all_goals intros));all_goals exact gL
theorem plOth (p q o:PQ) {j:Nat} (hp:p.sz j) (hq:q.sz j) (ho:o.sz j) (hj:j≤100000000) (h:eqP p q=false):Pure prog 36 [p.av,q.av,o.av] (.tup [(othP p q o).av,iv 0]):=by
 have c0:=Zwx p q hp hq zo;rw [h] at c0;have z1:=Zci hp ho hp hq;have z2:=Zci hp hq hp hq;have z3:=sz_2.mul z1;have zs:=(z3.div z2).mono (show _≤17*j+20 by omega);have u1:=hq.1.sub hp.1;have u2:=hq.2.sub hp.2;exact plOthV _ _ _ _ _ _ _ _ _ _ _ _ _ _ _ _ _ _ _ c0 (Zh9 p.1 p.2 q.1 q.2 hp.1 hp.2 hq.1 hq.2 zo) (Zum 2 zo) (Zh9 p.1 p.2 o.1 o.2 hp.1 hp.2 ho.1 ho.2 zo) (Zuq _ _ _ _ (ho.1.sub hp.1) (ho.2.sub hp.2) u1 u2 zo) (Zfo 2 (dotP p o p q) sz_2 z1 zo zo) (plSqV _ _ _ (Zuq _ _ _ _ u1 u2 u1 u2 zo)) (Zo4 (2*dotP p o p q) (dotP p q p q) (j:=8*j+6) (z3.mono zo) (z2.mono zo) zo (Znt h)) (Zre _ _ _ (j:=17*j+20) (u1.mono zo) (u2.mono zo) zs zo) (Zo3 _ _ _ _ (j:=20*j+30) (hp.1.mono zo) (hp.2.mono zo) ((zs.mul u1).mono zo) ((zs.mul u2).mono zo) zo)
theorem plCenV (a1 a2 b1 b2 g1 g2 u1 u2 v1 v2 t2 n d k l p q e p' q' f s t x y:Rat) (hn:¬d.num.sign=0) (c0:Pure prog 92 [ptQ a1 a2,ptQ b1 b2] (ptQ u1 u2)) (c1:Pure prog 92 [ptQ a1 a2,ptQ g1 g2] (ptQ v1 v2)) (c2:Pure prog 100 [iv 2] (ratQ t2)) (c3:Pure prog 98 [ptQ u1 u2,ptQ v1 v2] (ratQ n)) (c4:Pure prog 99 [ratQ t2,ratQ n] (ratQ d)) (c5:Pure prog 57 [ratQ d] (iv d.num.sign)) (c6:Pure prog 97 [ptQ u1 u2] (ratQ k)) (c7:Pure prog 97 [ptQ v1 v2] (ratQ l)) (c8:Pure prog 99 [ratQ k,ratQ v2] (ratQ p)) (c9:Pure prog 99 [ratQ l,ratQ u2] (ratQ q)) (c10:Pure prog 101 [ratQ p,ratQ q] (ratQ e)) (c11:Pure prog 99 [ratQ l,ratQ u1] (ratQ p')) (c12:Pure prog 99 [ratQ k,ratQ v1] (ratQ q')) (c13:Pure prog 101 [ratQ p',ratQ q'] (ratQ f)) (c14:Pure prog 95 [ratQ e,ratQ d] (ratQ s)) (c15:Pure prog 95 [ratQ f,ratQ d] (ratQ t)) (c16:Pure prog 93 [ptQ a1 a2,ptQ s t] (ptQ x y)):Pure prog 37 [ptQ a1 a2,ptQ b1 b2,ptQ g1 g2] (.tup [ptQ x y,iv 0]):=by
 generalize d.num.sign=z at *;refine pI func37 rfl ntmps37 results37 call37 ?_;(focus (refine wkax (w_1 hn) (w_8 c0 c1 c2 c3 c4 c5 c6 c7) (w_3 (w_d 1 [(2,ptQ u1 u2),(5,ptQ v1 v2)] [] []) (w_d 2 [(0,ratQ t2),(3,ratQ n),(4,ratQ d)] [] []) (w_d 5 [(1,ratQ k),(3,ratQ l)] [] [])) w_t w_t w_t w_t (w_r 0) ?_;(repeat' first|exact w_t|apply w_l);all_goals intros));(focus (refine wkax (w_1 hn) (w_9 c8 c9 c10 c11 c12 c13 c14 c15 c16) (w_3 (w_d 6 [(3,ratQ p),(7,ratQ q),(8,ratQ e)] [] []) (w_d 7 [(3,ratQ p'),(7,ratQ q'),(8,ratQ f)] [] []) (w_d 8 [(3,ratQ s),(6,ratQ t),(8,ptQ x y)] [] [6])) w_t w_t w_t w_y (w_r 0) ?_;(repeat' first|exact w_t|apply w_l);all_goals intros))
 all_goals exact gL
theorem plCen (a b c:PQ) {j:Nat} (ha:a.sz j) (hb:b.sz j) (hc:c.sz j) (hj:j≤100000000) (h:Zbs a b a c≠0):Pure prog 37 [a.av,b.av,c.av] (.tup [(cenP a b c).av,iv 0]):=by
 have z:=Zgd ha hb ha hc;have zd:=sz_2.mul z;have zk:=Zci ha hb ha hb;have zl:=Zci ha hc ha hc;have u1:=hb.1.sub ha.1;have u2:=hb.2.sub ha.2;have v1:=hc.1.sub ha.1;have v2:=hc.2.sub ha.2;have p1:=zk.mul v2;have q1:=zl.mul u2;have p2:=zl.mul u1;have q2:=zk.mul v1;have h2:=nz2 (show(2:Rat)≠0 by decide) h;have cs:=Zgj (2*Zbs a b a c) zd zo;have z1:=(p1.sub q1).mono (show _≤40*j+40 by omega);have z2:=(p2.sub q2).mono (show _≤40*j+40 by omega);have zd':=zd.mono (show _≤40*j+40 by omega)
 have e:cenP a b c=(a.1+(dotP a b a b*(c.2 - a.2) - dotP a c a c*(b.2 - a.2))/(2*Zbs a b a c),a.2+(dotP a c a c*(b.1 - a.1) - dotP a b a b*(c.1 - a.1))/(2*Zbs a b a c)):=by
  unfold cenP;rw [Rat.div_def,ZBf,Rat.mul_comm,Rat.div_def,Rat.mul_comm (2*Zbs a b a c)⁻¹,Rat.div_def]
 rw [e];exact plCenV _ _ _ _ _ _ _ _ _ _ _ _ _ _ _ _ _ _ _ _ _ _ _ _ _ (λe=>h2 (by rw [←Rat.num_eq_zero];exact Int.sign_eq_zero_iff_zero.1 e)) (Zh9 a.1 a.2 b.1 b.2 ha.1 ha.2 hb.1 hb.2 zo) (Zh9 a.1 a.2 c.1 c.2 ha.1 ha.2 hc.1 hc.2 zo) (Zum 2 zo) (Zrf _ _ _ _ u1 u2 v1 v2 zo) (Zfo 2 (Zbs a b a c) sz_2 z zo zo) cs (plSqV _ _ (dotP a b a b) (Zuq _ _ _ _ u1 u2 u1 u2 zo)) (plSqV _ _ (dotP a c a c) (Zuq _ _ _ _ v1 v2 v1 v2 zo)) (Zfo _ _ zk v2 zo zo) (Zfo _ _ zl u2 zo zo) (Zot _ _ p1 q1 zo zo) (Zfo _ _ zl u1 zo zo) (Zfo _ _ zk v1 zo zo) (Zot _ _ p2 q2 zo zo) (Zo4 _ _ z1 zd' zo h2) (Zo4 _ _ z2 zd' zo h2) (Zo3 _ _ _ _ (j:=80*j+80) (ha.1.mono zo) (ha.2.mono zo) ((z1.div zd').mono zo) ((z2.div zd').mono zo) zo)
attribute [go_sem] byRq underlying49 zProb
attribute [local go_sem] Zvw Zy3
def RQ.two (q:RQ):Bool:=decide (q.l.length≤2) && (decide (q.d.length≤2) && q.ok)
def Zxr (qs:List RQ):Bool:=decide (qs.length≤12) && qs.all RQ.two
theorem rhMild (qs:List RQ) {k:Nat} (hs:∀q∈qs,q.lm k):Pure prog 6 [.sl 3 (qs.map RQ.av)] (.v (.bool (Zxr qs))):=by
 have hlm:(qs.map RQ.av).length=qs.length:=Zzg ..;have hg:∀i (h:i < qs.length),(qs.map RQ.av).getD i .u=qs[i].av:=λi h=>Zaj RQ.av h;unfold Zxr;by_cases hl:qs.length≤12
 ·rw [Zzf hl,ZA9];have hq:∀i (h:i < qs.length),(qs[i].l.length≤2∧qs[i].d.length≤2)→Pure prog 21 [.agg [.v (.bool qs[i].s),lim qs[i].l,lim qs[i].d]] (.v (.bool qs[i].ok)):=λi h h4=>by
   have h1:=hs _ (Zzt h);exact Zwt _ _ _ h1.1 h1.2.1 zo zo
  have hno:∀i (h:i < qs.length),qs[i].two=false→qs.all RQ.two=false:=λi h e=>by
   rw [List.all_eq_false];exact⟨qs[i],Zzt h,by rw [e];simp⟩
  have hyes:(∀i (h:i < qs.length),qs[i].two=true)→qs.all RQ.two=true:=λe=>by
   rw [ZBy];intro x hx;obtain⟨j,hj,rfl⟩:=List.mem_iff_getElem.1 hx;exact e j hj
  generalize qs.all RQ.two=v at *;generalize qs.map RQ.av=M at *;refine pI func6 rfl ntmps6 results6 call6 ?_;(focus (refine wkap (w_1 hlm) w_t (w_r 0) ?_;(repeat' first|exact w_t|apply w_l);all_goals intros));refine Zab (ι:=Nat) (λi e m=>i≤qs.length∧e 0=.sl 3 M∧e 3=iv i∧∀j (h:j < qs.length),j < i→qs[j].two=true) (λi=>qs.length - i) 0 zr ?_ ?_
  ·rintro i e m ⟨hi,e0,e3,hj⟩
   by_cases hlt:i < qs.length
   ·have hgi:=hg i hlt;have q12:=hq i hlt;have hno:=hno i hlt;have hnx:qs[i].two=true→∀j (h:j < qs.length),j < i+1→qs[j].two=true:=λh j hjj h2=>by
     by_cases e:j=i
     ·subst e;exact h
     ·exact hj j hjj zo
    clear hj hyes hg hq hs;have hfd:qs[i].two=(decide (qs[i].l.length≤2) && (decide (qs[i].d.length≤2) && qs[i].ok)):=rfl;generalize qs[i].two=f at *;generalize hpi:qs[i]=p at *;obtain⟨s1,l1,d1⟩:=p;simp only at *;generalize RQ.ok ⟨s1,l1,d1⟩=o1 at *;by_cases a1:l1.length≤2∧d1.length≤2
    ·have q1:=q12 a1;clear q12;obtain⟨a1,a2⟩:=a1;rw [Zzf a1,Zzf a2] at hfd
     cases o1 with
     | false =>
       rw [hno (by rw [hfd];rfl)];clear hno hnx hfd;(focus (refine wklp (w_5 e0 e3 hlm hgi @Zax) (w_1 q1) w_t (w_r 0) ?_;(repeat' first|exact w_t|apply w_l);all_goals intros))
     | true =>
       have:=hnx (by rw [hfd];rfl);clear hno hnx hfd;(focus (refine wkap (w_5 e0 e3 hlm hgi @Zax) (w_1 q1) (w_r 0) ?_;(repeat' first|exact w_t|apply w_l);all_goals intros));exact⟨i+1,⟨zo,gW e0,gS,this⟩,zo⟩
    ·rw [hno (by rw [hfd];simp only [Bool.and_eq_false_iff,ZBr];omega)];clear hno hnx hfd q12;(focus (refine wkap (w_5 e0 e3 hlm hgi @Zax) w_t (w_r 0) ?_;(repeat' first|exact w_t|apply w_l);all_goals intros));all_goals first|((all_goals (try simp (disch:=omega) only [go_sem,Zzf,Zzd,Zzc,Zzb,Int.reduceAdd,Int.reduceSub,Int.reduceToNat,Zzh]));(all_goals first|done|rfl|(congr 2;first|done|omega|(rw [Zzz];simp only [bool_to_prop,Zzr,ZAa,ZAb,ZAc,ZAd];omega))|skip))|omega
   ·rw [hyes λj h=>hj j h zo];clear hj hyes hno hg hq hs;(focus (refine wklp (w_3 e0 e3 hlm) w_t w_t (w_r 0) ?_;(repeat' first|exact w_t|apply w_l);all_goals intros))
  ·exact⟨Zzp _,gC,gC,λj h h2=>zo⟩
 ·rw [Zzd hl,ZAm];clear hg hs;generalize qs.map RQ.av=M at *;refine pI func6 rfl ntmps6 results6 call6 ?_;(focus (refine wklp (w_1 hlm) w_t w_t (w_r 0) ?_;(repeat' first|exact w_t|apply w_l);all_goals intros))
def vaS (vs:List Vt) (V:List Rat) (P:List PQ):Nat→List Rat × Nat × Nat
 | 0=>([],0,0)
 | v+1 =>
   let r:=vaS vs V P v
   let t:=vs.getD v (0,0,0)
   if t.1=1 then (r.1++[V.getD r.2.1 0],r.2.1+1,0)
   else if r.2.2=0∨t.2.1≠(vs.getD (v - 1) (0,0,0)).2.1 then (r.1++[(P.getD t.2.1.toNat (0,0)).1],r.2.1,1)
   else (r.1++[(P.getD t.2.1.toNat (0,0)).2],r.2.1,0)
theorem Zvk (vs:List Vt) (V:List Rat) (P:List PQ):∀v,(vaS vs V P v).1.length=v
 | 0=>rfl
 | v+1=>by
   have h:=Zvk vs V P v;unfold vaS;simp only;split
   ·rw [Zz0,h];rfl
   ·split
    ·rw [Zz0,h];rfl
    ·rw [Zz0,h];rfl
theorem Zsd (vs:List Vt) (V:List Rat) (P:List PQ):∀v,(vaS vs V P v).2.1≤v∧(vaS vs V P v).2.2≤1∧((vaS vs V P v).2.2=1→1≤v)
 | 0=>⟨Zze _,Zzp _,λh=>by cases h⟩
 | v+1=>by
   have h:=Zsd vs V P v;unfold vaS;simp only;split
   ·simp only;omega
   ·split
    ·simp only;omega
    ·simp only;omega
theorem Zwp (ss:List RS) (gs:List RG) (cs:List (Po × Po)) (vs:List Vt) (V:List Rat) (B:List AV) (P:List PQ) (hv:vs.length≤70) (hn:V.length=(Zet vs vs.length).length) (hP:P.length=ss.length) (hp8:P.length≤1000)
 (hu:∀v,v < vs.length→(vs.getD v (0,0,0)).1=1→(vaS vs V P v).2.1 < V.length) (hst:∀v,v < vs.length→∃j:Nat,(vs.getD v (0,0,0)).2.1=(j:Int)∧j < P.length) :
 Pure prog 11 [.agg [.sl 6 (ss.map RS.av),.sl 5 (gs.map RG.av),.sl 2 (cs.map coA),.sl 3 (vs.map Vt.av),.v (.slice none 0 0),.v (.slice none 0 0),.v (.slice none 0 0)],.agg [.sl 3 (V.map ratQ),.sl 1 B,.sl 6 (P.map PQ.av)]] (.tup [.sl 3 ((vaS vs V P vs.length).1.map ratQ),iv 0]):=by
 have cp:Pure prog 39 [.agg [.sl 2 (cs.map coA),.sl 3 (vs.map Vt.av)]] (.sl 1 ((Zet vs vs.length).map iv)):=Zsy cs vs hv;have lM:(ss.map RS.av).length=ss.length:=Zzg ..;have lv:(vs.map Vt.av).length=vs.length:=Zzg ..;have lV:(V.map ratQ).length=V.length:=Zzg ..;have lP:(P.map PQ.av).length=P.length:=Zzg ..;have lp:((Zet vs vs.length).map iv).length=V.length:=by rw [Zzg,hn]
 have hgv:∀i,i < vs.length→(vs.map Vt.av).getD i .u=Vt.av (vs.getD i (0,0,0)):=λi h=>by rw [Zaj Vt.av h,Zzo,Zzn h];rfl
 have hgV:∀i,i < V.length→(V.map ratQ).getD i .u=ratQ (V.getD i 0):=λi h=>by rw [Zaj ratQ h,Zzo,Zzn h];rfl
 have hgP:∀i,i < P.length→(P.map PQ.av).getD i .u=PQ.av (P.getD i (0,0)):=λi h=>by rw [Zaj PQ.av h,Zzo,Zzn h];rfl
 have hlr:=Zvk vs V P;have hlu:=Zsd vs V P;have hnx:∀v,vaS vs V P (v+1)=(if (vs.getD v (0,0,0)).1=1 then ((vaS vs V P v).1++[V.getD (vaS vs V P v).2.1 0],(vaS vs V P v).2.1+1,0) else if (vaS vs V P v).2.2=0∨(vs.getD v (0,0,0)).2.1≠(vs.getD (v - 1) (0,0,0)).2.1 then ((vaS vs V P v).1++[(P.getD (vs.getD v (0,0,0)).2.1.toNat (0,0)).1],(vaS vs V P v).2.1,1) else ((vaS vs V P v).1++[(P.getD (vs.getD v (0,0,0)).2.1.toNat (0,0)).2],(vaS vs V P v).2.1,0)):=λv=>rfl;have h0:vaS vs V P 0=([],0,0):=rfl;generalize vaS vs V P=S at *;generalize ss.map RS.av=M at *;generalize gs.map RG.av=N at *;generalize cs.map coA=C at *
 generalize hVs:vs.map Vt.av=VS at *;generalize V.map ratQ=VV at *;generalize P.map PQ.av=PP at *;generalize (Zet vs vs.length).map iv=pp at *;clear hVs hn;refine pI func11 rfl ntmps11 results11 call11 ?_;(focus (refine wkad (w_6 lM lv lV lP lp hP) (w_1 cp) (w_1 (w_d 1 [(5,.sl 1 pp)] [] [])) ?_;(repeat' first|exact w_t|apply w_l);all_goals intros));rename_i g2 g3;refine Zf5 (Frz.nilOwn (d:=6) 37 3 59 (gC)) ?_;refine Zab (ι:=Nat) (λv e m=>v≤vs.length∧e 2=.pbox 2 g2 0∧e 3=.pbox 3 g3 0∧m 2=some (.box g2 49 [.sl 6 M,.sl 5 N,.sl 2 C,.sl 3 VS,.v (.slice none 0 0),.v (.slice none 0 0),.v (.slice none 0 0)] false)∧m 3=some (.box g3 33 [.sl 3 VV,.sl 1 B,.sl 6 PP] false)∧e 9=iv v∧e 7=iv (S v).2.1∧e 8=iv (S v).2.2∧∃sv,e 6=.own 37 sv∧m 37=some (.row sv 59 3 ((S v).1.map ratQ) 0)) (λv=>vs.length - v) 0 zr ?_ ?_
 ·rintro v e m ⟨hi,e2,e3,m2,m3,e9,e7,e8,sv,e6,m6⟩
  have hlo:=hlr v;have hlq:=hlu v;have hrm:((S v).1.map ratQ).length=v:=by rw [Zzg,hlo]
  by_cases hlt:v < vs.length
  ·have hg:=hgv v hlt;have hg1:=hgv (v - 1) zo;have hnv:=hnx v;have huv:=hu v hlt;have hgu:=λh=>hgV (S v).2.1 (huv h);obtain⟨j,hj,hjl⟩:=hst v hlt;have hgj:=hgP j hjl;rw [hj] at hnv;rw [ZAo] at hnv;clear hu hst hnx h0 hlr hlu hgv hgV hgP;generalize vs.getD v (0,0,0)=t at *;generalize vs.getD (v - 1) (0,0,0)=t' at *;obtain⟨t1,t2,t3⟩:=t;obtain⟨t4,t5,t6⟩:=t';simp only at *;subst hj;generalize P.getD j (0,0)=q at *;obtain⟨q1,q2⟩:=q;generalize hS1:S (v+1)=R' at *;generalize hS:S v=R at *;obtain⟨r1,r2,r3⟩:=R;simp only at *;by_cases h1:t1=1
   ·have hgu:=hgu h1;have hul:=huv h1;generalize V.getD r2 0=w at *;rw [Zzc h1] at hnv;clear huv;(focus (refine wkad (w_16 e2 e3 m2 m3 e9 e7 e8 e6 m6 lv lV lP hg h1 hgu hrm) w_t w_t ?_;(repeat' first|exact w_t|apply w_l);all_goals intros));refine⟨v+1,⟨zo,gW e2,gW e3,gW m2,gW m3,gS,by rw [hS1,hnv];exact gS,by rw [hS1,hnv];exact gC,_,gW e6,?_⟩,zo⟩;rw [hS1,hnv,Zzw];exact gC
   ·rw [Zzb h1] at hnv;clear huv hgu;by_cases h2:r3=0
    ·subst h2;rw [Zzc (.inl rfl)] at hnv;(focus (refine wkad (w_16 e2 e3 m2 m3 e9 e7 e8 e6 m6 lv lV lP hg h1 hgj hrm) w_t (w_1 (w_d 12 [] [12] [10])) ?_;(repeat' first|exact w_t|apply w_l);all_goals intros));refine⟨v+1,⟨zo,gW e2,gW e3,gW m2,gW m3,gS,by rw [hS1,hnv];exact gW e7,by rw [hS1,hnv];exact gC,_,gW e6,?_⟩,zo⟩;rw [hS1,hnv,Zzw];exact gC
    ·have h3:r3=1:=zo;subst h3;have hv1:((v:Int) - 1)=((v - 1:Nat):Int):=zo;by_cases h4:(j:Int)=t5
     ·subst h4;rw [Zzb zs] at hnv;(focus (refine wkad (w_18 e2 e3 m2 m3 e9 e7 e8 e6 m6 lv lV lP hg hg1 h1 hv1 hgj hrm) w_t (w_1 (w_d 12 [] [12] [10])) ?_;(repeat' first|exact w_t|apply w_l);all_goals intros));refine⟨v+1,⟨zo,gW e2,gW e3,gW m2,gW m3,gS,by rw [hS1,hnv];exact gW e7,by rw [hS1,hnv];exact gC,_,gW e6,?_⟩,zo⟩;rw [hS1,hnv,Zzw];exact gC
     ·rw [Zzc (.inr h4)] at hnv;(focus (refine wkad (w_19 e2 e3 m2 m3 e9 e7 e8 e6 m6 lv lV lP hg hg1 h1 h4 hv1 hgj hrm) w_t (w_1 (w_d 12 [] [12] [10])) ?_;(repeat' first|exact w_t|apply w_l);all_goals intros));refine⟨v+1,⟨zo,gW e2,gW e3,gW m2,gW m3,gS,by rw [hS1,hnv];exact gW e7,by rw [hS1,hnv];exact gC,_,gW e6,?_⟩,zo⟩;rw [hS1,hnv,Zzw];exact gC
  ·obtain rfl:v=vs.length:=zo;clear hu hst hnx h0 hlr hlu hgv hgV hgP;(focus (refine wkad (w_13 e2 e3 m2 m3 e9 e7 e8 e6 m6 lv lV lP hrm) w_t w_t ?_;(repeat' first|exact w_t|apply w_l);all_goals intros));simp (disch:=omega) only [go_sem,m6,hrm]
 ·refine⟨Zzp _,gC,gC,gC,gC,gC,by rw [h0];exact gC,by rw [h0];exact gC,_,gC,?_⟩;rw [h0];exact gC
theorem lwMade (ss:List RS) (gs:List RG) (P:List PQ) (i:Nat) (hi:i < ss.length) (hP:P.length=ss.length) (hl:ss.length≤1000) (x:PQ) (hx:P.getD i (0,0)=x)
 (hal:(ss[i].ar.length:Int)=arS ss[i].k) (hai:∀k,k < ss[i].ar.length→0≤gI ss[i].ar k∧gI ss[i].ar k < (ss.length:Int))
 (c7:∀a b c:Nat,ss[i].k=7→ss[i].ar=[(a:Int),(b:Int),(c:Int)]→Pure prog 33 [(P.getD a (0,0)).av,(P.getD b (0,0)).av,(P.getD c (0,0)).av] (.tup [x.av,iv 0]))
 (c8:∀a b c:Nat,ss[i].k=8→ss[i].ar=[(a:Int),(b:Int),(c:Int)]→Pure prog 34 [(P.getD a (0,0)).av,(P.getD b (0,0)).av,(P.getD c (0,0)).av] (.tup [x.av,iv 0]))
 (c9:∀a b c d:Nat,ss[i].k=9→ss[i].ar=[(a:Int),(b:Int),(c:Int),(d:Int)]→Pure prog 35 [(P.getD a (0,0)).av,(P.getD b (0,0)).av,(P.getD c (0,0)).av,(P.getD d (0,0)).av] (.tup [x.av,iv 0]))
 (c10:∀a b c:Nat,ss[i].k=10→ss[i].ar=[(a:Int),(b:Int),(c:Int)]→Pure prog 36 [(P.getD a (0,0)).av,(P.getD b (0,0)).av,(P.getD c (0,0)).av] (.tup [x.av,iv 0]))
 (c11:∀a b c:Nat,ss[i].k=11→ss[i].ar=[(a:Int),(b:Int),(c:Int)]→Pure prog 37 [(P.getD a (0,0)).av,(P.getD b (0,0)).av,(P.getD c (0,0)).av] (.tup [x.av,iv 0]))
 (e1:Pure prog 38 [ratQ x.1,ratQ x.1] (.v (.bool true))) (e2:Pure prog 38 [ratQ x.2,ratQ x.2] (.v (.bool true))) :
 Pure prog 10 [figA ss gs,.sl 6 (P.map PQ.av),iv i] (.v (.bool true)):=by
 have lM:(ss.map RS.av).length=ss.length:=Zzg ..;have lP:(P.map PQ.av).length=ss.length:=by rw [Zzg,hP]
 have hg:(ss.map RS.av).getD i .u=ss[i].av:=Zaj RS.av hi;have hgP:∀j,j < ss.length→(P.map PQ.av).getD j .u=PQ.av (P.getD j (0,0)):=λj h=>by rw [Zaj PQ.av zo,Zzo,Zzn zo];rfl
 have hgx:=hgP i hi;rw [hx] at hgx;show Pure _ _ [.agg [.sl 6 (ss.map RS.av),.sl 5 (gs.map RG.av)],.sl 6 (P.map PQ.av),iv i] _;generalize ss.map RS.av=M at *;generalize gs.map RG.av=N at *;generalize P.map PQ.av=PP at *;generalize hs:ss[i]=s at *;obtain⟨k,nm,ar,⟨rs,rl,rd⟩⟩:=s;obtain⟨x1,x2⟩:=x;simp only at *;clear hx hs;by_cases k7:k=7
 ·subst k7;obtain⟨a,b,c,rfl,ha,hb,hc⟩:=ar3 (by simpa [arS] using hal) hai;have cc:=c7 a b c rfl rfl;have ga:=hgP a ha;have gb:=hgP b hb;have gc:=hgP c hc;clear c7 c8 c9 c10 c11 hgP hal hai;generalize P.getD a (0,0)=pa at *;obtain⟨a1,a2⟩:=pa;generalize P.getD b (0,0)=pb at *;obtain⟨b1,b2⟩:=pb;generalize P.getD c (0,0)=pc at *;obtain⟨c1,c2⟩:=pc;have hg:M.getD i .u=.agg [iv 7,strA nm,.sl 1 [iv (a:Int),iv (b:Int),iv (c:Int)],.v (.bool rs),lim rl,lim rd]:=hg;refine pI func10 rfl ntmps10 results10 call10 ?_;(focus (refine wkad (w_11 lM lP hg hgx ga gb gc hi ha hb hc) (w_3 cc e1 e2) (w_2 (w_d 5 [(18,.tup [ptQ x1 x2,iv 0])] [] [8]) (w_d 14 [(10,.v (.bool true)),(20,.v (.bool true))] [] [])) ?_;(repeat' first|exact w_t|apply w_l);all_goals intros))
  all_goals exact gL
 by_cases k8:k=8
 ·subst k8;obtain⟨a,b,c,rfl,ha,hb,hc⟩:=ar3 (by simpa [arS] using hal) hai;have cc:=c8 a b c rfl rfl;have ga:=hgP a ha;have gb:=hgP b hb;have gc:=hgP c hc;clear c7 c8 c9 c10 c11 hgP hal hai;generalize P.getD a (0,0)=pa at *;obtain⟨a1,a2⟩:=pa;generalize P.getD b (0,0)=pb at *;obtain⟨b1,b2⟩:=pb;generalize P.getD c (0,0)=pc at *;obtain⟨c1,c2⟩:=pc;have hg:M.getD i .u=.agg [iv 8,strA nm,.sl 1 [iv (a:Int),iv (b:Int),iv (c:Int)],.v (.bool rs),lim rl,lim rd]:=hg;refine pI func10 rfl ntmps10 results10 call10 ?_;(focus (refine wkad (w_11 lM lP hg hgx ga gb gc hi ha hb hc) (w_3 cc e1 e2) (w_2 (w_d 7 [(18,.tup [ptQ x1 x2,iv 0])] [] [8]) (w_d 14 [(10,.v (.bool true)),(20,.v (.bool true))] [] [])) ?_;(repeat' first|exact w_t|apply w_l);all_goals intros))
  all_goals exact gL
 by_cases k9:k=9
 ·subst k9;obtain⟨a,b,c,d,rfl,ha,hb,hc,hd⟩:=ar4 (by simpa [arS] using hal) hai;have cc:=c9 a b c d rfl rfl;have ga:=hgP a ha;have gb:=hgP b hb;have gc:=hgP c hc;have gd:=hgP d hd;clear c7 c8 c9 c10 c11 hgP hal hai;generalize P.getD a (0,0)=pa at *;obtain⟨a1,a2⟩:=pa;generalize P.getD b (0,0)=pb at *;obtain⟨b1,b2⟩:=pb;generalize P.getD c (0,0)=pc at *;obtain⟨c1,c2⟩:=pc;generalize P.getD d (0,0)=pd at *;obtain⟨d1,d2⟩:=pd;have hg:M.getD i .u=.agg [iv 9,strA nm,.sl 1 [iv (a:Int),iv (b:Int),iv (c:Int),iv (d:Int)],.v (.bool rs),lim rl,lim rd]:=hg;refine pI func10 rfl ntmps10 results10 call10 ?_
  (focus (refine wkad (w_13 lM lP hg hgx ga gb gc gd hi ha hb hc hd) (w_3 cc e1 e2) (w_2 (w_d 9 [(24,.tup [ptQ x1 x2,iv 0])] [] [8]) (w_d 14 [(10,.v (.bool true)),(20,.v (.bool true))] [] [])) ?_;(repeat' first|exact w_t|apply w_l);all_goals intros));all_goals exact gL
 by_cases k10:k=10
 ·subst k10;obtain⟨a,b,c,rfl,ha,hb,hc⟩:=ar3 (by simpa [arS] using hal) hai;have cc:=c10 a b c rfl rfl;have ga:=hgP a ha;have gb:=hgP b hb;have gc:=hgP c hc;clear c7 c8 c9 c10 c11 hgP hal hai;generalize P.getD a (0,0)=pa at *;obtain⟨a1,a2⟩:=pa;generalize P.getD b (0,0)=pb at *;obtain⟨b1,b2⟩:=pb;generalize P.getD c (0,0)=pc at *;obtain⟨c1,c2⟩:=pc;have hg:M.getD i .u=.agg [iv 10,strA nm,.sl 1 [iv (a:Int),iv (b:Int),iv (c:Int)],.v (.bool rs),lim rl,lim rd]:=hg;refine pI func10 rfl ntmps10 results10 call10 ?_;(focus (refine wkad (w_11 lM lP hg hgx ga gb gc hi ha hb hc) (w_3 cc e1 e2) (w_2 (w_d 11 [(18,.tup [ptQ x1 x2,iv 0])] [] [8]) (w_d 14 [(10,.v (.bool true)),(20,.v (.bool true))] [] [])) ?_;(repeat' first|exact w_t|apply w_l);all_goals intros))
  all_goals exact gL
 by_cases k11:k=11
 ·subst k11;obtain⟨a,b,c,rfl,ha,hb,hc⟩:=ar3 (by simpa [arS] using hal) hai;have cc:=c11 a b c rfl rfl;have ga:=hgP a ha;have gb:=hgP b hb;have gc:=hgP c hc;clear c7 c8 c9 c10 c11 hgP hal hai;generalize P.getD a (0,0)=pa at *;obtain⟨a1,a2⟩:=pa;generalize P.getD b (0,0)=pb at *;obtain⟨b1,b2⟩:=pb;generalize P.getD c (0,0)=pc at *;obtain⟨c1,c2⟩:=pc;have hg:M.getD i .u=.agg [iv 11,strA nm,.sl 1 [iv (a:Int),iv (b:Int),iv (c:Int)],.v (.bool rs),lim rl,lim rd]:=hg;refine pI func10 rfl ntmps10 results10 call10 ?_;(focus (refine wkad (w_11 lM lP hg hgx ga gb gc hi ha hb hc) (w_3 cc e1 e2) (w_2 (w_d 13 [(18,.tup [ptQ x1 x2,iv 0])] [] [8]) (w_d 14 [(10,.v (.bool true)),(20,.v (.bool true))] [] [])) ?_;(repeat' first|exact w_t|apply w_l);all_goals intros))
  all_goals exact gL
 clear c7 c8 c9 c10 c11 hgP hal hai;refine pI func10 rfl ntmps10 results10 call10 ?_;(focus (refine wkad (w_10 lM lP hg hgx hi k7 k8 k9 k10 k11) (w_2 e1 e2) (w_1 (w_d 14 [(10,.v (.bool true)),(20,.v (.bool true))] [] [])) ?_;(repeat' first|exact w_t|apply w_l);all_goals intros));all_goals exact gL
end Go.Proofs.YtenfejhaohihoaaGreat
namespace Go.Proofs.YtenfejhaohihoaaGreat
open Go Go.RowKit Go.Pg Go.Pol Go.Proofs.Tryz
def NX (p:Po) (D n b e v:Nat):Prop:=NE p (D ^ n) (65536 ^ b) e v
theorem NX.mono {p:Po} {D n b e v m c f:Nat} (h:NX p D n b e v) (hn:n≤m) (hb:b≤c) (he:e≤f):NX p D m c f v:=NE.mono h (Nat.pow_dvd_pow D hn) (ZAt zd hb) he (Zze _)
theorem NX.nil {D n b e v:Nat}:NX [] D n b e v:=NE.nil
theorem NX.add {p q:Po} {D n b e v m c f:Nat} (h:NX p D n b e v) (g:NX q D m c f v):NX (addM p q) D (max n m) (max b c+1) (max e f) v:=by
 have h1:=h.mono (Nat.le_max_left n m) (Nat.le_max_left b c) (Zze e);have g1:=g.mono (Nat.le_max_right n m) (Nat.le_max_right b c) (Zze f);refine NE.mono (NE.add h1 g1) (ZB1 _) ?_ (Zze _) (Zze _);rw [ZAp];generalize 65536 ^ max b c=x;omega
theorem NX.sub {p q:Po} {D n b e v m c f:Nat} (h:NX p D n b e v) (g:NX q D m c f v):NX (subM p q) D (max n m) (max b c+1) (max e f) v:=h.add (q:=Zas (-1) q) (NE.neg g)
theorem NX.mul {p q:Po} {D n b e v m c f:Nat} (h:NX p D n b e v) (g:NX q D m c f v):NX (mlM p q) D (n+m) (b+c) (e+f) v:=by
 have:=NE.mul h g;rw [←ZAw,←ZAw] at this;exact this
theorem n1_len {B:Nat}:∀p:Po,(∀t∈p,cl t.1≤B)→n1 p≤p.length*B
 | [],_=>Zzp _
 | t :: p,h=>by
   have h1:=n1_len p λu hu=>h u (.tail _ hu);have h2:=h t (.head _);rw [Za7,Zzq,ZC1];omega
theorem gp_nx {n D v V:Nat} {p:Po} (h:GP n D v p) (hl:p.length≤8) (hn:n≤8) (hv:v≤V):NX p D 1 25 1 V:=by
 have hB:BB n≤65536 ^ 24:=ZAt zd zo;refine⟨h.1,λt ht=>by rw [Nat.pow_one];exact(h.2 t ht).1.1,?_,λt ht=>⟨Zzi (h.2 t ht).2.1 hv,(h.2 t ht).2.2⟩⟩;have h1:=n1_len (B:=BB n) p λt ht=>cl_le.2 (h.2 t ht).1.2;have h2:p.length*BB n≤8*65536 ^ 24:=ZBz hl hB;exact Zzi h1 (Zzi h2 zd)
theorem one_nx {D n v:Nat}:NX oneM D n 1 0 v:=by
 refine⟨Zf7.s,λt ht=>?_,by decide,λt ht=>?_⟩
 ·rw [ZAs] at ht;subst ht;exact Nat.one_dvd _
 ·rw [ZAs] at ht;subst ht;exact⟨Zzp _,λj=>by rw [Zb9 (Zzp _)];omega⟩
theorem var_nx {D n v w:Nat} (h:w < v):NX (varM w) D n 1 1 v:=by
 refine⟨Zb1 w,λt ht=>?_,?_,λt ht=>?_⟩
 ·unfold varM at ht;split at ht
  ·rw [ZAs] at ht;subst ht;exact Nat.one_dvd _
  ·cases ht
 ·unfold varM;split
  ·show cl 1+0≤65536 ^ 1;decide
  ·exact Zzp _
 ·unfold varM at ht;split at ht
  ·rw [ZAs] at ht;subst ht;refine⟨by show(Zc5 w).length≤v;rw [Zeq];omega,λj=>?_⟩;show gI (Zc5 w) j≤_;rw [Zez];split<;>omega
  ·cases ht
structure CX (c:Pt) (D v:Nat):Prop where
 x:NX c.1 D 1 25 1 v
 y:NX c.2 D 1 25 1 v
section
variable {a b c d x:Pt} {t:Po} {D v:Nat}
theorem CX.df (h:CX a D v) (g:CX b D v):NX (subM b.1 a.1) D 1 26 1 v∧NX (subM b.2 a.2) D 1 26 1 v:=⟨(g.x.sub h.x).mono zo zo zo,(g.y.sub h.y).mono zo zo zo⟩
theorem CX.cross (ha:CX a D v) (hb:CX b D v) (hc:CX c D v) (hd:CX d D v):NX (Zb0 a b c d) D 2 53 2 v :=
 (((ha.df hb).1.mul (hc.df hd).2).sub ((ha.df hb).2.mul (hc.df hd).1)).mono zo zo zo
theorem CX.dot (ha:CX a D v) (hb:CX b D v) (hc:CX c D v) (hd:CX d D v):NX (dotM a b c d) D 2 53 2 v :=
 (((ha.df hb).1.mul (hc.df hd).1).add ((ha.df hb).2.mul (hc.df hd).2)).mono zo zo zo
theorem slope_nx (ht:NX t D 1 1 1 v):NX (Zfm t) D 2 3 2 v:=(one_nx.add (ht.mul ht) (n:=0)).mono zo zo zo
theorem eqs_nx {k:Int} (ha:CX a D v) (hb:CX b D v) (hc:CX c D v) (hd:CX d D v) (hx:CX x D v) (ht:NX t D 1 1 1 v):∀p∈eqsM k a b c d x t,NX p D 3 90 3 v:=by
 have cr:∀{a b c d:Pt},CX a D v→CX b D v→CX c D v→CX d D v→NX (Zb0 a b c d) D 3 90 3 v:=λh1 h2 h3 h4=>(h1.cross h2 h3 h4).mono zo zo zo;have dt:∀{a b c d:Pt},CX a D v→CX b D v→CX c D v→CX d D v→NX (dotM a b c d) D 3 90 3 v:=λh1 h2 h3 h4=>(h1.dot h2 h3 h4).mono zo zo zo;have df:∀{a b c d:Pt},CX a D v→CX b D v→CX c D v→CX d D v→NX (Zeb a b c d) D 3 90 3 v:=λh1 h2 h3 h4=>((h1.dot h2 h1 h2).sub (h3.dot h4 h3 h4)).mono zo zo zo;have two:∀{p q:Po},NX p D 3 90 3 v→NX q D 3 90 3 v→∀u∈[p,q],NX u D 3 90 3 v:=λh1 h2 u hu=>by
  rcases List.mem_cons.1 hu with rfl | hu
  ·exact h1
  ·rw [ZAs] at hu;subst hu;exact h2
 unfold eqsM;split
 ·unfold Zll;obtain⟨x1,y1⟩:=hb.df ha;obtain⟨x2,y2⟩:=hb.df hx;have zt:NX (mlM t (subM a.2 b.2)) D 2 27 2 v:=ht.mul y1;have zd:NX (addM (subM a.1 b.1) (mlM t (subM a.2 b.2))) D 2 28 2 v:=(x1.add zt).mono zo zo zo;have zs:NX (dblM (addM (subM a.1 b.1) (mlM t (subM a.2 b.2)))) D 2 29 2 v:=(zd.add zd).mono zo zo zo;have zl:=slope_nx ht;exact two (((zl.mul x2).sub zs).mono zo zo zo) (((zl.mul y2).sub (ht.mul zs)).mono zo zo zo)
 ·split
  ·exact two (cr hb hc hb hx) (dt hb hc ha hx)
  ·split
   ·exact two (dt hb hc ha hx) (((hb.cross hc hb ha).add (hb.cross hc hb hx)).mono zo zo zo)
   ·split
    ·exact two (cr ha hb ha hx) (cr hc hd hc hx)
    ·split
     ·unfold Zf6;obtain⟨w1,w2⟩:=ha.df hx;obtain⟨u1,u2⟩:=ha.df hb;have zn:=ha.dot hb ha hb;have zs:NX (dblM (dotM a c a b)) D 2 54 2 v:=((ha.dot hc ha hb).add (ha.dot hc ha hb)).mono zo zo zo;exact two (((zn.mul w1).sub (zs.mul u1)).mono zo zo zo) (((zn.mul w2).sub (zs.mul u2)).mono zo zo zo)
     ·split
      ·exact two (df ha hx hb hx) (df ha hx hc hx)
      ·split
       ·exact two (cr ha hb ha hx) (df hc hx hc hd)
       ·split
        ·exact two (df ha hx ha hb) (df hc hx hc hd)
        ·split
         ·exact two (df ha hx ha hb) (df hb hx ha hb)
         ·exact λu hu=>by cases hu
end
structure SP (c:Pt):Prop where
 x:SrtM c.1
 y:SrtM c.2
theorem CX.sp {c:Pt} {D v:Nat} (h:CX c D v):SP c:=⟨h.x.s,h.y.s⟩
section
variable {a b c d x:Pt} {t:Po} (X:Nat→Rat)
theorem Zhz (ha:SP a) (hb:SP b) (hc:SP c) (hd:SP d):evP X (Zb0 a b c d)=crV (ptV X a) (ptV X b) (ptV X c) (ptV X d):=by
 have s1:=Za2 hb.x ha.x;have s2:=Za2 hb.y ha.y;have s3:=Za2 hd.x hc.x;have s4:=Za2 hd.y hc.y;unfold Zb0 crV;rw [Zbc X (Zam ordM mulK s1 s4) (Zam ordM mulK s2 s3),Zdr X s1 s4,Zdr X s2 s3,Zbc X hb.x ha.x,Zbc X hb.y ha.y,Zbc X hd.x hc.x,Zbc X hd.y hc.y]
theorem Zmm (ha:SP a) (hb:SP b) (hc:SP c) (hd:SP d):evP X (dotM a b c d)=doV (ptV X a) (ptV X b) (ptV X c) (ptV X d):=by
 have s1:=Za2 hb.x ha.x;have s2:=Za2 hb.y ha.y;have s3:=Za2 hd.x hc.x;have s4:=Za2 hd.y hc.y;unfold dotM doV;rw [Zds X (Zam ordM mulK s1 s3) (Zam ordM mulK s2 s4),Zdr X s1 s3,Zdr X s2 s4,Zbc X hb.x ha.x,Zbc X hb.y ha.y,Zbc X hd.x hc.x,Zbc X hd.y hc.y]
theorem Zoi (ha:SP a) (hb:SP b) (hc:SP c) (hd:SP d):SrtM (Zb0 a b c d):=Za2 (Zam ordM mulK (Za2 hb.x ha.x) (Za2 hd.y hc.y)) (Zam ordM mulK (Za2 hb.y ha.y) (Za2 hd.x hc.x))
theorem Zmy (ha:SP a) (hb:SP b) (hc:SP c) (hd:SP d):SrtM (dotM a b c d):=Za4 ordM (Zam ordM mulK (Za2 hb.x ha.x) (Za2 hd.x hc.x)) (Zam ordM mulK (Za2 hb.y ha.y) (Za2 hd.y hc.y))
theorem Zlh (ha:SP a) (hb:SP b) (hc:SP c) (hd:SP d):evP X (Zeb a b c d)=doV (ptV X a) (ptV X b) (ptV X a) (ptV X b) - doV (ptV X c) (ptV X d) (ptV X c) (ptV X d):=by
 unfold Zeb;rw [Zbc X (Zmy ha hb ha hb) (Zmy hc hd hc hd),Zmm X ha hb ha hb,Zmm X hc hd hc hd]
theorem ev_slope (ht:SrtM t):evP X (Zfm t)=1+evP X t*evP X t:=by
 unfold Zfm;rw [Zds X Zf7.s (Zam ordM mulK ht ht),Zdr X ht ht];rw [show evP X oneM=1 from by show 1*mvN X [] 0+0=1;rw [show mvN X [] 0=1 from rfl];grind]
theorem eqs_ev {k:Int} (h14:k≠14) (ha:SP a) (hb:SP b) (hc:SP c) (hd:SP d) (hx:SP x) (ht:SrtM t):(eqsM k a b c d x t).map (evP X)=eqsV k (ptV X a) (ptV X b) (ptV X c) (ptV X d) (ptV X x) (evP X t):=by
 unfold eqsM eqsV;by_cases k6:k=6
 ·rw [Zzc k6,Zzc k6];have s1:=Za2 ha.x hb.x;have s2:=Za2 ha.y hb.y;have s3:=Za2 hx.x hb.x;have s4:=Za2 hx.y hb.y;have sl:SrtM (Zfm t):=Za4 ordM Zf7.s (Zam ordM mulK ht ht);have s5:=Zam ordM mulK ht s2;have s6:SrtM (addM (subM a.1 b.1) (mlM t (subM a.2 b.2))):=Za4 ordM s1 s5;have s7:SrtM (dblM (addM (subM a.1 b.1) (mlM t (subM a.2 b.2)))):=Za4 ordM s6 s6
  have e7:evP X (dblM (addM (subM a.1 b.1) (mlM t (subM a.2 b.2))))=(((ptV X a).1 - (ptV X b).1)+evP X t*((ptV X a).2 - (ptV X b).2))+(((ptV X a).1 - (ptV X b).1)+evP X t*((ptV X a).2 - (ptV X b).2)):=by
   unfold dblM;rw [Zds X s6 s6,Zds X s1 s5,Zdr X ht s2,Zbc X ha.x hb.x,Zbc X ha.y hb.y]
  unfold Zll;simp only [Zz3,Zz1];rw [Zbc X (Zam ordM mulK sl s3) s7,Zbc X (Zam ordM mulK sl s4) (Zam ordM mulK ht s7),Zdr X sl s3,Zdr X sl s4,Zdr X ht s7,e7,ev_slope X ht,Zbc X hx.x hb.x,Zbc X hx.y hb.y]
 rw [Zzb k6,Zzb k6];by_cases k7:k=7
 ·rw [Zzc k7,Zzc k7];simp only [Zz3,Zz1,Zhz X hb hc hb hx,Zmm X hb hc ha hx]
 rw [Zzb k7,Zzb k7];by_cases k8:k=8
 ·rw [Zzc k8,Zzc k8];simp only [Zz3,Zz1,Zhz X hb hc hb hx,Zhz X hb hc hb ha,Zmm X hb hc ha hx,Zds X (Zoi hb hc hb ha) (Zoi hb hc hb hx)]
 rw [Zzb k8,Zzb k8];by_cases k9:k=9
 ·rw [Zzc k9,Zzc k9];simp only [Zz3,Zz1,Zhz X ha hb ha hx,Zhz X hc hd hc hx]
 rw [Zzb k9,Zzb k9];by_cases k10:k=10
 ·rw [Zzc k10,Zzc k10];have s1:=Za2 hx.x ha.x;have s2:=Za2 hx.y ha.y;have s3:=Za2 hb.x ha.x;have s4:=Za2 hb.y ha.y;have s5:=Zmy ha hb ha hb;have s6:=Zmy ha hc ha hb;have s7:SrtM (dblM (dotM a c a b)):=Za4 ordM s6 s6
  have e7:evP X (dblM (dotM a c a b))=doV (ptV X a) (ptV X c) (ptV X a) (ptV X b)+doV (ptV X a) (ptV X c) (ptV X a) (ptV X b):=by
   unfold dblM;rw [Zds X s6 s6,Zmm X ha hc ha hb]
  unfold Zf6;simp only [Zz3,Zz1];rw [Zbc X (Zam ordM mulK s5 s1) (Zam ordM mulK s7 s3),Zbc X (Zam ordM mulK s5 s2) (Zam ordM mulK s7 s4),Zdr X s5 s1,Zdr X s5 s2,Zdr X s7 s3,Zdr X s7 s4,e7,Zmm X ha hb ha hb,Zbc X hx.x ha.x,Zbc X hx.y ha.y,Zbc X hb.x ha.x,Zbc X hb.y ha.y]
 rw [Zzb k10,Zzb k10];by_cases k11:k=11
 ·rw [Zzc k11,Zzc k11];simp only [Zz3,Zz1,Zlh X ha hx hb hx,Zlh X ha hx hc hx]
 rw [Zzb k11,Zzb k11];by_cases k12:k=12
 ·rw [Zzc k12,Zzc k12];simp only [Zz3,Zz1,Zhz X ha hb ha hx,Zlh X hc hx hc hd]
 rw [Zzb k12,Zzb k12];by_cases k13:k=13
 ·rw [Zzc k13,Zzc k13];simp only [Zz3,Zz1,Zlh X ha hx ha hb,Zlh X hc hx hc hd]
 rw [Zzb k13,Zzb k13,Zzb h14];rfl
end
theorem Zyk {k:Int} {a b c d x:PQ} {s t:Rat} (h:k≠6):eqsV k a b c d x s=eqsV k a b c d x t:=by
 unfold eqsV;rw [Zzb h,Zzb h]
structure RunP (ss:List RS) (Vs:List Rat) (u nf:Nat→Nat) (L:List PQ):Prop where
 l8:ss.length≤8
 len:L.length=ss.length
 pt:∀i (h:i < ss.length) (h':i < L.length),PtR ss[i] (argP (L.take i) ss[i]) (Vs.drop (u i)) (nf i) L[i]
 hv:∀i (h':i < L.length),Hv (70*11 ^ (i+1)) L[i]
 vs:∀q∈Vs,Sz q 2
 u0:u 0=0
 hu:∀i (h:i < ss.length),u (i+1)=u i+useN ss[i].k (nf i)
 nf:∀i,i≤ss.length→nf i=(frN ss i).fr
 uV:∀i,i≤ss.length→u i≤Vs.length
theorem Zga {α:Type} {l m:List α} {d:α} {j:Nat} (h:j < l.length):(l++m).getD j d=l.getD j d:=by
 rw [Zzo,Zzo,ZAx h]
theorem Zhw {α:Type} {l m:List α} {d:α} {j:Nat}:(l++m).getD (l.length+j) d=m.getD j d:=by
 rw [Zzo,Zzo,ZAy zo,ZDg]
theorem Zhv {α:Type} {l:List α} {d:α} {i j:Nat}:(l.drop i).getD j d=l.getD (i+j) d:=by
 rw [Zzo,Zzo,ZBp]
theorem sz_get {Vs:List Rat} (h:∀q∈Vs,Sz q 2) (j:Nat):Sz (Vs.getD j 0) 2:=by
 rw [Zzo];rcases Zzy j Vs.length with hj | hj
 ·rw [Zzn hj];exact h _ (Zzt hj)
 ·rw [ZAr hj];exact(Zco 0 zo).mono zo
theorem Zue {k:Int} {n:Nat} {W:List Rat} {x:PQ} {q:Rat} (h:q∈Zd3 k n W x):q=W.getD 0 0∨q=W.getD 1 0∨q=x.1∨q=x.2:=by
 unfold Zd3 at h
 repeat' split at h
 all_goals simp only [ZC2,List.not_mem_nil,or_false] at h
 all_goals (first | exact h.elim | (rcases h with rfl | rfl | rfl<;>simp) | (rcases h with rfl | rfl<;>simp) | (subst h;simp))
theorem Zuf (k:Int) (n:Nat) (W:List Rat) (x:PQ):(Zd3 k n W x).length≤3:=by
 unfold Zd3
 repeat' split
 all_goals simp
theorem va_szs {ss:List RS} {Vs:List Rat} {u nf:Nat→Nat} {L:List PQ} (R:RunP ss Vs u nf L):∀i,i≤ss.length→∃s:Nat→Nat,(∀j,j < (vaL ss Vs u nf L i).length→Sz ((vaL ss Vs u nf L i).getD j 0) (s j))∧10*sumN s (vaL ss Vs u nf L i).length≤14*11 ^ (i+1)
 | 0,_=>⟨λ_=>0,λj h=>absurd h (Nat.not_lt_zero _),by show 10*0≤_;omega⟩
 | i+1,hi=>by
   obtain⟨s,h1,h2⟩:=va_szs R i zo;have hx:=hv_sz (R.hv i (by have:=R.len;omega));have hgx:L.getD i (0,0)=L[i]'(by have:=R.len;omega):=by rw [Zzo,Zzn (by have:=R.len;omega)];rfl
   rw [←hgx] at hx;have hm:=λq=>Zue (k:=(ss.getD i ⟨0,.empty,[],⟨false,[],[]⟩⟩).k) (n:=nf i) (W:=Vs.drop (u i)) (x:=L.getD i (0,0)) (q:=q);have hln:=Zuf (ss.getD i ⟨0,.empty,[],⟨false,[],[]⟩⟩).k (nf i) (Vs.drop (u i)) (L.getD i (0,0));have hmem:∀q∈Zd3 (ss.getD i ⟨0,.empty,[],⟨false,[],[]⟩⟩).k (nf i) (Vs.drop (u i)) (L.getD i (0,0)),Sz q (70*11 ^ (i+1)/16+2):=λq hq=>by
    rcases hm q hq with rfl | rfl | rfl | rfl
    ·rw [Zhv];exact(sz_get R.vs _).mono zo
    ·rw [Zhv];exact(sz_get R.vs _).mono zo
    ·exact hx.1.mono zo
    ·exact hx.2.mono zo
   unfold vaL;generalize Zd3 (ss.getD i ⟨0,.empty,[],⟨false,[],[]⟩⟩).k (nf i) (Vs.drop (u i)) (L.getD i (0,0))=T at *;generalize vaL ss Vs u nf L i=A at *;generalize hc:70*11 ^ (i+1)/16+2=c at *;refine⟨λj=>if j < A.length then s j else c,λj hj=>?_,?_⟩
   ·rw [Zz0] at hj;rcases Zzy j A.length with h | h
    ·rw [Zga h];show Sz _ (if j < A.length then s j else c);rw [Zzc h];exact h1 j h
    ·show Sz _ (if j < A.length then s j else c);rw [Zzb zo,show j=A.length+(j - A.length) by omega,Zhw];exact hmem _ (Zay zo)
   ·rw [Zz0];have e1:=Zl3 (s:=λj=>if j < A.length then s j else c) (r:=s) A.length λj hj=>Zzc hj;have e2:=Zl2 (s:=λj=>if j < A.length then s j else c) (c:=c) A.length T.length λj h3 h4=>by show(if j < A.length then s j else c)≤c;rw [Zzb zo];exact Zze _
    have e3:T.length*c≤3*c:=Zz7 _ hln;have e4:11 ^ (i+1+1)=11*11 ^ (i+1):=by rw [ZAp 11 (i+1),Zz9]
    have e5:11≤11 ^ (i+1):=by
     rw [ZAp];have:=Nat.one_le_pow i 11 zd;omega
    rw [e4];generalize 11 ^ (i+1)=z at *;omega
section
variable {vs:List Vt} {V:List Rat} {P:List PQ} {v:Nat}
theorem Zvl {A:List Rat} {U:Nat} {t:Int × Int} (h:vaS vs V P v=(A,U,0)) (g:vs.getD v (0,0,0)=(1,t)):vaS vs V P (v+1)=(A++[V.getD U 0],U+1,0):=by
 unfold vaS;simp only [h,g,ZAj]
theorem vaS_2 {A:List Rat} {U i:Nat} {y z:Int} (h:vaS vs V P v=(A,U,0)) (g:vs.getD v (0,0,0)=(2,(i:Int),y)) (g':vs.getD (v+1) (0,0,0)=(2,(i:Int),z)):vaS vs V P (v+2)=(A++[(P.getD i (0,0)).1,(P.getD i (0,0)).2],U,0):=by
 have h1:vaS vs V P (v+1)=(A++[(P.getD i (0,0)).1],U,1):=by
  unfold vaS;simp only [h,g];rw [Zzb zd,Zzc (Or.inl trivial),ZAo]
 show vaS vs V P (v+1+1)=_
 conv=>lhs;unfold vaS
 simp only [h1,g',ZDa,g];rw [Zzb zd,Zzb zs,ZAo,ZAk];rfl
end
theorem Zxc (f:FS) (i:Nat) (s:RS):(f.nxt i s).1=(if s.k=1 then (if f.fr=0 then [] else if f.fr=1 then [(1,(i:Int),0)] else [(1,(i:Int),0),(1,(i:Int),1)]) else if s.k=2∨s.k=3∨s.k=4 then [] else if s.k=5 then [(1,(i:Int),0)] else if s.k=6 then [(1,(i:Int),0),(2,(i:Int),1),(2,(i:Int),2)] else [(2,(i:Int),0),(2,(i:Int),1)]):=by
 unfold FS.nxt;simp only;by_cases h1:s.k=1
 ·rw [Zzc h1,Zzc h1];split
  ·rfl
  ·split<;>rfl
 ·rw [Zzb h1,Zzb h1];by_cases h2:s.k=2
  ·rw [Zzc h2,Zzc (.inl h2)]
  ·rw [Zzb h2];by_cases h3:s.k=3
   ·rw [Zzc h3,Zzc (.inr (.inl h3))]
   ·rw [Zzb h3];by_cases h4:s.k=4
    ·rw [Zzc h4,Zzc (.inr (.inr h4))]
    ·rw [Zzb h4,Zzb (show ¬(s.k=2∨s.k=3∨s.k=4) from λh=>h.elim h2 λh=>h.elim h3 h4)];by_cases h5:s.k=5
     ·rw [Zzc h5,Zzc h5]
     ·rw [Zzb h5,Zzb h5];by_cases h6:s.k=6
      ·rw [Zzc h6,Zzc h6]
      ·rw [Zzb h6,Zzb h6]
theorem Zsc {ss:List RS} {i:Nat} (hi:i < ss.length):∃l,(frN ss ss.length).vs=(frN ss i).vs++(((frN ss i).nxt i ss[i]).1++l):=by
 obtain⟨l,hl⟩:=Zvi ss (i+1) (ss.length - (i+1));rw [show i+1+(ss.length - (i+1))=ss.length by omega,Zea hi] at hl;exact⟨l,by rw [hl,ZAk]⟩
theorem vs_at {ss:List RS} {i:Nat} (hi:i < ss.length) {m:Nat} (hm:m < ((frN ss i).nxt i ss[i]).1.length):(frN ss ss.length).vs.getD ((frN ss i).vs.length+m) (0,0,0)=((frN ss i).nxt i ss[i]).1.getD m (0,0,0):=by
 obtain⟨l,hl⟩:=Zsc hi;rw [hl,Zhw,Zga hm]
theorem va_S {ss:List RS} {Vs:List Rat} {u nf:Nat→Nat} {L:List PQ} (r0:u 0=0) (ru:∀i (h:i < ss.length),u (i+1)=u i+useN ss[i].k (nf i)) (rn:∀i,i≤ss.length→nf i=(frN ss i).fr):∀i,i≤ss.length→vaS (frN ss ss.length).vs Vs L (frN ss i).vs.length=(vaL ss Vs u nf L i,u i,0)
 | 0,_=>by rw [r0];rfl
 | i+1,hi=>by
   have hlt:i < ss.length:=zo;have ih:=va_S (Vs:=Vs) (L:=L) r0 ru rn i zo;have hf:=rn i zo;have hu:=ru i hlt;have hn:=λm=>vs_at (m:=m) hlt;have hgs:ss.getD i ⟨0,.empty,[],⟨false,[],[]⟩⟩=ss[i]:=by rw [Zzo,Zzn hlt];rfl
   have hd0:(Vs.drop (u i)).getD 0 0=Vs.getD (u i) 0:=by rw [Zhv];rfl
   have hd1:(Vs.drop (u i)).getD 1 0=Vs.getD (u i+1) 0:=Zhv;have hlen:(frN ss (i+1)).vs.length=(frN ss i).vs.length+((frN ss i).nxt i ss[i]).1.length:=by rw [Zea hlt];exact Zz0
   show _=(vaL ss Vs u nf L i++Zd3 (ss.getD i ⟨0,.empty,[],⟨false,[],[]⟩⟩).k (nf i) (Vs.drop (u i)) (L.getD i (0,0)),u (i+1),0);rw [hgs,hu,hlen];rw [Zxc,←hf] at hn ⊢;unfold Zd3 useN;rw [hd0,hd1];clear hlen hgs hu hf hd0 hd1;generalize ss[i].k=k at *;generalize nf i=n at *;generalize u i=U at *;generalize vaL ss Vs u nf L i=A at *;generalize (frN ss i).vs.length=b at *;generalize (frN ss ss.length).vs=Z at *;by_cases h1:k=1
   ·simp only [Zzc h1] at hn ⊢;by_cases n0:n=0
    ·subst n0;simp only [ZAj,ZA6,Zzs,ZAh,Nat.zero_min];exact ih
    ·simp only [Zzb n0] at hn ⊢;by_cases n1:n=1
     ·simp only [Zzc n1] at hn ⊢;rw [n1];exact Zvl ih (hn 0 zs)
     ·simp only [Zzb n1] at hn ⊢;rw [show min n 2=2 by omega];have h2:=Zvl (Zvl ih (hn 0 zs)) (hn 1 zs);rw [ZAk] at h2;exact h2
   ·simp only [Zzb h1] at hn ⊢;by_cases h2:k=2∨k=3∨k=4
    ·simp only [Zzc h2,ZA6,Zzs,ZAh];rw [Zzb zo];exact ih
    ·simp only [Zzb h2] at hn ⊢;by_cases h5:k=5
     ·simp only [Zzc h5] at hn ⊢;rw [Zzc (.inl h5)];exact Zvl ih (hn 0 zs)
     ·simp only [Zzb h5] at hn ⊢;by_cases h6:k=6
      ·simp only [Zzc h6] at hn ⊢;rw [Zzc (.inr h6)];have h7:=vaS_2 (Zvl ih (hn 0 zs)) (hn 1 zs) (hn 2 zs);rw [ZAk] at h7;exact h7
      ·simp only [Zzb h6] at hn ⊢;rw [Zzb zo];exact vaS_2 ih (hn 0 zs) (hn 1 zs)
def vaX (ss:List RS) (Vs:List Rat) (u nf:Nat→Nat) (L:List PQ) (j:Nat):Rat:=(vaL ss Vs u nf L ss.length).getD j 0
theorem vaX_at {ss:List RS} {Vs:List Rat} {u nf:Nat→Nat} {L:List PQ} (R:RunP ss Vs u nf L) {i:Nat} (hi:i < ss.length) {m:Nat} (hm:m < (Zd3 ss[i].k (nf i) (Vs.drop (u i)) (L.getD i (0,0))).length):vaX ss Vs u nf L ((frN ss i).vs.length+m)=(Zd3 ss[i].k (nf i) (Vs.drop (u i)) (L.getD i (0,0))).getD m 0:=by
 have hgs:ss.getD i ⟨0,.empty,[],⟨false,[],[]⟩⟩=ss[i]:=by rw [Zzo,Zzn hi];rfl
 obtain⟨l,hl⟩:=Zvm (ss:=ss) (Vs:=Vs) (u:=u) (nf:=nf) (L:=L) (i+1) (ss.length - (i+1));rw [show i+1+(ss.length - (i+1))=ss.length by omega] at hl;unfold vaX;rw [hl,←Zqn R.nf i zo];show((vaL ss Vs u nf L i++Zd3 (ss.getD i ⟨0,.empty,[],⟨false,[],[]⟩⟩).k (nf i) (Vs.drop (u i)) (L.getD i (0,0)))++l).getD _ 0=_;rw [hgs,ZAk,Zhw,Zga hm]
theorem Zyi {vs:List Vt} {i:Int} {w:Nat}:∀{n:Nat},fstN vs i n=some w→(vs.getD w (0,0,0)).2.1=i∧∀j,j < w→(vs.getD j (0,0,0)).2.1≠i
 | 0,h=>by cases h
 | n+1,h=>by
   unfold fstN at h;split at h
   ·rename_i v hv;injection h with h
    subst h;exact Zyi hv
   ·rename_i hn;split at h
    ·rename_i hx;injection h with h
     subst h;exact⟨hx,λj hj=>Zr0 hn j hj⟩
    ·cases h
theorem circ_at {ss:List RS} {i:Nat} (hi:i < ss.length) (hk:ss[i].k=6):parM (frN ss ss.length).vs i=varM (frN ss i).vs.length:=by
 obtain⟨w,hw,hwl⟩:=Ztz hi hk;rw [Zo9 hw];obtain⟨h1,h2⟩:=Zyi hw;have h3:=vs_at (m:=0) hi (by rw [Zxc,hk];simp);rw [Zxc,hk] at h3;have h3:(frN ss ss.length).vs.getD (frN ss i).vs.length (0,0,0)=(1,(i:Int),0):=h3;rcases Nat.lt_trichotomy w (frN ss i).vs.length with h | h | h
 ·exfalso;obtain⟨l,hl⟩:=Zsc hi;rw [hl,Zga h] at h1;have:=vs_lt ss i _ (Zay (d:=((0,0,0):Vt)) h);omega
 ·rw [h]
 ·exact absurd (by rw [h3]) (h2 _ h)
theorem Zy7 {P:List PQ} {s:RS} {k:Nat} (h:k < s.ar.length):(argP P s).getD k (0,0)=P.getD (gI s.ar k).toNat (0,0):=by
 unfold argP;rw [Zzo,ZA3,Zzn h,Ze5 h];rfl
theorem Zso {P:List PQ} {i j:Nat} (h:j < i):(P.take i).getD j (0,0)=P.getD j (0,0):=by
 rw [Zzo,Zzo,List.getElem?_take_of_lt h]
theorem va_pt {ss:List RS} {Vs:List Rat} {u nf:Nat→Nat} {L:List PQ} (R:RunP ss Vs u nf L) (ok:FigOk ss) (hb:∀j,j < ss.length→bigN ss j=false):∀i,i < ss.length→ptV (vaX ss Vs u nf L) ((frN ss ss.length).cs.getD i ([],[]))=L.getD i (0,0):=by
 intro i
 induction i using Nat.strongRecOn with
 | ind i ih =>
   intro hi;have so:=ok.st hi;have hal:=so.al;have hai:=so.ai;rw [Zcm] at hai;obtain⟨Di,hDi,-⟩:=ok.fi (i:=i) (Nat.le_of_lt hi) (λj hj=>hb j zo);have hgx:L.getD i (0,0)=L[i]'(by have:=R.len;omega):=by rw [Zzo,Zzn (by have:=R.len;omega)];rfl
   have hp:=R.pt i hi (by have:=R.len;omega);rw [←hgx] at hp
   have hv64:(frN ss i).vs.length+(Zd3 ss[i].k (nf i) (Vs.drop (u i)) (L.getD i (0,0))).length≤64:=by
    have h1:=hb i hi;rw [Zlq hi] at h1;simp only [ZCb,ZBr] at h1;have h2:=h1.1.1;rw [Zz0,Zxb _ _ _ (Vs.drop (u i)) (L.getD i (0,0)),←R.nf i zo] at h2;omega
   have hX:=λm=>vaX_at (m:=m) R hi;have hfi:∀k,k < ss[i].ar.length→ptV (vaX ss Vs u nf L) ((frN ss i).at ss[i] k)=(argP (L.take i) ss[i]).getD k (0,0):=λk hk=>by
    have h1:=hai k hk;rw [Zy7 hk,Zso zo];unfold FS.at;rw [←cs_at (Nat.le_of_lt hi) zo];exact ih _ zo zo
   have hs:∀k,SrtM ((frN ss i).at ss[i] k).1∧SrtM ((frN ss i).at ss[i] k).2:=λk=>⟨(hDi.at ss[i] k).1.1.1,(hDi.at ss[i] k).1.2.1⟩;rw [cs_nxt hi];have hf:=R.nf i zo
   have hsv:(frN ss i).vs.length < 64∨ss[i].k≠5:=by
    by_cases h5:ss[i].k=5
    ·left;rw [h5] at hv64;have:(Zd3 5 (nf i) (Vs.drop (u i)) (L.getD i (0,0))).length=1:=rfl;omega
    ·exact .inr h5
   obtain⟨n2,n3,n4,n5⟩:=nxt_val (vaX ss Vs u nf L) (frN ss i) i ss[i] hs hsv;generalize L.getD i (0,0)=x at *;generalize vaX ss Vs u nf L=X at *;generalize argP (L.take i) ss[i]=A at *;clear ih hgx so hDi hs hsv;generalize hS:ss[i]=s at *;unfold PtR at hp;have ev0:evP X []=0:=rfl;by_cases k1:s.k=1
   ·rw [Zzc k1] at hp;unfold FS.nxt;simp only;rw [Zzc k1,←hf];rw [k1] at hX hv64;unfold Zd3 at hX hv64;rw [Zzc rfl] at hX hv64;by_cases m0:nf i=0
    ·rw [Zzc m0] at hp ⊢;rw [hp];rfl
    ·rw [Zzb m0] at hp hX hv64 ⊢;by_cases m1:nf i=1
     ·rw [Zzc m1] at hp hX hv64 ⊢;have h0:=hX 0 zs;simp only [Zzq,Zzs] at hv64;rw [hp];show(evP X (varM (frN ss i).vs.length),evP X [])=_;rw [Zgt X zo,ev0];exact Prod.ext h0 rfl
     ·rw [Zzb m1] at hp hX hv64 ⊢;have h0:=hX 0 zs;have h1:=hX 1 zs;simp only [Zzq,Zzs] at hv64;rw [hp];show(evP X (varM (frN ss i).vs.length),evP X (varM ((frN ss i).vs.length+1)))=_;rw [Zgt X zo,Zgt X zo];exact Prod.ext h0 h1
   rw [Zzb k1] at hp;have hp:=hp.1;unfold StR at hp;by_cases k2:s.k=2
   ·rw [n2 k2,hfi 0 (by rw [k2] at hal;have:arS 2=2:=rfl;omega),hfi 1 (by rw [k2] at hal;have:arS 2=2:=rfl;omega)];rw [Zzc (.inl k2),Zzc k2] at hp;exact hp.symm
   by_cases k5:s.k=5
   ·rw [n5 k5,hfi 0 (by rw [k5] at hal;have:arS 5=2:=rfl;omega),hfi 1 (by rw [k5] at hal;have:arS 5=2:=rfl;omega)];rw [Zzc (.inr k5),Zzb k2] at hp;have h0:=hX 0 (by rw [k5];exact Nat.zero_lt_one);rw [k5] at h0;have h0:X (frN ss i).vs.length=(Vs.drop (u i)).getD 0 0:=h0;rw [h0];exact hp.symm
   rw [Zzb (λh=>h.elim k2 k5)] at hp;by_cases k3:s.k=3
   ·rw [n3 k3,hfi 0 (by rw [k3] at hal;have:arS 3=3:=rfl;omega),hfi 1 (by rw [k3] at hal;have:arS 3=3:=rfl;omega),hfi 2 (by rw [k3] at hal;have:arS 3=3:=rfl;omega)];rw [Zzc k3] at hp;unfold Zjt;rw [ZBf,ZBf];exact hp.symm
   rw [Zzb k3] at hp;by_cases k4:s.k=4
   ·rw [n4 k4,hfi 0 (by rw [k4] at hal;have:arS 4=3:=rfl;omega),hfi 1 (by rw [k4] at hal;have:arS 4=3:=rfl;omega),hfi 2 (by rw [k4] at hal;have:arS 4=3:=rfl;omega)];rw [Zzc k4] at hp;rw [hp];unfold Zod;rw [ZBf,ZBf];exact Prod.ext (by simp only;grind) rfl
   clear hp n2 n3 n4 n5;unfold FS.nxt;simp only;rw [Zzb k1,Zzb k2,Zzb k3,Zzb k4,Zzb k5];unfold Zd3 at hX hv64;rw [Zzb k1,Zzb (λh=>h.elim k2 λh=>h.elim k3 k4),Zzb k5] at hX hv64;by_cases k6:s.k=6
   ·rw [Zzc k6] at hX hv64 ⊢;have h0:=hX 1 zs;have h1:=hX 2 zs;simp only [Zzq,Zzs] at hv64;show(evP X (varM ((frN ss i).vs.length+1)),evP X (varM ((frN ss i).vs.length+2)))=_;rw [Zgt X zo,Zgt X zo];exact Prod.ext h0 h1
   ·rw [Zzb k6] at hX hv64 ⊢;have h0:=hX 0 zs;have h1:=hX 1 zs;simp only [Zzq,Zzs] at hv64;show(evP X (varM (frN ss i).vs.length),evP X (varM ((frN ss i).vs.length+1)))=_;rw [Zgt X zo,Zgt X zo];exact Prod.ext h0 h1
def PT (Q:List Int→Prop) (p:Po):Prop:=∀t∈p,Q t.2
section
variable {Q R S:List Int→Prop} {p q:Po}
theorem PT.mono (h:PT Q p) (k:∀m,Q m→R m):PT R p:=λt ht=>k _ (h t ht)
theorem PT.nil:PT Q []:=λt ht=>by cases ht
theorem PT.add (h:PT Q p) (g:PT Q q):PT Q (addM p q):=λt ht=>by
 rcases Znk ht with h1 | h1
 ·obtain⟨u,hu,e⟩:=List.mem_map.1 h1;rw [←e];exact h u hu
 ·obtain⟨u,hu,e⟩:=List.mem_map.1 h1;rw [←e];exact g u hu
theorem PT.neg (h:PT Q p):PT Q (Zas (-1) p):=λt ht=>by
 obtain⟨u,hu,rfl⟩:=List.mem_map.1 ht;exact h u hu
theorem PT.sub (h:PT Q p) (g:PT Q q):PT Q (subM p q):=h.add g.neg
theorem PT.scl (h:PT Q p) (a:Rat):PT Q (sclM a p):=λt ht=>by
 obtain⟨u,hu,e⟩:=List.mem_map.1 (Zxs ht);rw [←e];exact h u hu
theorem PT.mul (h:PT Q p) (g:PT R q) (k:∀a b,Q a→R b→S (mulM a b)):PT S (mlM p q):=by
 have key:∀(q out:Po),PT R q→PT S out→PT S (q.foldl (λout t=>addP ltM out (Zah mulM p t)) out):=by
  intro q
  induction q with
  | nil=>exact λout _ h2=>h2
  | cons t q ih =>
    intro out h1 h2;rw [ZDu];refine ih _ (λu hu=>h1 u (.tail _ hu)) (PT.add h2 λu hu=>?_);obtain⟨s,hs,rfl⟩:=List.mem_map.1 hu;exact k _ _ (h s hs) (h1 t (.head _))
 exact key q [] g PT.nil
end
structure MT (c:Nat→Nat) (n u τ:Nat) (a b w:Int) (m:List Int):Prop where
 t:∀j,c j=1→gI m j≤(τ:Int)
 z:∀j,j≠u→c j=0→gI m j=0
 u:gI m u=w
 a:dgS (λj=>decide (c j=2)) m n=a
 b:dgS (λj=>decide (c j=3)) m n=b
theorem MT.mul {c:Nat→Nat} {n u τ σ:Nat} {a b w a' b' w':Int} {m l:List Int} (h:MT c n u τ a b w m) (g:MT c n u σ a' b' w' l):MT c n u (τ+σ) (a+a') (b+b') (w+w') (mulM m l):=by
 have e:∀j,gI (mulM m l) j=gI m j+gI l j:=λj=>Zft _ rfl m l j;refine⟨λj hj=>?_,λj hu hj=>?_,?_,?_,?_⟩
 ·rw [e];have:=h.t j hj;have:=g.t j hj;omega
 ·rw [e,h.z j hu hj,g.z j hu hj];rfl
 ·rw [e,h.u,g.u]
 ·rw [Zjn,h.a,g.a]
 ·rw [Zjn,h.b,g.b]
def mons (τ:Nat) (c:Nat→Nat):Nat→Nat→Nat→List (List Int)
 | 0,a,b=>if a=0∧b=0 then [[]] else []
 | n+1,a,b =>
   if c n=1 then (List.range (τ+1)).flatMap λe:Nat=>(mons τ c n a b).map (·++[(e:Int)])
   else if c n=2 then (List.range (a+1)).flatMap λe:Nat=>(mons τ c n (a - e) b).map (·++[(e:Int)])
   else if c n=3 then (List.range (b+1)).flatMap λe:Nat=>(mons τ c n a (b - e)).map (·++[(e:Int)])
   else (mons τ c n a b).map (·++[0])
theorem Zyo {S:Nat→Bool} {m:List Int} (h:∀j,0≤gI m j):∀n,0≤dgS S m n
 | 0=>Int.le_refl _
 | n+1=>by
   have h1:=Zyo (S:=S) h n;have h2:=h n;show 0≤dgS S m n+_;split<;>omega
theorem Ztl {τ:Nat} {c:Nat→Nat} {m:List Int} (h0:∀j,0≤gI m j) (h3:∀j,c j≤3):∀n a b:Nat,(∀j,j < n→c j=1→gI m j≤(τ:Int))→(∀j,j < n→c j=0→gI m j=0)→dgS (λj=>decide (c j=2)) m n=(a:Int)→dgS (λj=>decide (c j=3)) m n=(b:Int)→(List.range n).map (gI m)∈mons τ c n a b
 | 0,a,b,_,_,ha,hb=>by
   have ha:(0:Int)=a:=ha;have hb:(0:Int)=b:=hb;unfold mons;rw [Zzc ⟨zo,zo⟩];exact List.mem_singleton.2 rfl
 | n+1,a,b,ht,hz,ha,hb=>by
   have ih:=λa b=>Ztl h0 h3 n a b (λj hj=>ht j zo) (λj hj=>hz j zo);have ha:dgS (λj=>decide (c j=2)) m n+(if decide (c n=2)=true then gI m n else 0)=(a:Int):=ha;have hb:dgS (λj=>decide (c j=3)) m n+(if decide (c n=3)=true then gI m n else 0)=(b:Int):=hb;have n2:=Zyo (S:=λj=>decide (c j=2)) h0 n;have n3:=Zyo (S:=λj=>decide (c j=3)) h0 n;have hn:=h0 n;have hcn:=h3 n;rw [List.range_succ,Zzw];unfold mons;by_cases c1:c n=1
   ·rw [Zzc c1];rw [Zzb (by simp [c1])] at ha hb;have:=ht n zo c1;refine List.mem_flatMap.2 ⟨(gI m n).toNat,List.mem_range.2 zo,List.mem_map.2 ⟨_,ih a b zo zo,?_⟩⟩;rw [ZB0 hn];rfl
   ·rw [Zzb c1];by_cases c2:c n=2
    ·rw [Zzc c2];rw [Zzc (by simp [c2])] at ha;rw [Zzb (by simp [c2])] at hb;refine List.mem_flatMap.2 ⟨(gI m n).toNat,List.mem_range.2 zo,List.mem_map.2 ⟨_,ih (a - (gI m n).toNat) b zo zo,?_⟩⟩;rw [ZB0 hn];rfl
    ·rw [Zzb c2];rw [Zzb (by simp [c2])] at ha;by_cases c3:c n=3
     ·rw [Zzc c3];rw [Zzc (by simp [c3])] at hb;refine List.mem_flatMap.2 ⟨(gI m n).toNat,List.mem_range.2 zo,List.mem_map.2 ⟨_,ih a (b - (gI m n).toNat) zo zo,?_⟩⟩;rw [ZB0 hn];rfl
     ·rw [Zzb c3];rw [Zzb (by simp [c3])] at hb;have hz0:=hz n zo zo;refine List.mem_map.2 ⟨_,ih a b zo zo,?_⟩;simp only [Zz3,Zz1,hz0]
def hN:Nat→Nat→Nat
 | 0,a=>if a=0 then 1 else 0
 | g+1,a=>((List.range (a+1)).map λe=>hN g (a - e)).sum
def cntC (c:Nat→Nat) (k:Nat):Nat→Nat
 | 0=>0
 | n+1=>cntC c k n+if c n=k then 1 else 0
theorem Zoh (x:Nat):∀k,((List.range k).map λ_=>x).sum=k*x
 | 0=>by simp
 | k+1=>by rw [List.range_succ,Zzw,List.sum_append,Zoh x k,ZC1];simp
theorem Zvx (T H:Nat) (f:Nat→Nat) (l:List Nat):(l.map λe=>T*(f e*H)).sum=T*((l.map f).sum*H):=by
 induction l with
 | nil=>simp
 | cons e l ih=>rw [Zz3,List.sum_cons,ih,Zz3,List.sum_cons,Zz5,ZAi]
theorem sum_fac' (T H:Nat) (f:Nat→Nat) (l:List Nat):(l.map λe=>T*(H*f e)).sum=T*(H*(l.map f).sum):=by
 have:=Zvx T H f l;rw [Zz9 H,←this];congr 1;exact ZBn λe _=>by rw [Zz9 H]
theorem Ziz (τ:Nat) (c:Nat→Nat):∀n a b,(mons τ c n a b).length=(τ+1) ^ cntC c 1 n*(hN (cntC c 2 n) a*hN (cntC c 3 n) b)
 | 0,a,b=>by
   unfold mons cntC hN;by_cases ha:a=0
   ·by_cases hb:b=0
    ·rw [Zzc ⟨ha,hb⟩,Zzc ha,Zzc hb];simp
    ·rw [Zzb (λh=>hb h.2),Zzb hb];simp
   ·rw [Zzb (λh=>ha h.1),Zzb ha];simp
 | n+1,a,b=>by
   have ih:=Ziz τ c n;unfold mons;show _=(τ+1) ^ (cntC c 1 n+if c n=1 then 1 else 0)*(hN (cntC c 2 n+if c n=2 then 1 else 0) a*hN (cntC c 3 n+if c n=3 then 1 else 0) b);by_cases c1:c n=1
   ·rw [Zzc c1,Zzc c1,Zzb zo,Zzb zo,List.length_flatMap];simp only [Zzg,ih,Zoh,ZAh];rw [ZAp];generalize (τ+1) ^ cntC c 1 n=x;generalize hN (cntC c 2 n) a*hN (cntC c 3 n) b=y;rw [ZCi,ZAu x]
   ·rw [Zzb c1,Zzb c1];by_cases c2:c n=2
    ·rw [Zzc c2,Zzc c2,Zzb zo,List.length_flatMap];simp only [Zzg,ih,ZAh];rw [Zvx ((τ+1) ^ cntC c 1 n) (hN (cntC c 3 n) b) (λe=>hN (cntC c 2 n) (a - e))];rfl
    ·rw [Zzb c2,Zzb c2];by_cases c3:c n=3
     ·rw [Zzc c3,Zzc c3,List.length_flatMap];simp only [Zzg,ih,ZAh];rw [sum_fac' ((τ+1) ^ cntC c 1 n) (hN (cntC c 2 n) a) (λe=>hN (cntC c 3 n) (b - e))];rfl
     ·rw [Zzb c3,Zzb c3,Zzg,ih];rfl
theorem hN_succ (g a:Nat):hN g a≤hN (g+1) a:=by
 show hN g a≤((List.range (a+1)).map λe=>hN g (a - e)).sum;rw [List.range_succ_eq_map,Zz3,List.sum_cons,ZB9];omega
theorem Zu3 {g h:Nat} (a:Nat) (hg:g≤h):hN g a≤hN h a:=by
 obtain⟨d,rfl⟩:=Nat.exists_eq_add_of_le hg;clear hg
 induction d with
 | zero=>exact Zze _
 | succ d ih=>exact Zzi ih (hN_succ _ _)
theorem Zk9 {p:Po} (hs:SrtM p) {c:Nat→Nat} {n u τ σ:Nat} {a b a' b' d e d' e':Nat} (h3:∀j,c j≤3) (hn:∀j,n≤j→c j=0) (hu:n≤u)
 (h:PT (λm=>(MT c n u τ a b 0 m∨MT c n u τ a' b' 0 m)∨MT c n u σ d e 1 m∨MT c n u σ d' e' 1 m) p) :
 p.length≤((mons τ c n a b).length+(mons τ c n a' b').length)+((mons σ c n d e).length+(mons σ c n d' e').length):=by
 have hz:∀t∈p,∀j,j≠u→n≤j→gI t.2 j=0:=λt ht j hj hnj=>by
  rcases h t ht with(k | k) | k | k
  all_goals exact k.z j hj (hn j hnj)
 have nd:(p.map λt=>(List.range n).map (gI t.2)++[gI t.2 u]).Nodup:=by
  rw [List.Nodup,List.pairwise_map];refine List.Pairwise.imp_of_mem ?_ hs.2;intro s t hs' ht' hst heq;obtain⟨e1,e2⟩:=List.append_inj heq zs;have e1:=List.map_inj_left.1 e1;have e2:gI s.2 u=gI t.2 u:=by simpa using e2
  have:s.2=t.2:=Zr9 (hs.1 s hs').2 (hs.1 t ht').2 λj=>by
   by_cases hju:j=u
   ·rw [hju];exact e2
   ·by_cases hj:j < n
    ·exact e1 j (List.mem_range.2 hj)
    ·rw [hz s hs' j hju zo,hz t ht' j hju zo]
  rw [this] at hst;exact ordM.irr _ hst
 have:=Zk4 (p.map λt=>(List.range n).map (gI t.2)++[gI t.2 u]) (((mons τ c n a b).map (·++[0])++(mons τ c n a' b').map (·++[0]))++((mons σ c n d e).map (·++[1])++(mons σ c n d' e').map (·++[1]))) nd λx hx=>by
  obtain⟨t,ht,rfl⟩:=List.mem_map.1 hx;have h0:=(hs.1 t ht).2.1;have key:∀{σ a b:Nat} {w:Int},MT c n u σ a b w t.2→(List.range n).map (gI t.2)∈mons σ c n a b:=λk=>Ztl h0 h3 n _ _ (λj _=>k.t j) (λj hj=>k.z j zo) k.a k.b;rcases h t ht with(k | k) | k | k
  ·exact List.mem_append_left _ (List.mem_append_left _ (List.mem_map.2 ⟨_,key k,by rw [k.u]⟩))
  ·exact List.mem_append_left _ (List.mem_append_right _ (List.mem_map.2 ⟨_,key k,by rw [k.u]⟩))
  ·exact List.mem_append_right _ (List.mem_append_left _ (List.mem_map.2 ⟨_,key k,by rw [k.u]⟩))
  ·exact List.mem_append_right _ (List.mem_append_right _ (List.mem_map.2 ⟨_,key k,by rw [k.u]⟩))
 simp only [Zz0,Zzg] at this;exact this
def newC (k:Int) (fr y:Nat):List Nat :=
 if k=1 then (if fr=0 then [] else if fr=1 then [2] else [2,y]) else if k=2∨k=3∨k=4 then [] else if k=5 then [1] else if k=6 then [0,2,y] else [2,y]
def clN (ss:List RS) (y:Nat):Nat→List Nat
 | 0=>[]
 | i+1=>clN ss y i++newC (ss.getD i ⟨0,.empty,[],⟨false,[],[]⟩⟩).k (frN ss i).fr y
theorem newC_len (f:FS) (i:Nat) (s:RS) (y:Nat):(newC s.k f.fr y).length=(f.nxt i s).1.length:=by
 rw [Zxc];unfold newC
 repeat' split
 all_goals rfl
theorem Znz (ss:List RS) (y:Nat):∀i,(clN ss y i).length=(frN ss i).vs.length
 | 0=>rfl
 | i+1=>by
   show(clN ss y i++newC _ _ y).length=((frN ss i).vs++((frN ss i).nxt i _).1).length;rw [Zz0,Zz0,Znz ss y i,newC_len]
theorem Zr8 (ss:List RS) (y i:Nat):∀d,∃l,clN ss y (i+d)=clN ss y i++l
 | 0=>⟨[],by rw [ZA6];rfl⟩
 | d+1=>by
   obtain⟨l,h⟩:=Zr8 ss y i d;exact⟨l++newC (ss.getD (i+d) ⟨0,.empty,[],⟨false,[],[]⟩⟩).k (frN ss (i+d)).fr y,by show clN ss y (i+d)++_=_;rw [h,ZAk];rfl⟩
theorem clN_at (ss:List RS) (y:Nat) {i n m:Nat} (hi:i < n) (hm:m < (newC (ss.getD i ⟨0,.empty,[],⟨false,[],[]⟩⟩).k (frN ss i).fr y).length):(clN ss y n).getD ((frN ss i).vs.length+m) 0=(newC (ss.getD i ⟨0,.empty,[],⟨false,[],[]⟩⟩).k (frN ss i).fr y).getD m 0:=by
 obtain⟨l,hl⟩:=Zr8 ss y (i+1) (n - (i+1));rw [show i+1+(n - (i+1))=n by omega] at hl;rw [hl,←Znz ss y i];show((clN ss y i++newC _ _ y)++l).getD _ 0=_;rw [ZAk,Zhw,Zga hm]
theorem newC_le (k:Int) (fr:Nat) {y:Nat} (hy:y≤3):∀x∈newC k fr y,x≤3:=by
 intro x hx;unfold newC at hx
 repeat' split at hx
 all_goals simp only [ZC2,List.not_mem_nil,or_false] at hx
 all_goals omega
theorem clN_le (ss:List RS) {y:Nat} (hy:y≤3):∀i,∀x∈clN ss y i,x≤3
 | 0,x,hx=>by cases hx
 | i+1,x,hx=>by
   rcases List.mem_append.1 (show x∈clN ss y i++newC _ _ y from hx) with h | h
   ·exact clN_le ss hy i x h
   ·exact newC_le _ _ hy x h
theorem Zyz (ss:List RS) {y:Nat} (hy:y≤3) (i j:Nat):(clN ss y i).getD j 0≤3:=by
 rcases Zzy j (clN ss y i).length with h | h
 ·exact clN_le ss hy i _ (Zay h)
 ·rw [Zzo,ZAr h];exact Zzp _
theorem Zqd (l:List Nat) (k:Nat):∀n,n≤l.length→cntC (λj=>l.getD j 0) k n=(l.take n).count k
 | 0,_=>by simp [cntC]
 | n+1,h=>by
   show cntC _ k n+_=_;rw [Zqd l k n zo,List.take_add_one,List.count_append,Zzn zo];congr 1;simp only [Zzo,Zzn (show n < l.length by omega),ZA8,Option.toList_some,List.count_singleton];split
   ·rename_i e;simp [e]
   ·rename_i e;simp [e]
theorem Zdj (l:List Nat) (k:Nat):cntC (λj=>l.getD j 0) k l.length=l.count k:=by
 rw [Zqd l k _ (Zze _),ZAe]
def CT (c:Nat→Nat) (n:Nat) (a b:Int) (m:List Int):Prop:=(∀j,c j=0→gI m j=0)∧dgS (λj=>decide (c j=2)) m n=a∧dgS (λj=>decide (c j=3)) m n=b
theorem CT.mul {c:Nat→Nat} {n:Nat} {a b a' b':Int} {m l:List Int} (h:CT c n a b m) (g:CT c n a' b' l):CT c n (a+a') (b+b') (mulM m l):=by
 refine⟨λj hj=>?_,?_,?_⟩
 ·rw [show gI (mulM m l) j=gI m j+gI l j from Zft _ rfl m l j,h.1 j hj,g.1 j hj];rfl
 ·rw [Zjn,h.2.1,g.2.1]
 ·rw [Zjn,h.2.2,g.2.2]
theorem CT.unit {c:Nat→Nat} {n v:Nat} (hv:v < n) (h0:c v≠0):CT c n (if c v=2 then 1 else 0) (if c v=3 then 1 else 0) (Zc5 v):=by
 refine⟨λj hj=>?_,?_,?_⟩
 ·rw [Zez,Zzb (λe=>h0 (by rw [←e];exact hj))]
 ·rw [Zi4];simp [hv]
 ·rw [Zi4];simp [hv]
theorem PT.var {Q:List Int→Prop} {v:Nat} (h:Q (Zc5 v)):PT Q (varM v):=λt ht=>by
 unfold varM at ht;split at ht
 ·rw [ZAs] at ht;subst ht;exact h
 ·cases ht
def yA (y:Nat):Int:=if y=2 then 1 else 0
def yB (y:Nat):Int:=if y=3 then 1 else 0
theorem co_ct {ss:List RS} {n:Nat} (hn:n≤ss.length) {y:Nat} (hy:y=2∨(y=3∧∀i (h:i < ss.length),i < n→ss[i].k≠4)):∀i,i≤n→∀c∈(frN ss i).cs,PT (CT (λj=>(clN ss y n).getD j 0) (clN ss y n).length 1 0) c.1∧PT (CT (λj=>(clN ss y n).getD j 0) (clN ss y n).length (yA y) (yB y)) c.2
 | 0,_,c,hc=>by cases hc
 | i+1,hi,c,hc=>by
   have ih:=co_ct hn hy i zo;have hlt:i < ss.length:=zo;have hgs:ss.getD i ⟨0,.empty,[],⟨false,[],[]⟩⟩=ss[i]:=by rw [Zzo,Zzn hlt];rfl
   have hat:=λm=>clN_at ss y (i:=i) (n:=n) (m:=m) zo
   have hlen:(frN ss i).vs.length+(newC (ss.getD i ⟨0,.empty,[],⟨false,[],[]⟩⟩).k (frN ss i).fr y).length≤(clN ss y n).length:=by
    obtain⟨l,hl⟩:=Zr8 ss y (i+1) (n - (i+1));rw [show i+1+(n - (i+1))=n by omega] at hl;rw [hl,←Znz ss y i];show _≤((clN ss y i++newC _ _ y)++l).length;rw [Zz0,Zz0];omega
   have h4:ss[i].k=4→y=2:=λh=>hy.elim id λh'=>absurd h (h'.2 i hlt zo);have hy':y=2∨y=3:=hy.elim .inl λh=>.inr h.1;rw [hgs] at hat hlen;have hA:∀k,PT (CT (λj=>(clN ss y n).getD j 0) (clN ss y n).length 1 0) ((frN ss i).at ss[i] k).1∧PT (CT (λj=>(clN ss y n).getD j 0) (clN ss y n).length (yA y) (yB y)) ((frN ss i).at ss[i] k).2:=λk=>by
    unfold FS.at;by_cases h:(gI ss[i].ar k).toNat < (frN ss i).cs.length
    ·exact ih _ (Zay h)
    ·rw [Zzo,ZAr zo];exact⟨.nil,.nil⟩
   rw [Zea hlt] at hc;rcases List.mem_append.1 hc with hc | hc
   ·exact ih c hc
   ·rw [ZAs] at hc;subst hc;obtain⟨a1,a2⟩:=hA 0;obtain⟨b1,b2⟩:=hA 1;obtain⟨c1,c2⟩:=hA 2;have vx:∀v,v < (clN ss y n).length→(clN ss y n).getD v 0=2→PT (CT (λj=>(clN ss y n).getD j 0) (clN ss y n).length 1 0) (varM v):=λv h1 h2=>PT.var (by
     have:=CT.unit (c:=λj=>(clN ss y n).getD j 0) h1 (by simp only [h2];decide);simp only [h2] at this;exact this)
    have vy:∀v,v < (clN ss y n).length→(clN ss y n).getD v 0=y→PT (CT (λj=>(clN ss y n).getD j 0) (clN ss y n).length (yA y) (yB y)) (varM v):=λv h1 h2=>PT.var (by
     have:=CT.unit (c:=λj=>(clN ss y n).getD j 0) h1 (by simp only [h2];omega);simp only [h2] at this;exact this)
    unfold newC at hat hlen;unfold FS.nxt;generalize ss[i]=s at *;generalize (frN ss i).fr=fr at *;generalize (frN ss i).vs.length=v at *;generalize (frN ss i).at s=at' at *;simp only;by_cases k1:s.k=1
    ·simp only [Zzc k1] at hat hlen ⊢;by_cases f0:fr=0
     ·simp only [Zzc f0];exact⟨.nil,.nil⟩
     ·simp only [Zzb f0] at hat hlen ⊢;by_cases f1:fr=1
      ·simp only [Zzc f1,Zzq,Zzs] at hat hlen ⊢;exact⟨vx v zo (hat 0 zd),.nil⟩
      ·simp only [Zzb f1,Zzq,Zzs] at hat hlen ⊢;exact⟨vx v zo (hat 0 zd),vy (v+1) zo (hat 1 zd)⟩
    ·simp only [Zzb k1] at hat hlen ⊢;by_cases k2:s.k=2
     ·simp only [Zzc k2];exact⟨a1.add ((b1.sub a1).scl _),a2.add ((b2.sub a2).scl _)⟩
     simp only [Zzb k2];by_cases k3:s.k=3
     ·simp only [Zzc k3];exact⟨a1.add (c1.sub b1),a2.add (c2.sub b2)⟩
     simp only [Zzb k3];by_cases k4:s.k=4
     ·simp only [Zzc k4];obtain rfl:=h4 k4;exact⟨a1.add (b2.sub c2),a2.add (c1.sub b1)⟩
     simp only [Zzb k4];simp only [Zzb (show ¬(s.k=2∨s.k=3∨s.k=4) from λh=>h.elim k2 λh=>h.elim k3 k4)] at hat hlen;by_cases k5:s.k=5
     ·simp only [Zzc k5,Zzq,Zzs] at hat hlen ⊢;have h1:(clN ss y n).getD v 0=1:=hat 0 zd;have vt:PT (CT (λj=>(clN ss y n).getD j 0) (clN ss y n).length 0 0) (varM v):=PT.var (by
       have:=CT.unit (c:=λj=>(clN ss y n).getD j 0) (show v < (clN ss y n).length by omega) (by simp only [h1];decide);simp only [h1] at this;exact this)
      refine⟨a1.add ((b1.sub a1).mul vt λm l hm hl=>?_),a2.add ((b2.sub a2).mul vt λm l hm hl=>?_)⟩
      ·have:=hm.mul hl
       rwa [Int.add_zero,Int.add_zero] at this
      ·have:=hm.mul hl
       rwa [Int.add_zero,Int.add_zero] at this
     simp only [Zzb k5] at hat hlen ⊢;by_cases k6:s.k=6
     ·simp only [Zzc k6,Zzq,Zzs] at hat hlen ⊢;exact⟨vx (v+1) zo (hat 1 zd),vy (v+2) zo (hat 2 zd)⟩
     ·simp only [Zzb k6,Zzq,Zzs] at hat hlen ⊢;exact⟨vx v zo (hat 0 zd),vy (v+1) zo (hat 1 zd)⟩
def lnN (ss:List RS):Nat→Nat
 | 0=>0
 | i+1=>lnN ss i+if (ss.getD i ⟨0,.empty,[],⟨false,[],[]⟩⟩).k=5 then 1 else 0
def tuN (ss:List RS):Nat→Nat
 | 0=>0
 | i+1=>tuN ss i+if (ss.getD i ⟨0,.empty,[],⟨false,[],[]⟩⟩).k=4 then 1 else 0
def geB (k:Int) (fr:Nat):Bool:=!(decide (k=1∧fr=0) || decide (k=2∨k=3∨k=4∨k=5))
def geN (ss:List RS):Nat→Nat
 | 0=>0
 | i+1=>geN ss i+if geB (ss.getD i ⟨0,.empty,[],⟨false,[],[]⟩⟩).k (frN ss i).fr=true then 1 else 0
theorem sum_le {ss:List RS} (h0:0 < ss.length→(ss.getD 0 ⟨0,.empty,[],⟨false,[],[]⟩⟩).k=1):∀i,i < ss.length→geN ss (i+1)+lnN ss (i+1)+tuN ss (i+1)≤i
 | 0,h=>by
   have h1:=h0 h;unfold geN lnN tuN geN lnN tuN geB;rw [h1];have:(frN ss 0).fr=0:=rfl;rw [this];decide
 | i+1,h=>by
   have h1:=sum_le h0 i zo;show(geN ss (i+1)+_)+(lnN ss (i+1)+_)+(tuN ss (i+1)+_)≤i+1;unfold geB;generalize (ss.getD (i+1) ⟨0,.empty,[],⟨false,[],[]⟩⟩).k=k at *;by_cases k5:k=5
   ·rw [Zzb (by simp [k5]),Zzc k5,Zzb zo];omega
   ·rw [Zzb k5];by_cases k4:k=4
    ·rw [Zzb (by simp [k4]),Zzc k4];omega
    ·rw [Zzb k4];split<;>omega
theorem tu_pos {ss:List RS}:∀{n:Nat},tuN ss n=0→∀i,i < n→(ss.getD i ⟨0,.empty,[],⟨false,[],[]⟩⟩).k≠4
 | 0,_,i,h=>zo
 | n+1,h,i,hi=>by
   have h:tuN ss n+(if (ss.getD n ⟨0,.empty,[],⟨false,[],[]⟩⟩).k=4 then 1 else 0)=0:=h;by_cases e:i=n
   ·subst e;intro hk;rw [Zzc hk] at h;omega
   ·exact tu_pos (n:=n) zo i zo
theorem Zty (ss:List RS):∀i,(clN ss 3 i).count 1=lnN ss i∧(clN ss 3 i).count 2≤geN ss i∧(clN ss 3 i).count 3≤geN ss i∧(clN ss 2 i).count 1=lnN ss i∧(clN ss 2 i).count 2≤2*geN ss i∧(clN ss 2 i).count 3=0
 | 0=>⟨rfl,Zze _,Zze _,rfl,Zze _,rfl⟩
 | i+1=>by
   obtain⟨h1,h2,h3,h4,h5,h6⟩:=Zty ss i;have key:∀y,y=2∨y=3→(newC (ss.getD i ⟨0,.empty,[],⟨false,[],[]⟩⟩).k (frN ss i).fr y).count 1=(if (ss.getD i ⟨0,.empty,[],⟨false,[],[]⟩⟩).k=5 then 1 else 0) ∧
    (y=3→(newC (ss.getD i ⟨0,.empty,[],⟨false,[],[]⟩⟩).k (frN ss i).fr y).count 2≤(if geB (ss.getD i ⟨0,.empty,[],⟨false,[],[]⟩⟩).k (frN ss i).fr=true then 1 else 0)∧(newC (ss.getD i ⟨0,.empty,[],⟨false,[],[]⟩⟩).k (frN ss i).fr y).count 3≤(if geB (ss.getD i ⟨0,.empty,[],⟨false,[],[]⟩⟩).k (frN ss i).fr=true then 1 else 0)) ∧
    (y=2→(newC (ss.getD i ⟨0,.empty,[],⟨false,[],[]⟩⟩).k (frN ss i).fr y).count 2≤2*(if geB (ss.getD i ⟨0,.empty,[],⟨false,[],[]⟩⟩).k (frN ss i).fr=true then 1 else 0)∧(newC (ss.getD i ⟨0,.empty,[],⟨false,[],[]⟩⟩).k (frN ss i).fr y).count 3=0):=by
    intro y hy;unfold newC geB;generalize (ss.getD i ⟨0,.empty,[],⟨false,[],[]⟩⟩).k=k;generalize (frN ss i).fr=fr;by_cases k1:k=1
    ·subst k1;by_cases f0:fr=0
     ·subst f0;rcases hy with rfl | rfl<;>decide
     ·by_cases f1:fr=1
      ·subst f1;rcases hy with rfl | rfl<;>decide
      ·have:decide ((1:Int)=1∧fr=0)=false:=by simp [f0]
       rw [this,Zzc rfl,Zzb f0,Zzb f1];rcases hy with rfl | rfl<;>decide
    ·have e1:decide (k=1∧fr=0)=false:=by simp [k1]
     rw [Zzb k1,e1];by_cases k2:k=2∨k=3∨k=4
     ·rcases k2 with rfl | rfl | rfl<;>(rcases hy with rfl | rfl<;>decide)
     ·rw [Zzb k2];by_cases k5:k=5
      ·subst k5;rcases hy with rfl | rfl<;>decide
      ·rw [Zzb k5,Zzb k5];have e2:decide (k=2∨k=3∨k=4∨k=5)=false:=by rw [ZBr];omega
       rw [e2];split<;>(rcases hy with rfl | rfl<;>decide)
   obtain⟨a1,a2,-⟩:=key 3 (.inr rfl);obtain⟨b1,-,b2⟩:=key 2 (.inl rfl);obtain⟨a2,a3⟩:=a2 rfl;obtain⟨b2,b3⟩:=b2 rfl;show(clN ss 3 i++newC _ _ 3).count 1=lnN ss i+_∧(clN ss 3 i++newC _ _ 3).count 2≤geN ss i+_∧(clN ss 3 i++newC _ _ 3).count 3≤geN ss i+_∧(clN ss 2 i++newC _ _ 2).count 1=lnN ss i+_∧(clN ss 2 i++newC _ _ 2).count 2≤2*(geN ss i+_)∧(clN ss 2 i++newC _ _ 2).count 3=0;simp only [List.count_append];omega
theorem num_par:∀g,g < 7→∀l,l < 7→g+l≤6→(4 ^ l*(hN g 3*hN g 0)+4 ^ l*(hN g 1*hN g 2))+(3 ^ l*(hN g 2*hN g 0)+3 ^ l*(hN g 0*hN g 2))≤4000:=by decide +kernel
theorem num_mrg:∀g,g < 6→∀l,l < 6→g+l≤5→(4 ^ l*hN (2*g) 3+4 ^ l*hN (2*g) 3)+(3 ^ l*hN (2*g) 2+3 ^ l*hN (2*g) 2)≤4000:=by decide +kernel
section
variable {c:Nat→Nat} {n:Nat} {ya yb:Int}
structure MC (c:Nat→Nat) (n u:Nat) (ya yb:Int) (p:Pt):Prop where
 x:PT (MT c n u 1 1 0 0) p.1
 y:PT (MT c n u 1 ya yb 0) p.2
variable {u:Nat} {a b o x:Pt}
theorem MC.df (ha:MC c n u ya yb a) (hb:MC c n u ya yb b):PT (MT c n u 1 1 0 0) (subM b.1 a.1)∧PT (MT c n u 1 ya yb 0) (subM b.2 a.2):=⟨hb.x.sub ha.x,hb.y.sub ha.y⟩
theorem MC.dot (ha:MC c n u ya yb a) (hb:MC c n u ya yb b) (ho:MC c n u ya yb o) (hx:MC c n u ya yb x):PT (λm=>MT c n u 2 2 0 0 m∨MT c n u 2 (2*ya) (2*yb) 0 m) (dotM a b o x):=by
 obtain⟨d1,d2⟩:=ha.df hb;obtain⟨e1,e2⟩:=ho.df hx;unfold dotM;refine PT.add (d1.mul e1 λm l hm hl=>.inl (hm.mul hl)) (d2.mul e2 λm l hm hl=>.inr ?_);have:=hm.mul hl;rw [Int.two_mul,Int.two_mul];exact this
theorem Ziu {n1 s1 x1 p1 u1:Po} {ka kb:Int}
 (hn:PT (λm=>MT c n u 2 2 0 0 m∨MT c n u 2 (2*ya) (2*yb) 0 m) n1) (hs:PT (λm=>MT c n u 2 2 0 0 m∨MT c n u 2 (2*ya) (2*yb) 0 m) s1)
 (hx:PT (MT c n u 0 0 0 1) x1) (hp:PT (MT c n u 1 ka kb 0) p1) (hu:PT (MT c n u 1 ka kb 0) u1) :
 PT (λm=>(MT c n u 3 (2+ka) (0+kb) 0 m∨MT c n u 3 (2*ya+ka) (2*yb+kb) 0 m)∨MT c n u 2 2 0 1 m∨MT c n u 2 (2*ya) (2*yb) 1 m) (subM (mlM n1 (subM x1 p1)) (mlM s1 u1)):=by
 refine PT.sub (PT.mul hn (R:=λm=>MT c n u 0 0 0 1 m∨MT c n u 1 ka kb 0 m) (PT.sub (hx.mono λm h=>.inl h) (hp.mono λm h=>.inr h)) λm l hm hl=>?_) (PT.mul hs hu λm l hm hl=>?_)
 ·rcases hm with hm | hm
  ·rcases hl with hl | hl
   ·exact .inr (.inl (by have:=hm.mul hl;simpa only [Int.add_zero,Zzh,ZAh] using this))
   ·exact .inl (.inl (by have:=hm.mul hl;simpa only [Int.add_zero] using this))
  ·rcases hl with hl | hl
   ·exact .inr (.inr (by have:=hm.mul hl;simpa only [Int.add_zero,Zzh,ZAh] using this))
   ·exact .inl (.inr (by have:=hm.mul hl;simpa only [Int.add_zero] using this))
 ·rcases hm with hm | hm
  ·exact .inl (.inl (by have:=hm.mul hl;simpa only [Int.add_zero] using this))
  ·exact .inl (.inr (by have:=hm.mul hl;simpa only [Int.add_zero] using this))
end
theorem MT.new {c:Nat→Nat} {n u:Nat} (hu:c u=0):PT (MT c n u 0 0 0 1) (varM u):=PT.var ⟨λj hj=>by rw [Zez,Zzb (λe=>by rw [e,hu] at hj;cases hj)];exact Int.le_refl _,λj h1 h2=>by rw [Zez,Zzb h1],by rw [Zez,Zzc rfl],by rw [Zi4];simp [hu],by rw [Zi4];simp [hu]⟩
theorem MT.of {c:Nat→Nat} {n u:Nat} {a b:Int} {m:List Int} (h:CT c n a b m) (h1:∀j,gI m j≤1) (hu:c u=0):MT c n u 1 a b 0 m:=⟨λj _=>h1 j,λj _ hj=>h.1 j hj,h.1 u hu,h.2.1,h.2.2⟩
theorem Zjz (ss:List RS) (y i:Nat) {j:Nat} (h:(clN ss y i).length≤j):(clN ss y i).getD j 0=0:=by
 rw [Zzo,ZAr h];rfl
theorem co_mc {ss:List RS} (ok:FigOk ss) (hb:∀j,j < ss.length→bigN ss j=false) {n:Nat} (hn:n≤ss.length) {y:Nat} (hy:y=2∨(y=3∧∀i (h:i < ss.length),i < n→ss[i].k≠4)) {u:Nat} (hu:(clN ss y n).length≤u) {j:Nat} (hj:j < n) :
 MC (λj=>(clN ss y n).getD j 0) (clN ss y n).length u (yA y) (yB y) ((frN ss ss.length).cs.getD j ([],[])):=by
 obtain⟨D,hD,-⟩:=ok.fi hn (λj hj=>hb j zo);rw [cs_at hn hj];have hm:(frN ss n).cs.getD j ([],[])∈(frN ss n).cs:=Zay (by rw [Zcm];exact hj);obtain⟨h1,h2⟩:=co_ct hn hy n (Zze _) _ hm;obtain⟨g1,g2⟩:=hD.cs _ hm;exact⟨λt ht=>MT.of (h1 t ht) (g1.2 t ht).2.2 (Zjz ss y n hu),λt ht=>MT.of (h2 t ht) (g2.2 t ht).2.2 (Zjz ss y n hu)⟩
theorem oth_len {ss:List RS} (ok:FigOk ss) (h8:ss.length≤8) (hb:∀j,j < ss.length→bigN ss j=false) {i:Nat} (hi:i < ss.length) {a b o x:Pt} (ja jb jo:Nat) (ha:a=(frN ss ss.length).cs.getD ja ([],[])) (hbb:b=(frN ss ss.length).cs.getD jb ([],[])) (ho:o=(frN ss ss.length).cs.getD jo ([],[])) (la:ja < i) (lb:jb < i) (lo:jo < i)
 (hx:x=(varM (frN ss i).vs.length,varM ((frN ss i).vs.length+1))) (hsrt:∀p∈Zf6 a b o x,SrtM p):∀p∈Zf6 a b o x,p.length≤4000:=by
 have hk0:0 < ss.length→(ss.getD 0 ⟨0,.empty,[],⟨false,[],[]⟩⟩).k=1:=λh0=>by
  have so:=ok.st h0;have hgs:ss.getD 0 ⟨0,.empty,[],⟨false,[],[]⟩⟩=ss[0]:=by rw [Zzo,Zzn h0];rfl
  have hal:=so.al;have hai:=so.ai;rw [Zcm] at hai;rw [hgs];rcases ZAn ss[0].ar.length with h | h
  ·rw [h] at hal;rcases Zn3 hal with h1 | h1 | h1 | h1
   ·exact h1.1
   ·omega
   ·omega
   ·omega
  ·have:=hai 0 h;omega
 have hsum:geN ss i+lnN ss i+tuN ss i≤6:=by
  rcases ZAn i with h | h
  ·subst h;exact Zzp _
  ·have:=sum_le hk0 (i - 1) zo;rw [show i - 1+1=i by omega] at this;omega
 obtain⟨q1,q2,q3,q4,q5,q6⟩:=Zty ss i;have hcl:∀y,(clN ss y i).length=(frN ss i).vs.length:=λy=>Znz ss y i;by_cases ht:tuN ss i=0
 ·
  have hy:(3:Nat)=2∨((3:Nat)=3∧∀j (h:j < ss.length),j < i→ss[j].k≠4):=.inr ⟨rfl,λj h hj=>by
   have:=tu_pos ht j hj
   rwa [show ss.getD j ⟨0,.empty,[],⟨false,[],[]⟩⟩=ss[j] from by rw [Zzo,Zzn h];rfl] at this⟩
  have mc:=fun(u:Nat) (hu:(clN ss 3 i).length≤u) (j:Nat) (hj:j < i)=>co_mc ok hb (Nat.le_of_lt hi) hy hu hj;have n1:∀a b,(mons 3 (λj=>(clN ss 3 i).getD j 0) (clN ss 3 i).length a b).length≤4 ^ lnN ss i*(hN (geN ss i) a*hN (geN ss i) b):=λa b=>by
   rw [Ziz,Zdj,Zdj,Zdj,q1];exact ZBb _ (ZBz (Zu3 a q2) (Zu3 b q3))
  have n2:∀a b,(mons 2 (λj=>(clN ss 3 i).getD j 0) (clN ss 3 i).length a b).length≤3 ^ lnN ss i*(hN (geN ss i) a*hN (geN ss i) b):=λa b=>by
   rw [Ziz,Zdj,Zdj,Zdj,q1];exact ZBb _ (ZBz (Zu3 a q2) (Zu3 b q3))
  have num:=num_par (geN ss i) zo (lnN ss i) zo zo;have fin:∀u,(clN ss 3 i).length≤u→∀p:Po,SrtM p→(PT (λm=>(MT (λj=>(clN ss 3 i).getD j 0) (clN ss 3 i).length u 3 3 0 0 m∨MT (λj=>(clN ss 3 i).getD j 0) (clN ss 3 i).length u 3 1 2 0 m)∨MT (λj=>(clN ss 3 i).getD j 0) (clN ss 3 i).length u 2 2 0 1 m∨MT (λj=>(clN ss 3 i).getD j 0) (clN ss 3 i).length u 2 0 2 1 m) p ∨
   PT (λm=>(MT (λj=>(clN ss 3 i).getD j 0) (clN ss 3 i).length u 3 2 1 0 m∨MT (λj=>(clN ss 3 i).getD j 0) (clN ss 3 i).length u 3 0 3 0 m)∨MT (λj=>(clN ss 3 i).getD j 0) (clN ss 3 i).length u 2 2 0 1 m∨MT (λj=>(clN ss 3 i).getD j 0) (clN ss 3 i).length u 2 0 2 1 m) p)→p.length≤4000:=λu hu p hs hp=>by
   have h3:=Zyz ss (y:=3) (Zze _) i;have hz:=λj hj=>Zjz ss 3 i (j:=j) hj;have c1:=n2 2 0;have c2:=n2 0 2;rcases hp with hp | hp
   ·have h1:=Zk9 (a:=3) (b:=0) (a':=1) (b':=2) (d:=2) (e:=0) (d':=0) (e':=2) hs h3 hz hu hp;have c3:=n1 3 0;have c4:=n1 1 2;omega
   ·have h1:=Zk9 (a:=2) (b:=1) (a':=0) (b':=3) (d:=2) (e:=0) (d':=0) (e':=2) hs h3 hz hu hp;have c3:=n1 2 1;have c4:=n1 0 3;rw [Zz9 (hN (geN ss i) 2)] at c3;rw [Zz9 (hN (geN ss i) 0)] at c4;omega
  intro p hp;have hs:=hsrt p hp;subst ha hbb ho hx;unfold Zf6 at hp;have lu:=Nat.le_of_eq (hcl 3);rcases List.mem_cons.1 hp with rfl | hp
  ·have m:=mc (frN ss i).vs.length lu;have hn:=(m ja la).dot (m jb lb) (m ja la) (m jb lb);have hd:=(m ja la).dot (m jo lo) (m ja la) (m jb lb);exact fin _ lu _ hs (.inl (Ziu hn (hd.add hd) (MT.new (Zjz ss 3 i lu)) (m ja la).x ((m ja la).df (m jb lb)).1))
  ·rw [ZAs] at hp;subst hp;have lu:(clN ss 3 i).length≤(frN ss i).vs.length+1:=zo;have m:=mc ((frN ss i).vs.length+1) lu;have hn:=(m ja la).dot (m jb lb) (m ja la) (m jb lb);have hd:=(m ja la).dot (m jo lo) (m ja la) (m jb lb);exact fin _ lu _ hs (.inr (Ziu hn (hd.add hd) (MT.new (Zjz ss 3 i lu)) (m ja la).y ((m ja la).df (m jb lb)).2))
 ·have mc:=fun(u:Nat) (hu:(clN ss 2 i).length≤u) (j:Nat) (hj:j < i)=>co_mc ok hb (Nat.le_of_lt hi) (.inl rfl:(2:Nat)=2∨((2:Nat)=3∧∀j (h:j < ss.length),j < i→ss[j].k≠4)) hu hj;have h00:hN 0 0=1:=rfl
  have n1:(mons 3 (λj=>(clN ss 2 i).getD j 0) (clN ss 2 i).length 3 0).length≤4 ^ lnN ss i*hN (2*geN ss i) 3:=by
   rw [Ziz,Zdj,Zdj,Zdj,q4,q6,h00,ZBx];exact ZBb _ (Zu3 3 q5)
  have n2:(mons 2 (λj=>(clN ss 2 i).getD j 0) (clN ss 2 i).length 2 0).length≤3 ^ lnN ss i*hN (2*geN ss i) 2:=by
   rw [Ziz,Zdj,Zdj,Zdj,q4,q6,h00,ZBx];exact ZBb _ (Zu3 2 q5)
  have num:=num_mrg (geN ss i) zo (lnN ss i) zo zo;have fin:∀u,(clN ss 2 i).length≤u→∀p:Po,SrtM p→PT (λm=>(MT (λj=>(clN ss 2 i).getD j 0) (clN ss 2 i).length u 3 3 0 0 m∨MT (λj=>(clN ss 2 i).getD j 0) (clN ss 2 i).length u 3 3 0 0 m)∨MT (λj=>(clN ss 2 i).getD j 0) (clN ss 2 i).length u 2 2 0 1 m∨MT (λj=>(clN ss 2 i).getD j 0) (clN ss 2 i).length u 2 2 0 1 m) p→p.length≤4000:=λu hu p hs hp=>by
   have h1:=Zk9 (a:=3) (b:=0) (a':=3) (b':=0) (d:=2) (e:=0) (d':=2) (e':=0) hs (Zyz ss (y:=2) zd i) (λj hj=>Zjz ss 2 i (j:=j) hj) hu hp;omega
  intro p hp;have hs:=hsrt p hp;subst ha hbb ho hx;unfold Zf6 at hp;have lu:=Nat.le_of_eq (hcl 2);rcases List.mem_cons.1 hp with rfl | hp
  ·have m:=mc (frN ss i).vs.length lu;have hn:=(m ja la).dot (m jb lb) (m ja la) (m jb lb);have hd:=(m ja la).dot (m jo lo) (m ja la) (m jb lb);exact fin _ lu _ hs (Ziu hn (hd.add hd) (MT.new (Zjz ss 2 i lu)) (m ja la).x ((m ja la).df (m jb lb)).1)
  ·rw [ZAs] at hp;subst hp;have lu:(clN ss 2 i).length≤(frN ss i).vs.length+1:=zo;have m:=mc ((frN ss i).vs.length+1) lu;have hn:=(m ja la).dot (m jb lb) (m ja la) (m jb lb);have hd:=(m ja la).dot (m jo lo) (m ja la) (m jb lb);exact fin _ lu _ hs (Ziu hn (hd.add hd) (MT.new (Zjz ss 2 i lu)) (m ja la).y ((m ja la).df (m jb lb)).2)
theorem eqs_l4 {k:Int} (h10:k≠10) {a b c d x:Pt} {t:Po} (ha:CB a) (hb:CB b) (hc:CB c) (hd:CB d) (hx:CB x) (ht:PB t 1 1 1):∀p∈eqsM k a b c d x t,p.length≤4000:=by
 have cr:∀{a b c d:Pt},CB a→CB b→CB c→CB d→(Zb0 a b c d).length≤4000:=λh1 h2 h3 h4=>Zzi (h1.cross h2 h3 h4).l zd;have dt:∀{a b c d:Pt},CB a→CB b→CB c→CB d→(dotM a b c d).length≤4000:=λh1 h2 h3 h4=>Zzi (h1.dot h2 h3 h4).l zd;have df:∀{a b c d:Pt},CB a→CB b→CB c→CB d→(Zeb a b c d).length≤4000:=λh1 h2 h3 h4=>Zzi ((h1.dot h2 h1 h2).sub (h3.dot h4 h3 h4)).l zd;have two:∀{p q:Po},p.length≤4000→q.length≤4000→∀u∈[p,q],u.length≤4000:=λh1 h2 u hu=>by
  rcases List.mem_cons.1 hu with rfl | hu
  ·exact h1
  ·rw [ZAs] at hu;subst hu;exact h2
 unfold eqsM;split
 ·unfold Zll;obtain⟨x1,y1⟩:=hb.df ha;obtain⟨x2,y2⟩:=hb.df hx;have zs:=((x1.add (ht.mul y1))).dbl;have zl:=Zf7.add (ht.mul ht);exact two (Zzi ((zl.mul x2).sub zs).l zd) (Zzi ((zl.mul y2).sub (ht.mul zs)).l zd)
 ·split
  ·exact two (cr hb hc hb hx) (dt hb hc ha hx)
  ·split
   ·exact two (dt hb hc ha hx) (Zzi ((hb.cross hc hb ha).add (hb.cross hc hb hx)).l zd)
   ·split
    ·exact two (cr ha hb ha hx) (cr hc hd hc hx)
    ·skip
     split
     ·exact two (df ha hx hb hx) (df ha hx hc hx)
     ·split
      ·exact two (cr ha hb ha hx) (df hc hx hc hd)
      ·split
       ·exact two (df ha hx ha hb) (df hc hx hc hd)
       ·split
        ·exact two (df ha hx ha hb) (df hb hx ha hb)
        ·exact λu hu=>by cases hu
theorem eqE_l4 {ss:List RS} {gs:List RG} (hl:ss.length≤8) (ok:FigOk ss) (ht:Zkk ss gs=true) {i:Nat} (hi:i < ss.length):∀p∈eqE ss i,p.length≤4000:=by
 obtain⟨hb,hcb⟩:=Ztw hl ok ht;rw [Zyn hi rfl];by_cases h10:ss[i].k=10
 ·have so:=ok.st hi;have hal:=so.al;have hai:=so.ai;rw [Zcm] at hai;have h3:ss[i].ar.length=3:=by rw [h10] at hal;have:arS 10=3:=rfl;omega
  have s:∀p∈Zf6 ((frN ss ss.length).cs.getD (gI ss[i].ar 0).toNat ([],[])) ((frN ss ss.length).cs.getD (gI ss[i].ar 1).toNat ([],[])) ((frN ss ss.length).cs.getD (gI ss[i].ar 2).toNat ([],[])) ((frN ss ss.length).cs.getD i ([],[])),SrtM p:=λp hp=>(eqs_pb (k:=10) (hcb _) (hcb _) (hcb _) (hcb (gI ss[i].ar 3).toNat) (hcb _) (Znd (frN ss ss.length).vs i) p hp).s;rw [h10];exact oth_len ok hl hb hi _ _ _ rfl rfl rfl (by have:=hai 0 zo;omega) (by have:=hai 1 zo;omega) (by have:=hai 2 zo;omega) (by rw [cs_nxt hi];unfold FS.nxt;simp [h10]) s
 ·exact eqs_l4 h10 (hcb _) (hcb _) (hcb _) (hcb _) (hcb _) (Znd _ _)
end Go.Proofs.YtenfejhaohihoaaGreat
namespace Go.Proofs.YtenfejhaohihoaaGreat
open Go Go.RowKit Go.Pg Go.Pol Go.Proofs.Tryz
attribute [-bool_to_prop] Bool.and_eq_decide Bool.or_eq_decide Bool.decide_beq_decide decide_eq_decide
def uN (ss:List RS):Nat→Nat
 | 0=>0
 | i+1=>uN ss i+useN (ss.getD i ⟨0,.empty,[],⟨false,[],[]⟩⟩).k (frN ss i).fr
theorem uN_at {ss:List RS} {i:Nat} (h:i < ss.length):uN ss (i+1)=uN ss i+useN ss[i].k (frN ss i).fr:=by
 show uN ss i+useN (ss.getD i ⟨0,.empty,[],⟨false,[],[]⟩⟩).k _=_;rw [show ss.getD i ⟨0,.empty,[],⟨false,[],[]⟩⟩=ss[i] from by rw [Zzo,Zzn h];rfl]
theorem Zvp (ss:List RS) (i:Nat):∀d,uN ss i≤uN ss (i+d)
 | 0=>Zze _
 | d+1=>Zzi (Zvp ss i d) (ZDf _ _)
theorem uN_le (ss:List RS):∀i,uN ss i≤2*i
 | 0=>Zze _
 | i+1=>by
   have:=uN_le ss i;show uN ss i+useN _ _≤_;have h:∀k n,useN k n≤2:=λk n=>by
    unfold useN;split
    ·omega
    ·split<;>omega
   have:=h (ss.getD i ⟨0,.empty,[],⟨false,[],[]⟩⟩).k (frN ss i).fr;omega
theorem Zvu (ss:List RS) {i j:Nat} (h:i≤j):twoN ss i≤twoN ss j:=by
 unfold twoN
 have e:ss.take j=ss.take i++(ss.take j).drop i:=by
  conv=>lhs;rw [←ZBl i (ss.take j)]
  rw [List.take_take,ZBm h]
 rw [e,ZD4,Zz0];omega
theorem Zqm (vs:List Vt) (V:List Rat) (P:List PQ):∀v,(vaS vs V P v).2.1=(Zet vs v).length
 | 0=>rfl
 | v+1=>by
   have ih:=Zqm vs V P v;by_cases h:(vs.getD v (0,0,0)).1=1
   ·rw [Znc h,Zz0,←ih]
    conv=>lhs;unfold vaS
    simp only [Zzc h];rfl
   ·rw [Zrg h,←ih]
    conv=>lhs;unfold vaS
    simp only [Zzb h];split<;>rfl
theorem Zmb (vs:List Vt) (i:Nat):∀d,(Zet vs i).length≤(Zet vs (i+d)).length
 | 0=>Zze _
 | d+1=>by
   refine Zzi (Zmb vs i d) ?_;by_cases h:(vs.getD (i+d) (0,0,0)).1=1
   ·rw [show i+(d+1)=i+d+1 from rfl,Znc h,Zz0];omega
   ·rw [show i+(d+1)=i+d+1 from rfl,Zrg h];omega
theorem Zs6 (ss:List RS):(Zet (frN ss ss.length).vs (frN ss ss.length).vs.length).length=uN ss ss.length:=by
 rw [←Zqm _ [] []];rw [va_S (u:=uN ss) (nf:=λi=>(frN ss i).fr) rfl (λi h=>uN_at h) (λi _=>rfl) ss.length (Zze _)]
theorem vs_ge (ss:List RS):∀i,∀v∈(frN ss i).vs,0≤v.2.1
 | 0,v,h=>by cases h
 | i+1,v,h=>by
   rcases List.mem_append.1 (show v∈(frN ss i).vs++((frN ss i).nxt i (ss.getD i RS.zero)).1 from h) with h1 | h1
   ·exact vs_ge ss i v h1
   ·have:=Zs9 _ _ _ v h1;omega
theorem at_run {ss:List RS} {gs:List RG} (hl:ss.length≤8) (ok:FigOk ss) {Vs:List Rat} {Bs:List Bool} (hVs:∀q∈Vs,Sz q 2) (lV:Vs.length=uN ss ss.length) (lB:Bs.length=twoN ss ss.length) (cc:Pure prog 28 [figA ss gs] (.tup [iv Vs.length,iv Bs.length,iv 0])) :
 (∃L:List PQ,RunP ss Vs (uN ss) (λi=>(frN ss i).fr) L∧Pure prog 8 [figA ss gs,.sl 3 (Vs.map ratQ),.sl 1 (Bs.map bvA)] (.tup [.agg [.sl 3 (Vs.map ratQ),.sl 1 (Bs.map bvA),.sl 6 (L.map PQ.av)],iv 0,iv 0])) ∨
 ∃(K:Nat) (e:Int),(0 < e∧e < 100)∧Pure prog 8 [figA ss gs,.sl 3 (Vs.map ratQ),.sl 1 (Bs.map bvA)] (.tup [Zry,iv K,iv e]):=by
 have h1:=uN_le ss ss.length;have h2:=Zqo ss ss.length;have hnf:∀i (h:i < ss.length),(frN ss (i+1)).fr=if ss[i].k=1 then (frN ss i).fr+1 else (frN ss i).fr:=λi h=>by rw [Zea h]
 have eV:∀i,i≤ss.length→uN ss i≤Vs.length:=λi hi=>by
  have:=Zvp ss i (ss.length - i);rw [show i+(ss.length - i)=ss.length by omega] at this;omega
 have r:=r22AtRun ss gs Vs Bs (uN ss) (λi=>(frN ss i).fr) hl ok.er ok.lm hVs zo zo rfl rfl (λi h=>uN_at h) hnf (λi hi=>by have:=Zp5 ss i;omega) eV (λi hi=>by rw [lB];exact Zvu ss hi) cc;rcases r with⟨L,l1,l2,l3,l4⟩ | r
 ·exact .inl ⟨L,⟨hl,l1,λi h h'=>(l2 i h h').2,l3,hVs,rfl,λi h=>uN_at h,λi _=>rfl,eV⟩,l4⟩
 ·exact .inr r
section
variable {ss:List RS} {Vs:List Rat} {u nf:Nat→Nat} {L:List PQ}
theorem Zyl {k:Int} {a b c d d' x:PQ} {t:Rat} (h:k≠9∧k≠12∧k≠13):eqsV k a b c d x t=eqsV k a b c d' x t:=by
 unfold eqsV;rw [Zzb h.1,Zzb h.1,Zzb h.2.1,Zzb h.2.1,Zzb h.2.2,Zzb h.2.2]
theorem eqsV_c {k:Int} {a b c c' d x:PQ} {t:Rat} (h:k < 7∨13 < k):eqsV k a b c d x t=eqsV k a b c' d x t:=by
 unfold eqsV;rw [Zzb (show ¬k=7 by omega),Zzb (show ¬k=8 by omega),Zzb (show ¬k=9 by omega),Zzb (show ¬k=10 by omega),Zzb (show ¬k=11 by omega),Zzb (show ¬k=12 by omega),Zzb (show ¬k=13 by omega)];rw [Zzb (show ¬k=7 by omega),Zzb (show ¬k=8 by omega),Zzb (show ¬k=9 by omega),Zzb (show ¬k=10 by omega),Zzb (show ¬k=11 by omega),Zzb (show ¬k=12 by omega),Zzb (show ¬k=13 by omega)]
theorem run_st (R:RunP ss Vs u nf L) {i:Nat} (hi:i < ss.length) (k1:ss[i].k≠1):StR ss[i].k ((argP (L.take i) ss[i]).getD 0 (0,0)) ((argP (L.take i) ss[i]).getD 1 (0,0)) ((argP (L.take i) ss[i]).getD 2 (0,0)) ((argP (L.take i) ss[i]).getD 3 (0,0)) (if ss[i].k=2 then ss[i].r.q else (Vs.drop (u i)).getD 0 0) (L.getD i (0,0)) ∧
 Zlx ss[i].k ((argP (L.take i) ss[i]).getD 0 (0,0)) ((argP (L.take i) ss[i]).getD 1 (0,0)) ((argP (L.take i) ss[i]).getD 2 (0,0)) ((argP (L.take i) ss[i]).getD 3 (0,0)) (L.getD i (0,0)):=by
 have hl:=R.len;have h:=R.pt i hi zo;rw [show L.getD i (0,0)=L[i] from by rw [Zzo,Zzn zo];rfl];unfold PtR at h
 rwa [Zzb k1] at h
theorem Zwa (R:RunP ss Vs u nf L) (ok:FigOk ss) {i:Nat} (hi:i < ss.length) {k:Nat} (hk:k < ss[i].ar.length):(argP (L.take i) ss[i]).getD k (0,0)=L.getD (gI ss[i].ar k).toNat (0,0)∧(gI ss[i].ar k).toNat < i:=by
 have so:=ok.st hi;have hai:=so.ai k hk;rw [Zcm] at hai;rw [Zy7 hk,Zso zo];exact⟨rfl,zo⟩
theorem va_eqs (R:RunP ss Vs u nf L) (ok:FigOk ss) (hb:∀j,j < ss.length→bigN ss j=false) (hcb:∀j,CB ((frN ss ss.length).cs.getD j ([],[]))) {i:Nat} (hi:i < ss.length):∀p∈eqE ss i,evP (vaX ss Vs u nf L) p=0:=by
 intro p hp;rw [Zyn hi rfl] at hp;by_cases k1:ss[i].k=1
 ·rw [k1] at hp;cases hp
 obtain⟨hst,-⟩:=run_st R hi k1;have k14:ss[i].k≠14:=λh=>by
  rw [h] at hst;exact hst
 have h0:=st_eqs hst;have sp:∀j,SP ((frN ss ss.length).cs.getD j ([],[])):=λj=>⟨(hcb j).x.s,(hcb j).y.s⟩;have he:=eqs_ev (vaX ss Vs u nf L) (k:=ss[i].k) k14 (sp (gI ss[i].ar 0).toNat) (sp (gI ss[i].ar 1).toNat) (sp (gI ss[i].ar 2).toNat) (sp (gI ss[i].ar 3).toNat) (sp i) (Znd (frN ss ss.length).vs i).s;have hm:evP (vaX ss Vs u nf L) p∈(eqsM ss[i].k ((frN ss ss.length).cs.getD (gI ss[i].ar 0).toNat ([],[])) ((frN ss ss.length).cs.getD (gI ss[i].ar 1).toNat ([],[])) ((frN ss ss.length).cs.getD (gI ss[i].ar 2).toNat ([],[])) ((frN ss ss.length).cs.getD (gI ss[i].ar 3).toNat ([],[])) ((frN ss ss.length).cs.getD i ([],[])) (parM (frN ss ss.length).vs i)).map (evP (vaX ss Vs u nf L)):=List.mem_map_of_mem hp
 rw [he] at hm;have pts:∀k,k < ss[i].ar.length→ptV (vaX ss Vs u nf L) ((frN ss ss.length).cs.getD (gI ss[i].ar k).toNat ([],[]))=(argP (L.take i) ss[i]).getD k (0,0):=λk hk=>by
  obtain⟨e1,e2⟩:=Zwa R ok hi hk;rw [e1];exact va_pt R ok hb _ zo
 have hx:=va_pt R ok hb i hi;rw [hx] at hm;have so:=ok.st hi;have hal:=Zn3 so.al;have ht:ss[i].k=6→evP (vaX ss Vs u nf L) (parM (frN ss ss.length).vs i)=(Vs.drop (u i)).getD 0 0:=λh6=>by
  rw [circ_at hi h6]
  have h64:(frN ss i).vs.length < 64:=by
   have h1:=hb i hi;rw [Zlq hi] at h1;simp only [ZCb,ZBr] at h1;have h2:=h1.1.1;rw [Zz0,Zxc,h6] at h2;simp at h2;omega
  rw [Zgt _ h64];have h2:=vaX_at (m:=0) R hi (by rw [h6];exact Nat.zero_lt_succ _);rw [h6] at h2;exact h2
 refine h0 _ ?_;rcases hal with⟨h,-⟩ | ⟨h,h2⟩ | ⟨h,h2⟩ | ⟨h,h2⟩
 ·exact absurd h k1
 ·rw [pts 0 zo,pts 1 zo] at hm;by_cases h6:ss[i].k=6
  ·rw [ht h6,eqsV_c zo,Zyl zo] at hm;rw [Zzb zo];exact hm
  ·rw [Zyk h6,eqsV_c zo,Zyl zo] at hm;exact hm
 ·rw [pts 0 zo,pts 1 zo,pts 2 zo,Zyk zo,Zyl zo] at hm;exact hm
 ·rw [pts 0 zo,pts 1 zo,pts 2 zo,pts 3 zo,Zyk zo] at hm;exact hm
end
theorem cs_cx {ss:List RS} {gs:List RG} (hl:ss.length≤8) (ok:FigOk ss) (ht:Zkk ss gs=true):∃D,D≠0∧D < 65536 ^ 17∧∀j,CX ((frN ss ss.length).cs.getD j ([],[])) D (frN ss ss.length).vs.length:=by
 obtain⟨hb,hcb⟩:=Ztw hl ok ht;obtain⟨D,hD,-⟩:=ok.fi (Zze _) hb;have hn:=Zxf ss ss.length;refine⟨D,hD.D0,ZA7 hD.Dl (ZAt zd zo),λj=>?_⟩;by_cases hj:j < (frN ss ss.length).cs.length
 ·obtain⟨g1,g2⟩:=hD.cs _ (Zay (d:=(([],[]):Pt)) hj);exact⟨gp_nx g1 (hcb j).x.l zo (Zze _),gp_nx g2 (hcb j).y.l zo (Zze _)⟩
 ·rw [Zzo,ZAr zo];exact⟨.nil,.nil⟩
theorem pow3_lt {D:Nat} (h:D < 65536 ^ 17):D ^ 3 < 65536 ^ 51:=by
 rw [show(65536:Nat) ^ 51=(65536 ^ 17) ^ 3 from(Nat.pow_mul 65536 17 3)];exact Nat.pow_lt_pow_left h zd
theorem b91:65536 ^ 90 < 65536 ^ 91:=Nat.pow_lt_pow_right zd zd
theorem ev_at {ss:List RS} {Vs:List Rat} {u nf:Nat→Nat} {L:List PQ} (R:RunP ss Vs u nf L) {D:Nat} (h0:D≠0) (hD:D < 65536 ^ 17) {p:Po} (hv:(frN ss ss.length).vs.length≤64) (hp:NX p D 3 90 3 (frN ss ss.length).vs.length) {n j e:Nat} (hq:PB p n j e) (hn:n≤1000000) (hj:j≤1000000) :
 Pure prog 13 [poA p,.sl 3 ((vaL ss Vs u nf L ss.length).map ratQ)] (.tup [ratQ (evP (vaX ss Vs u nf L) p),iv 0])∧Sz (evP (vaX ss Vs u nf L) p) 19900000000:=by
 obtain⟨s,hs,hsum⟩:=va_szs R ss.length (Zze _);have hlen:=Zqn (ss:=ss) (Vs:=Vs) (u:=u) (nf:=nf) (L:=L) R.nf ss.length (Zze _);have l8:=R.l8;have h11:11 ^ (ss.length+1)≤11 ^ 9:=ZAt zd zo;rw [show(11:Nat) ^ 9=2357947691 from by decide] at h11;have hS:sumN s (frN ss ss.length).vs.length≤3301126768:=by rw [←hlen];omega
 have hx:∀j,j < (frN ss ss.length).vs.length→Sz (vaX ss Vs u nf L j) (s j):=λj hj=>hs j zo;obtain⟨h1,h2⟩:=ne_szs (p:=p) (K:=19900000000) hp hx (d:=51) (b:=91) (S:=3301126768) (Nat.ne_of_gt (ZDc (ZBe h0))) (pow3_lt hD) b91 hS zo;have pk:PK p 1000000 3:=λt ht=>⟨((hq.k t ht).1).mono hj,(hq.k t ht).2.1,λi=>⟨((hq.k t ht).2.2 i).1,(hp.m t ht).2 i⟩⟩;have sj:∀j,j < (vaL ss Vs u nf L ss.length).length→Sz ((vaL ss Vs u nf L ss.length).getD j 0) 3301126768:=λj hj=>(hs j hj).mono (by
  have h3:=Zqv s (j+1) ((vaL ss Vs u nf L ss.length).length - (j+1));rw [show j+1+((vaL ss Vs u nf L ss.length).length - (j+1))=(vaL ss Vs u nf L ss.length).length by omega,hlen] at h3;have h4:sumN s (j+1)=sumN s j+s j:=rfl;omega)
 have hlp:=hq.l;refine⟨rpEval p (vaL ss Vs u nf L ss.length) (k:=1000000) (x0:=3) (s:=3301126768) (K:=19900000000) pk sj zo zo zo zo zo zo (λt ht=>by rw [hlen];exact(hp.m t ht).1) h1 h2 zo,?_⟩;have:=h2 p.length (Zze _)
 rwa [ZAe] at this
theorem run_made {ss:List RS} {gs:List RG} {Vs:List Rat} {u nf:Nat→Nat} {L:List PQ} (R:RunP ss Vs u nf L) (ok:FigOk ss) {i:Nat} (hi:i < ss.length):Pure prog 10 [figA ss gs,.sl 6 (L.map PQ.av),iv i] (.v (.bool true)):=by
 have l8:=R.l8;have hl:=R.len;have so:=ok.st hi;have hai:=so.ai;rw [Zcm] at hai;have hgj:∀j (h:j < L.length),L.getD j (0,0)=L[j]:=λj h=>by rw [Zzo,Zzn h];rfl
 have szj:∀j,j < i→(L.getD j (0,0)).sz 100000000:=λj hj=>by
  rw [hgj j zo];have:=R.hv j zo;exact Zsp this (by have:=pow_70 (i:=j+1) zo;omega)
 have szi:(L.getD i (0,0)).sz 1000000000:=by
  rw [hgj i zo];have h1:=hv_sz (R.hv i zo);have h2:11 ^ (i+1)≤11 ^ 8:=ZAt zd zo;rw [show(11:Nat) ^ 8=214358881 from by decide] at h2;exact⟨h1.1.mono zo,h1.2.mono zo⟩
 have mk:∀k:Nat,(k:Int)≠1→ss[i].k=(k:Int)→Zlx (k:Int) ((argP (L.take i) ss[i]).getD 0 (0,0)) ((argP (L.take i) ss[i]).getD 1 (0,0)) ((argP (L.take i) ss[i]).getD 2 (0,0)) ((argP (L.take i) ss[i]).getD 3 (0,0)) (L.getD i (0,0)):=λk h1 hk=>by
  have:=(run_st R hi (by rw [hk];exact h1)).2
  rwa [hk] at this
 have ag:∀{n j:Nat} {l:List Int},ss[i].ar=l→(hn:n < l.length)→gI l n=(j:Int)→(argP (L.take i) ss[i]).getD n (0,0)=L.getD j (0,0)∧j < i:=λ{n j l} he hn hg=>by
  obtain⟨h1,h2⟩:=Zwa R ok hi (k:=n) (by rw [he];exact hn);rw [he,hg,ZAo] at h1 h2;exact⟨h1,h2⟩
 refine lwMade ss gs L i hi hl zo _ rfl so.al (λk hk=>by have:=hai k hk;omega) ?_ ?_ ?_ ?_ ?_ ?_ ?_
 ·intro a b c hk ha;have h:=mk 7 zd hk;obtain⟨e0,l0⟩:=ag (n:=0) ha zs rfl;obtain⟨e1,l1⟩:=ag (n:=1) ha zs rfl;obtain⟨e2,l2⟩:=ag (n:=2) ha zs rfl;rw [e0,e1,e2] at h;obtain⟨h1,h2⟩:=h;rw [h2];exact plFoot _ _ _ (szj a l0) (szj b l1) (szj c l2) zo h1
 ·intro a b c hk ha;have h:=mk 8 zd hk;obtain⟨e0,l0⟩:=ag (n:=0) ha zs rfl;obtain⟨e1,l1⟩:=ag (n:=1) ha zs rfl;obtain⟨e2,l2⟩:=ag (n:=2) ha zs rfl;rw [e0,e1,e2] at h;obtain⟨h1,h2⟩:=h;rw [h2];exact plMir _ _ _ (szj a l0) (szj b l1) (szj c l2) zo h1
 ·intro a b c d hk ha;have h:=mk 9 zd hk;obtain⟨e0,l0⟩:=ag (n:=0) ha zs rfl;obtain⟨e1,l1⟩:=ag (n:=1) ha zs rfl;obtain⟨e2,l2⟩:=ag (n:=2) ha zs rfl;obtain⟨e3,l3⟩:=ag (n:=3) ha zs rfl;rw [e0,e1,e2,e3] at h;obtain⟨h1,h2⟩:=h;rw [h2];exact plMeet _ _ _ _ (szj a l0) (szj b l1) (szj c l2) (szj d l3) zo h1
 ·intro a b c hk ha;have h:=mk 10 zd hk;obtain⟨e0,l0⟩:=ag (n:=0) ha zs rfl;obtain⟨e1,l1⟩:=ag (n:=1) ha zs rfl;obtain⟨e2,l2⟩:=ag (n:=2) ha zs rfl;rw [e0,e1,e2] at h;obtain⟨h1,h2⟩:=h;rw [h2];exact plOth _ _ _ (szj a l0) (szj b l1) (szj c l2) zo h1
 ·intro a b c hk ha;have h:=mk 11 zd hk;obtain⟨e0,l0⟩:=ag (n:=0) ha zs rfl;obtain⟨e1,l1⟩:=ag (n:=1) ha zs rfl;obtain⟨e2,l2⟩:=ag (n:=2) ha zs rfl;rw [e0,e1,e2] at h;obtain⟨h1,h2⟩:=h;rw [h2];exact plCen _ _ _ (szj a l0) (szj b l1) (szj c l2) zo h1
 ·have:=Zs1 _ _ szi.1 szi.1 zo zo
  rwa [Zzf rfl] at this
 ·have:=Zs1 _ _ szi.2 szi.2 zo zo
  rwa [Zzf rfl] at this
attribute [local go_sem] Zcf Zcy Zbm Zbo Zbn Zb5 Zb6 Zdc Zc6 Zqu Zqt Zdn Zdm Zog Zqg Zvg Zl1 Zqe Zt4 Zvw Zy3 Za5 Zb4 Zdl Zdt Zdd Zof Zbq Zbt Zcw Zd0 Zj4
theorem Zrv (ss:List RS) (gs:List RG) (V B:List AV) (f d:Bool) (h:f=false∨d=false∨¬B.length≤8) (cf:Pure prog 5 [figA ss gs] (.v (.bool f))) (cm:Pure prog 6 [.sl 3 V] (.v (.bool d))):Pure prog 3 [figA ss gs,.sl 3 V,.sl 1 B] (.v (.bool true)):=by
 have ca:=aw22;have cf:Pure prog 5 [.agg [.sl 6 (ss.map RS.av),.sl 5 (gs.map RG.av)]] (.v (.bool f)):=cf;show Pure _ _ [.agg [.sl 6 (ss.map RS.av),.sl 5 (gs.map RG.av)],_,_] _;generalize ss.map RS.av=M at *;generalize gs.map RG.av=N at *
 cases f with
 | false =>
   refine pI func3 rfl ntmps3 results3 call3 ?_;(focus (refine wkap w_t (w_2 cf ca) (w_r 0) ?_;(repeat' first|exact w_t|apply w_l);all_goals intros));all_goals exact gL
 | true =>
   cases d with
   | false =>
     refine pI func3 rfl ntmps3 results3 call3 ?_;(focus (refine wkap w_t (w_3 cf cm ca) (w_r 0) ?_;(repeat' first|exact w_t|apply w_l);all_goals intros));all_goals exact gL
   | true =>
     have hB:(8:Int) < (B.length:Int):=by
      rcases h with h | h | h
      ·cases h
      ·cases h
      ·omega
     refine pI func3 rfl ntmps3 results3 call3 ?_;(focus (refine wkap (w_1 hB) (w_3 cf cm ca) (w_r 0) ?_;(repeat' first|exact w_t|apply w_l);all_goals intros));all_goals exact gL
theorem Zrw (ss:List RS) (gs:List RG) (V B:List AV) (cs:List Pt) (vs:List Vt) (K:Nat) (z:Int) (hz:0 < z∧z < 100) (lB:B.length≤8) (cf:Pure prog 5 [figA ss gs] (.v (.bool true))) (cm:Pure prog 6 [.sl 3 V] (.v (.bool true)))
 (ct:Pure prog 8 [figA ss gs,.sl 3 V,.sl 1 B] (.tup [Zry,iv K,iv z])) (co:Pure prog 9 [figA ss gs] (.tup [frmA cs vs,iv 0])):Pure prog 3 [figA ss gs,.sl 3 V,.sl 1 B] (.v (.bool true)):=by
 have ca:=aw22;have hB:¬(8:Int) < (B.length:Int):=zo;have h0:¬z=0:=zo;have cf:Pure prog 5 [.agg [.sl 6 (ss.map RS.av),.sl 5 (gs.map RG.av)]] (.v (.bool true)):=cf;have ct:Pure prog 8 [.agg [.sl 6 (ss.map RS.av),.sl 5 (gs.map RG.av)],.sl 3 V,.sl 1 B] (.tup [Zry,iv K,iv z]):=ct;have co:Pure prog 9 [.agg [.sl 6 (ss.map RS.av),.sl 5 (gs.map RG.av)]] (.tup [.agg [.sl 2 (cs.map coA),.sl 3 (vs.map Vt.av)],iv 0]):=co;show Pure _ _ [.agg [.sl 6 (ss.map RS.av),.sl 5 (gs.map RG.av)],_,_] _;generalize ss.map RS.av=M at *;generalize gs.map RG.av=N at *;generalize cs.map coA=C at *;generalize vs.map Vt.av=VS at *
 refine pI func3 rfl ntmps3 results3 call3 ?_;(focus (refine wkap (w_2 hB h0) (w_5 cf cm ct co ca) (w_r 0) ?_;(repeat' first|exact w_t|apply w_l);all_goals intros));all_goals exact gL
theorem lawVan1 (ss:List RS) (gs:List RG) (V B P:List AV) (cs:List Pt) (vs:List Vt) (X:List AV) (H:List Po) (hl:ss.length≤8) (hH:H.length≤1000) (lB:B.length≤8) (cf:Pure prog 5 [figA ss gs] (.v (.bool true))) (cm:Pure prog 6 [.sl 3 V] (.v (.bool true)))
 (ct:Pure prog 8 [figA ss gs,.sl 3 V,.sl 1 B] (.tup [.agg [.sl 3 V,.sl 1 B,.sl 6 P],iv 0,iv 0])) (co:Pure prog 9 [figA ss gs] (.tup [frmA cs vs,iv 0]))
 (cd:∀i:Nat,i < ss.length→Pure prog 10 [figA ss gs,.sl 6 P,iv i] (.v (.bool true)))
 (cv:Pure prog 11 [.agg [.sl 6 (ss.map RS.av),.sl 5 (gs.map RG.av),.sl 2 (cs.map coA),.sl 3 (vs.map Vt.av),.v (.slice none 0 0),.v (.slice none 0 0),.v (.slice none 0 0)],.agg [.sl 3 V,.sl 1 B,.sl 6 P]] (.tup [.sl 3 X,iv 0]))
 (ch:Pure prog 12 [figA ss gs] (.tup [.sl 1 (H.map poA),iv 0]))
 (ce:∀i (h:i < H.length),Pure prog 13 [poA H[i],.sl 3 X] (.tup [ratQ 0,iv 0])):Pure prog 3 [figA ss gs,.sl 3 V,.sl 1 B] (.v (.bool true)):=by
 have ca:=aw22;have hB:¬(8:Int) < (B.length:Int):=zo;have csg:Pure prog 14 [ratQ 0] (iv 0):=Zra 0 (k:=1) (Zco 0 zo) zo;have lM:(ss.map RS.av).length=ss.length:=Zzg ..;have lH:(H.map poA).length=H.length:=Zzg ..;have hg:∀i (h:i < H.length),(H.map poA).getD i .u=poA H[i]:=λi h=>Zaj poA h;have cf:Pure prog 5 [.agg [.sl 6 (ss.map RS.av),.sl 5 (gs.map RG.av)]] (.v (.bool true)):=cf;have ct:Pure prog 8 [.agg [.sl 6 (ss.map RS.av),.sl 5 (gs.map RG.av)],.sl 3 V,.sl 1 B] (.tup [.agg [.sl 3 V,.sl 1 B,.sl 6 P],iv 0,iv 0]):=ct;have co:Pure prog 9 [.agg [.sl 6 (ss.map RS.av),.sl 5 (gs.map RG.av)]] (.tup [.agg [.sl 2 (cs.map coA),.sl 3 (vs.map Vt.av)],iv 0]):=co
 have cd:∀i:Nat,i < ss.length→Pure prog 10 [.agg [.sl 6 (ss.map RS.av),.sl 5 (gs.map RG.av)],.sl 6 P,iv i] (.v (.bool true)):=cd;have ch:Pure prog 12 [.agg [.sl 6 (ss.map RS.av),.sl 5 (gs.map RG.av)]] (.tup [.sl 1 (H.map poA),iv 0]):=ch;show Pure _ _ [.agg [.sl 6 (ss.map RS.av),.sl 5 (gs.map RG.av)],_,_] _;generalize ss.map RS.av=M at *;generalize gs.map RG.av=N at *;generalize cs.map coA=C at *;generalize vs.map Vt.av=VS at *;generalize H.map poA=HH at *;refine pI func3 rfl ntmps3 results3 call3 ?_;(focus (refine wkap (w_2 hB lM) (w_4 cf cm ct co) (w_r 0) ?_;(repeat' first|exact w_t|apply w_l);all_goals intros))
 rename_i g3 g7 g10;refine Zab (ι:=Nat) (λi e m=>i≤ss.length∧e 3=.pbox 3 g3 0∧m 3=some (.box g3 25 [.sl 6 M,.sl 5 N] false)∧e 7=.pbox 7 g7 0∧m 7=some (.box g7 33 [.sl 3 V,.sl 1 B,.sl 6 P] false)∧e 10=.pbox 10 g10 0∧m 10=some (.box g10 40 [.sl 2 C,.sl 3 VS] false)∧e 57=iv ss.length∧e 58=iv i) (λi=>ss.length - i) 0 zr ?_ ?_
 ·rintro i e m ⟨hi,e3,m3,e7,m7,e10,m10,e57,e58⟩
  by_cases hlt:i < ss.length
  ·have cd:=cd i hlt;(focus (refine wkap (w_8 e3 m3 e7 m7 e10 m10 e57 e58) (w_1 cd) (w_r 0) ?_;(repeat' first|exact w_t|apply w_l);all_goals intros));exact⟨i+1,⟨zo,gW e3,gW m3,gW e7,gW m7,gW e10,gW m10,gW e57,gS⟩,zo⟩
  ·obtain rfl:i=ss.length:=zo;(focus (refine wkap (w_9 e3 m3 e7 m7 e10 m10 e57 e58 lH) (w_2 cv ch) (w_r 0) ?_;(repeat' first|exact w_t|apply w_l);all_goals intros));refine Zab (ι:=Nat) (λi e m=>i≤H.length∧e 13=.sl 3 X∧e 83=.sl 1 HH∧e 84=iv H.length∧e 85=iv i) (λi=>H.length - i) 0 zr ?_ ?_
   ·rintro i e m ⟨hi,e13,e83,e84,e85⟩
    by_cases hlt:i < H.length
    ·have ce:=ce i hlt;have hgi:=hg i hlt;generalize H[i]=p at *;have ce:Pure prog 13 [.sl 4 (p.map tmA),.sl 3 X] (.tup [ratQ 0,iv 0]):=ce;have hgi:HH.getD i .u=.sl 4 (p.map tmA):=hgi;generalize p.map tmA=pp at *;(focus (refine wkap (w_6 e13 e83 e84 e85 lH hgi) (w_2 ce csg) (w_r 0) ?_;(repeat' first|exact w_t|apply w_l);all_goals intros));exact⟨i+1,⟨zo,gW e13,gW e83,gW e84,gS⟩,zo⟩
    ·obtain rfl:i=H.length:=zo;(focus (refine wklp (w_5 e13 e83 e84 e85 lH) (w_1 ca) w_t (w_r 0) ?_;(repeat' first|exact w_t|apply w_l);all_goals intros))
   ·exact⟨Zzp _,gC,gC,by(simp (disch:=omega) only [go_sem,lH]<;>repeat' first|rfl|refine⟨?_,?_⟩),gC⟩
 ·exact⟨Zzp _,gC,gC,gC,gC,gC,gC,by(simp (disch:=omega) only [go_sem,lM]<;>repeat' first|rfl|refine⟨?_,?_⟩),gC⟩
end Go.Proofs.YtenfejhaohihoaaGreat
