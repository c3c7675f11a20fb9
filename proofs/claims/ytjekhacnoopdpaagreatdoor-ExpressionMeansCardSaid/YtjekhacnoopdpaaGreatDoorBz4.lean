/- Contracts of the functions that the law reaches, and the rules by which they are walked. They say what a call hands back for every input within the bounds that each names; no other condition. -/
import Derived.Test.YtjekhacnoopdpaaGreatDoorBz3
import Derived.Laws.RangeString
import Derived.Lib.OthersKept
import Derived.Laws.Strings
import Derived.Sort.AssemblyPlain
import Derived.Sort.LotD5
set_option linter.unusedSimpArgs false
set_option linter.unusedVariables false
set_option maxRecDepth 20000
set_option maxHeartbeats 16000000
namespace Go.Pol
section
variable {α:Type} {D:α→Prop} {lt:α→α→Prop} [DecidableEq α] [DecidableRel lt]
end
section
variable {α:Type} {lt:α→α→Prop} [DecidableRel lt]
end
section
variable {α:Type} {D:α→Prop} {lt:α→α→Prop} [DecidableRel lt]
def subP (lt:α→α→Prop) [DecidableRel lt] (p q:List (Rat × α)):List (Rat × α):=addP lt p (Zc6 (-1) q)
theorem neg1:(-1:Rat)≠0:=by decide
end
section
variable {α:Type} {D:α→Prop} {lt:α→α→Prop} [DecidableEq α] [DecidableRel lt]
end
section
variable {α:Type} {lt:α→α→Prop} [DecidableRel lt]
theorem Zhv {p q:List (Rat × α)} {t:Rat × α} (h:t∈addP lt p q):t∈p∨t∈q∨∃s∈p,∃u∈q,t=(s.1+u.1,s.2):=by
 fun_induction addP lt p q with
 | case1 q=>exact .inr (.inl h)
 | case2 s p=>exact .inl h
 | case3 s p u q h1 ih =>
   rcases List.mem_cons.1 h with rfl | h
   ·exact .inl (.head _)
   ·rcases ih h with h | h | ⟨a,ha,b,hb,e⟩
    ·exact .inl (.tail _ h)
    ·exact .inr (.inl h)
    ·exact .inr (.inr ⟨a,.tail _ ha,b,hb,e⟩)
 | case4 s p u q h1 h2 ih =>
   rcases List.mem_cons.1 h with rfl | h
   ·exact .inr (.inl (.head _))
   ·rcases ih h with h | h | ⟨a,ha,b,hb,e⟩
    ·exact .inl h
    ·exact .inr (.inl (.tail _ h))
    ·exact .inr (.inr ⟨a,ha,b,.tail _ hb,e⟩)
 | case5 s p u q h1 h2 h3 ih =>
   rcases ih h with h | h | ⟨a,ha,b,hb,e⟩
   ·exact .inl (.tail _ h)
   ·exact .inr (.inl (.tail _ h))
   ·exact .inr (.inr ⟨a,.tail _ ha,b,.tail _ hb,e⟩)
 | case6 s p u q h1 h2 h3 ih =>
   rcases List.mem_cons.1 h with rfl | h
   ·exact .inr (.inr ⟨s,.head _,u,.head _,rfl⟩)
   ·rcases ih h with h | h | ⟨a,ha,b,hb,e⟩
    ·exact .inl (.tail _ h)
    ·exact .inr (.inl (.tail _ h))
    ·exact .inr (.inr ⟨a,.tail _ ha,b,.tail _ hb,e⟩)
end
def BQ (D B:Nat) (q:Rat):Prop:=q.den ∣ D∧q.num.natAbs≤B*q.den
theorem Zrn {z:Int} {m:Nat} (hm:m≠0) {D B:Nat} (hd:m ∣ D*Nat.gcd z.natAbs m) (hb:z.natAbs≤B*m):BQ D B (mkRat z m):=by
 have h0:0 < Nat.gcd z.natAbs m:=Nat.gcd_pos_of_pos_right _ (Nat.pos_of_ne_zero hm);obtain⟨c,hc⟩:=Nat.gcd_dvd_right z.natAbs m;obtain⟨a,ha⟩:=Nat.gcd_dvd_left z.natAbs m;unfold BQ;rw [Rat.num_mkRat,Rat.den_mkRat,if_neg hm,Nat.gcd_comm m z.natAbs];generalize Nat.gcd z.natAbs m=g at *;have e1:m/g=c:=by rw [hc];exact Nat.mul_div_cancel_left _ h0
 have e2:(z/(g:Int)).natAbs=a:=by
  rcases Int.natAbs_eq z with h | h
  ·rw [h,ha,show((g*a:Nat):Int)=(g:Int)*(a:Int) from by simp,Int.mul_ediv_cancel_left _ (by omega)];simp
  ·rw [h,ha,show -((g*a:Nat):Int)=(g:Int)*(-(a:Int)) from by simp [Int.mul_neg],Int.mul_ediv_cancel_left _ (by omega)];simp
 rw [e1,if_neg hm,e2];constructor
 ·rw [hc,Nat.mul_comm D] at hd;exact Nat.dvd_of_mul_dvd_mul_left h0 hd
 ·rw [ha,hc,show B*(g*c)=g*(B*c) from by simp only [Nat.mul_left_comm]] at hb;exact Nat.le_of_mul_le_mul_left hb h0
theorem BQ.mono {D B E C:Nat} {q:Rat} (h:BQ D B q) (hd:D ∣ E) (hb:B≤C):BQ E C q:=⟨Nat.dvd_trans h.1 hd,Nat.le_trans h.2 (Nat.mul_le_mul_right _ hb)⟩
theorem BQ.mul {D B E C:Nat} {a b:Rat} (h:BQ D B a) (k:BQ E C b):BQ (D*E) (B*C) (a*b):=by
 rw [Rat.mul_def'];refine Zrn (Nat.mul_ne_zero a.den_nz b.den_nz) (Nat.dvd_trans (Nat.mul_dvd_mul h.1 k.1) (Nat.dvd_mul_right _ _)) ?_;rw [Int.natAbs_mul]
 calc _≤(B*a.den)*(C*b.den):=Nat.mul_le_mul h.2 k.2
  _=B*C*(a.den*b.den):=by simp only [Nat.mul_assoc,Nat.mul_left_comm]
theorem BQ.add {D B C:Nat} {a b:Rat} (h:BQ D B a) (k:BQ D C b):BQ D (B+C) (a+b):=by
 obtain⟨x,hx⟩:=h.1;obtain⟨y,hy⟩:=k.1;have e:a+b=mkRat (a.num*b.den+b.num*a.den) (a.den*b.den):=Rat.add_def' a b;rw [e];refine Zrn (Nat.mul_ne_zero a.den_nz b.den_nz) ?_ ?_
 ·
  rw [←Nat.gcd_mul_left];refine Nat.dvd_gcd ?_ (Nat.dvd_mul_left _ _)
  have e2:((D*(a.num*b.den+b.num*a.den).natAbs:Nat):Int)=((D:Int)*(a.num*b.den+b.num*a.den)).natAbs:=by
   rw [Int.natAbs_mul];simp
  have e3:D*(a.num*b.den+b.num*a.den).natAbs=((D:Int)*(a.num*b.den+b.num*a.den)).natAbs:=by omega
  rw [e3]
  have e4:(D:Int)*(a.num*b.den+b.num*a.den)=((a.den*b.den:Nat):Int)*(x*a.num+y*b.num):=by
   have h1:(D:Int)=a.den*x:=by rw [hx];simp
   have h2:(D:Int)=b.den*y:=by rw [hy];simp
   rw [Int.mul_add,Int.mul_add,show((a.den*b.den:Nat):Int)=(a.den:Int)*b.den from by simp];congr 1
   ·rw [h1];simp only [Int.mul_assoc,Int.mul_left_comm,Int.mul_comm]
   ·rw [h2];simp only [Int.mul_assoc,Int.mul_left_comm,Int.mul_comm]
  rw [e4,Int.natAbs_mul,Int.natAbs_natCast];exact Nat.dvd_mul_right _ _
 ·have h1:=h.2;have h2:=k.2
  calc _≤(a.num*b.den).natAbs+(b.num*a.den).natAbs:=by omega
   _=a.num.natAbs*b.den+b.num.natAbs*a.den:=by rw [Int.natAbs_mul,Int.natAbs_mul,Int.natAbs_natCast,Int.natAbs_natCast]
   _≤(B*a.den)*b.den+(C*b.den)*a.den:=Nat.add_le_add (Nat.mul_le_mul_right _ h1) (Nat.mul_le_mul_right _ h2)
   _=(B+C)*(a.den*b.den):=by rw [Nat.add_mul];simp only [Nat.mul_assoc,Nat.mul_comm b.den]
theorem BQ.neg {D B:Nat} {a:Rat} (h:BQ D B a):BQ D B (-a):=by
 refine⟨h.1,?_⟩;show(-a.num).natAbs≤B*a.den;rw [Int.natAbs_neg];exact h.2
theorem BQ.int (z:Int) {D B:Nat} (h:z.natAbs≤B):BQ D B (z:Rat):=⟨⟨D,(Nat.one_mul D).symm⟩,by show z.natAbs≤B*1;omega⟩
end Go.Pol
namespace Go.Proofs.YtjekhacnoopdpaaGreatDoor
open Go Go.RowKit Go.Pg
attribute [-bool_to_prop] Bool.and_eq_decide Bool.or_eq_decide Bool.decide_beq_decide decide_eq_decide
attribute [local go_sem] Tryz.underlying41 Tryz.underlying3 Tryz.underlying169 Tryz.underlying153 Tryz.underlying4 Tryz.underlying43 Tryz.underlying45 Tryz.underlying36 sz3 by3 z3 szL byL zL szB zB Zbe zNat Zbf zInt Zbd zRat
structure RQ where
 s:Bool
 l:List Nat
 d:List Nat
def RQ.lm (r:RQ) (k:Nat):Prop:=Lm r.l∧Lm r.d∧r.l.length≤k∧r.d.length≤k
abbrev RQ.av (r:RQ):AV:=.agg [.v (.bool r.s),lim r.l,lim r.d]
def RQ.zok (s:Bool) (l:List Nat):Bool:=valL l && !(s && decide (l.length=0))
def RQ.ok (r:RQ):Bool:=RQ.zok r.s r.l && valL r.d && (Nat.gcd (nv r.l) (nv r.d) == 1) && decide (0 < r.d.length)
def RQ.q (r:RQ):Rat:=mkRat (zI r.s (nv r.l)) (nv r.d)
theorem RQ.ok_av {r:RQ} {k:Nat} (hl:r.lm k) (h:r.ok=true):r.av=ratQ r.q∧Sz r.q k:=by
 obtain⟨s,l,d⟩:=r;obtain⟨h1,h2,h3,h4⟩:=hl;simp only [RQ.ok,RQ.zok,Bool.and_eq_true,decide_eq_true_eq,Bool.not_eq_true',beq_iff_eq] at h;obtain⟨⟨⟨⟨v1,v2⟩,v3⟩,v4⟩,v5⟩:=h;have e1:=(Zhj h1).1 v1;have e2:=(Zhj h2).1 v3;simp only [RQ.av,RQ.q] at *;generalize nv l=n at *;generalize nv d=m at *;subst e1;subst e2;have hm:m≠0:=by have:=Zbb.1 v5;omega
 have hs:decide (zI s n < 0)=s:=by
  rw [zI_lt];cases s
  ·rfl
  ·have:(toL n).length≠0:=by simpa using v2
   rw [decide_eq_true (Zbb.1 (by omega))];rfl
 refine⟨?_,Sz.mk (by rw [Zdo];exact h3) h4 (by omega)⟩;rw [Zpk _ _ hm,Zdo,v4,Nat.div_one,Nat.div_one,hs]
theorem Zoz {a b:Nat}:toL a=toL b↔a=b:=⟨λh=>by rw [←Zal a,h,Zal],λh=>by rw [h]⟩
theorem zRight (s:Bool) (l:List Nat) (hs:l.length≤100000000) (hl:Lm l):Pure Tryz.prog 140 [.agg [.v (.bool s),lim l]] (.v (.bool (RQ.zok s l))):=by
 have cv:=Zq1 l (by omega) hl;unfold RQ.zok;generalize valL l=v at *;cases v
 ·refine Zaa (tok:=0) Tryz.func140 rfl Tryz.ntmps140 Tryz.results140 Tryz.call140 (by rfl) (by simp) ?_;(focus (refine wkvp (w_1 @Bool.false_and) (w_1 cv) ?_;(repeat' first|exact w_t|apply w_l);all_goals intros));simp (disch:=omega) only [go_sem,Bool.false_and]
 ·cases s
  ·refine Zaa (tok:=0) Tryz.func140 rfl Tryz.ntmps140 Tryz.results140 Tryz.call140 (by rfl) (by simp) ?_;(focus (refine wkvp (w_1 @Bool.false_and) (w_1 cv) ?_;(repeat' first|exact w_t|apply w_l);all_goals intros));simp (disch:=omega) only [go_sem,Bool.false_and]
  ·by_cases h0:l.length=0
   ·refine Zaa (tok:=0) Tryz.func140 rfl Tryz.ntmps140 Tryz.results140 Tryz.call140 (by rfl) (by simp) ?_;(focus (refine wkvp (w_2 h0 @Int.natCast_zero) (w_1 cv) ?_;(repeat' first|exact w_t|apply w_l);all_goals intros));simp (disch:=omega) only [go_sem,h0]
   ·refine Zaa (tok:=0) Tryz.func140 rfl Tryz.ntmps140 Tryz.results140 Tryz.call140 (by rfl) (by simp) ?_;(focus (refine wkvp w_t (w_1 cv) ?_;(repeat' first|exact w_t|apply w_l);all_goals intros));simp (disch:=omega) only [go_sem,h0,decide_eq_false h0]
theorem Zu9 (s:Bool) (l d:List Nat) (h1:Lm l) (h2:Lm d) (h3:l.length≤100000000) (h4:d.length≤100000000):Pure Tryz.prog 67 [.agg [.v (.bool s),lim l,lim d]] (.v (.bool (RQ.ok ⟨s,l,d⟩))):=by
 have cz:=zRight s l h3 h1;have cv:=Zq1 d (by omega) h2;have cg:=refGcd l d (by omega) (by omega) h1 h2
 have hgl:(toL (Nat.gcd (nv l) (nv d))).length≤100000000:=by
  have l1:=Zaq h1;have l2:=Zaq h2;by_cases hd:nv d=0
  ·rw [hd,Nat.gcd_zero_right];omega
  ·exact Nat.le_trans (Zcy (Nat.gcd_le_right _ (by omega))) (by omega)
 have cs:=refSameN (toL (Nat.gcd (nv l) (nv d))) (toL 1) (by omega) (by rw [Zdi];omega) (Zam _) (Zam _);rw [show decide (toL (Nat.gcd (nv l) (nv d))=toL 1)=(Nat.gcd (nv l) (nv d) == 1) from by rw [Bool.eq_iff_iff,decide_eq_true_eq,beq_iff_eq];exact Zoz] at cs;unfold RQ.ok;generalize RQ.zok s l=v at *;simp only;generalize Nat.gcd (nv l) (nv d)=g at *;cases v
 ·refine Zaa (tok:=0) Tryz.func67 rfl Tryz.ntmps67 Tryz.results67 Tryz.call67 (by rfl) (by simp) ?_;(focus (refine wkvp (w_1 @Bool.false_and) (w_1 cz) ?_;(repeat' first|exact w_t|apply w_l);all_goals intros));simp (disch:=omega) only [go_sem,Bool.false_and]
 ·generalize valL d=v at *;cases v
  ·refine Zaa (tok:=0) Tryz.func67 rfl Tryz.ntmps67 Tryz.results67 Tryz.call67 (by rfl) (by simp) ?_;(focus (refine wkvp (w_1 @Bool.false_and) (w_2 cz cv) ?_;(repeat' first|exact w_t|apply w_l);all_goals intros));simp (disch:=omega) only [go_sem,Bool.false_and]
  ·by_cases hg:g=1
   ·have hgb:(g == 1)=true:=by rw [beq_iff_eq];exact hg
    rw [hgb] at cs ⊢;by_cases hd:0 < d.length
    ·rw [decide_eq_true hd];refine Zaa (tok:=0) Tryz.func67 rfl Tryz.ntmps67 Tryz.results67 Tryz.call67 (by rfl) (by simp) ?_;(focus (refine wkvp w_t (w_5 cz cv cg (Ziy 1 (by omega)) cs) ?_;(repeat' first|exact w_t|apply w_l);all_goals intros));simp (disch:=omega) only [go_sem]
    ·rw [decide_eq_false hd];refine Zaa (tok:=0) Tryz.func67 rfl Tryz.ntmps67 Tryz.results67 Tryz.call67 (by rfl) (by simp) ?_;(focus (refine wkvp w_t (w_5 cz cv cg (Ziy 1 (by omega)) cs) ?_;(repeat' first|exact w_t|apply w_l);all_goals intros));simp (disch:=omega) only [go_sem,Bool.and_false]
   ·have hgb:(g == 1)=false:=by rw [beq_eq_false_iff_ne];exact hg
    rw [hgb] at cs ⊢;refine Zaa (tok:=0) Tryz.func67 rfl Tryz.ntmps67 Tryz.results67 Tryz.call67 (by rfl) (by simp) ?_;(focus (refine wkvp (w_2 @Bool.and_false @Bool.false_and) (w_5 cz cv cg (Ziy 1 (by omega)) cs) ?_;(repeat' first|exact w_t|apply w_l);all_goals intros));simp (disch:=omega) only [go_sem,Bool.and_false,Bool.false_and]
section
variable {N n:Nat} {cs:List AV}
theorem agN16:Zg6 Tryz.prog 169=false:=by kernel_rfl
theorem cs16:Tryz.prog.cellsOf 169=1:=by kernel_rfl
theorem shNat (h:Zcl Tryz.prog N n 41 cs):∃l:List Nat,cs=[lim l]∧Lm l∧l.length≤N:=by
 obtain⟨bs,rfl,hl,hq⟩:=Zc4 (g:=λk:Nat=>[AV.v (.int .u16 (k:Int))]) (Q:=λk=>k < 65536) Tryz.underlying41 h λm x hx=>by
  obtain⟨i,rfl,hw⟩:=Zf4 Tryz.underlying169 hx;have:=wf_u16 hw;exact⟨i.toNat,by rw [Int.toNat_of_nonneg this.1],by omega⟩
 refine⟨bs,?_,hq,hl⟩;rw [cs16];have:(bs.map λb:Nat=>Zc2 Tryz.prog 169 [AV.v (.int .u16 (b:Int))])=u16s bs:=List.map_congr_left λb _=>Zfy agN16 _;rw [this]
theorem shInt (h:Zcl Tryz.prog N n 43 cs):∃(s:Bool) (l:List Nat),cs=[.v (.bool s),lim l]∧Lm l∧l.length≤N:=by
 obtain⟨m,rfl,hs⟩:=Zc0 Tryz.underlying43 (by kernel_rfl) h;obtain⟨x,y,rfl,h1,hs⟩:=hs.inv;obtain⟨z,y,rfl,h2,hs⟩:=hs.inv;obtain rfl:=hs.inv0;obtain⟨s,rfl⟩:=Zsp Tryz.underlying4 h1;obtain⟨l,rfl,h3,h4⟩:=shNat h2;exact⟨s,l,rfl,h3,h4⟩
theorem shRat (h:Zcl Tryz.prog N n 45 cs):∃r:RQ,cs=[.v (.bool r.s),lim r.l,lim r.d]∧r.lm N:=by
 obtain⟨m,rfl,hs⟩:=Zc0 Tryz.underlying45 (by kernel_rfl) h;obtain⟨x,y,rfl,h1,hs⟩:=hs.inv;obtain⟨z,y,rfl,h2,hs⟩:=hs.inv;obtain rfl:=hs.inv0;obtain⟨s,l,rfl,h3,h4⟩:=shInt h1;obtain⟨d,rfl,h5,h6⟩:=shNat h2;exact⟨⟨s,l,d⟩,rfl,h3,h5,h4,h6⟩
structure RP where
 x:RQ
 y:RQ
abbrev RP.av (p:RP):AV:=.agg [.v (.bool p.x.s),lim p.x.l,lim p.x.d,.v (.bool p.y.s),lim p.y.l,lim p.y.d]
def RP.lm (p:RP) (k:Nat):Prop:=p.x.lm k∧p.y.lm k
theorem shPoint (h:Zcl Tryz.prog N n 110 cs):∃p:RP,cs=[.v (.bool p.x.s),lim p.x.l,lim p.x.d,.v (.bool p.y.s),lim p.y.l,lim p.y.d]∧p.lm N:=by
 obtain⟨m,rfl,hs⟩:=Zc0 Tryz.underlying110 (by kernel_rfl) h;obtain⟨x,y,rfl,h1,hs⟩:=hs.inv;obtain⟨z,y,rfl,h2,hs⟩:=hs.inv;obtain rfl:=hs.inv0;obtain⟨r,rfl,h3⟩:=shRat h1;obtain⟨q,rfl,h4⟩:=shRat h2;exact⟨⟨r,q⟩,rfl,h3,h4⟩
end
end Go.Proofs.YtjekhacnoopdpaaGreatDoor
namespace Go.Proofs.YtjekhacnoopdpaaGreatDoor
open Go Go.RowKit Go.Pg Go.Pol
attribute [-bool_to_prop] Bool.and_eq_decide Bool.or_eq_decide Bool.decide_beq_decide decide_eq_decide
abbrev Tm:=Rat × List Int
abbrev Po:=List Tm
abbrev tmA (t:Tm):AV:=.agg [.v (.bool (decide (t.1.num < 0))),lim (toL t.1.num.natAbs),lim (toL t.1.den),ivs t.2]
abbrev poA (p:Po):AV:=.sl 4 (p.map tmA)
abbrev SrtM (p:Po):Prop:=Srt Can ltM p
abbrev addM (p q:Po):Po:=addP ltM p q
abbrev subM (p q:Po):Po:=subP ltM p q
abbrev mlM (p q:Po):Po:=mulR ltM mulM p q
def sclM (a:Rat) (p:Po):Po:=if a=0 then [] else Zc6 a p
def PK (p:Po) (k e:Nat):Prop:=∀t∈p,Sz t.1 k∧t.2.length≤1000∧∀j,0≤gI t.2 j∧gI t.2 j≤(e:Int)
theorem PK.mono {p:Po} {k j e f:Nat} (h:PK p k e) (hk:k≤j) (he:e≤f):PK p j f:=λt ht=>⟨(h t ht).1.mono hk,(h t ht).2.1,λi=>by have:=(h t ht).2.2 i;omega⟩
theorem PK.sm {p:Po} {k e:Nat} (h:PK p k e) (he:e≤16777216) {t:Tm} (ht:t∈p):Sm t.2:=⟨(h t ht).2.1,λi=>by have:=(h t ht).2.2 i;omega⟩
theorem PK.nil {k e:Nat}:PK [] k e:=λt ht=>by simp at ht
theorem PK.tail {t:Tm} {p:Po} {k e:Nat} (h:PK (t :: p) k e):PK p k e:=λu hu=>h u (.tail _ hu)
theorem PK.drop {p:Po} {k e:Nat} (h:PK p k e) (i:Nat):PK (p.drop i) k e:=λu hu=>h u (List.mem_of_mem_drop hu)
theorem PK.add {p q:Po} {j k e:Nat} (hp:PK p j e) (hq:PK q k e):PK (addM p q) (j+k+1) e:=λt ht=>by
 rcases Zhv ht with h | h | ⟨s,hs,u,hu,rfl⟩
 ·exact⟨(hp t h).1.mono (by omega),(hp t h).2⟩
 ·exact⟨(hq t h).1.mono (by omega),(hq t h).2⟩
 ·exact⟨(hp s hs).1.add (hq u hu).1,(hp s hs).2⟩
def Zix (v:Nat):List Int:=List.replicate v 0++[1]
theorem Zf1 (v:Nat):(Zix v).length=v+1:=by simp [Zix]
theorem Zmg (v j:Nat):gI (Zix v) j=if j=v then 1 else 0:=by
 by_cases h:j < v+1
 ·rw [gI_at (by rw [Zf1];exact h)];unfold Zix;rw [List.getElem_append];by_cases hj:j < v
  ·rw [dif_pos (by simpa using hj),List.getElem_replicate,if_neg (by omega)]
  ·rw [dif_neg (by simpa using hj),if_pos (by omega)];simp
 ·rw [Ze9 (by rw [Zf1];omega),if_neg (by omega)]
theorem can_unit (v:Nat):Can (Zix v):=by
 refine⟨λj=>by rw [Zmg];split<;>omega,.inr ?_⟩;rw [Zf1,Zmg,if_pos (by omega)];omega
def varM (v:Nat):Po:=if v < 64 then [(1,Zix v)] else []
theorem Zqh (v:Nat):SrtM (varM v):=by
 unfold varM;split
 ·exact Srt.nil.cons (by show(1:Rat)≠0;decide) (can_unit v) (by simp)
 ·exact .nil
structure RS where
 k:Int
 nm:ByteArray
 ar:List Int
 r:RQ
structure RG where
 k:Int
 ar:List Int
 r:RQ
abbrev RS.av (s:RS):AV:=.agg [iv s.k,strA s.nm,ivs s.ar,.v (.bool s.r.s),lim s.r.l,lim s.r.d]
abbrev RG.av (g:RG):AV:=.agg [iv g.k,ivs g.ar,.v (.bool g.r.s),lim g.r.l,lim g.r.d]
abbrev figA (ss:List RS) (gs:List RG):AV:=.agg [.sl 6 (ss.map RS.av),.sl 5 (gs.map RG.av)]
def RQ.none (r:RQ):Bool:=!r.s && (decide (r.l.length=0) && decide (r.d.length=0))
structure FS where
 cs:List (Po × Po)
 vs:List Vt
 fr:Nat
abbrev coA (c:Po × Po):AV:=.agg [poA c.1,poA c.2]
def FS.at(f:FS) (s:RS) (k:Nat):Po × Po:=f.cs.getD (gI s.ar k).toNat ([],[])
def FS.nxt (f:FS) (i:Nat) (s:RS):List Vt × (Po × Po) :=
 let v:=f.vs.length
 let a:=f.at s 0
 let b:=f.at s 1
 let c:=f.at s 2
 if s.k=1 then
  (if f.fr=0 then ([],([],[]))
   else if f.fr=1 then ([(1,(i:Int),0)],(varM v,[]))
   else ([(1,(i:Int),0),(1,(i:Int),1)],(varM v,varM (v+1))))
 else if s.k=2 then ([],(addM a.1 (sclM s.r.q (subM b.1 a.1)),addM a.2 (sclM s.r.q (subM b.2 a.2))))
 else if s.k=3 then ([],(addM a.1 (subM c.1 b.1),addM a.2 (subM c.2 b.2)))
 else if s.k=4 then ([],(addM a.1 (subM b.2 c.2),addM a.2 (subM c.1 b.1)))
 else if s.k=5 then ([(1,(i:Int),0)],(addM a.1 (mlM (subM b.1 a.1) (varM v)),addM a.2 (mlM (subM b.2 a.2) (varM v))))
 else if s.k=6 then ([(1,(i:Int),0),(2,(i:Int),1),(2,(i:Int),2)],(varM (v+1),varM (v+2)))
 else ([(2,(i:Int),0),(2,(i:Int),1)],(varM v,varM (v+1)))
def FS.push (f:FS) (i:Nat) (s:RS):FS:=⟨f.cs++[(f.nxt i s).2],f.vs++(f.nxt i s).1,if s.k=1 then f.fr+1 else f.fr⟩
def frN (ss:List RS):Nat→FS
 | 0=>⟨[],[],0⟩
 | i+1=>(frN ss i).push i (ss.getD i ⟨0,.empty,[],⟨false,[],[]⟩⟩)
def bigN (ss:List RS) (i:Nat):Bool :=
 decide (64 < (frN ss (i+1)).vs.length) || decide (4000 < ((frN ss i).nxt i (ss.getD i ⟨0,.empty,[],⟨false,[],[]⟩⟩)).2.1.length) || decide (4000 < ((frN ss i).nxt i (ss.getD i ⟨0,.empty,[],⟨false,[],[]⟩⟩)).2.2.length)
def BB (n:Nat):Nat:=65536 ^ (3*n)
theorem BB_pos (n:Nat):1≤BB n:=Nat.one_le_pow _ _ (by omega)
theorem BB_succ (n:Nat):BB (n+1)=BB n*65536 ^ 3:=by unfold BB;rw [←Nat.pow_add];rfl
def GP (n D v:Nat) (p:Po):Prop:=SrtM p∧∀t∈p,BQ D (BB n) t.1∧t.2.length≤v∧∀j,gI t.2 j≤1
theorem GP.nil {n D v:Nat}:GP n D v []:=⟨.nil,λt h=>by simp at h⟩
theorem GP.mono {n D v m E w:Nat} {p:Po} (h:GP n D v p) (hn:n≤m) (hd:D ∣ E) (hv:v≤w):GP m E w p :=
 ⟨h.1,λt ht=>⟨(h.2 t ht).1.mono hd (Nat.pow_le_pow_right (by omega) (by omega)),by have:=(h.2 t ht).2.1;omega,(h.2 t ht).2.2⟩⟩
theorem bq_sz {D B d b:Nat} {q:Rat} (h:BQ D B q) (h0:D≠0) (hd:D < 65536 ^ d) (hb:B < 65536 ^ b):Sz q (d+b):=by
 have h1:q.den≤D:=Nat.le_of_dvd (Nat.pos_of_ne_zero h0) h.1;refine⟨Zag.2 ?_,Nat.le_trans (Zag.2 (Nat.lt_of_le_of_lt h1 hd)) (by omega)⟩;have hp:0 < q.den:=q.den_pos
 calc q.num.natAbs≤B*q.den:=h.2
  _≤B*D:=Nat.mul_le_mul_left _ h1
  _ < 65536 ^ b*65536 ^ d:=Nat.mul_lt_mul_of_lt_of_lt hb hd
  _=65536 ^ (d+b):=by rw [Nat.mul_comm,←Nat.pow_add]
def GB (B D v:Nat) (p:Po):Prop:=SrtM p∧∀t∈p,BQ D B t.1∧t.2.length≤v∧∀j,gI t.2 j≤1
theorem GB.mono {B D v C E w:Nat} {p:Po} (h:GB B D v p) (hn:B≤C) (hd:D ∣ E) (hv:v≤w):GB C E w p :=
 ⟨h.1,λt ht=>⟨(h.2 t ht).1.mono hd hn,by have:=(h.2 t ht).2.1;omega,(h.2 t ht).2.2⟩⟩
theorem GB.add {B C D v:Nat} {p q:Po} (h:GB B D v p) (k:GB C D v q):GB (B+C) D v (addM p q):=by
 refine⟨Zcu ordM h.1 k.1,λt ht=>?_⟩;rcases Zhv ht with h1 | h1 | ⟨s,hs,u,hu,rfl⟩
 ·exact⟨(h.2 t h1).1.mono (Nat.dvd_refl _) (by omega),(h.2 t h1).2⟩
 ·exact⟨(k.2 t h1).1.mono (Nat.dvd_refl _) (by omega),(k.2 t h1).2⟩
 ·exact⟨(h.2 s hs).1.add (k.2 u hu).1,(h.2 s hs).2⟩
theorem GB.neg {B D v:Nat} {p:Po} (h:GB B D v p):GB B D v (Zc6 (-1) p):=by
 refine⟨Znc h.1 neg1,λt ht=>?_⟩;obtain⟨s,hs,rfl⟩:=List.mem_map.1 ht;refine⟨?_,(h.2 s hs).2⟩;have e:s.1*-1=-s.1:=by grind
 show BQ D B (s.1*-1);rw [e];exact(h.2 s hs).1.neg
theorem GB.sub {B C D v:Nat} {p q:Po} (h:GB B D v p) (k:GB C D v q):GB (B+C) D v (subM p q):=h.add k.neg
theorem GB.scl {B C D E v:Nat} {p:Po} {a:Rat} (h:GB B D v p) (ha:BQ E C a):GB (B*C) (D*E) v (sclM a p):=by
 unfold sclM;split
 ·exact⟨.nil,λt h=>by simp at h⟩
 ·rename_i h0;refine⟨Znc h.1 h0,λt ht=>?_⟩;obtain⟨s,hs,rfl⟩:=List.mem_map.1 ht;exact⟨(h.2 s hs).1.mul ha,(h.2 s hs).2⟩
theorem mul_var (p:Po) (v:Nat):mlM p (varM v)=if v < 64 then Zhk mulM p (1,Zix v) else []:=by
 unfold varM;split
 ·show addP ltM [] (Zhk mulM p (1,Zix v))=_;simp [addP]
 ·rfl
theorem GB.var {B D v:Nat} {p:Po} (h:GB B D v p):GB B D (v+1) (mlM p (varM v)):=by
 refine⟨mulR_srt ordM mulK h.1 (Zqh v),λt ht=>?_⟩;rw [mul_var] at ht;split at ht
 ·obtain⟨s,hs,rfl⟩:=List.mem_map.1 ht;obtain⟨h1,h2,h3⟩:=h.2 s hs;refine⟨by show BQ D B (s.1*1);rw [Rat.mul_one];exact h1,by show(mulM s.2 (Zix v)).length≤v+1;rw [Zrk,Zf1];omega,λj=>?_⟩;show gI (mulM s.2 (Zix v)) j≤1;rw [Zj1 _ rfl,Zmg];split
  ·rename_i hj;rw [Ze9 (by omega)];omega
  ·have:=h3 j;omega
 ·simp at ht
theorem GB.one {B D v w:Nat} (hB:1≤B) (h:v < w):GB B D w (varM v):=by
 refine⟨Zqh v,λt ht=>?_⟩;unfold varM at ht;split at ht
 ·rw [List.mem_singleton] at ht;subst ht;refine⟨BQ.int 1 (by simpa using hB),by show(Zix v).length≤w;rw [Zf1];omega,λj=>?_⟩;show gI (Zix v) j≤1;rw [Zmg];split<;>omega
 ·simp at ht
theorem GB.nil {B D v:Nat}:GB B D v []:=⟨.nil,λt h=>by simp at h⟩
structure FI (f:FS) (n D:Nat):Prop where
 D0:D≠0
 Dl:D < 65536 ^ (2*n+1)
 nv:f.vs.length≤64
 cs:∀c∈f.cs,GP n D f.vs.length c.1∧GP n D f.vs.length c.2
 ln:∀c∈f.cs,c.1.length≤4000∧c.2.length≤4000
theorem FI.at {f:FS} {n D:Nat} (h:FI f n D) (s:RS) (k:Nat):(GP n D f.vs.length (f.at s k).1∧GP n D f.vs.length (f.at s k).2)∧(f.at s k).1.length≤4000∧(f.at s k).2.length≤4000:=by
 unfold FS.at;by_cases hk:(gI s.ar k).toNat < f.cs.length
 ·have:=Zdd (d:=(([],[]):Po × Po)) hk;exact⟨h.cs _ this,h.ln _ this⟩
 ·rw [List.getD_eq_getElem?_getD,List.getElem?_eq_none (by omega)];exact⟨⟨.nil,.nil⟩,by simp,by simp⟩
def RQ.bd (r:RQ):Prop:=r.ok=true→r.q.den < 65536 ^ 2∧r.q.num.natAbs < 65536 ^ 2
theorem FI.nxt {f:FS} {n D:Nat} (h:FI f n D) (i:Nat) (s:RS) (hr:s.k=2→s.r.ok=true) (hb:s.r.bd) :
 ∃E,E≠0∧D ∣ E∧E < 65536 ^ (2*(n+if s.k=1 then 0 else 1)+1) ∧
  GP (n+if s.k=1 then 0 else 1) E (f.vs++(f.nxt i s).1).length (f.nxt i s).2.1∧GP (n+if s.k=1 then 0 else 1) E (f.vs++(f.nxt i s).1).length (f.nxt i s).2.2:=by
 obtain⟨⟨a1,a2⟩,-⟩:=h.at s 0;obtain⟨⟨b1,b2⟩,-⟩:=h.at s 1;obtain⟨⟨c1,c2⟩,-⟩:=h.at s 2;have hB:=BB_pos n;have hS:=BB_succ n;unfold FS.nxt;simp only;have one:∀v w,v < w→GP n D w (varM v):=λv w hv=>GB.one hB hv;have up:∀{E v:Nat} {p:Po} {C:Nat},GB C E v p→C≤BB n*65536 ^ 3→GP (n+1) E v p:=λh hc=>GB.mono h (by rw [hS];exact hc) (Nat.dvd_refl _) (Nat.le_refl _);have dl:D < 65536 ^ (2*(n+1)+1):=Nat.lt_of_lt_of_le h.Dl (Nat.pow_le_pow_right (by omega) (by omega))
 have b3:BB n+(BB n+BB n)≤BB n*65536 ^ 3:=by
  have:BB n*3≤BB n*65536 ^ 3:=Nat.mul_le_mul_left _ (by decide);omega
 by_cases k1:s.k=1
 ·rw [if_pos k1,if_pos k1];refine⟨D,h.D0,Nat.dvd_refl _,h.Dl,?_⟩;split
  ·exact⟨.nil,.nil⟩
  ·split
   ·exact⟨one _ _ (by simp),.nil⟩
   ·exact⟨one _ _ (by simp),one _ _ (by simp)⟩
 ·rw [if_neg k1,if_neg k1];by_cases k2:s.k=2
  ·rw [if_pos k2];obtain⟨h1,h2⟩:=hb (hr k2);refine⟨D*s.r.q.den,Nat.mul_ne_zero h.D0 s.r.q.den_nz,Nat.dvd_mul_right _ _,?_,?_⟩
   ·calc D*s.r.q.den < 65536 ^ (2*n+1)*65536 ^ 2:=Nat.mul_lt_mul_of_lt_of_lt h.Dl h1
     _=65536 ^ (2*(n+1)+1):=by rw [←Nat.pow_add];congr 1
   ·have hq:BQ s.r.q.den (65536 ^ 2) s.r.q:=⟨Nat.dvd_refl _,by have:=s.r.q.den_pos;have:=Nat.le_mul_of_pos_right (65536 ^ 2) this;omega⟩
    have bd:BB n+(BB n+BB n)*65536 ^ 2≤BB n*65536 ^ 3:=by
     have e1:(BB n+BB n)*65536 ^ 2=BB n*(2*65536 ^ 2):=by rw [←Nat.mul_two,Nat.mul_assoc]
     rw [e1];have:BB n*(1+2*65536 ^ 2)≤BB n*65536 ^ 3:=Nat.mul_le_mul_left _ (by decide);omega
    rw [List.append_nil];exact⟨up ((GB.mono a1 (Nat.le_refl _) (Nat.dvd_mul_right _ _) (Nat.le_refl _)).add ((GB.sub b1 a1).scl hq)) bd,up ((GB.mono a2 (Nat.le_refl _) (Nat.dvd_mul_right _ _) (Nat.le_refl _)).add ((GB.sub b2 a2).scl hq)) bd⟩
  ·rw [if_neg k2];refine⟨D,h.D0,Nat.dvd_refl _,dl,?_⟩;have one':∀v w,v < w→GP (n+1) D w (varM v):=λv w hv=>GB.one (BB_pos _) hv;by_cases k3:s.k=3
   ·rw [if_pos k3,List.append_nil];exact⟨up (GB.add a1 (GB.sub c1 b1)) b3,up (GB.add a2 (GB.sub c2 b2)) b3⟩
   ·rw [if_neg k3];by_cases k4:s.k=4
    ·rw [if_pos k4,List.append_nil];exact⟨up (GB.add a1 (GB.sub b2 c2)) b3,up (GB.add a2 (GB.sub c1 b1)) b3⟩
    ·rw [if_neg k4];by_cases k5:s.k=5
     ·rw [if_pos k5];have e:(f.vs++[(1,(i:Int),0)]).length=f.vs.length+1:=by simp
      rw [e];exact⟨up (GB.add (GB.mono a1 (Nat.le_refl _) (Nat.dvd_refl _) (by omega)) (GB.sub b1 a1).var) b3,up (GB.add (GB.mono a2 (Nat.le_refl _) (Nat.dvd_refl _) (by omega)) (GB.sub b2 a2).var) b3⟩
     ·rw [if_neg k5];by_cases k6:s.k=6
      ·rw [if_pos k6];exact⟨one' _ _ (by simp),one' _ _ (by simp)⟩
      ·rw [if_neg k6];exact⟨one' _ _ (by simp),one' _ _ (by simp)⟩
def nfN (ss:List RS):Nat→Nat
 | 0=>0
 | i+1=>nfN ss i+if (ss.getD i ⟨0,.empty,[],⟨false,[],[]⟩⟩).k=1 then 0 else 1
end Go.Proofs.YtjekhacnoopdpaaGreatDoor
namespace Go.Pg
open Go Go.RowKit
mutual
def AV.sh:AV→AV
 | .agg cs=>.agg (AV.shL cs)
 | .tup cs=>.tup (AV.shL cs)
 | .fn f cs=>.fn f (AV.shL cs)
 | .ifc t x=>.ifc t (AV.sh x)
 | .own k sv=>.own (k+1000) sv
 | .prow k sv m i off=>.prow (k+1000) sv m i off
 | .pbox k g off=>.pbox (k+1000) g off
 | .view k sv m i len=>.view (k+1000) sv m i len
 | .mp k g=>.mp (k+1000) g
 | .v x=>.v x
 | .sl m es=>.sl m es
 | .pimm cs=>.pimm cs
 | .u=>.u
def AV.shL:List AV→List AV
 | []=>[]
 | a :: r=>AV.sh a :: AV.shL r
end
theorem AV.shL_len:∀(l:List AV),(AV.shL l).length=l.length
 | []=>rfl
 | a :: r=>by simp only [AV.shL,List.length_cons,AV.shL_len r]
theorem AV.shL_at:∀(l:List AV) (j:Nat),(AV.shL l)[j]?=(l[j]?).map AV.sh
 | [],j=>by simp [AV.shL]
 | a :: r,0=>by simp [AV.shL]
 | a :: r,j+1=>by simp only [AV.shL,List.getElem?_cons_succ];exact AV.shL_at r j
theorem AV.sh_one (a:AV):a.sh.one=a.one:=by cases a<;>simp only [AV.sh]<;>rfl
theorem Sub.agg (aS bs:List AV) (hl:aS.length=bs.length) (h:∀(j:Nat) (a b:AV),aS[j]?=some a→bs[j]?=some b→Sub a b):Sub (.agg aS) (.agg bs):=λw imm x hx=>by
 obtain⟨vs,rfl,h1,h2⟩:=hx.agg_inv;refine .agg _ _ (by omega) λj b y hb hy=>?_;have hj:j < aS.length:=by rw [hl];exact(List.getElem?_eq_some_iff.1 hb).1
 exact h j aS[j] b (List.getElem?_eq_getElem hj) hb w imm y (h2 j aS[j] y (List.getElem?_eq_getElem hj) hy)
theorem Sub.fn (f:FuncId) (aS bs:List AV) (hl:aS.length=bs.length) (h:∀(j:Nat) (a b:AV),aS[j]?=some a→bs[j]?=some b→Sub a b):Sub (.fn f aS) (.fn f bs):=λw imm x hx=>by
 obtain⟨vs,rfl,h1,h2⟩:=hx.fn_inv;refine .fn _ _ _ (by omega) λj b y hb hy=>?_;have hj:j < aS.length:=by rw [hl];exact(List.getElem?_eq_some_iff.1 hb).1
 exact h j aS[j] b (List.getElem?_eq_getElem hj) hb w imm y (h2 j aS[j] y (List.getElem?_eq_getElem hj) hy)
theorem Sub.ifc (t:TypeId) {a b:AV} (h:Sub a b):Sub (.ifc t a) (.ifc t b):=λw imm x hx=>by
 obtain⟨y,rfl,h1⟩:=hx.ifc_inv;exact .ifc _ _ _ (h w imm y h1)
mutual
theorem AV.sub_sh:∀(a:AV),Sub a a.sh∧Sub a.sh a
 | .agg cs=>by
   have h:=AV.subL_sh cs;refine⟨Sub.agg _ _ (AV.shL_len cs).symm λj a b h1 h2=>?_,Sub.agg _ _ (AV.shL_len cs) λj a b h1 h2=>?_⟩
   ·rw [AV.shL_at,h1] at h2;cases h2;exact(h a (List.mem_of_getElem? h1)).1
   ·rw [AV.shL_at,h2] at h1;cases h1;exact(h b (List.mem_of_getElem? h2)).2
 | .tup cs=>by
   have h:=AV.subL_sh cs;refine⟨Sub.tup _ _ (AV.shL_len cs).symm λj a b h1 h2=>?_,Sub.tup _ _ (AV.shL_len cs) λj a b h1 h2=>?_⟩
   ·rw [AV.shL_at,h1] at h2;cases h2;exact(h a (List.mem_of_getElem? h1)).1
   ·rw [AV.shL_at,h2] at h1;cases h1;exact(h b (List.mem_of_getElem? h2)).2
 | .fn f cs=>by
   have h:=AV.subL_sh cs;refine⟨Sub.fn _ _ _ (AV.shL_len cs).symm λj a b h1 h2=>?_,Sub.fn _ _ _ (AV.shL_len cs) λj a b h1 h2=>?_⟩
   ·rw [AV.shL_at,h1] at h2;cases h2;exact(h a (List.mem_of_getElem? h1)).1
   ·rw [AV.shL_at,h2] at h1;cases h1;exact(h b (List.mem_of_getElem? h2)).2
 | .ifc t x=>⟨Sub.ifc t (AV.sub_sh x).1,Sub.ifc t (AV.sub_sh x).2⟩
 | .own k sv=>⟨Sub.own _ _ _,Sub.own _ _ _⟩
 | .prow k sv m i off=>⟨Sub.prow _ _ _ _ _ _,Sub.prow _ _ _ _ _ _⟩
 | .pbox k g off=>⟨Sub.pbox _ _ _ _,Sub.pbox _ _ _ _⟩
 | .view k sv m i len=>⟨Sub.view _ _ _ _ _ _,Sub.view _ _ _ _ _ _⟩
 | .mp k g=>⟨Sub.mp _ _ _,Sub.mp _ _ _⟩
 | .v x=>⟨Sub.refl _,Sub.refl _⟩
 | .sl m es=>⟨Sub.refl _,Sub.refl _⟩
 | .pimm cs=>⟨Sub.refl _,Sub.refl _⟩
 | .u=>⟨Sub.refl _,Sub.refl _⟩
theorem AV.subL_sh:∀(l:List AV) (a:AV),a∈l→Sub a a.sh∧Sub a.sh a
 | [],a,h=>by simp at h
 | b :: r,a,h=>by
   by_cases e:a=b
   ·rw [e];exact AV.sub_sh b
   ·exact AV.subL_sh r a ((List.mem_cons.1 h).resolve_left e)
end
def Ent.sh:Ent→Ent
 | .row sv e m es pub=>.row sv e m es pub
 | .box g e cs pub=>.box g e (AV.shL cs) pub
 | .map g es=>.map g es
theorem Ent.sh_blk (e:Ent):e.sh.blk=e.blk:=by cases e<;>rfl
theorem Ent.sh_ok {B:Nat} {w:World} {imm:Imm} {e:Ent} (h:EntOk B w imm e):EntOk B w imm e.sh:=by
 cases e with
 | row=>exact h
 | box g e cs pub =>
   obtain⟨cur,h1,h2,h3,h4,h5,h6,h7⟩:=h;refine⟨cur,h1,h2,by rw [AV.shL_len];exact h3,λx hx=>?_,λj a x ha hx=>?_,h6,λhp off ho=>h7 hp off (by rw [AV.shL_len] at ho;exact ho)⟩
   ·obtain⟨j,hj⟩:=List.mem_iff_getElem?.1 hx;rw [AV.shL_at] at hj;obtain⟨y,hy,rfl⟩:=Option.map_eq_some_iff.1 hj;rw [AV.sh_one];exact h4 y (List.mem_of_getElem? hy)
   ·rw [AV.shL_at] at ha;obtain⟨y,hy,rfl⟩:=Option.map_eq_some_iff.1 ha;exact(AV.sub_sh y).1 w imm x (h5 j y x hy hx)
 | map=>exact h
theorem Ent.of_sh {B:Nat} {w:World} {imm:Imm} {e:Ent} (h:EntOk B w imm e.sh):EntOk B w imm e:=by
 cases e with
 | row=>exact h
 | box g e cs pub =>
   obtain⟨cur,h1,h2,h3,h4,h5,h6,h7⟩:=h;refine⟨cur,h1,h2,by rw [AV.shL_len] at h3;exact h3,λx hx=>?_,λj a x ha hx=>?_,h6,λhp off ho=>h7 hp off (by rw [AV.shL_len];exact ho)⟩
   ·obtain⟨j,hj⟩:=List.mem_iff_getElem?.1 hx;have h8:=h4 x.sh (List.mem_of_getElem? (i:=j) (by rw [AV.shL_at,hj];rfl));rw [AV.sh_one] at h8;exact h8
   ·exact(AV.sub_sh a).2 w imm x (h5 j a.sh x (by rw [AV.shL_at,ha];rfl) hx)
 | map=>exact h
def Zds (σ:Mem):Mem:=λk=>if k < 1000 then none else (σ (k - 1000)).map Ent.sh
theorem Zck {σ:Mem} {k:Nat} {e:Ent} (h:σ k=some e):Zds σ (k+1000)=some e.sh:=by
 unfold Zds;rw [if_neg (by omega),Nat.add_sub_cancel,h];rfl
theorem Zcj {σ:Mem} {k:Nat} (h:k < 1000):Zds σ k=none:=by unfold Zds;rw [if_pos h]
def Agr (m σ:Mem):Prop:=∀k,m (k+1000)=(σ k).map Ent.sh
theorem Agr.start (σ:Mem):Agr (Zds σ) σ:=λk=>by unfold Zds;rw [if_neg (by omega),Nat.add_sub_cancel]
theorem Agr.own {m σ:Mem} (h:Agr m σ) {t:Nat} {x:Option Ent} (ht:t < 1000):Agr (upd m t x) σ:=λk=>by
 rw [Zac,if_neg (by omega)];exact h k
theorem Agr.mark {m σ:Mem} (h:Agr m σ) {t:Nat} (ht:t < 1000):Agr (mark m t) σ:=h.own ht
theorem Agr.put {m σ:Mem} (h:Agr m σ) {t k:Nat} {e e':Ent} (ht:t=k+1000) (he:e'=e.sh):Agr (upd m t (some e')) (upd σ k (some e)):=λj=>by
 subst ht;subst he;rw [Zac,Zac];by_cases hj:j=k
 ·subst hj;rw [if_pos rfl,if_pos rfl];rfl
 ·rw [if_neg (by omega),if_neg hj];exact h j
theorem Agr.same {m σ:Mem} (h:Agr m σ) {t k:Nat} {e e':Ent} (ht:t=k+1000) (hk:σ k=some e) (he:e'=e.sh):Agr (upd m t (some e')) σ:=by
 have:=h.put (k:=k) (e:=e) ht he
 rwa [show upd σ k (some e)=σ from by funext j;rw [Zac];split;(subst_vars;exact hk.symm);rfl] at this
def BackS (R:AV→Mem→Prop) (b:AV) (m:Mem):Prop:=∃(r:AV) (σ':Mem),Sub b r∧R r σ'∧Agr m σ'
theorem Ztk {R:AV→Mem→Prop} {b r:AV} {m σ':Mem} (h:Sub b r) (hR:R r σ') (ha:Agr m σ'):BackS R b m:=⟨r,σ',h,hR,ha⟩
theorem Zdl {P:Program} {f n:Nat} {fn:Func} {code:Code} {rs:List ResultVar} {args:List AV} {σ:Mem} {R:AV→Mem→Prop} (hf:P.funcs[f]?=some fn) (hb:fn.body=some code) (hn:fn.ntmps=n) (hrs:fn.results=rs.toArray)
 (hc:∀(vs:Array Value) (w:World),(callFunc f vs).run P w=.ok (.enter f vs) w) (hfit:Zbn n code=true) (hal:args.length≤n)
 (h:Za4 P 0 n code (Done P rs λst b=>BackS R b st.mem) ⟨λt=>(AV.shL args).getD t .u,Zds σ⟩):ACall P f args σ R:=by
 have key:=Zb1 (σ:=Zds σ) (R:=BackS R) hf hb hn hrs hc hfit (by rw [AV.shL_len];exact hal) h;refine⟨hc,λc w imm vs hm hl hr=>?_⟩
 have hm':Mx c (Zds σ) w imm:=by
  refine⟨⟨λk e hk=>?_,λk k' e e' b h1 h2 h3 h4=>?_,hm.ok.lt,hm.ok.spot⟩,hm.below,hm.lt,hm.old,hm.new,hm.cells⟩
  ·unfold Zds at hk;split at hk
   ·cases hk
   ·obtain⟨e0,h0,rfl⟩:=Option.map_eq_some_iff.1 hk;exact Ent.sh_ok (hm.ok.ent _ _ h0)
  ·unfold Zds at h1 h2;split at h1
   ·cases h1
   ·split at h2
    ·cases h2
    ·obtain⟨e0,k0,rfl⟩:=Option.map_eq_some_iff.1 h1;obtain⟨e1,k1,rfl⟩:=Option.map_eq_some_iff.1 h2;rw [Ent.sh_blk] at h3 h4;have:=hm.ok.apart _ _ _ _ b k0 k1 h3 h4;omega
 refine(key.2 c w imm vs hm' (by rw [AV.shL_len];exact hl) λj a x h1 h2=>?_).mono λe w' he=>?_
 ·rw [AV.shL_at] at h1;obtain⟨y,hy,rfl⟩:=Option.map_eq_some_iff.1 h1;exact(AV.sub_sh y).1 w imm x (hr j y x hy h2)
 ·obtain⟨b,m,imm',x,rfl,⟨r,σ',h1,h2,h3⟩,h5,h6,h7⟩:=he;refine⟨r,σ',imm',x,rfl,h2,h1 _ _ _ h5,⟨⟨λk e hk=>?_,λk k' e e' b h1 h2 k3 k4=>?_,h6.ok.lt,h6.ok.spot⟩,h6.below,h6.lt,h6.old,h6.new,h6.cells⟩,h7⟩
  ·have:=h3 k;rw [hk] at this;exact Ent.of_sh (h6.ok.ent _ _ this)
  ·have e1:=h3 k;have e2:=h3 k';rw [h1] at e1;rw [h2] at e2;have:=h6.ok.apart _ _ _ _ b e1 e2 (by rw [Ent.sh_blk];exact k3) (by rw [Ent.sh_blk];exact k4);omega
theorem Frz.nilBox {n:Nat} {e:Nat→AV} {m:Mem} {k g:Nat} {bt:TypeId} {cs:List AV} (j t mm:Nat) (ty:TypeId) (hm:m k=some (.box g bt cs false)) (hj:cs[j]?=some (.v (.slice none 0 0))) (ht:t≠k) :
 Frz n ⟨e,m⟩ ⟨e,upd (upd m k (some (.box g bt (cs.set j (.own t (.slice none 0 0))) false))) t (some (.row (.slice none 0 0) ty mm [] 0))⟩:=by
 intro c a w imm h
 have h1:Mx c (upd m k (some (.box g bt (cs.set j (.own t (.slice none 0 0))) false))) w imm:=by
  have hk:=h.mem.ok.ent k _ hm;obtain⟨cur,k1,k2,k3,k4,k5,k6,k7⟩:=hk;refine(Zeg h.mem (World.grownBy.refl w none) (by simp) (λ_ _=>rfl) k (.box g bt (cs.set j (.own t (.slice none 0 0))) false) ⟨cur,k1,k2,by simpa using k3,λx hx=>?_,λi a x ha hx=>?_,k6,λhp=>by cases hp⟩ λj2 e2 b h1 h2 h3=>⟨by simp,?_⟩).1
  ·rcases List.mem_or_eq_of_mem_set hx with h1 | h1
   ·exact k4 x h1
   ·subst h1;rfl
  ·rw [List.getElem?_set] at ha;split at ha
   ·rename_i hij;subst hij;split at ha
    ·simp only [Option.some.injEq] at ha;subst ha;have:=(k5 j _ x hj hx).v_inv;subst this;exact .own _ _ rfl
    ·cases ha
   ·exact k5 i a x ha hx
  ·show some g≠some b;intro hb;exact h1 (h.mem.ok.apart j2 k e2 _ b h2 hm h3 hb)
 refine⟨imm,h.env,h.size,h.defers,?_⟩;exact(Zeg h1 (World.grownBy.refl w none) (by simp) (λ_ _=>rfl) t (.row (.slice none 0 0) ty mm [] 0) ⟨[],World.ownsRow_nil w c.B ty mm,by simp,by simp,by simp [flat],by simp,λad _ h2=>by simp [Value.ownBlock] at h2,λg off h1 _=>by simp [Value.ownBlock] at h1⟩ λj e2 b _ _ _=>⟨by simp,by simp [Ent.blk,Value.ownBlock]⟩).1
attribute [go_sem] AV.sh AV.shL Ent.sh
end Go.Pg
namespace Go.Pg
open Go Go.RowKit Go.Lib
section
variable {P:Program} {n:Nat}
structure ItS (c:Cx) (n:Nat) (s:ByteArray) (tI:Nat) (J:Nat→(Nat→AV)→Prop) (pos:Nat) (a:Act) (w:World):Prop where
 h:∃e imm g,Rel c n ⟨e,Zai⟩ a w imm∧w.heap[g]?=some (.stringIter s pos)∧c.B≤g∧(∀ad,imm ad→ad.block≠g)∧e tI=.v (.pointer (some ⟨g,0,none⟩))∧J pos e
end
end Go.Pg
namespace Go.Proofs.YtjekhacnoopdpaaGreatDoor
open Go Go.RowKit Go.Pg
attribute [-bool_to_prop] Bool.and_eq_decide Bool.or_eq_decide Bool.decide_beq_decide decide_eq_decide
attribute [local go_sem] Tryz.underlying3 Tryz.underlying4 Tryz.underlying5 Tryz.underlying9 Tryz.underlying33 sz3 by3 z3 Zcr Zi0 zStr
def kwL:List ByteArray:=[
 ⟨#[97,110,103,108,101]⟩,
 ⟨#[97,112,101,120]⟩,
 ⟨#[98,105,115,101,99,116,111,114]⟩,
 ⟨#[99,101,110,116,101,114]⟩,
 ⟨#[99,105,114,99,108,101]⟩,
 ⟨#[99,105,114,99,117,109]⟩,
 ⟨#[99,111,108,108,105,110,101,97,114]⟩,
 ⟨#[99,111,109,109,111,110]⟩,
 ⟨#[99,111,110,99,121,99,108,105,99]⟩,
 ⟨#[99,111,110,103,114,117,101,110,116]⟩,
 ⟨#[99,114,111,115,115]⟩,
 ⟨#[99,117,116]⟩,
 ⟨#[100,105,118,105,100,101]⟩,
 ⟨#[102,111,111,116]⟩,
 ⟨#[108,105,110,101]⟩,
 ⟨#[109,101,101,116]⟩,
 ⟨#[109,105,100,112,111,105,110,116]⟩,
 ⟨#[109,105,114,114,111,114]⟩,
 ⟨#[111,110]⟩,
 ⟨#[111,116,104,101,114]⟩,
 ⟨#[112,97,114,97,108,108,101,108]⟩,
 ⟨#[112,101,114,112,101,110,100,105,99,117,108,97,114]⟩,
 ⟨#[112,111,105,110,116,115]⟩,
 ⟨#[112,114,111,118,101]⟩,
 ⟨#[114,97,116,105,111]⟩,
 ⟨#[114,101,102,108,101,99,116]⟩,
 ⟨#[115,97,109,101]⟩,
 ⟨#[115,104,105,102,116]⟩,
 ⟨#[116,117,114,110]⟩]
def letB (c:Nat):Bool:=decide (97≤c∧c≤122) || decide (65≤c∧c≤90)
def digB (c:Nat):Bool:=decide (48≤c∧c≤57)
def gB (s:ByteArray) (k:Nat):Nat:=(s.data.toList.getD k 0).toNat
def namB (s:ByteArray):Bool:=decide (0 < s.size∧s.size≤20) && (letB (gB s 0) && ((List.range s.size).all (λk=>letB (gB s k) || digB (gB s k)) && !(kwL.any λw=>w.toList == s.toList)))
theorem Zfe (s:ByteArray):(s.toList == (⟨#[]⟩:ByteArray).toList)=decide (s.size=0):=by
 rw [ByteArray.toList_eq,ByteArray.toList_eq,Bool.eq_iff_iff,beq_iff_eq,decide_eq_true_eq];constructor
 ·intro h;have:=congrArg List.length h;exact this
 ·intro h;exact List.length_eq_zero_iff.1 h
end Go.Proofs.YtjekhacnoopdpaaGreatDoor
namespace Go.Proofs.YtjekhacnoopdpaaGreatDoor
open Go Go.RowKit Go.Pg Go.Pol
attribute [-bool_to_prop] Bool.and_eq_decide Bool.or_eq_decide Bool.decide_beq_decide decide_eq_decide
def arS (k:Int):Int :=
 if k=1 then 0 else if k=2∨k=5∨k=6∨k=14 then 2 else if k=3∨k=4∨k=7∨k=8∨k=10∨k=11 then 3 else if k=9∨k=12∨k=13 then 4 else -1
def arG (k:Int):Int :=
 if k=8 then 2 else if k=1∨k=5 then 3 else if k=2∨k=3∨k=4∨k=6∨k=9 then 4 else if k=7 then 8 else 0
def outB (n:Int) (l:List Int):Bool:=l.any λa=>decide (a < 0) || decide (n≤a)
abbrev RS.zero:RS:=⟨0,.empty,[],⟨false,[],[]⟩⟩
def errS (ss:List RS) (i:Nat):Int :=
 let s:=ss.getD i RS.zero
 if arS s.k < 0 then 8
 else if (s.ar.length:Int)≠arS s.k then 1
 else if outB (i:Int) s.ar=true then 2
 else if (s.k=2∧s.r.ok=false)∨(s.k≠2∧s.r.none=false) then 1
 else if s.nm.size=0 then 0
 else if namB s.nm=false then 6
 else if (ss.take i).any (λt=>t.nm.toList == s.nm.toList)=true then 7
 else 0
def errG (g:RG) (n:Nat):Int :=
 if arG g.k=0 then 8
 else if (g.ar.length:Int)≠arG g.k then 1
 else if outB (n:Int) g.ar=true then 2
 else if (g.k=9∧g.r.ok=false)∨(g.k≠9∧g.r.none=false) then 1
 else 0
def fstE (f:Nat→Int):Nat→Int
 | 0=>0
 | n+1=>if fstE f n≠0 then fstE f n else f n
def figE (ss:List RS) (gs:List RG):Int :=
 if 40 < ss.length∨8 < gs.length then 4
 else if fstE (errS ss) ss.length≠0 then fstE (errS ss) ss.length
 else fstE (λi=>errG (gs.getD i ⟨0,[],⟨false,[],[]⟩⟩) ss.length) gs.length
def frame (ss:List RS) (gs:List RG):List (Po × Po) × List Vt × Int :=
 if figE ss gs≠0 then ([],[],figE ss gs)
 else if (List.range ss.length).any (bigN ss)=true then ([],[],4)
 else ((frN ss ss.length).cs,(frN ss ss.length).vs,0)
attribute [local go_sem] Tryz.underlying3 Tryz.underlying4 Tryz.underlying45 Tryz.underlying43 Tryz.underlying41 Tryz.underlying223 Tryz.underlying81 Tryz.underlying221 Tryz.underlying82 Tryz.underlying132 sz3 by3 z3 Zbd zRat Zbf zInt Zbe zNat Zkj Zsb Zsj Zqp Zsd zMono Zkk Zk6 Zsk
theorem Zdq {q:Rat}:(q.num.sign=0)=(q=0):=by rw [Int.sign_eq_zero_iff_zero,Rat.num_eq_zero]
section
attribute [local go_sem] Tryz.underlying3 Tryz.underlying4 Tryz.underlying45 Tryz.underlying43 Tryz.underlying41 Tryz.underlying223 Tryz.underlying81 Tryz.underlying221 Tryz.underlying82 Tryz.underlying132 sz3 by3 z3 Zbd zRat Zbf zInt Zbe zNat Zkj Zsb Zsj Zqp Zsd zMono Zkk Zk6 Zsk
end
end Go.Proofs.YtjekhacnoopdpaaGreatDoor
namespace Go.Proofs.YtjekhacnoopdpaaGreatDoor
open Go Go.RowKit Go.Pg
attribute [-bool_to_prop] Bool.and_eq_decide Bool.or_eq_decide Bool.decide_beq_decide decide_eq_decide
attribute [local go_sem] Tryz.underlying3 Tryz.underlying2 Tryz.underlying153 Tryz.underlying169 Tryz.underlying4 Tryz.underlying45 Tryz.underlying41 Tryz.underlying43 sz3 by3 z3 szL byL zL Zbd zRat Zbe zNat Zbf zInt
theorem intOfM:Pure Tryz.prog 127 [iv (-1)] (intZ (-1)):=by
 have hm:=Zgc true 1 (by rw [Zdi];omega);have hn:=natOf 1 (by omega);rw [show zI true 1=-1 from rfl] at hm;rw [show intZ (-1)=.agg [.v (.bool true),lim (toL 1)] from rfl] at hm ⊢;generalize toL 1=l at *;refine Zaa (tok:=0) Tryz.func127 rfl Tryz.ntmps127 Tryz.results127 Tryz.call127 (by rfl) (by simp) ?_;(focus (refine wklp w_t (w_2 hn hm) w_t (w_r 0) ?_;(repeat' first|exact w_t|apply w_l);all_goals intros))
theorem ratOfM:Pure Tryz.prog 57 [iv (-1)] (ratQ (-1)):=by
 have c:=intOfM;rw [show intZ (-1)=.agg [.v (.bool true),lim (toL 1)] from rfl] at c;rw [show ratQ (-1)=.agg [.v (.bool true),lim (toL 1),lim (toL 1)] from rfl];have u:=Zpj;generalize toL 1=l at *;refine Zaa (tok:=0) Tryz.func57 rfl Tryz.ntmps57 Tryz.results57 Tryz.call57 (by rfl) (by simp) ?_;(focus (refine wklp w_t (w_2 c u) w_t (w_r 0) ?_;(repeat' first|exact w_t|apply w_l);all_goals intros))
theorem zOfM:Pure Tryz.prog 122 [iv (-1)] (intZ (-1)):=by
 have hm:=zOf' true 1 (by rw [Zdi];omega);have h0:=Ziy 0 (by omega);have h1:=Ziy 1 (by omega);have ha:=rAdd 0 1 (by rw [Zax];simp) (by rw [Zdi];omega);rw [show zI true 1=-1 from rfl] at hm;rw [show 0+1=1 from rfl] at ha;rw [show intZ (-1)=.agg [.v (.bool true),lim (toL 1)] from rfl] at hm ⊢;generalize toL 1=l at *;generalize toL 0=k at *;refine Zaa (tok:=0) Tryz.func122 rfl Tryz.ntmps122 Tryz.results122 Tryz.call122 (by rfl) (by simp) ?_;(focus (refine wklp w_t (w_4 h0 h1 ha hm) w_t (w_r 0) ?_;(repeat' first|exact w_t|apply w_l);all_goals intros))
theorem qOfM:Pure Tryz.prog 53 [iv (-1)] (ratQ (-1)):=by
 have c:=zOfM;have h1:=Ziy 1 (by omega);have co:Pure Tryz.prog 121 [.agg [.v (.bool true),lim (toL 1)],lim (toL 1)] (ratQ (mkRat (zI true 1) 1)):=Zsx true 1 1 (by rw [Zdi];omega) (by rw [Zdi];omega) (by omega);rw [show mkRat (zI true 1) 1=(-1:Rat) from rfl] at co;rw [show intZ (-1)=.agg [.v (.bool true),lim (toL 1)] from rfl] at c;rw [show ratQ (-1)=.agg [.v (.bool true),lim (toL 1),lim (toL 1)] from rfl] at *;generalize toL 1=l at *;refine Zaa (tok:=0) Tryz.func53 rfl Tryz.ntmps53 Tryz.results53 Tryz.call53 (by rfl) (by simp) ?_;(focus (refine wklp w_t (w_3 c h1 co) w_t (w_r 0) ?_;(repeat' first|exact w_t|apply w_l);all_goals intros))
end Go.Proofs.YtjekhacnoopdpaaGreatDoor
namespace Go.Proofs.YtjekhacnoopdpaaGreatDoor
open Go Go.RowKit Go.Pg Go.Pol
attribute [-bool_to_prop] Bool.and_eq_decide Bool.or_eq_decide Bool.decide_beq_decide decide_eq_decide
attribute [local go_sem] Tryz.underlying3 Tryz.underlying4 Tryz.underlying45 Tryz.underlying43 Tryz.underlying41 Tryz.underlying223 Tryz.underlying81 Tryz.underlying221 Tryz.underlying82 Tryz.underlying132 sz3 by3 z3 Zbd zRat Zbf zInt Zbe zNat Zkj Zsb Zsj Zqp Zsd zMono Zkk Zk6 Zsk
def SumOk (l:List Po) (K e:Nat):Prop:=∀a b,PK (sumH ltM ((l.drop a).take b)) K e∧(sumH ltM ((l.drop a).take b)).length≤1000000
theorem SumOk.take {l:List Po} {K e:Nat} (h:SumOk l K e) (k:Nat):SumOk (l.take k) K e:=λa b=>by
 rw [List.drop_take,List.take_take];exact h a _
theorem SumOk.drop {l:List Po} {K e:Nat} (h:SumOk l K e) (k:Nat):SumOk (l.drop k) K e:=λa b=>by
 rw [List.drop_drop];exact h _ b
theorem SumOk.all {l:List Po} {K e:Nat} (h:SumOk l K e):PK (sumH ltM l) K e∧(sumH ltM l).length≤1000000:=by
 have:=h 0 l.length
 rwa [List.drop_zero,List.take_length] at this
def partsM (p q:Po):List Po:=if q.length < p.length then q.map λt=>Zhk mulM p t else p.map λt=>Zhk mulM q t
theorem SumOk.one {l:List Po} {K e:Nat} (hl:l.length≤1) (h:∀p∈l,PK p K e∧p.length≤1000000):SumOk l K e:=λa b=>by
 have h0:PK (sumH ltM []) K e∧(sumH ltM []).length≤1000000:=by rw [show sumH ltM []=[] from by simp [sumH]];exact⟨.nil,by simp⟩
 match l,hl,h with
 | [],_,_=>simpa using h0
 | [p],_,h =>
   match a,b with
   | 0,0=>simpa using h0
   | 0,b+1=>simp only [List.drop_zero,List.take_succ_cons,List.take_nil];rw [show sumH ltM [p]=p from by simp [sumH]];exact h p (.head _)
   | a+1,b=>simpa using h0
theorem PK.neg {q:Po} {k e:Nat} (hq:PK q k e):PK (Zc6 (-1) q) k e:=λt ht=>by
 obtain⟨s,hs,rfl⟩:=List.mem_map.1 ht;refine⟨?_,(hq s hs).2⟩;show Sz (s.1*-1) k;rw [show s.1*-1=-s.1 by grind];exact(hq s hs).1.neg
theorem qSign (q:Rat) {k:Nat} (h:Sz q k) (hk:k≤10000000):Pure Tryz.prog 66 [ratQ q] (.v (.int .i64 q.num.sign)):=by
 have c:=zSign q.num (by have:=h.1;omega);have cn:=Zva q h hk;generalize q.num.sign=z at *;refine Zaa (tok:=0) Tryz.func66 rfl Tryz.ntmps66 Tryz.results66 Tryz.call66 (by rfl) (by simp) ?_;(focus (refine wklp w_t (w_2 cn c) w_t (w_r 0) ?_;(repeat' first|exact w_t|apply w_l);all_goals intros))
def cmpT (s t:Tm):Int:=if lexC s.2 t.2 (max s.2.length t.2.length)≠0 then lexC s.2 t.2 (max s.2.length t.2.length) else cmpQ s.1 t.1
def cmpPo:Po→Po→Int
 | [],[]=>0
 | [],_ :: _=>-1
 | _ :: _,[]=>1
 | s :: p,t :: q=>if cmpT s t≠0 then cmpT s t else cmpPo p q
attribute [local go_sem] Tryz.underlying169 Tryz.underlying25 Tryz.underlying47 Tryz.underlying49 Tryz.underlying22 Tryz.underlying23 szB zB Zaj Zaw Zak Bool.and_self Zan Zbs zSlQ szQT byQT zQT Zby zSlT szQP zQP
abbrev QTs:=List (Rat × List Qt)
abbrev qpA (p:QTs):AV:=.sl 4 (p.map qtA)
theorem Zvc {l:List Qt} {q:Qt}:∀{i:Nat},(∀t (h:t < l.length),t < i→Qt.cmp l[t] q≤0)→i≤l.length→putQ Qt.cmp l q=l.take i++putQ Qt.cmp (l.drop i) q:=by
 induction l with
 | nil=>intro i _ h;have:i=0:=by simpa using h
        subst this;rfl
 | cons a l ih =>
   intro i h hi
   cases i with
   | zero=>rfl
   | succ i =>
     show(if Qt.cmp a q≤0 then a :: putQ Qt.cmp l q else q :: a :: l)=a :: (l.take i++putQ Qt.cmp (l.drop i) q);have h0:Qt.cmp a q≤0:=h 0 (by simp) (by omega);rw [if_pos h0,ih (i:=i) (λt ht hti=>h (t+1) (Nat.succ_lt_succ ht) (Nat.succ_lt_succ hti)) (Nat.le_of_succ_le_succ hi)]
theorem put_stop {l:List Qt} {q:Qt} (h:∀a t,l=a :: t→¬Qt.cmp a q≤0):putQ Qt.cmp l q=q :: l:=by
 cases l with
 | nil=>rfl
 | cons a t=>show(if Qt.cmp a q≤0 then _ else _)=_;rw [if_neg (h a t rfl)]
theorem rxPut (l:List Qt) (q:Qt) (hl:l.length≤1000):Pure Tryz.prog 77 [qsA l,q.av] (qsA (putQ Qt.cmp l q)):=by
 have hlm:(l.map Qt.av).length=l.length:=List.length_map ..;have hg:∀j (h:j < l.length),(l.map Qt.av).getD j .u=Qt.av l[j]:=λj h=>Za0 Qt.av h;have hmd:∀i,(l.map Qt.av).drop i=(l.drop i).map Qt.av:=λi=>List.map_drop.symm;show Pure _ _ [.sl 4 (l.map Qt.av),.agg [iv q.k,iv q.a,iv q.b,iv q.c]] _;generalize l.map Qt.av=A at *;refine Zaa (tok:=0) Tryz.func77 rfl Tryz.ntmps77 Tryz.results77 Tryz.call77 (by rfl) (by simp) ?_;(focus (refine wkad (w_1 hlm) w_t w_t ?_;(repeat' first|exact w_t|apply w_l);all_goals intros));rename_i g3;refine Zej (Frz.nilOwn (d:=5) 26 4 25 (by exact gC)) ?_;refine Zad (ι:=Nat) (λi e m=>i≤l.length∧(∀t (h:t < l.length),t < i→Qt.cmp l[t] q≤0)∧e 0=.sl 4 A∧e 3=.pbox 3 g3 0∧m 3=some (.box g3 25 [iv q.k,iv q.a,iv q.b,iv q.c] false)∧e 6=iv i∧∃sv,e 5=.own 26 sv∧m 26=some (.row sv 25 4 ((l.take i).map Qt.av) 0)) (λi=>l.length - i) 0 (by rfl) ?_ ?_
 ·rintro i e m ⟨hi,hc,e0,e3,m3,e6,sv,e5,m26⟩
  have htl:((l.take i).map Qt.av).length=i:=by rw [List.length_map,List.length_take];omega
  have hsp:=Zvc hc hi;have htk:A.take l.length=A:=List.take_of_length_le (by omega);have hmdi:=hmd i;by_cases hlt:i < l.length
  ·have g1:=hg i hlt;have cc:=Zpg l[i].k l[i].a l[i].b l[i].c q.k q.a q.b q.c;have hta:(l.take (i+1)).map Qt.av=(l.take i).map Qt.av++[Qt.av l[i]]:=by rw [List.take_add_one,List.getElem?_eq_getElem hlt,List.map_append];rfl
   by_cases hz:Qt.cmp l[i] q≤0
   ·have hc2:∀t (h:t < l.length),t < i+1→Qt.cmp l[t] q≤0:=λt h hti=>by
     by_cases e:t=i
     ·subst e;exact hz
     ·exact hc t h (by omega)
    clear hsp hc hmd hg;obtain⟨q1,q2,q3,q4⟩:=q;generalize l[i]=x at *;obtain⟨x1,x2,x3,x4⟩:=x;simp only at *;generalize Qt.cmp _ _=z at *;generalize (l.take i).map Qt.av=T at *;(focus (refine wkad (w_10 e0 e3 m3 e5 e6 m26 hlm g1 hz htl) (w_1 cc) (w_1 (w_d 3 [(10,iv z)] [] [])) ?_;(repeat' first|exact w_t|apply w_l);all_goals intros));exact⟨i+1,⟨by omega,hc2,by exact gW e0,by exact gW e3,by exact gW m3,by exact gS,_,by exact gC,by rw [hta];exact gC⟩,by omega⟩
   ·have hst:putQ Qt.cmp (l.drop i) q=q :: l.drop i:=put_stop λa t e=>by
     have:l.drop i=l[i] :: l.drop (i+1):=List.drop_eq_getElem_cons hlt;rw [this] at e;injection e with e1 _
     rw [←e1];exact hz
    have hfin:qsA (putQ Qt.cmp l q)=.sl 4 (((l.take i).map Qt.av++[.agg [iv q.k,iv q.a,iv q.b,iv q.c]])++(l.drop i).map Qt.av):=by unfold qsA;rw [hsp,hst];simp
    rw [hfin];have hdl:((l.drop i).map Qt.av).length=l.length - i:=by rw [List.length_map,List.length_drop]
    have hnl:(i:Int).toNat=i:=Int.toNat_natCast i;clear hfin hsp hst hc hmd hg hta;obtain⟨q1,q2,q3,q4⟩:=q;generalize l[i]=x at *;obtain⟨x1,x2,x3,x4⟩:=x;simp only at *;generalize Qt.cmp _ _=z at *;generalize (l.take i).map Qt.av=T at *;generalize (l.drop i).map Qt.av=R at *;(focus (refine wkad (w_14 e0 e3 m3 e5 e6 m26 hlm g1 hz htl htk hmdi hdl @l_app) (w_1 cc) (w_1 (w_d 3 [(10,iv z)] [] [])) ?_;(repeat' first|exact w_t|apply w_l);all_goals intros));all_goals exact gL
  ·have hil:i=l.length:=by omega
   have hst:putQ Qt.cmp (l.drop i) q=[q]:=by rw [List.drop_of_length_le (by omega)];rfl
   have hfin:qsA (putQ Qt.cmp l q)=.sl 4 (((l.take i).map Qt.av++[.agg [iv q.k,iv q.a,iv q.b,iv q.c]])++[]):=by unfold qsA;rw [hsp,hst];simp
   rw [hfin];have hdn:A.drop i=[]:=by rw [hmdi,List.drop_of_length_le (by omega)];rfl
   clear hfin hsp hst hc hmd hg;obtain⟨q1,q2,q3,q4⟩:=q;simp only at *;generalize (l.take i).map Qt.av=T at *;subst hil;(focus (refine wkad (w_11 e0 e3 m3 e5 e6 m26 hlm htl htk hdn @l_app) w_t w_t ?_;(repeat' first|exact w_t|apply w_l);all_goals intros));all_goals exact gL
 ·exact⟨Nat.zero_le _,λt h hti=>by omega,by exact gC,by exact gC,by exact gC,by exact gC,_,by exact gC,by exact gC⟩
abbrev Zb4 (p q:QTs):QTs:=addP (λx y=>ordQ y x < 0) p q
def QK (p:QTs) (j n:Nat):Prop:=∀t∈p,Sz t.1 j∧t.2.length≤n
theorem QK.mono {p:QTs} {j n k m:Nat} (h:QK p j n) (hj:j≤k) (hn:n≤m):QK p k m:=λt ht=>⟨(h t ht).1.mono hj,Nat.le_trans (h t ht).2 hn⟩
theorem Zoc {p q:QTs} {i k:Nat} (hi:i < p.length) (hk:k < q.length):Zb4 (p.drop i) (q.drop k) =
 if ordQ p[i].2 q[k].2 < 0 then p[i] :: Zb4 (p.drop (i+1)) (q.drop k) else if ordQ q[k].2 p[i].2 < 0 then q[k] :: Zb4 (p.drop i) (q.drop (k+1))
 else if p[i].1+q[k].1=0 then Zb4 (p.drop (i+1)) (q.drop (k+1)) else (p[i].1+q[k].1,p[i].2) :: Zb4 (p.drop (i+1)) (q.drop (k+1)):=by
 rw [List.drop_eq_getElem_cons hi,List.drop_eq_getElem_cons hk];rw [show Zb4 (p[i] :: p.drop (i+1)) (q[k] :: q.drop (k+1))=_ from by unfold Zb4;rw [addP]]
theorem Zer {p q:QTs} {i k:Nat} (h:p.length≤i∨q.length≤k):Zb4 (p.drop i) (q.drop k)=p.drop i++q.drop k:=by
 rcases h with h | h
 ·rw [List.drop_eq_nil_of_le h];simp [Zb4,addP]
 ·rw [List.drop_eq_nil_of_le h,List.append_nil];exact Zsf _
theorem join_QK {p q:QTs} {j k n:Nat} (hp:QK p j n) (hq:QK q k n):QK (Zb4 p q) (j+k+1) n:=λt ht=>by
 rcases Zhv ht with h | h | ⟨s,hs,u,hu,rfl⟩
 ·exact⟨(hp t h).1.mono (by omega),(hp t h).2⟩
 ·exact⟨(hq t h).1.mono (by omega),(hq t h).2⟩
 ·exact⟨(hp s hs).1.add (hq u hu).1,(hp s hs).2⟩
theorem Znr (l m:List Qt):(ordQ l m=-1∧ordQ l m < 0)∨(ordQ l m=0∧¬ordQ l m < 0∧¬ordQ m l < 0)∨(ordQ l m=1∧¬ordQ l m < 0∧ordQ m l < 0):=by
 have hf:=Zcc.flip m l
 have h3:ordQ l m=-1∨ordQ l m=0∨ordQ l m=1:=by
  unfold ordQ ordL;split
  ·exact .inl rfl
  ·split
   ·exact .inr (.inr rfl)
   ·clear hf;rename_i h1 h2;clear h1 h2
    induction l generalizing m with
    | nil=>cases m<;>simp [lexL]
    | cons a l ih=>cases m with
      | nil=>simp [lexL]
      | cons b m =>
        rw [Zjy];split
        ·exact ih m
        ·rcases Zgg a b with⟨h,_⟩ | ⟨h,_⟩ | ⟨h,_⟩
         ·exact .inl h
         ·exact .inr (.inl h)
         ·exact .inr (.inr h)
 rcases h3 with h | h | h
 ·exact .inl ⟨h,by omega⟩
 ·exact .inr (.inl ⟨h,by omega,by omega⟩)
 ·exact .inr (.inr ⟨h,by omega,by omega⟩)
theorem rxJoin (p q:QTs) {j k n:Nat} (hp:QK p j n) (hq:QK q k n) (lp:p.length≤100000000) (lq:q.length≤100000000) (hj:j≤1000000) (hk:k≤1000000) (hn:n≤1000000) :
 Pure Tryz.prog 103 [qpA p,qpA q] (qpA (Zb4 p q)):=by
 have hlp:(p.map qtA).length=p.length:=List.length_map ..;have hlq:(q.map qtA).length=q.length:=List.length_map ..;have gp:∀i (h:i < p.length),(p.map qtA).getD i .u=qtA p[i]:=λi h=>Za0 qtA h;have gq:∀i (h:i < q.length),(q.map qtA).getD i .u=qtA q[i]:=λi h=>Za0 qtA h;show Pure _ _ [.sl 4 (p.map qtA),.sl 4 (q.map qtA)] _;generalize p.map qtA=A at *;generalize q.map qtA=B at *;have hz:((p.length:Int)+(q.length:Int)).toNat=p.length+q.length:=by omega
 refine Zaa (tok:=0) Tryz.func103 rfl Tryz.ntmps103 Tryz.results103 Tryz.call103 (by rfl) (by simp) ?_;(focus (refine wkad (w_3 hlp hlq hz) w_t w_t ?_;(repeat' first|exact w_t|apply w_l);all_goals intros));refine Zad (ι:=Nat × Nat) (λx e m=>x.1≤p.length∧x.2≤q.length∧e 0=.sl 4 A∧e 1=.sl 4 B∧e 6=iv x.1∧e 7=iv x.2∧∃sv out,e 5=.own 15 sv∧m 15=some (.row sv 49 4 (out.map qtA) 0)∧out.length≤x.1+x.2∧Zb4 p q=out++Zb4 (p.drop x.1) (q.drop x.2)) (λx=>p.length+q.length - (x.1+x.2)) (0,0) (by rfl) ?_ ?_
 ·rintro ⟨i,l⟩ e m ⟨hi,hl,e0,e1,e6,e7,sv,out,e5,em,ho,hs⟩
  simp only at hi hl e6 e7 ho hs;have hlen:(out.map qtA).length=out.length:=List.length_map ..;by_cases hil:i < p.length∧l < q.length
  ·obtain⟨hi2,hl2⟩:=hil;have hg:=gp i hi2;have hh:=gq l hl2;have st:=Zoc hi2 hl2;have ms:=hp _ (List.getElem_mem hi2);have mt:=hq _ (List.getElem_mem hl2);clear gp gq hp hq;generalize p[i]=s at *;generalize q[l]=t at *;have cl:=Zpc s.2 t.2 (by have:=ms.2;omega) (by have:=mt.2;omega);have ca:=qAdd s.1 t.1 ms.1 mt.1 (by omega) (by omega);have cz:=qSign (s.1+t.1) (ms.1.add mt.1) (by omega);have h3:=Znr s.2 t.2;rw [st] at hs;clear st ms mt;have hout:∀x:Rat × List Qt,(out++[x]).map qtA=out.map qtA++[qtA x]:=λx=>by rw [List.map_append];rfl
   obtain⟨s1,s2⟩:=s;obtain⟨t1,t2⟩:=t;simp only at *;have hou1:=hout (s1,s2);have hou2:=hout (t1,t2);have hou3:=hout (s1+t1,s2);clear hout;rcases h3 with⟨h1,h2⟩ | ⟨h1,h2,h4⟩ | ⟨h1,h2,h4⟩
   ·rw [if_pos h2] at hs;rw [h1] at cl;clear ca cz h1 h2 hou2 hou3;generalize out.map qtA=O at *;generalize s2.map Qt.av=S2 at *;generalize t2.map Qt.av=T2 at *;(focus (refine wkad (w_11 e0 e1 e6 e7 e5 em hlp hlq hlen hg hh) (w_1 cl) (w_1 (w_d 8 [(10,iv (-1))] [] [])) ?_;(repeat' first|exact w_t|apply w_l);all_goals intros));refine⟨(i+1,l),⟨by simp only;omega,by simp only;omega,by exact gW e0,by exact gW e1,by exact gS,by exact gW e7,_,out++[(s1,s2)],by exact gC,by rw [hou1];exact gC,by simp only [List.length_append,List.length_cons,List.length_nil];omega,by rw [hs,List.append_assoc];rfl⟩,by simp only;omega⟩
   ·rw [if_neg h2,if_neg h4] at hs;rw [h1] at cl;by_cases hz0:s1+t1=0
    ·rw [if_pos hz0] at hs;have hz2:(s1+t1).num.sign=0:=by rw [Zdq];exact hz0
     clear h1 h2 h4 hou1 hou2 hou3;generalize (s1+t1)=z at *;generalize hO:out.map qtA=O at *;generalize s2.map Qt.av=S2 at *;generalize t2.map Qt.av=T2 at *;(focus (refine wkad (w_12 e0 e1 e6 e7 e5 em hlp hlq hlen hg hh hz2) (w_3 cl ca cz) (w_2 (w_d 8 [(10,iv 0)] [] []) (w_d 9 [(10,ratQ z)] [] [9])) ?_;(repeat' first|exact w_t|apply w_l);all_goals intros));refine⟨(i+1,l+1),⟨by simp only;omega,by simp only;omega,by exact gW e0,by exact gW e1,by exact gS,by exact gS,_,out,by exact gW e5,by rw [hO];exact gW em,by simp only;omega,hs⟩,by simp only;omega⟩
    ·rw [if_neg hz0] at hs;have hz2:¬(s1+t1).num.sign=0:=by rw [Zdq];exact hz0
     clear h1 h2 h4 hou1 hou2;generalize (s1+t1)=z at *;generalize out.map qtA=O at *;generalize s2.map Qt.av=S2 at *;generalize t2.map Qt.av=T2 at *;(focus (refine wkax (w_12 e0 e1 e6 e7 e5 em hlp hlq hlen hg hh hz2) (w_3 cl ca cz) (w_3 (w_d 8 [(10,iv 0)] [] []) (w_d 9 [(10,ratQ z)] [] [9]) (w_d 11 [] [9,1009] [15,67])) w_t w_t w_t (w_r 0) ?_;(repeat' first|exact w_t|apply w_l);all_goals intros));refine⟨(i+1,l+1),⟨by simp only;omega,by simp only;omega,by exact gW e0,by exact gW e1,by exact gS,by exact gS,_,out++[(z,s2)],by exact gC,by rw [hou3];exact gC,by simp only [List.length_append,List.length_cons,List.length_nil];omega,by rw [hs,List.append_assoc];rfl⟩,by simp only;omega⟩
   ·rw [if_neg h2,if_pos h4] at hs;rw [h1] at cl;clear ca cz h1 h2 h4 hou1 hou3;generalize out.map qtA=O at *;generalize s2.map Qt.av=S2 at *;generalize t2.map Qt.av=T2 at *;(focus (refine wkad (w_11 e0 e1 e6 e7 e5 em hlp hlq hlen hg hh) (w_1 cl) (w_1 (w_d 8 [(10,iv 1)] [] [])) ?_;(repeat' first|exact w_t|apply w_l);all_goals intros));refine⟨(i,l+1),⟨by simp only;omega,by simp only;omega,by exact gW e0,by exact gW e1,by exact gW e6,by exact gS,_,out++[(t1,t2)],by exact gC,by rw [hou2];exact gC,by simp only [List.length_append,List.length_cons,List.length_nil];omega,by rw [hs,List.append_assoc];rfl⟩,by simp only;omega⟩
  ·rw [Zer (by omega)] at hs;by_cases hi2:i < p.length
   ·have hl2:l=q.length:=by omega
    subst hl2;have hg:=gp i hi2;have hd:p.drop i=p[i] :: p.drop (i+1):=List.drop_eq_getElem_cons hi2;rw [hd] at hs
    have hs:Zb4 p q=(out++[p[i]])++Zb4 (p.drop (i+1)) (q.drop q.length):=by
     rw [Zer (.inr (Nat.le_refl _)),hs];simp
    have hou:(out++[p[i]]).map qtA=out.map qtA++[qtA p[i]]:=by rw [List.map_append];rfl
    clear hd gp gq hp hq;generalize p[i]=s at *;obtain⟨s1,s2⟩:=s;generalize out.map qtA=O at *;(focus (refine wkad (w_10 e0 e1 e6 e7 e5 em hg hlp hlq hlen) w_t w_t ?_;(repeat' first|exact w_t|apply w_l);all_goals intros));refine⟨(i+1,q.length),⟨by simp only;omega,by simp only;omega,by exact gW e0,by exact gW e1,by exact gS,by exact gW e7,_,out++[(s1,s2)],by exact gC,by rw [hou];exact gC,by simp only [List.length_append,List.length_cons,List.length_nil];omega,hs⟩,by simp only;omega⟩
   ·have hi3:i=p.length:=by omega
    subst hi3;by_cases hl2:l < q.length
    ·have hg:=gq l hl2;have hd:q.drop l=q[l] :: q.drop (l+1):=List.drop_eq_getElem_cons hl2;rw [hd] at hs
     have hs:Zb4 p q=(out++[q[l]])++Zb4 (p.drop p.length) (q.drop (l+1)):=by
      rw [Zer (.inl (Nat.le_refl _)),hs];simp
     have hou:(out++[q[l]]).map qtA=out.map qtA++[qtA q[l]]:=by rw [List.map_append];rfl
     clear hd gp gq hp hq;generalize q[l]=s at *;obtain⟨s1,s2⟩:=s;generalize out.map qtA=O at *;(focus (refine wkad (w_10 e0 e1 e6 e7 e5 em hg hlp hlq hlen) w_t w_t ?_;(repeat' first|exact w_t|apply w_l);all_goals intros));refine⟨(p.length,l+1),⟨by simp only;omega,by simp only;omega,by exact gW e0,by exact gW e1,by exact gW e6,by exact gS,_,out++[(s1,s2)],by exact gC,by rw [hou];exact gC,by simp only [List.length_append,List.length_cons,List.length_nil];omega,hs⟩,by simp only;omega⟩
    ·have hl3:l=q.length:=by omega
     subst hl3;rw [List.drop_length,List.drop_length,List.append_nil,List.append_nil] at hs;rw [hs];clear gp gq hp hq hs;generalize hO:out.map qtA=O at *;rw [show qpA out=.sl 4 O from congrArg _ hO];(focus (refine wkad (w_9 e0 e1 e6 e7 e5 em hlp hlq hlen) w_t w_t ?_;(repeat' first|exact w_t|apply w_l);all_goals intros));all_goals (all_goals (try simp (disch:=omega) only [go_sem,em,decide_eq_true,decide_eq_false,if_pos,if_neg,Int.reduceAdd,Int.reduceSub,Int.reduceToNat,Int.zero_add]));(all_goals first|done|rfl|(congr 2;first|done|omega|(rw [Bool.eq_iff_iff];simp only [bool_to_prop,Bool.false_eq_true,iff_true,true_iff,iff_false,false_iff];omega))|skip)
 ·exact⟨Nat.zero_le _,Nat.zero_le _,by exact gC,by exact gC,by exact gC,by exact gC,_,[],by exact gC,by exact gC,Nat.zero_le _,by simp⟩
end Go.Proofs.YtjekhacnoopdpaaGreatDoor
namespace Go.Pol
section
def cl (q:Rat):Nat:=(q.num.natAbs+q.den - 1)/q.den
theorem cl_le {q:Rat} {B:Nat}:cl q≤B↔q.num.natAbs≤B*q.den:=by
 have h:0 < q.den:=Nat.pos_of_ne_zero q.den_nz;unfold cl;rw [←Nat.lt_succ_iff,Nat.div_lt_iff_lt_mul h,Nat.succ_mul];omega
theorem cl_self (q:Rat):q.num.natAbs≤cl q*q.den:=cl_le.1 (Nat.le_refl _)
theorem Zmm {q:Rat} {D:Nat} (h:q.den ∣ D):BQ D (cl q) q:=⟨h,cl_self q⟩
theorem cl_add (a b:Rat):cl (a+b)≤cl a+cl b:=cl_le.2 ((Zmm (Nat.dvd_mul_right a.den b.den)).add (Zmm (Nat.dvd_mul_left b.den a.den))).2
theorem cl_mul (a b:Rat):cl (a*b)≤cl a*cl b:=cl_le.2 ((Zmm (Nat.dvd_refl a.den)).mul (Zmm (Nat.dvd_refl b.den))).2
theorem Zwx {a b:Rat} {D:Nat} (h:a.den ∣ D) (k:b.den ∣ D):(a+b).den ∣ D:=((Zmm h).add (Zmm k)).1
theorem den_mul {a b:Rat} {D E:Nat} (h:a.den ∣ D) (k:b.den ∣ E):(a*b).den ∣ D*E:=((Zmm h).mul (Zmm k)).1
variable {κ:Type}
def n1 (l:List (Rat × κ)):Nat:=(l.map λt=>cl t.1).sum
theorem Zbk (t:Rat × κ) (l:List (Rat × κ)):n1 (t :: l)=cl t.1+n1 l:=rfl
theorem Zn1 (l m:List (Rat × κ)):n1 (l++m)=n1 l+n1 m:=by unfold n1;rw [List.map_append,List.sum_append]
theorem n1_mem {l:List (Rat × κ)} {t:Rat × κ} (h:t∈l):cl t.1≤n1 l:=by
 induction l with
 | nil=>cases h
 | cons s l ih =>
   rw [Zbk];rcases List.mem_cons.1 h with rfl | h
   ·omega
   ·have:=ih h;omega
theorem n1_perm {l m:List (Rat × κ)} (h:l.Perm m):n1 l=n1 m:=(h.map _).sum_nat
theorem Zv2 (f:Rat × κ→Bool) (l:List (Rat × κ)):n1 (l.filter f)≤n1 l:=by
 induction l with
 | nil=>exact Nat.le_refl _
 | cons t l ih =>
   rw [List.filter_cons];split
   ·rw [Zbk,Zbk];omega
   ·rw [Zbk];omega
theorem n1_take (l:List (Rat × κ)) (i:Nat):n1 (l.take i)≤n1 l:=by
 have:=Zn1 (l.take i) (l.drop i);rw [List.take_append_drop] at this;omega
def NB (D B:Nat) (l:List (Rat × κ)):Prop:=(∀t∈l,t.1.den ∣ D)∧n1 l≤B
theorem NB.nil (D B:Nat):NB D B ([]:List (Rat × κ)):=⟨λt h=>(by cases h),Nat.zero_le _⟩
theorem NB.mono {D B E C:Nat} {l:List (Rat × κ)} (h:NB D B l) (hd:D ∣ E) (hb:B≤C):NB E C l:=⟨λt ht=>Nat.dvd_trans (h.1 t ht) hd,Nat.le_trans h.2 hb⟩
theorem NB.bq {D B:Nat} {l:List (Rat × κ)} (h:NB D B l) {t:Rat × κ} (ht:t∈l):BQ D B t.1:=(Zmm (h.1 t ht)).mono (Nat.dvd_refl _) (Nat.le_trans (n1_mem ht) h.2)
theorem NB.perm {D B:Nat} {l m:List (Rat × κ)} (h:NB D B l) (p:m.Perm l):NB D B m:=⟨λt ht=>h.1 t (p.mem_iff.1 ht),by rw [n1_perm p];exact h.2⟩
theorem NB.filter {D B:Nat} {l:List (Rat × κ)} (h:NB D B l) (f:Rat × κ→Bool):NB D B (l.filter f):=⟨λt ht=>h.1 t (List.mem_filter.1 ht).1,Nat.le_trans (Zv2 f l) h.2⟩
theorem NB.take {D B:Nat} {l:List (Rat × κ)} (h:NB D B l) (i:Nat):NB D B (l.take i):=⟨λt ht=>h.1 t (List.mem_of_mem_take ht),Nat.le_trans (n1_take l i) h.2⟩
theorem NB.app {D B C:Nat} {l m:List (Rat × κ)} (h:NB D B l) (k:NB D C m):NB D (B+C) (l++m) :=
 ⟨λt ht=>(List.mem_append.1 ht).elim (h.1 t) (k.1 t),by rw [Zn1];exact Nat.add_le_add h.2 k.2⟩
end
section
variable {κ:Type} [DecidableEq κ]
theorem n1_addC (l:List (Rat × κ)) (t:Rat × κ):n1 (addC l t)≤n1 l+cl t.1:=by
 induction l with
 | nil=>show cl t.1+0≤0+cl t.1;omega
 | cons s l ih =>
   unfold addC;split
   ·rw [Zbk,Zbk];have:=cl_add s.1 t.1;simp only;omega
   ·rw [Zbk,Zbk];omega
theorem den_addC {D:Nat} {l:List (Rat × κ)} {t:Rat × κ} (h:∀s∈l,s.1.den ∣ D) (ht:t.1.den ∣ D):∀s∈addC l t,s.1.den ∣ D:=by
 induction l with
 | nil=>intro s hs;rw [List.mem_singleton.1 hs];exact ht
 | cons u l ih =>
   intro s hs;unfold addC at hs;split at hs
   ·rcases List.mem_cons.1 hs with rfl | hs
    ·exact Zwx (h u (.head _)) ht
    ·exact h s (.tail _ hs)
   ·rcases List.mem_cons.1 hs with rfl | hs
    ·exact h _ (.head _)
    ·exact ih (λv hv=>h v (.tail _ hv)) s hs
theorem NB.addC {D B C:Nat} {l:List (Rat × κ)} (h:NB D B l) {t:Rat × κ} (ht:t.1.den ∣ D) (hc:cl t.1≤C):NB D (B+C) (addC l t) :=
 ⟨den_addC h.1 ht,Nat.le_trans (n1_addC l t) (Nat.add_le_add h.2 hc)⟩
end
section
variable {κ:Type} {lt:κ→κ→Prop} [DecidableRel lt]
theorem NB.addP {D B C:Nat} {p q:List (Rat × κ)} (hp:NB D B p) (hq:NB D C q):NB D (B+C) (addP lt p q):=by
 suffices h:(∀t∈Go.Pol.addP lt p q,t.1.den ∣ D)∧n1 (Go.Pol.addP lt p q)≤n1 p+n1 q from⟨h.1,Nat.le_trans h.2 (Nat.add_le_add hp.2 hq.2)⟩
 replace hp:=hp.1
 replace hq:=hq.1
 fun_induction Go.Pol.addP lt p q with
 | case1 q=>exact⟨hq,by show n1 q≤0+n1 q;omega⟩
 | case2 s p=>exact⟨hp,Nat.le_add_right _ _⟩
 | case3 s p u q h1 ih =>
   obtain⟨a,b⟩:=ih (λt h=>hp t (.tail _ h)) hq;exact⟨λt ht=>by
    rcases List.mem_cons.1 ht with rfl | ht
    ·exact hp _ (.head _)
    ·exact a t ht,by rw [Zbk,Zbk];omega⟩
 | case4 s p u q h1 h2 ih =>
   obtain⟨a,b⟩:=ih hp (λt h=>hq t (.tail _ h));exact⟨λt ht=>by
    rcases List.mem_cons.1 ht with rfl | ht
    ·exact hq _ (.head _)
    ·exact a t ht,by rw [Zbk,Zbk u];omega⟩
 | case5 s p u q h1 h2 h3 ih =>
   obtain⟨a,b⟩:=ih (λt h=>hp t (.tail _ h)) (λt h=>hq t (.tail _ h));exact⟨a,by rw [Zbk,Zbk];omega⟩
 | case6 s p u q h1 h2 h3 ih =>
   obtain⟨a,b⟩:=ih (λt h=>hp t (.tail _ h)) (λt h=>hq t (.tail _ h));exact⟨λt ht=>by
    rcases List.mem_cons.1 ht with rfl | ht
    ·exact Zwx (hp _ (.head _)) (hq _ (.head _))
    ·exact a t ht,by rw [Zbk,Zbk,Zbk];have:=cl_add s.1 u.1;simp only;omega⟩
theorem sumH_nb {D:Nat} (l:List (List (Rat × κ))) (h:∀p∈l,∀t∈p,t.1.den ∣ D):NB D ((l.map n1).sum) (sumH lt l):=by
 fun_induction sumH lt l with
 | case1=>exact .nil _ _
 | case2 p=>exact⟨h p (.head _),by simp⟩
 | case3 p q l ih1 ih2 =>
   have:=(ih1 λu hu=>h u (List.mem_of_mem_take hu)).addP (lt:=lt) (ih2 λu hu=>h u (List.mem_of_mem_drop hu))
   rwa [←List.sum_append,←List.map_append,List.take_append_drop] at this
end
section
variable {κ:Type} {cmp:κ→κ→Int}
theorem NB.sumG {D B:Nat} {l:List (Rat × κ)} (h:NB D B l):NB D B (sumG cmp l):=by
 have:=sumH_nb (lt:=λx y=>cmp y x < 0) (D:=D) (l.map λt=>if t.1=0 then [] else [t]) λp hp t ht=>by
  obtain⟨s,hs,rfl⟩:=List.mem_map.1 hp;split at ht
  ·cases ht
  ·rw [List.mem_singleton.1 ht];exact h.1 s hs
 refine this.mono (Nat.dvd_refl _) (Nat.le_trans ?_ h.2);clear this h
 induction l with
 | nil=>exact Nat.le_refl _
 | cons t l ih =>
   rw [List.map_cons,List.map_cons,List.sum_cons,Zbk];refine Nat.add_le_add ?_ ih;split
   ·exact Nat.zero_le _
   ·show cl t.1+0≤_;omega
def prodL (mu:κ→κ→κ) (l m:List (Rat × κ)):List (Rat × κ):=l.flatMap λs=>m.map λt=>(s.1*t.1,mu s.2 t.2)
theorem Ze3 (mu:κ→κ→κ) (s:Rat × κ) (l m:List (Rat × κ)):prodL mu (s :: l) m=(m.map λt=>(s.1*t.1,mu s.2 t.2))++prodL mu l m:=rfl
theorem Zhr (mu:κ→κ→κ) (l m:List (Rat × κ)):(prodL mu l m).length=l.length*m.length:=by
 induction l with
 | nil=>simp [prodL]
 | cons s l ih=>rw [Ze3,List.length_append,List.length_map,ih,List.length_cons,Nat.succ_mul,Nat.add_comm]
theorem Zhq {mu:κ→κ→κ} {l m:List (Rat × κ)} {u:Rat × κ} (h:u∈prodL mu l m):∃s∈l,∃t∈m,u=(s.1*t.1,mu s.2 t.2):=by
 obtain⟨s,hs,hu⟩:=List.mem_flatMap.1 h;obtain⟨t,ht,rfl⟩:=List.mem_map.1 hu;exact⟨s,hs,t,ht,rfl⟩
theorem NB.prodL {mu:κ→κ→κ} {D B E C:Nat} {l m:List (Rat × κ)} (h:NB D B l) (k:NB E C m):NB (D*E) (B*C) (prodL mu l m):=by
 refine⟨λu hu=>?_,Nat.le_trans ?_ (Nat.mul_le_mul h.2 k.2)⟩
 ·obtain⟨s,hs,t,ht,rfl⟩:=Zhq hu;exact den_mul (h.1 s hs) (k.1 t ht)
 ·clear h k
  induction l with
  | nil=>exact Nat.zero_le _
  | cons s l ih =>
    rw [Ze3,Zn1,Zbk,Nat.add_mul];refine Nat.add_le_add ?_ ih;clear ih
    induction m with
    | nil=>exact Nat.zero_le _
    | cons t m ih =>
      rw [List.map_cons,Zbk,Zbk,Nat.mul_add];exact Nat.add_le_add (cl_mul _ _) ih
end
section
variable {κ:Type}
theorem evl_lin (a:Rat) (f g:κ→Rat) (l:List (Rat × κ)):evl (λk=>a*f k+g k) l=a*evl f l+evl g l:=by
 induction l with
 | nil=>show(0:Rat)=a*0+0;rw [Rat.mul_zero,Rat.add_zero]
 | cons t l ih=>simp only [evl];rw [ih];grind
theorem evl_zero (l:List (Rat × κ)):evl (λ_=>0) l=0:=by
 induction l with
 | nil=>rfl
 | cons t l ih=>simp only [evl];rw [ih,Rat.mul_zero,Rat.add_zero]
theorem evl_swap (ψ:κ→κ→Rat) (l m:List (Rat × κ)):evl (λk=>evl (ψ k) m) l=evl (λk'=>evl (λk=>ψ k k') l) m:=by
 induction l with
 | nil=>show(0:Rat)=evl (λ_=>0) m;rw [evl_zero]
 | cons s l ih =>
   show s.1*evl (ψ s.2) m+evl (λk=>evl (ψ k) m) l=evl (λk'=>s.1*ψ s.2 k'+evl (λk=>ψ k k') l) m;rw [ih,evl_lin]
theorem evl_row (φ:κ→Rat) (mu:κ→κ→κ) (s:Rat × κ) (m:List (Rat × κ)):evl φ (m.map λt=>(s.1*t.1,mu s.2 t.2))=s.1*evl (λk=>φ (mu s.2 k)) m:=by
 induction m with
 | nil=>show(0:Rat)=s.1*0;rw [Rat.mul_zero]
 | cons t m ih=>simp only [List.map_cons,evl];rw [ih];grind
theorem Zwq (φ:κ→Rat) (mu:κ→κ→κ) (l m:List (Rat × κ)):evl φ (prodL mu l m)=evl (λk=>evl (λk'=>φ (mu k k')) m) l:=by
 induction l with
 | nil=>rfl
 | cons s l ih=>rw [Ze3,Zws,ih,evl_row];rfl
theorem Zwr [DecidableEq κ] (l:List (Rat × κ)) (x:κ):cof l x=evl (λk=>if k=x then 1 else 0) l:=by
 induction l with
 | nil=>rfl
 | cons t l ih =>
   simp only [cof,evl];rw [ih];split<;>grind
end
section
variable {κ:Type} {lt:κ→κ→Prop} [DecidableRel lt] {D:κ→Prop}
theorem evl_sumH (o:KO D lt) (φ:κ→Rat) (l:List (List (Rat × κ))) (h:∀p∈l,Srt D lt p):evl φ (sumH lt l)=(l.map (evl φ)).sum:=by
 fun_induction sumH lt l with
 | case1=>rfl
 | case2 p=>show evl φ p=evl φ p+0;rw [Rat.add_zero]
 | case3 p q l ih1 ih2 =>
   have h1:∀u∈(p :: q :: l).take ((p :: q :: l).length/2),Srt D lt u:=λu hu=>h u (List.mem_of_mem_take hu);have h2:∀u∈(p :: q :: l).drop ((p :: q :: l).length/2),Srt D lt u:=λu hu=>h u (List.mem_of_mem_drop hu);have happ:∀l m:List Rat,(l++m).sum=l.sum+m.sum:=λl m=>by
    induction l with
    | nil=>show m.sum=0+m.sum;rw [Rat.zero_add]
    | cons a l ih=>show a+(l++m).sum=a+l.sum+m.sum;rw [ih,Rat.add_assoc]
   rw [Zrz o φ (Zgm o _ h1).dom (Zgm o _ h2).dom,ih1 h1,ih2 h2,←happ,←List.map_append,List.take_append_drop]
end
structure RG {κ:Type} (D:κ→Prop) (cmp:κ→κ→Int) (mu:κ→κ→κ) (e:κ):Prop where
 o:CO cmp
 comm:∀a b,mu a b=mu b a
 assoc:∀a b c,mu (mu a b) c=mu a (mu b c)
 one:∀a,D a→mu a e=a
 cl:∀a b,D a→D b→D (mu a b)
 de:D e
section
variable {κ:Type} {D:κ→Prop} {cmp:κ→κ→Int} {mu:κ→κ→κ} {e:κ}
theorem CO.koD (o:CO cmp):KO D (λx y=>cmp y x < 0):=⟨o.ko.irr,o.ko.tr,λx y _ _=>o.ko.tri x y trivial trivial⟩
abbrev SQ (D:κ→Prop) (cmp:κ→κ→Int) (p:List (Rat × κ)):Prop:=Srt D (λx y=>cmp y x < 0) p
abbrev adG (cmp:κ→κ→Int) (p q:List (Rat × κ)):List (Rat × κ):=addP (λx y=>cmp y x < 0) p q
def mlG (cmp:κ→κ→Int) (mu:κ→κ→κ) (p q:List (Rat × κ)):List (Rat × κ):=sumG cmp (prodL mu p q)
theorem Zjf {l:List (Rat × κ)} (h:∀t∈l,D t.2):∀p∈l.map (λt=>if t.1=0 then [] else [t]),SQ D cmp p:=λp hp=>by
 obtain⟨t,ht,rfl⟩:=List.mem_map.1 hp;split
 ·exact .nil
 ·rename_i h0;exact Srt.nil.cons h0 (h t ht) (λu hu=>by cases hu)
theorem Zhm (o:CO cmp) {l:List (Rat × κ)} (h:∀t∈l,D t.2):SQ D cmp (sumG cmp l):=Zgm o.koD _ (Zjf h)
theorem Zry (o:CO cmp) (φ:κ→Rat) (l:List (Rat × κ)):evl φ (sumG cmp l)=evl φ l:=by
 unfold sumG;rw [evl_sumH (D:=λ_=>True) o.koD φ _ (Zjf λ_ _=>trivial)]
 induction l with
 | nil=>rfl
 | cons t l ih =>
   rw [List.map_cons,List.map_cons,List.sum_cons,ih];show _=t.1*φ t.2+evl φ l;congr 1;split
   ·rename_i h;rw [h,Rat.zero_mul];rfl
   ·show t.1*φ t.2+0=_;rw [Rat.add_zero]
theorem Zie (o:CO cmp) {p q:List (Rat × κ)} (hp:SQ D cmp p) (hq:SQ D cmp q) (h:∀φ,evl φ p=evl φ q):p=q:=by
 classical exact Zh6 o.koD hp hq λx=>by rw [Zwr,Zwr,h]
theorem Zp9 (o:CO cmp) (φ:κ→Rat) (p q:List (Rat × κ)):evl φ (adG cmp p q)=evl φ p+evl φ q:=Zrz (D:=λ_=>True) o.koD φ (λ_ _=>trivial) (λ_ _=>trivial)
theorem Zig (o:CO cmp) {p q:List (Rat × κ)} (hp:SQ D cmp p) (hq:SQ D cmp q):SQ D cmp (adG cmp p q):=Zcu o.koD hp hq
theorem adG_comm (o:CO cmp) {p q:List (Rat × κ)} (hp:SQ D cmp p) (hq:SQ D cmp q):adG cmp p q=adG cmp q p:=by classical exact Zxj o.koD hp hq
theorem Zxm (o:CO cmp) {p q r:List (Rat × κ)} (hp:SQ D cmp p) (hq:SQ D cmp q) (hr:SQ D cmp r):adG cmp (adG cmp p q) r=adG cmp p (adG cmp q r):=by classical exact Ztm o.koD hp hq hr
theorem adG_nil (p:List (Rat × κ)):adG cmp p []=p:=Zsf p
theorem adG_nil' (p:List (Rat × κ)):adG cmp [] p=p:=by cases p<;>simp [adG,addP]
theorem Zge (o:CO cmp) (φ:κ→Rat) (p q:List (Rat × κ)):evl φ (mlG cmp mu p q)=evl (λk=>evl (λk'=>φ (mu k k')) q) p:=by
 unfold mlG;rw [Zry o,Zwq]
theorem Zbl (r:RG D cmp mu e) {p q:List (Rat × κ)} (hp:SQ D cmp p) (hq:SQ D cmp q):SQ D cmp (mlG cmp mu p q):=Zhm r.o λu hu=>by
 obtain⟨s,hs,t,ht,rfl⟩:=Zhq hu;exact r.cl _ _ (hp.dom s hs) (hq.dom t ht)
theorem Zrm (r:RG D cmp mu e) {p q:List (Rat × κ)} (hp:SQ D cmp p) (hq:SQ D cmp q):mlG cmp mu p q=mlG cmp mu q p :=
 Zie r.o (Zbl r hp hq) (Zbl r hq hp) λφ=>by
  rw [Zge r.o,Zge r.o,evl_swap];simp only [r.comm]
theorem Zjx (r:RG D cmp mu e) {p q s:List (Rat × κ)} (hp:SQ D cmp p) (hq:SQ D cmp q) (hs:SQ D cmp s):mlG cmp mu (mlG cmp mu p q) s=mlG cmp mu p (mlG cmp mu q s) :=
 Zie r.o (Zbl r (Zbl r hp hq) hs) (Zbl r hp (Zbl r hq hs)) λφ=>by
  simp only [Zge r.o,r.assoc]
theorem mlG_add (r:RG D cmp mu e) {p q s:List (Rat × κ)} (hp:SQ D cmp p) (hq:SQ D cmp q) (hs:SQ D cmp s):mlG cmp mu (adG cmp p q) s=adG cmp (mlG cmp mu p s) (mlG cmp mu q s) :=
 Zie r.o (Zbl r (Zig r.o hp hq) hs) (Zig r.o (Zbl r hp hs) (Zbl r hq hs)) λφ=>by
  rw [Zge r.o,Zp9 r.o,Zp9 r.o,Zge r.o,Zge r.o]
theorem mlG_nil (p:List (Rat × κ)):mlG cmp mu [] p=[]:=by
 show sumG cmp []=[];unfold sumG;simp [sumH]
theorem Zvs (r:RG D cmp mu e):SQ D cmp [((1:Rat),e)]:=Srt.nil.cons (show(1:Rat)≠0 by decide) r.de (λu hu=>by cases hu)
theorem mlG_one (r:RG D cmp mu e) {p:List (Rat × κ)} (hp:SQ D cmp p):mlG cmp mu p [((1:Rat),e)]=p :=
 Zie r.o (Zbl r hp (Zvs r)) hp λφ=>by
  rw [Zge r.o];have hd:=hp.dom;clear hp
  induction p with
  | nil=>rfl
  | cons t p ih =>
    show t.1*(1*φ (mu t.2 e)+0)+_=t.1*φ t.2+_;rw [ih λu hu=>hd u (.tail _ hu),r.one _ (hd t (.head _)),Rat.one_mul,Rat.add_zero]
def pwG (cmp:κ→κ→Int) (mu:κ→κ→κ) (e:κ) (a:List (Rat × κ)):Nat→List (Rat × κ)
 | 0=>[((1:Rat),e)]
 | n+1=>mlG cmp mu (pwG cmp mu e a n) a
theorem Zh9 (r:RG D cmp mu e) {a:List (Rat × κ)} (ha:SQ D cmp a):∀n,SQ D cmp (pwG cmp mu e a n)
 | 0=>Zvs r
 | n+1=>Zbl r (Zh9 r ha n) ha
def rfG (cmp:κ→κ→Int) (mu:κ→κ→κ) (e:κ) (P:Nat→List (Rat × κ)) (a d:List (Rat × κ)) (m:Nat):Nat→List (Rat × κ)
 | 0=>[]
 | k+1=>adG cmp (rfG cmp mu e P a d m k) (mlG cmp mu (mlG cmp mu (P k) (pwG cmp mu e a k)) (pwG cmp mu e d (m - k)))
def hnG (cmp:κ→κ→Int) (mu:κ→κ→κ) (e:κ) (P:Nat→List (Rat × κ)) (a d:List (Rat × κ)) (m:Nat):Nat→List (Rat × κ)
 | 0=>[]
 | n+1=>adG cmp (mlG cmp mu (hnG cmp mu e P a d m n) a) (mlG cmp mu (P (m - n)) (pwG cmp mu e d n))
theorem Zus (r:RG D cmp mu e) {P:Nat→List (Rat × κ)} {a d:List (Rat × κ)} (hP:∀k,SQ D cmp (P k)) (ha:SQ D cmp a) (hd:SQ D cmp d) (m:Nat):∀k,SQ D cmp (rfG cmp mu e P a d m k)
 | 0=>.nil
 | k+1=>Zig r.o (Zus r hP ha hd m k) (Zbl r (Zbl r (hP k) (Zh9 r ha k)) (Zh9 r hd _))
theorem Zp4 (r:RG D cmp mu e) {P:Nat→List (Rat × κ)} {a d:List (Rat × κ)} (hP:∀k,SQ D cmp (P k)) (ha:SQ D cmp a) (hd:SQ D cmp d) (m:Nat):∀n,SQ D cmp (hnG cmp mu e P a d m n)
 | 0=>.nil
 | n+1=>Zig r.o (Zbl r (Zp4 r hP ha hd m n) ha) (Zbl r (hP _) (Zh9 r hd _))
theorem horner (r:RG D cmp mu e) {P:Nat→List (Rat × κ)} {a d:List (Rat × κ)} (hP:∀k,SQ D cmp (P k)) (ha:SQ D cmp a) (hd:SQ D cmp d) (m:Nat):hnG cmp mu e P a d m (m+1)=rfG cmp mu e P a d m (m+1):=by
 have key:∀n,n≤m+1→adG cmp (rfG cmp mu e P a d m (m+1 - n)) (mlG cmp mu (hnG cmp mu e P a d m n) (pwG cmp mu e a (m+1 - n)))=rfG cmp mu e P a d m (m+1):=by
  intro n
  induction n with
  | zero=>intro _;show adG cmp _ (mlG cmp mu [] _)=_;rw [mlG_nil,adG_nil];rfl
  | succ n ih =>
    intro hn;rw [←ih (by omega)];obtain⟨k,hk⟩:∃k,m=n+k:=⟨m - n,by omega⟩;have e1:m+1 - (n+1)=k:=by omega
    have e2:m+1 - n=k+1:=by omega
    have e3:m - k=n:=by omega
    have e4:m - n=k:=by omega
    rw [e1,e2];show adG cmp _ (mlG cmp mu (adG cmp (mlG cmp mu _ a) (mlG cmp mu (P (m - n)) _)) _)=adG cmp (adG cmp _ (mlG cmp mu (mlG cmp mu (P k) _) (pwG cmp mu e d (m - k)))) (mlG cmp mu _ (mlG cmp mu (pwG cmp mu e a k) a));rw [e3,e4];have s1:=Zus r hP ha hd m k;have s2:=Zp4 r hP ha hd m n;have s3:=Zh9 r ha k;have s4:=Zh9 r hd n;have s5:=hP k;generalize rfG cmp mu e P a d m k=R at *;generalize hnG cmp mu e P a d m n=H at *;generalize pwG cmp mu e a k=A at *;generalize pwG cmp mu e d n=N at *;generalize P k=Q at *;rw [mlG_add r (Zbl r s2 ha) (Zbl r s5 s4) s3,Zjx r s2 ha s3,Zrm r ha s3,Zjx r s5 s4 s3,Zrm r s4 s3,←Zjx r s5 s3 s4,
     Zxm r.o s1 (Zbl r (Zbl r s5 s3) s4) (Zbl r s2 (Zbl r s3 ha)),adG_comm r.o (Zbl r s2 (Zbl r s3 ha)) (Zbl r (Zbl r s5 s3) s4)]
 have h:=key (m+1) (Nat.le_refl _);rw [Nat.sub_self] at h;rw [←h];show _=adG cmp [] (mlG cmp mu _ [((1:Rat),e)]);rw [mlG_one r (Zp4 r hP ha hd m _),adG_nil']
end
end Go.Pol
namespace Go.Proofs.YtjekhacnoopdpaaGreatDoor
open Go Go.RowKit Go.Pg Go.Pol
attribute [-bool_to_prop] Bool.and_eq_decide Bool.or_eq_decide Bool.decide_beq_decide decide_eq_decide
attribute [local go_sem] Tryz.underlying3 Tryz.underlying4 Tryz.underlying169 Tryz.underlying41 Tryz.underlying43 Tryz.underlying45 Tryz.underlying25 Tryz.underlying47 Tryz.underlying49 Tryz.underlying22 Tryz.underlying23 sz3 by3 z3 szB zB Zbd zRat Zbf zInt Zbe zNat Zaj Zaw Zak Bool.and_self Zan Zbs zSlQ szQT byQT zQT Zby zSlT szQP zQP
abbrev gatM (l:QTs):QTs:=sumG ordQ l
theorem Zp6:gatM []=[]:=by simp [gatM,sumG,sumH]
theorem Zid (t:Rat × List Qt):gatM [t]=if t.1=0 then [] else [t]:=by simp [gatM,sumG,sumH]
theorem Zwe {l:QTs} (h:2≤l.length):gatM l=Zb4 (gatM (l.take (l.length/2))) (gatM (l.drop (l.length/2))):=by
 match l,h with
 | a :: b :: r,_ =>
   unfold gatM sumG;rw [List.map_take,List.map_drop];show sumH _ (_ :: _ :: r.map _)=_;rw [sumH];simp only [List.length_cons,List.length_map];rfl
theorem Zk2:∀(n:Nat) (l:QTs) {j m:Nat},l.length=n→QK l j m→QK (gatM l) (n*(j+1) - 1) m∧(gatM l).length≤n:=by
 intro n
 induction n using Nat.strongRecOn with
 | _ n ih =>
   intro l j m hl hq
   match n,l,hl with
   | 0,[],_=>rw [Zp6];exact⟨λt ht=>by(cases ht),Nat.le_refl _⟩
   | 1,[t],_ =>
     rw [Zid];split
     ·exact⟨λt ht=>by(cases ht),Nat.zero_le _⟩
     ·exact⟨hq.mono (by omega) (Nat.le_refl _),by simp⟩
   | n+2,l,hl =>
     rw [Zwe (by omega)];have ht:(l.take (l.length/2)).length=(n+2)/2:=by rw [List.length_take];omega
     have hd:(l.drop (l.length/2)).length=n+2 - (n+2)/2:=by rw [List.length_drop];omega
     obtain⟨a1,a2⟩:=ih _ (by omega) (l.take (l.length/2)) ht (λt h=>hq t (List.mem_of_mem_take h));obtain⟨b1,b2⟩:=ih _ (by omega) (l.drop (l.length/2)) hd (λt h=>hq t (List.mem_of_mem_drop h));have e:(n+2)*(j+1)=(n+2)/2*(j+1)+(n+2 - (n+2)/2)*(j+1):=by rw [←Nat.add_mul];congr 1;omega
     have p1:1*(j+1)≤(n+2)/2*(j+1):=Nat.mul_le_mul_right _ (by omega);have p2:1*(j+1)≤(n+2 - (n+2)/2)*(j+1):=Nat.mul_le_mul_right _ (by omega);refine⟨(join_QK a1 b1).mono (by omega) (Nat.le_refl _),?_⟩;refine Nat.le_trans (Zmt _ _) ?_;omega
def GH (l:QTs) (k m:Nat):Prop:=∀s:QTs,s <:+: l→QK s k m∧QK (gatM s) k m
theorem GH.part {l s:QTs} {k m:Nat} (h:GH l k m) (hs:s <:+: l):GH s k m:=λu hu=>h u (hu.trans hs)
theorem GH.of_qk {l:QTs} {j m:Nat} (h:QK l j m):GH l (l.length*(j+1)+j) m:=λs hs=>by
 have hq:QK s j m:=λt ht=>h t (hs.subset ht);have hl:=hs.length_le;have:=Nat.mul_le_mul_right (j+1) hl;exact⟨hq.mono (by omega) (Nat.le_refl _),(Zk2 _ s rfl hq).1.mono (by omega) (Nat.le_refl _)⟩
theorem nb_qk {D B a b:Nat} {l:QTs} (h:NB D B l) (h0:D≠0) (hd:D < 65536 ^ a) (hb:B < 65536 ^ b) {m:Nat} (hm:∀t∈l,t.2.length≤m):QK l (a+b) m :=
 λt ht=>⟨bq_sz (h.bq ht) h0 hd hb,hm t ht⟩
theorem n1_infix {s l:QTs} (h:s <:+: l):n1 s≤n1 l:=by
 obtain⟨a,b,rfl⟩:=h;rw [Zn1,Zn1];omega
theorem Zmf {l:QTs} {m:Nat} (hm:∀t∈l,t.2.length≤m):∀t∈gatM l,t.2.length≤m:=by
 have:∃j,QK l j m:=by
  induction l with
  | nil=>exact⟨0,λt ht=>by cases ht⟩
  | cons a l ih =>
    obtain⟨j,hj⟩:=ih λt ht=>hm t (.tail _ ht);refine⟨max j (max (toL a.1.num.natAbs).length (toL a.1.den).length),λt ht=>?_⟩;rcases List.mem_cons.1 ht with rfl | ht
    ·exact⟨⟨by omega,by omega⟩,hm _ (.head _)⟩
    ·exact⟨(hj t ht).1.mono (by omega),(hj t ht).2⟩
 obtain⟨j,hj⟩:=this;exact λt ht=>((Zk2 _ l rfl hj).1 t ht).2
theorem GH.of_nb {D B a b:Nat} {l:QTs} (h:NB D B l) (h0:D≠0) (hd:D < 65536 ^ a) (hb:B < 65536 ^ b) {m:Nat} (hm:∀t∈l,t.2.length≤m):GH l (a+b) m:=λs hs=>by
 have hn:NB D B s:=⟨λt ht=>h.1 t (hs.subset ht),Nat.le_trans (n1_infix hs) h.2⟩;have hm2:∀t∈s,t.2.length≤m:=λt ht=>hm t (hs.subset ht);exact⟨nb_qk hn h0 hd hb hm2,nb_qk (NB.sumG (cmp:=ordQ) hn) h0 hd hb (Zmf hm2)⟩
theorem Zlp:∀(n:Nat) (l:QTs) {j m:Nat},l.length=n→GH l j m→n≤100000000→m≤1000000→j≤900000→Pure Tryz.prog 79 [qpA l] (qpA (gatM l)):=by
 intro n
 induction n using Nat.strongRecOn with
 | _ n ih =>
   intro l j m hl hG hn hm hj;have hq:=(hG l (List.infix_refl l)).1;have hlm:(l.map qtA).length=n:=by rw [List.length_map,hl]
   match n,l,hl with
   | 0,[],_ =>
     clear ih hG;refine Zlx (r:=.v (.slice none 0 0)) ?_ (by rw [Zp6];exact .nil 4);show Pure _ _ [.sl 4 []] _;refine Zaa (tok:=0) Tryz.func79 rfl Tryz.ntmps79 Tryz.results79 Tryz.call79 (by rfl) (by simp) ?_;(focus (refine wkad w_t w_t w_t ?_;(repeat' first|exact w_t|apply w_l);all_goals intros));all_goals exact gL
   | 1,[t],_ =>
     clear ih hG;obtain⟨ht,-⟩:=hq t (.head _);have cz:=qSign t.1 ht (by omega);rw [Zid];by_cases h0:t.1=0
     ·rw [if_pos h0];have hz2:t.1.num.sign=0:=by rw [Zdq];exact h0
      refine Zlx (r:=.v (.slice none 0 0)) ?_ (.nil 4);show Pure _ _ [.sl 4 [qtA t]] _;rw [hz2] at cz;clear hq hz2 h0;obtain⟨t1,t2⟩:=t;simp only at *;generalize t2.map Qt.av=T at *;generalize toL t1.num.natAbs=a at *;generalize toL t1.den=b at *;refine Zaa (tok:=0) Tryz.func79 rfl Tryz.ntmps79 Tryz.results79 Tryz.call79 (by rfl) (by simp) ?_;(focus (refine wkad w_t (w_1 cz) w_t ?_;(repeat' first|exact w_t|apply w_l);all_goals intros));all_goals exact gL
     ·rw [if_neg h0];have hz2:¬t.1.num.sign=0:=by rw [Zdq];exact h0
      show Pure _ _ [.sl 4 [qtA t]] (.sl 4 [qtA t]);clear hq h0;obtain⟨t1,t2⟩:=t;simp only at *;generalize t1.num.sign=z at *;generalize t2.map Qt.av=T at *;generalize toL t1.num.natAbs=a at *;generalize toL t1.den=b at *;refine Zaa (tok:=0) Tryz.func79 rfl Tryz.ntmps79 Tryz.results79 Tryz.call79 (by rfl) (by simp) ?_;(focus (refine wkad (w_1 hz2) (w_1 cz) w_t ?_;(repeat' first|exact w_t|apply w_l);all_goals intros));all_goals exact gL
   | n+2,l,hl =>
     rw [Zwe (by omega)];have ht:(l.take (l.length/2)).length=(n+2)/2:=by rw [List.length_take];omega
     have hd:(l.drop (l.length/2)).length=n+2 - (n+2)/2:=by rw [List.length_drop];omega
     have qt:l.take (l.length/2) <:+: l:=(List.take_prefix _ _).isInfix;have qd:l.drop (l.length/2) <:+: l:=(List.drop_suffix _ _).isInfix;have c1:=ih _ (by omega) _ ht (hG.part qt) (by omega) hm hj;have c2:=ih _ (by omega) _ hd (hG.part qd) (by omega) hm hj;obtain⟨q1,a1⟩:=hG _ qt;obtain⟨q2,b1⟩:=hG _ qd;have a2:=(Zk2 _ _ ht q1).2;have b2:=(Zk2 _ _ hd q2).2;have c3:=rxJoin _ _ a1 b1 (by omega) (by omega) (by omega) (by omega) hm;clear ih a1 b1 a2 b2 qt qd hq hG q1 q2;have m1:(l.take (l.length/2)).map qtA=(l.map qtA).take ((n+2)/2):=by rw [List.map_take,hl]
     have m2:(l.drop (l.length/2)).map qtA=(l.map qtA).drop ((n+2)/2):=by rw [List.map_drop,hl]
     have c1:Pure Tryz.prog 79 [.sl 4 ((l.map qtA).take ((n+2)/2))] (.sl 4 ((gatM (l.take (l.length/2))).map qtA)):=by rw [←m1];exact c1
     have c2:Pure Tryz.prog 79 [.sl 4 ((l.map qtA).drop ((n+2)/2))] (.sl 4 ((gatM (l.drop (l.length/2))).map qtA)):=by rw [←m2];exact c2
     have c3:Pure Tryz.prog 103 [.sl 4 ((gatM (l.take (l.length/2))).map qtA),.sl 4 ((gatM (l.drop (l.length/2))).map qtA)] (.sl 4 ((Zb4 (gatM (l.take (l.length/2))) (gatM (l.drop (l.length/2)))).map qtA)):=c3;show Pure _ _ [.sl 4 (l.map qtA)] (.sl 4 ((Zb4 (gatM (l.take (l.length/2))) (gatM (l.drop (l.length/2)))).map qtA));clear m1 m2;generalize (Zb4 (gatM (l.take (l.length/2))) (gatM (l.drop (l.length/2)))).map qtA=R at *;generalize (gatM (l.take (l.length/2))).map qtA=G1 at *;generalize (gatM (l.drop (l.length/2))).map qtA=G2 at *;generalize l.map qtA=A at *;have htk:A.take (n+2)=A:=List.take_of_length_le (by omega)
     have hn2:((n+2:Nat):Int).tdiv 2=(((n+2)/2:Nat):Int):=by first|rfl|(rw [Int.tdiv_eq_ediv_of_nonneg (by omega)];omega)
     refine Zaa (tok:=0) Tryz.func79 rfl Tryz.ntmps79 Tryz.results79 Tryz.call79 (by rfl) (by simp) ?_;(focus (refine wkad (w_3 hlm htk hn2) (w_3 c1 c2 c3) (w_1 (w_d 6 [(3,.sl 4 G1),(7,.sl 4 G2),(8,.sl 4 R)] [] [])) ?_;(repeat' first|exact w_t|apply w_l);all_goals intros));all_goals exact gL
end Go.Proofs.YtjekhacnoopdpaaGreatDoor
namespace Go.Proofs.YtjekhacnoopdpaaGreatDoor
open Go Go.RowKit Go.Pg
attribute [-bool_to_prop] Bool.and_eq_decide Bool.or_eq_decide Bool.decide_beq_decide decide_eq_decide
section
attribute [local go_sem] Tryz.underlying3 Tryz.underlying4 Tryz.underlying5 Tryz.underlying9 Tryz.underlying33 sz3 by3 z3 Zcr Zi0 zStr
end
end Go.Proofs.YtjekhacnoopdpaaGreatDoor
namespace Go.Proofs.YtjekhacnoopdpaaGreatDoor
open Go Go.RowKit Go.Pg Go.Pol
attribute [-bool_to_prop] Bool.and_eq_decide Bool.or_eq_decide Bool.decide_beq_decide decide_eq_decide
attribute [local go_sem] Tryz.underlying3 Tryz.underlying4 Tryz.underlying169 Tryz.underlying9 Tryz.underlying130 Tryz.underlying36 Tryz.underlying45 Tryz.underlying43 Tryz.underlying41 Tryz.underlying140 Tryz.underlying70 Tryz.underlying208 Tryz.underlying71 Tryz.underlying73 sz3 by3 z3 szB zB szL byL zL Zhl zErr Zcr Zi0 zStr Zbd zRat Zbf zInt Zbe zNat Zqo Zsc zStep szFact byFact zFact szFig zFig szSlI zSlI szSlS zSlS szSlF zSlF
theorem irRaw (s:Bool) (l:List Nat) (hl:Lm l) (hs:l.length≤100000000):Pure Tryz.prog 144 [.agg [.v (.bool s),lim l]] (.v (.bool (RQ.zok s l))):=by
 unfold RQ.zok valL;by_cases h:l.length=0
 ·rw [decide_eq_true h,Bool.true_or,Bool.true_and,Bool.and_true];cases s
  ·refine Zaa (tok:=0) Tryz.func144 rfl Tryz.ntmps144 Tryz.results144 Tryz.call144 (by rfl) (by simp) ?_;(focus (refine wklp (w_1 @Zbx) w_t w_t (w_r 0) ?_;(repeat' first|exact w_t|apply w_l);all_goals intros))
  ·refine Zaa (tok:=0) Tryz.func144 rfl Tryz.ntmps144 Tryz.results144 Tryz.call144 (by rfl) (by simp) ?_;(focus (refine wklp (w_1 @Zbx) w_t w_t (w_r 0) ?_;(repeat' first|exact w_t|apply w_l);all_goals intros))
 ·rw [decide_eq_false h,Bool.false_or,Bool.and_false,Bool.not_false,Bool.and_true];have ei:(l.length:Int) - 1=((l.length - 1:Nat):Int):=by omega
  have hlm:=Zbv hl (l.length - 1);by_cases hg:gN l (l.length - 1)=0
  ·rw [decide_eq_true hg];cases s
   ·refine Zaa (tok:=0) Tryz.func144 rfl Tryz.ntmps144 Tryz.results144 Tryz.call144 (by rfl) (by simp) ?_;(focus (refine wklp (w_2 ei @Zbx) w_t (w_1 @Bool.not_true) (w_r 0) ?_;(repeat' first|exact w_t|apply w_l);all_goals intros))
   ·refine Zaa (tok:=0) Tryz.func144 rfl Tryz.ntmps144 Tryz.results144 Tryz.call144 (by rfl) (by simp) ?_;(focus (refine wklp (w_2 ei @Zbx) w_t (w_1 @Bool.not_true) (w_r 0) ?_;(repeat' first|exact w_t|apply w_l);all_goals intros))
  ·rw [decide_eq_false hg];cases s
   ·refine Zaa (tok:=0) Tryz.func144 rfl Tryz.ntmps144 Tryz.results144 Tryz.call144 (by rfl) (by simp) ?_;(focus (refine wklp (w_2 ei @Zbx) w_t (w_1 @Bool.not_false) (w_r 0) ?_;(repeat' first|exact w_t|apply w_l);all_goals intros))
   ·refine Zaa (tok:=0) Tryz.func144 rfl Tryz.ntmps144 Tryz.results144 Tryz.call144 (by rfl) (by simp) ?_;(focus (refine wklp (w_2 ei @Zbx) w_t (w_1 @Bool.not_false) (w_r 0) ?_;(repeat' first|exact w_t|apply w_l);all_goals intros))
theorem rtRight (r:RQ) (h:r.lm 100000000):Pure Tryz.prog 70 [r.av] (.v (.bool r.ok)):=by
 obtain⟨s,l,d⟩:=r;obtain⟨h1,h2,h3,h4⟩:=h;simp only at h1 h2 h3 h4;have c1:=irRaw s l h1 h3;unfold RQ.ok;simp only;generalize RQ.zok s l=z at *;by_cases hd:d.length=0
 ·have:decide (0 < d.length)=false:=decide_eq_false (by omega);rw [this,Bool.and_false];cases z
  ·refine Zaa (tok:=0) Tryz.func70 rfl Tryz.ntmps70 Tryz.results70 Tryz.call70 (by rfl) (by simp) ?_;(focus (refine wklp (w_1 @Zbx) (w_1 c1) w_t (w_r 0) ?_;(repeat' first|exact w_t|apply w_l);all_goals intros))
  ·refine Zaa (tok:=0) Tryz.func70 rfl Tryz.ntmps70 Tryz.results70 Tryz.call70 (by rfl) (by simp) ?_;(focus (refine wklp (w_1 @Zbx) (w_1 c1) w_t (w_r 0) ?_;(repeat' first|exact w_t|apply w_l);all_goals intros))
 ·have:decide (0 < d.length)=true:=decide_eq_true (by omega);rw [this,Bool.and_true];have ei:(d.length:Int) - 1=((d.length - 1:Nat):Int):=by omega
  have hlm:=Zbv h2 (d.length - 1)
  cases z with
  | false =>
    rw [Bool.false_and,Bool.false_and];refine Zaa (tok:=0) Tryz.func70 rfl Tryz.ntmps70 Tryz.results70 Tryz.call70 (by rfl) (by simp) ?_;(focus (refine wklp (w_1 @Zbx) (w_1 c1) w_t (w_r 0) ?_;(repeat' first|exact w_t|apply w_l);all_goals intros))
  | true =>
    rw [Bool.true_and];by_cases hg:gN d (d.length - 1)=0
    ·have:valL d=false:=by unfold valL;rw [decide_eq_false hd,decide_eq_true hg];rfl
     rw [this,Bool.false_and];refine Zaa (tok:=0) Tryz.func70 rfl Tryz.ntmps70 Tryz.results70 Tryz.call70 (by rfl) (by simp) ?_;(focus (refine wklp (w_2 ei @Zbx) (w_1 c1) w_t (w_r 0) ?_;(repeat' first|exact w_t|apply w_l);all_goals intros))
    ·have hv:valL d=true:=by unfold valL;rw [decide_eq_false hd,decide_eq_false hg];rfl
     rw [hv,Bool.true_and];have hdt:=(Zhj h2).1 hv;have l4:(toL (nv d)).length≤100000000:=by rw [←hdt];exact h4
     have c2:=Zjn (nv d) l4;have c3:=natGcd l d (by omega) (by omega) h1 h2
     have n0:nv d≠0:=by
      intro h0;rw [h0,Zax] at hdt;rw [hdt] at hd;exact hd rfl
     have gl:(toL (Nat.gcd (nv l) (nv d))).length≤100000000:=Nat.le_trans (Zcy (Nat.gcd_le_right _ (by omega))) l4;have c4:=Zjn (Nat.gcd (nv l) (nv d)) gl;rw [←hdt] at c2;have hb:(Nat.gcd (nv l) (nv d) == 1)=decide (Nat.gcd (nv l) (nv d)=1):=by rw [Bool.eq_iff_iff,beq_iff_eq,decide_eq_true_eq]
     rw [hb];by_cases h1d:nv d=1
     ·rw [decide_eq_true h1d] at c2;rw [decide_eq_true (show Nat.gcd (nv l) (nv d)=1 by rw [h1d,Nat.gcd_one_right])];clear c3 c4 hdt;refine Zaa (tok:=0) Tryz.func70 rfl Tryz.ntmps70 Tryz.results70 Tryz.call70 (by rfl) (by simp) ?_;(focus (refine wklp (w_2 ei @Zbx) (w_2 c1 c2) (w_1 @decide_true) (w_r 0) ?_;(repeat' first|exact w_t|apply w_l);all_goals intros))
     ·rw [decide_eq_false h1d] at c2;clear hdt hb gl;generalize decide (Nat.gcd (nv l) (nv d)=1)=v at *;generalize toL (Nat.gcd (nv l) (nv d))=lg' at *;refine Zaa (tok:=0) Tryz.func70 rfl Tryz.ntmps70 Tryz.results70 Tryz.call70 (by rfl) (by simp) ?_;(focus (refine wklp (w_2 ei @Zbx) (w_4 c1 c2 c3 c4) w_t (w_r 0) ?_;(repeat' first|exact w_t|apply w_l);all_goals intros))
def RS.sm (s:RS):Prop:=s.r.lm 100000000∧s.nm.size≤1000000000∧s.ar.length≤1000000000
def RG.sm (g:RG):Prop:=g.r.lm 100000000∧g.ar.length≤1000000000
end Go.Proofs.YtjekhacnoopdpaaGreatDoor
namespace Go.Proofs.YtjekhacnoopdpaaGreatDoor
attribute [-bool_to_prop] Bool.and_eq_decide Bool.or_eq_decide Bool.decide_beq_decide decide_eq_decide
section
open Go Go.RowKit Go.Pg
end
end Go.Proofs.YtjekhacnoopdpaaGreatDoor
namespace Go.Proofs.YtjekhacnoopdpaaGreatDoor
open Go Go.RowKit Go.Pg Go.Pol
attribute [-bool_to_prop] Bool.and_eq_decide Bool.or_eq_decide Bool.decide_beq_decide decide_eq_decide
attribute [local go_sem] Tryz.underlying3 Tryz.underlying4 Tryz.underlying169 Tryz.underlying9 Tryz.underlying130 Tryz.underlying36 Tryz.underlying45 Tryz.underlying43 Tryz.underlying41 Tryz.underlying140 Tryz.underlying70 Tryz.underlying73 Tryz.underlying270 Tryz.underlying76 Tryz.underlying142 Tryz.underlying75 Tryz.underlying78 Tryz.underlying82 Tryz.underlying223 sz3 by3 z3 szB zB Zhl zErr Zcr Zi0 zStr Zbd zRat Zbf zInt Zbe zNat Zqo Zsc zStep szFig zFig szSlI zSlI szSlS zSlS szVar byVar zVar szSlV zSlV Zt9 Zw9 zCoord szSlC zSlC Zt7 zFrame Zkk Zk6 Zsk Zkj Zsj
theorem Sub.nil (m:Nat):Sub (.v (.slice none 0 0)) (.sl m []):=λw imm x h=>by
 rw [h.v_inv];exact .pure ((Wk.nil m).rd (.v _))
theorem Zf0 {σ:Mem} {k:Nat} {e:Ent} (h:σ k=some e):upd σ k (some e)=σ:=by
 funext j;rw [Zac];split
 ·subst_vars;exact h.symm
 ·rfl
theorem Zca {K c:Nat} (h:c < 1000):(K+1000 == c)=false:=by rw [beq_eq_false_iff_ne];omega
theorem Zqn {a b:List Nat} (h:u16s a=u16s b):a=b:=by
 induction a generalizing b with
 | nil=>cases b with
   | nil=>rfl
   | cons y b=>simp [u16s] at h
 | cons x a ih=>cases b with
   | nil=>simp [u16s] at h
   | cons y b =>
     rw [Ztz,Ztz] at h;simp only [List.cons.injEq,AV.v.injEq,Value.int.injEq,true_and] at h;rw [ih h.2,show x=y by omega]
theorem RQ.ok_eq {r:RQ} {k:Nat} (hl:r.lm k) (h:r.ok=true):r=⟨decide (r.q.num < 0),toL r.q.num.natAbs,toL r.q.den⟩:=by
 have h1:=(RQ.ok_av hl h).1;simp only [RQ.av,ratQ,AV.agg.injEq,List.cons.injEq,AV.v.injEq,Value.bool.injEq,lim,AV.sl.injEq,true_and,and_true] at h1;obtain⟨s,l,d⟩:=r;simp only at h1;rw [RQ.mk.injEq];exact⟨h1.1,Zqn h1.2.1,Zqn h1.2.2⟩
attribute [local go_sem] Tryz.underlying25 Tryz.underlying47 Tryz.underlying49 Tryz.underlying22 Tryz.underlying23 Zaj Zaw Zak Bool.and_self Zan Zbs zSlQ szQT byQT zQT Zby zSlT szQP zQP
structure RE where
 r:RQ
 q:List Qt
abbrev RE.av (t:RE):AV:=.agg [.v (.bool t.r.s),lim t.r.l,lim t.r.d,qsA t.q]
def RE.ok (t:RE):Bool:=t.r.ok && t.q.all Qt.ok
def sgP (l:List Qt):Int:=l.foldl (λs q=>s*q.norm.2) 1
def nzP (l:List Qt):List Qt:=(l.filter λq=>decide (q.norm.2≠0)).map λq=>q.norm.1
def putP (l:List Qt):List Qt:=(nzP l).foldl (putQ Qt.cmp) []
def RE.t (t:RE):Rat × List Qt:=(t.r.q*(sgP t.q:Rat),putP t.q)
theorem Zqt (l:List Qt) (q:Qt):sgP (l++[q])=sgP l*q.norm.2:=by unfold sgP;rw [List.foldl_append];rfl
theorem putP_y (l:List Qt) {q:Qt} (h:q.norm.2≠0):putP (l++[q])=putQ Qt.cmp (putP l) q.norm.1:=by
 unfold putP nzP;rw [List.filter_append,List.map_append,List.foldl_append,List.filter_cons,if_pos (decide_eq_true h)];rfl
theorem putP_n (l:List Qt) {q:Qt} (h:q.norm.2=0):putP (l++[q])=putP l:=by
 unfold putP nzP;rw [List.filter_append,List.map_append,List.foldl_append,List.filter_cons,if_neg (by simp [h])];rfl
theorem Zlw (l:List Qt):(putP l).length≤l.length:=by
 unfold putP;rw [(Zex (cmp:=Qt.cmp) (nzP l) []).length_eq,List.append_nil];unfold nzP;rw [List.length_map];exact List.length_filter_le _ _
theorem Zia (q:Qt):q.norm.2=-1∨q.norm.2=0∨q.norm.2=1:=by
 unfold Qt.norm Zju Zjt
 repeat' split
 all_goals first|exact .inl rfl|exact .inr (.inl rfl)|exact .inr (.inr rfl)
theorem sg_mul {a b:Int} (ha:a=-1∨a=0∨a=1) (hb:b=-1∨b=0∨b=1):a*b=-1∨a*b=0∨a*b=1:=by
 rcases ha with rfl | rfl | rfl<;>rcases hb with rfl | rfl | rfl<;>decide
theorem Zna (l:List Qt):sgP l=-1∨sgP l=0∨sgP l=1:=by
 have key:∀(l:List Qt) (s:Int),(s=-1∨s=0∨s=1)→(l.foldl (λs q=>s*q.norm.2) s=-1∨l.foldl (λs q=>s*q.norm.2) s=0∨l.foldl (λs q=>s*q.norm.2) s=1):=by
  intro l
  induction l with
  | nil=>intro s h;exact h
  | cons a l ih=>intro s h;exact ih _ (sg_mul h (Zia a))
 exact key l 1 (.inr (.inr rfl))
theorem Zm9 {z:Int} (h:z=-1∨z=0∨z=1):Sz (z:Rat) 1:=by
 refine Sz.int ?_ (Nat.le_refl _);rcases h with rfl | rfl | rfl
 ·exact Nat.le_of_eq Zdi
 ·show(toL 0).length≤1;rw [Zax];exact Nat.zero_le _
 ·exact Nat.le_of_eq Zdi
theorem qOfS {z:Int} (h:z=-1∨z=0∨z=1):Pure Tryz.prog 53 [iv z] (ratQ (z:Rat)):=by
 rcases h with rfl | rfl | rfl
 ·exact qOfM
 ·exact qOf 0 (by omega)
 ·exact qOf 1 (by omega)
def nrmR (l:List RE):AV:=if l.all RE.ok=true then qpA (gatM (l.map RE.t)) else .v (.slice none 0 0)
theorem Zgj {α:Type} {p:α→Bool} {l:List α} {i:Nat} (h:i < l.length) (h1:(l.take i).all p=true) (h2:p l[i]=true):(l.take (i+1)).all p=true:=by
 rw [List.take_add_one,List.getElem?_eq_getElem h,List.all_append,h1];simp [h2]
theorem Zja {α:Type} {p:α→Bool} {l:List α} {i:Nat} (h:i < l.length) (h2:p l[i]=false):l.all p=false:=by
 rw [List.all_eq_false];exact⟨l[i],List.getElem_mem h,by simp [h2]⟩
theorem rxNorm (l:List RE) {J:Nat} (hl:l.length≤1000) (hr:∀t∈l,t.r.lm J) (hq:∀t∈l,t.q.length≤1000) (hJ:J≤800):Pure Tryz.prog 23 [.sl 4 (l.map RE.av)] (nrmR l):=by
 have hlm:(l.map RE.av).length=l.length:=List.length_map ..;have hg:∀i (h:i < l.length),(l.map RE.av).getD i .u=RE.av l[i]:=λi h=>Za0 RE.av h;generalize l.map RE.av=A at *;refine Zaa (tok:=0) Tryz.func23 rfl Tryz.ntmps23 Tryz.results23 Tryz.call23 (by rfl) (by simp) ?_;(focus (refine wkad (w_1 hlm) w_t w_t ?_;(repeat' first|exact w_t|apply w_l);all_goals intros));refine Zej (Frz.nilOwn (d:=3) 75 4 49 (by exact gC)) ?_;refine Zad (ι:=Nat) (λi e m=>i≤l.length∧(l.take i).all RE.ok=true∧e 0=.sl 4 A∧e 4=iv i∧∃sv,e 3=.own 75 sv∧m 75=some (.row sv 49 4 (((l.take i).map RE.t).map qtA) 0)) (λi=>l.length - i) 0 (by rfl) ?_ ?_
 ·rintro i e m ⟨hi,ha,e0,e4,sv,e3,m75⟩
  have hol:((((l.take i).map RE.t).map qtA)).length=i:=by rw [List.length_map,List.length_map,List.length_take];omega
  by_cases hlt:i < l.length
  ·have hgi:=hg i hlt;have hri:=hr _ (List.getElem_mem hlt);have hqi:=hq _ (List.getElem_mem hlt);have hta:((l.take (i+1)).map RE.t).map qtA=((l.take i).map RE.t).map qtA++[qtA l[i].t]:=by rw [List.take_add_one,List.getElem?_eq_getElem hlt,List.map_append,List.map_append];rfl
   have hok:=Zgj (p:=RE.ok) hlt ha;have hbad:=Zja (p:=RE.ok) hlt;have hbr:RE.ok l[i]=false→nrmR l=.v (.slice none 0 0):=λh=>by unfold nrmR;rw [hbad h];rfl
   clear hbad hg hr hq ha;generalize l[i]=t at *;generalize nrmR l=NR at *;generalize ((l.take i).map RE.t).map qtA=O at *;obtain⟨r,q⟩:=t;simp only at hri hqi;have hgi:A.getD i .u=.agg [.v (.bool r.s),lim r.l,lim r.d,.sl 4 (q.map Qt.av)]:=hgi;have crq:=Zu9 r.s r.l r.d hri.1 hri.2.1 (by have:=hri.2.2.1;omega) (by have:=hri.2.2.2;omega)
   cases hro:r.ok with
   | false =>
     rw [show(RQ.ok ⟨r.s,r.l,r.d⟩)=false from hro] at crq;rw [hbr (by unfold RE.ok;rw [hro];rfl)];clear hbr hok hta;obtain⟨s,x,d⟩:=r;simp only at *;generalize q.map Qt.av=Q at *;(focus (refine wkad (w_6 e0 e4 e3 m75 hlm hgi) (w_1 crq) w_t ?_;(repeat' first|exact w_t|apply w_l);all_goals intros));all_goals exact gL
   | true =>
     rw [show(RQ.ok ⟨r.s,r.l,r.d⟩)=true from hro] at crq;have hz:=(RQ.ok_av hri hro).2;have hre:=RQ.ok_eq hri hro;have hqm:(q.map Qt.av).length=q.length:=List.length_map ..;have hgq:∀k (h:k < q.length),(q.map Qt.av).getD k .u=Qt.av q[k]:=λk h=>Za0 Qt.av h;have hbq:∀k (h:k < q.length),Qt.ok q[k]=false→NR=.v (.slice none 0 0):=λk h h2=>hbr (by unfold RE.ok;rw [Zja (p:=Qt.ok) h h2,Bool.and_false]);have hqk:q.all Qt.ok=true→RE.ok ⟨r,q⟩=true:=λh=>by unfold RE.ok;rw [hro,h];rfl
     have het:qtA (RE.t ⟨r,q⟩)=.agg [.v (.bool (decide ((r.q*(sgP q:Rat)).num < 0))),lim (toL (r.q*(sgP q:Rat)).num.natAbs),lim (toL (r.q*(sgP q:Rat)).den),.sl 4 ((putP q).map Qt.av)]:=rfl;rw [het] at hta;clear het hbr;generalize hx:r.q=x at *;subst hre;clear hro;simp only at *;generalize hQ:q.map Qt.av=Q at *;have cm:=qMul x (sgP q:Rat) hz (Zm9 (Zna q)) (by omega) (by omega);have cs:=qOfS (Zna q);have cm:Pure Tryz.prog 78 [.agg [.v (.bool (decide (x.num < 0))),lim (toL x.num.natAbs),lim (toL x.den)],ratQ (sgP q:Rat)] (ratQ (x*(sgP q:Rat))):=cm;generalize hxn:toL x.num.natAbs=xn at *;generalize hxd:toL x.den=xd at *
     generalize hxs:decide (x.num < 0)=xs at *;(focus (refine wkad (w_6 e0 e4 e3 m75 hlm hgi) (w_1 crq) w_t ?_;(repeat' first|exact w_t|apply w_l);all_goals intros));refine Zej (Frz.nil (d:=6) 4 (by exact gC)) ?_;refine Zad (ι:=Nat) (λk e m=>k≤q.length∧(q.take k).all Qt.ok=true∧e 0=.sl 4 A∧e 4=iv i∧e 3=.own 75 sv∧m 75=some (.row sv 49 4 O 0)∧e 5=iv (sgP (q.take k))∧e 6=.sl 4 ((putP (q.take k)).map Qt.av)∧e 7=iv k) (λk=>q.length - k) 0 (by rfl) ?_ ?_
     ·rintro k e m ⟨hk,hak,e0,e4,e3,m75,e5,e6,e7⟩
      by_cases hkt:k < q.length
      ·have hgk:=hgq k hkt;have hok2:=Zgj (p:=Qt.ok) hkt hak;have hbk:=hbq k hkt;have htk:q.take (k+1)=q.take k++[q[k]]:=by rw [List.take_add_one,List.getElem?_eq_getElem hkt];rfl
       have s1:=Zqt (q.take k) q[k];have s2:=putP_y (q.take k) (q:=q[k]);have s3:=putP_n (q.take k) (q:=q[k]);have hpl:=Zlw (q.take k);have htl:(q.take k).length≤1000:=by rw [List.length_take];omega
       have hsg:=Zna (q.take k);have hns:=Zia q[k];rw [←htk] at s1 s2 s3;have c1:=Zpf q[k].k q[k].a q[k].b q[k].c;have c2:=Zuo q[k].k q[k].a q[k].b q[k].c;have c3:=rxPut (putP (q.take k)) (q[k].norm).1 (by omega);clear hgq hbq hqk cm cs hta hok htk hak;generalize q[k]=y at *;generalize hP1:putP (q.take (k+1))=P1 at *;generalize hS1:sgP (q.take (k+1))=S1 at *;generalize putP (q.take k)=P0 at *;generalize sgP (q.take k)=S0 at *;generalize hn1:y.norm.1=nn at *;generalize hn2:y.norm.2=ns at *;obtain⟨y1,y2,y3,y4⟩:=y;simp only at *
       cases hyo:Qt.ok ⟨y1,y2,y3,y4⟩with
       | false =>
         rw [hyo] at c1;rw [hbk hyo];clear s1 s2 s3 c2 c3 hok2 hbk;(focus (refine wkad (w_11 e0 e4 e3 m75 e5 e6 e7 hlm hgi hqm hgk) (w_1 c1) w_t ?_;(repeat' first|exact w_t|apply w_l);all_goals intros));all_goals exact gL
       | true =>
         rw [hyo] at c1;have hok3:=hok2 hyo;clear hbk hok2;obtain⟨n1,n2,n3,n4⟩:=nn;by_cases hns0:ns=0
         ·have s3:=s3 hns0;subst s3;subst s1;clear s2 c3;generalize hPA:P1.map Qt.av=PA at *;(focus (refine wkad (w_12 e0 e4 e3 m75 e5 e6 e7 hlm hgi hqm hgk hns0) (w_2 c1 c2) w_t ?_;(repeat' first|exact w_t|apply w_l);all_goals intros));exact⟨k+1,⟨by omega,hok3,by exact gW e0,by exact gW e4,by exact gW e3,by exact gW m75,by rw [hS1,hns0];exact gC,by rw [hP1,hPA];exact gW e6,by exact gS⟩,by omega⟩
         ·have s2:=s2 hns0;subst s2;have hw:IntKind.i64.wrap (S0*ns)=S0*ns:=by rcases sg_mul hsg hns with h | h | h<;>rw [h]<;>rfl
          subst s1;clear s3;have c3:Pure Tryz.prog 77 [.sl 4 (P0.map Qt.av),.agg [iv n1,iv n2,iv n3,iv n4]] (.sl 4 ((putQ Qt.cmp P0 ⟨n1,n2,n3,n4⟩).map Qt.av)):=c3;generalize hPB:(putQ Qt.cmp P0 ⟨n1,n2,n3,n4⟩).map Qt.av=PB' at *;generalize P0.map Qt.av=PA at *;(focus (refine wkad (w_13 e0 e4 e3 m75 e5 e6 e7 hlm hgi hqm hgk hns0 hw) (w_3 c1 c2 c3) w_t ?_;(repeat' first|exact w_t|apply w_l);all_goals intros));exact⟨k+1,⟨by omega,hok3,by exact gW e0,by exact gW e4,by exact gW e3,by exact gW m75,by rw [hS1];exact gC,by rw [hP1,hPB];exact gC,by exact gS⟩,by omega⟩
      ·have hkl:k=q.length:=by omega
       subst hkl;rw [List.take_length] at hak e5 e6;have hok3:=hok (hqk hak);clear hgq hbq hqk hok;generalize (putP q).map Qt.av=PA at *;generalize hS:sgP q=S0 at *;generalize x*(S0:Rat)=w at *;(focus (refine wkad (w_11 e0 e4 e3 m75 e5 e6 e7 hlm hgi hqm hol) (w_2 cs cm) (w_1 (w_d 18 [(7,ratQ (S0:Rat)),(8,ratQ w)] [12,1012] [74,75])) ?_;(repeat' first|exact w_t|apply w_l);all_goals intros));exact⟨i+1,⟨by omega,hok3,by exact gW e0,by exact gS,_,by exact gC,by rw [hta];exact gC⟩,by omega⟩
     ·exact⟨Nat.zero_le _,rfl,by exact gW e0,by exact gW e4,by exact gW e3,by exact gW m75,by exact gC,by exact gC,by exact gC⟩
  ·have hil:i=l.length:=by omega
   subst hil;rw [List.take_length] at m75 ha hol;have hfin:nrmR l=.sl 4 ((gatM (l.map RE.t)).map qtA):=by unfold nrmR;rw [if_pos ha]
   have hqk:QK (l.map RE.t) (J+1) 1000:=λt ht=>by
    obtain⟨u,hu,rfl⟩:=List.mem_map.1 ht
    have hok:u.r.ok=true:=by
     have:=List.all_eq_true.1 ha u hu;unfold RE.ok at this;simp only [Bool.and_eq_true] at this;exact this.1
    have:=hq u hu;have:=Zlw u.q;exact⟨(RQ.ok_av (hr u hu) hok).2.mul (Zm9 (Zna u.q)),by show(putP u.q).length≤1000;omega⟩
   have h1:l.length*(J+1+1)≤1000*(J+1+1):=Nat.mul_le_mul_right _ hl;have cg:=Zlp l.length (l.map RE.t) (List.length_map ..) (GH.of_qk hqk) (by omega) (by omega) (by rw [List.length_map];omega);have cg:Pure Tryz.prog 79 [.sl 4 ((l.map RE.t).map qtA)] (.sl 4 ((gatM (l.map RE.t)).map qtA)):=cg;rw [hfin];show _;clear hg hr hq hqk ha;generalize (gatM (l.map RE.t)).map qtA=G at *;generalize (l.map RE.t).map qtA=O at *;(focus (refine wkax (w_6 e0 e4 e3 m75 hlm hol) w_t w_t (w_1 cg) w_t w_t (w_r 0) ?_;(repeat' first|exact w_t|apply w_l);all_goals intros));all_goals exact gL
 ·exact⟨Nat.zero_le _,rfl,by exact gC,by exact gC,_,by exact gC,by exact gC⟩
end Go.Proofs.YtjekhacnoopdpaaGreatDoor
namespace Go.Pg
open Go Go.RowKit
def EntSub (e e':Ent):Prop:=e'.blk=e.blk∧∀(B:Nat) (w:World) (imm:Imm),EntOk B w imm e→EntOk B w imm e'
theorem EntSub.refl (e:Ent):EntSub e e:=⟨rfl,λ_ _ _ h=>h⟩
theorem EntSub.box {g:Nat} {t:TypeId} {cs cs':List AV} {pub:Bool} (hl:cs'.length=cs.length) (h1:∀x∈cs',x.one=true) (h:∀(j:Nat) (a b:AV),cs[j]?=some a→cs'[j]?=some b→Sub a b):EntSub (.box g t cs pub) (.box g t cs' pub):=by
 refine⟨rfl,λB w imm h0=>?_⟩;obtain⟨cur,k1,k2,k3,k4,k5,k6,k7⟩:=h0;refine⟨cur,k1,k2,by rw [hl];exact k3,h1,λj a x ha hx=>?_,k6,λhp off ho=>k7 hp off (by rw [←hl];exact ho)⟩;have hj:j < cs.length:=by rw [←hl];exact(List.getElem?_eq_some_iff.1 ha).1
 exact h j cs[j] a (List.getElem?_eq_getElem hj) ha w imm x (k5 j cs[j] x (List.getElem?_eq_getElem hj) hx)
def Zxr (R:AV→Mem→Prop) (b:AV) (m:Mem):Prop:=∃(r:AV) (σ':Mem) (ρ:Nat→Nat),Sub b r∧R r σ'∧(∀k e,σ' k=some e→∃e0,m (ρ k)=some e0∧EntSub e0 e)∧(∀k k',σ' k≠none→σ' k'≠none→ρ k=ρ k'→k=k')
theorem Mx.renameG {c:Cx} {m σ':Mem} {w:World} {imm:Imm} (h:Mx c m w imm) (ρ:Nat→Nat) (h3:∀k e,σ' k=some e→∃e0,m (ρ k)=some e0∧EntSub e0 e) (h4:∀k k',σ' k≠none→σ' k'≠none→ρ k=ρ k'→k=k'):Mx c σ' w imm:=by
 refine⟨⟨λk e hk=>?_,λk k' e e' b k1 k2 k3 k4=>?_,h.ok.lt,h.ok.spot⟩,h.below,h.lt,h.old,h.new,h.cells⟩
 ·obtain⟨e0,hm,hs⟩:=h3 k e hk;exact hs.2 _ _ _ (h.ok.ent _ _ hm)
 ·obtain⟨e0,hm,hs⟩:=h3 k e k1;obtain⟨e1,hm',hs'⟩:=h3 k' e' k2;refine h4 k k' (by rw [k1];simp) (by rw [k2];simp) (h.ok.apart _ _ _ _ b hm hm' ?_ ?_)
  ·rw [←hs.1];exact k3
  ·rw [←hs'.1];exact k4
theorem Zqf {P:Program} {f n:Nat} {fn:Func} {code:Code} {rs:List ResultVar} {args args':List AV} {σ:Mem} {R:AV→Mem→Prop} (hf:P.funcs[f]?=some fn) (hb:fn.body=some code) (hn:fn.ntmps=n) (hrs:fn.results=rs.toArray)
 (hc:∀(vs:Array Value) (w:World),(callFunc f vs).run P w=.ok (.enter f vs) w) (hfit:Zbn n code=true) (hal:args'.length≤n) (hsub:Subs args args')
 (h:Za4 P 0 n code (Done P rs λst b=>Zxr R b st.mem) ⟨λt=>args'.getD t .u,lent σ⟩):ACall P f args σ R:=by
 have key:=Zb1 (σ:=lent σ) (R:=Zxr R) hf hb hn hrs hc hfit hal h;refine⟨hc,λc w imm vs hm hl hr=>?_⟩;have hm':Mx c (lent σ) w imm:=hm.rename (λk=>k - 1000) (λk e hk=>by
  unfold lent at hk;split at hk
  ·cases hk
  ·exact hk) λk k' h1 h2 h3=>by
  unfold lent at h1 h2;split at h1<;>split at h2<;>first|omega|exact absurd rfl h1|exact absurd rfl h2
 refine(key.2 c w imm vs hm' (by rw [←hsub.len];exact hl) λj a x h1 h2=>?_).mono λe w' he=>?_
 ·have hj:j < args.length:=by rw [hsub.len];exact(List.getElem?_eq_some_iff.1 h1).1
  exact hsub.get j args[j] a (List.getElem?_eq_getElem hj) h1 w imm x (hr j args[j] x (List.getElem?_eq_getElem hj) h2)
 ·obtain⟨b,m,imm',x,rfl,⟨r,σ',ρ,h1,h2,h3,h4⟩,h5,h6,h7⟩:=he;exact⟨r,σ',imm',x,rfl,h2,h1 _ _ _ h5,h6.renameG ρ h3 h4,h7⟩
end Go.Pg
namespace Go.Proofs.YtjekhacnoopdpaaGreatDoor
open Go Go.RowKit Go.Pg
attribute [-bool_to_prop] Bool.and_eq_decide Bool.or_eq_decide Bool.decide_beq_decide decide_eq_decide
attribute [local go_sem] Tryz.underlying41 Tryz.underlying3 Tryz.underlying169 Tryz.underlying192 Tryz.underlying153 Tryz.underlying21 Tryz.underlying9 Tryz.underlying5 Tryz.underlying172 sz3 by3 z3 szL byL zL
theorem Zxe (x:Nat) (hx:x < 256):Pure Tryz.prog 229 [.v (.int .u64 (x:Int))] (iv (len8 x:Nat)):=by
 refine Zaa (tok:=0) (rs:=[.tmp 2]) Tryz.func229 rfl Tryz.ntmps229 Tryz.results229 Tryz.call229 (by rfl) (by simp) ?_;have b:=Zfn (i:=x) (by omega)
 (repeat' (first|(apply Zpq (g:=len8) (n:=256) (by kernel_rfl) (by kernel_rfl) (by omega))|(with_reducible first|refine stp ?_|apply gx1|apply gx2|apply gx3|apply gx4|apply gx5|apply gx6|apply gx7)|(with_reducible refine Zao ?_;intro _)|((with_reducible refine gE ?_);(try simp (disch:=omega) only [go_sem])<;>first|rfl|omega)|with_reducible refine Zab (by decide) ?_))
 simp (disch:=omega) only [go_sem,Int.zero_add]
theorem bitsLen (x:Nat) (hx:x < 256):Pure Tryz.prog 147 [.v (.int .u64 (x:Int))] (iv (len8 x:Nat)):=by
 have c:=Zxe x hx;generalize ((len8 x:Nat):Int)=r at *;refine Zaa (tok:=0) Tryz.func147 rfl Tryz.ntmps147 Tryz.results147 Tryz.call147 (by rfl) (by simp) ?_;(focus (refine wkad w_t (w_1 c) w_t ?_;(repeat' first|exact w_t|apply w_l);all_goals intros));all_goals exact gL
theorem szXs:szOf Tryz.prog 289=some 1:=by kernel_rfl
theorem byXs:Zez Tryz.prog 289=some 8:=by kernel_rfl
theorem zXs:Zav Tryz.prog 289=some (.int .u64 0):=by kernel_rfl
end Go.Proofs.YtjekhacnoopdpaaGreatDoor
namespace Go.Pol
open Go.Sort
def ltC {α:Type} (cmp:α→α→Int) (x y:α):Bool:=decide (cmp x y < 0)
theorem Zfw {α:Type} {cmp:α→α→Int} {x y:α} (h:cmp x y < 0):ltC cmp x y=true:=decide_eq_true h
theorem Ze4 {α:Type} {cmp:α→α→Int} {x y:α} (h:¬cmp x y < 0):ltC cmp x y=false:=decide_eq_false h
theorem Zua {α β:Type} {cmp:α→α→Int} (o:CO cmp) (f:β→α):SWO (ltC λs t:β=>cmp (f s) (f t)) where
 irrefl x:=Ze4 (by rw [o.refl];omega)
 trans x y z h k:=Zfw (o.tr _ _ _ (of_decide_eq_true h) (of_decide_eq_true k))
 ntrans x y z h k:=Ze4 λhc=>by
  have h1:=o.le_total _ _ (of_decide_eq_false h);have h2:=o.le_total _ _ (of_decide_eq_false k);have h3:=o.le_tr h2 h1;have h4:=(o.flip _ _).1 hc;omega
theorem Zrb {α β:Type} {cmp:α→α→Int} (o:CO cmp) (f:β→α):∀{l m:List β},(∀s∈l,∀t∈l,f s=f t→s=t)→(l.Pairwise λs t=>cmp (f s) (f t)≤0)→(m.Pairwise λs t=>cmp (f s) (f t)≤0)→l.Perm m→l=m
 | [],m,_,_,_,p=>(List.nil_perm.1 p).symm
 | a :: l,[],_,_,_,p=>by have:=p.length_eq;simp at this
 | a :: l,b :: m,hi,hl,hm,p=>by
   have hl':=List.pairwise_cons.1 hl;have hm':=List.pairwise_cons.1 hm
   have hab:a=b:=by
    have h1:a∈b :: m:=p.mem_iff.1 (.head _);have h2:b∈a :: l:=p.mem_iff.2 (.head _);rcases List.mem_cons.1 h1 with h | h1
    ·exact h
    ·rcases List.mem_cons.1 h2 with h | h2
     ·exact h.symm
     ·exact hi a (.head _) b (.tail _ h2) (o.anti (hl'.1 b h2) (hm'.1 a h1))
   subst hab;rw [Zrb o f (λs hs t ht=>hi s (.tail _ hs) t (.tail _ ht)) hl'.2 hm'.2 (List.Perm.cons_inv p)]
theorem dst_inj {κ:Type} {l:List (Rat × κ)} (h:Dst l):∀s∈l,∀t∈l,s.2=t.2→s=t:=by
 induction l with
 | nil=>intro s hs;cases hs
 | cons a l ih =>
   have h':=List.pairwise_cons.1 h;intro s hs t ht e;rcases List.mem_cons.1 hs with rfl | hs
   ·rcases List.mem_cons.1 ht with rfl | ht
    ·rfl
    ·exact absurd e (h'.1 t ht)
   ·rcases List.mem_cons.1 ht with ht | ht
    ·rw [ht] at e;exact absurd e.symm (h'.1 s hs)
    ·exact ih h'.2 s hs t ht e
theorem Zvh {α β γ:Type} [Inhabited β] {cmp:α→α→Int} (o:CO cmp) (f:γ→α) (g:β→γ) (L:List β) (hi:∀s∈L.map g,∀t∈L.map g,f s=f t→s=t) (lim:Nat) :
 (pdq (ltC λs t:β=>cmp (f (g s)) (f (g t))) L.toArray 0 L.length lim true true).toList.map g=srtQ (λs t=>cmp (f s) (f t)) (L.map g):=by
 obtain⟨hp,hs⟩:=pdq_sorts _ (Zua o λs:β=>f (g s)) L.toArray 0 L.length lim true true (Nat.zero_le _) (by simp) (Or.inl rfl);generalize pdq (ltC λs t:β=>cmp (f (g s)) (f (g t))) L.toArray 0 L.length lim true true=d at *;obtain⟨hz,-,hq⟩:=hp;have hz:d.size=L.length:=by rw [hz];simp
 have hq:d.toList.Perm L:=by
  have e1:(d.extract 0 L.length).toList=d.toList:=by rw [←hz];simp
  have e2:(L.toArray.extract 0 L.length).toList=L:=by simp
  rwa [e1,e2] at hq
 have hq:=hq.map g
 have ha:(d.toList.map g).Pairwise λs t=>cmp (f s) (f t)≤0:=by
  rw [List.pairwise_map,List.pairwise_iff_getElem];intro i j h1 h2 hij;have h1':i < d.size:=by simpa using h1
  have h2':j < d.size:=by simpa using h2
  have:=of_decide_eq_false (hs i j (Nat.zero_le _) hij (by omega));rw [getElem!_pos d j h2',getElem!_pos d i h1'] at this;exact o.le_total _ _ (by simpa using this)
 refine Zrb o f (λs hs' t ht' e=>?_) ha (Zc3 (o.cp.key f) (L.map g)) (hq.trans (Zbt _).symm);exact hi s (hq.mem_iff.1 hs') t (hq.mem_iff.1 ht') e
section
variable {α:Type} {β:Type} (f:α→β)
theorem Zbm (d:Array α):(d.toList.map f).length=d.size:=by simp
variable [Inhabited α]
theorem Zay {d:Array α} {i:Nat} (h:i < d.size) (u:β):(d.toList.map f).getD i u=f d[i]!:=by
 rw [List.getD_eq_getElem?_getD,List.getElem?_eq_getElem (by simpa using h),List.getElem_map,getElem!_pos d i h];simp
theorem Zcd (d:Array α) (i j:Nat):((d.toList.map f).set i (f d[j]!)).set j (f d[i]!)=(swp d i j).toList.map f:=by
 unfold swp;simp [List.map_set]
theorem Zce {d:Array α} {j:Nat} (h:j < d.size) (i:Nat) (u:β):((d.toList.map f).set i (f d[j]!)).getD j u=f d[j]!:=by
 by_cases e:i=j
 ·subst e;rw [List.getD_eq_getElem?_getD,List.getElem?_set_self (by simpa using h)];rfl
 ·rw [List.getD_eq_getElem?_getD,List.getElem?_set_ne e,←List.getD_eq_getElem?_getD];exact Zay f h u
end
section
variable {α:Type} [Inhabited α] {lt:α→α→Bool}
theorem Zkz {a j:Nat} {d:Array α} (h:j≤a):insInner lt a j d=d:=by
 cases j with
 | zero=>rfl
 | succ j =>
   show(if j+1 > a && lt d[j+1]! d[j]! then insInner lt a j (swp d (j+1) j) else d)=d;rw [if_neg (by simp;omega)]
theorem Zk0 {a j:Nat} {d:Array α} (h:lt d[j+1]! d[j]! = false):insInner lt a (j+1) d=d:=by
 show(if j+1 > a && lt d[j+1]! d[j]! then insInner lt a j (swp d (j+1) j) else d)=d;rw [h,if_neg (by simp)]
theorem Zky {a j:Nat} {d:Array α} (h:j+1 > a) (h2:lt d[j+1]! d[j]! = true):insInner lt a (j+1) d=insInner lt a j (swp d (j+1) j):=by
 show(if j+1 > a && lt d[j+1]! d[j]! then insInner lt a j (swp d (j+1) j) else d)=_;rw [h2,if_pos (by simp;omega)]
theorem Zkw {a b i:Nat} {d:Array α} (h:i < b):insOuter lt a b i d=insOuter lt a b (i+1) (insInner lt a i d):=by
 rw [insOuter,if_pos h]
theorem Zkx {a b i:Nat} {d:Array α} (h:¬i < b):insOuter lt a b i d=d:=by
 rw [insOuter,if_neg h]
theorem Zuc {hi F r:Nat} {d:Array α} (h:2*r+1 ≥ hi):siftDown lt hi F r d=d:=by
 rw [siftDown,dif_pos h]
theorem sift_R {hi F r c x y:Nat} {d:Array α} (hc:c=2*r+2) (hx:x=F+r) (hy:y=F+c) (h:c < hi) (h1:lt d[F+(2*r+1)]! d[y]! = true) :
 siftDown lt hi F r d=if lt d[x]! d[y]! = false then d else siftDown lt hi F c (swp d x y):=by
 subst hc hx hy;have e:F+(2*r+1)+1=F+(2*r+2):=by omega
 rw [siftDown,dif_neg (by omega),if_pos (by rw [e,h1];simp;omega),dif_pos h];cases lt d[F+r]! d[F+(2*r+2)]!<;>rfl
theorem Zud {hi F r c x y:Nat} {d:Array α} (hc:c=2*r+1) (hx:x=F+r) (hy:y=F+c) (h:c < hi) (h1:¬(c+1 < hi∧lt d[y]! d[y+1]! = true)) :
 siftDown lt hi F r d=if lt d[x]! d[y]! = false then d else siftDown lt hi F c (swp d x y):=by
 subst hc hx hy;rw [siftDown,dif_neg (by omega),if_neg (by rw [Bool.and_eq_true,decide_eq_true_eq];exact h1)];cases lt d[F+r]! d[F+(2*r+1)]!<;>rfl
theorem rev_y {i j:Nat} {d:Array α} (h:i < j):reverseLoop i j d=reverseLoop (i+1) (j - 1) (swp d i j):=by rw [reverseLoop,if_pos h]
theorem rev_x {i j:Nat} {d:Array α} (h:¬i < j):reverseLoop i j d=d:=by rw [reverseLoop,if_neg h]
theorem Zln {p:α→Bool} {d:Array α} {j i:Nat} (h:i≤j) (h2:p d[i]! = true):scanUp p d j i=scanUp p d j (i+1):=by
 rw [scanUp,if_pos (by rw [h2];simp;omega)]
theorem Zgo {p:α→Bool} {d:Array α} {j i:Nat} (h:¬(i≤j∧p d[i]! = true)):scanUp p d j i=i:=by
 rw [scanUp,if_neg (by rw [Bool.and_eq_true,decide_eq_true_eq];exact h)]
theorem Zh7 {p:α→Bool} {d:Array α} {i j:Nat} (h:i≤j+1) (h2:p d[j+1]! = true):scanDown p d i (j+1)=scanDown p d i j:=by
 show(if i≤j+1 && p d[j+1]! then scanDown p d i j else j+1)=_;rw [if_pos (by rw [h2];simp;omega)]
theorem Zd6 {p:α→Bool} {d:Array α} {i j:Nat} (h:¬(i≤j∧p d[j]! = true)):scanDown p d i j=j:=by
 cases j with
 | zero=>rfl
 | succ j =>
   show(if i≤j+1 && p d[j+1]! then scanDown p d i j else j+1)=_;rw [if_neg (by rw [Bool.and_eq_true,decide_eq_true_eq];exact h)]
theorem Znb {d:Array α} {b i:Nat} (h:i < b) (h2:lt d[i]! d[i - 1]! = false):scanSorted lt d b i=scanSorted lt d b (i+1):=by
 rw [scanSorted,if_pos (by rw [h2];simp;omega)]
theorem Zio {d:Array α} {b i:Nat} (h:¬(i < b∧lt d[i]! d[i - 1]! = false)):scanSorted lt d b i=i:=by
 rw [scanSorted,if_neg (by rw [Bool.and_eq_true,decide_eq_true_eq,Bool.not_eq_true'];exact h)]
theorem Zjg {j:Nat} {d:Array α} (h:lt d[j+1]! d[j]! = true):shiftDown lt (j+1) d=shiftDown lt j (swp d (j+1) j):=by
 show(if !lt d[j+1]! d[j]! then d else shiftDown lt j (swp d (j+1) j))=_;rw [h];rfl
theorem Zjh {j:Nat} {d:Array α} (h:lt d[j+1]! d[j]! = false):shiftDown lt (j+1) d=d:=by
 show(if !lt d[j+1]! d[j]! then d else shiftDown lt j (swp d (j+1) j))=_;rw [h];rfl
theorem Zm7 {b j:Nat} {d:Array α} (h:j < b) (h2:lt d[j]! d[j - 1]! = true):shiftUp lt b j d=shiftUp lt b (j+1) (swp d j (j - 1)):=by
 rw [shiftUp,if_pos h,h2];rfl
theorem Zhn {b j:Nat} {d:Array α} (h:¬(j < b∧lt d[j]! d[j - 1]! = true)):shiftUp lt b j d=d:=by
 rw [shiftUp];split
 ·rename_i hj
  have:lt d[j]! d[j - 1]! = false:=by
   cases e:lt d[j]! d[j - 1]! with
   | false=>rfl
   | true=>exact absurd ⟨hj,e⟩ h
  rw [this];rfl
 ·rfl
theorem size_shiftDown {j:Nat} {d:Array α}:(shiftDown lt j d).size=d.size:=by
 induction j generalizing d with
 | zero=>rfl
 | succ j ih =>
   cases e:lt d[j+1]! d[j]! with
   | false=>rw [Zjh e]
   | true=>rw [Zjg e,ih,size_swp]
theorem size_shiftUp {b:Nat}:∀(n j:Nat) (d:Array α),b - j=n→(shiftUp lt b j d).size=d.size
 | 0,j,d,h=>by rw [Zhn (by omega)]
 | n+1,j,d,h=>by
   by_cases hc:j < b∧lt d[j]! d[j - 1]! = true
   ·rw [Zm7 hc.1 hc.2,size_shiftUp n (j+1) _ (by omega),size_swp]
   ·rw [Zhn hc]
theorem size_siftDown {hi F:Nat}:∀(n r:Nat) (d:Array α),hi - r≤n→(siftDown lt hi F r d).size=d.size
 | 0,r,d,h=>by rw [Zuc (by omega)]
 | n+1,r,d,h=>by
   by_cases h1:2*r+1 ≥ hi
   ·rw [Zuc h1]
   ·by_cases h2:2*r+2 < hi∧lt d[F+(2*r+1)]! d[F+(2*r+2)]! = true
    ·rw [sift_R rfl rfl rfl h2.1 h2.2];split
     ·rfl
     ·rw [size_siftDown n _ _ (by omega),size_swp]
    ·rw [Zud rfl rfl rfl (by omega) (by exact h2)];split
     ·rfl
     ·rw [size_siftDown n _ _ (by omega),size_swp]
theorem size_heapBuild {hi F:Nat}:∀(k:Nat) (d:Array α),(heapBuild lt hi F k d).size=d.size
 | 0,d=>rfl
 | k+1,d=>by
   show(heapBuild lt hi F k (siftDown lt hi F k d)).size=d.size;rw [size_heapBuild k,size_siftDown _ _ _ (Nat.le_refl _)]
theorem ord_bd {d:Array α} {a b s n:Nat} (ha:a < n) (hb:b < n):(order2 lt d a b s).1 < n∧(order2 lt d a b s).2.1 < n∧(order2 lt d a b s).2.2≤s+1:=by
 unfold order2;split
 ·exact⟨hb,ha,Nat.le_refl _⟩
 ·exact⟨ha,hb,Nat.le_succ _⟩
theorem med_bd {d:Array α} {a b c s n:Nat} (ha:a < n) (hb:b < n) (hc:c < n):(median lt d a b c s).1 < n∧(median lt d a b c s).2≤s+3:=by
 have h1:=ord_bd (lt:=lt) (d:=d) (s:=s) ha hb;have h2:=ord_bd (lt:=lt) (d:=d) (s:=(order2 lt d a b s).2.2) h1.2.1 hc;have h3:=ord_bd (lt:=lt) (d:=d) (s:=(order2 lt d (order2 lt d a b s).2.1 c (order2 lt d a b s).2.2).2.2) h1.1 h2.1;exact⟨h3.2.1,by show(order2 lt d (order2 lt d a b s).1 _ _).2.2≤_;omega⟩
theorem bitsLen_256 {x:Nat} (h:256≤x):bitsLen x=8+bitsLen (x/256):=by
 have h1:=lt_two_pow_bitsLen x;have h2:=lt_two_pow_bitsLen (x/256)
 have h3:8 < bitsLen x:=by
  rcases Nat.lt_or_ge 8 (bitsLen x) with h | h
  ·exact h
  ·have:=(bitsLen_le_iff x 8).1 h;omega
 have a:bitsLen x≤8+bitsLen (x/256):=(bitsLen_le_iff _ _).2 (by rw [Nat.pow_add];omega);have b:bitsLen (x/256)≤bitsLen x - 8:=(bitsLen_le_iff _ _).2 (by
  obtain⟨m,hm⟩:∃m,bitsLen x=8+m:=⟨bitsLen x - 8,by omega⟩;rw [hm] at h1 ⊢;rw [Nat.pow_add] at h1;rw [show 8+m - 8=m by omega];exact Nat.div_lt_of_lt_mul h1)
 omega
def hintN (n:Nat):Hint:=if n=0 then .increasing else if n=12 then .decreasing else .unknown
theorem choose_50 {d:Array α} {a b l i j k:Nat} (hl:l=b - a) (hi:i=a+l/4*1) (hj:j=a+l/4*2) (hk:k=a+l/4*3) (h:l ≥ 50) {r1 r2 r3 r:Nat × Nat} (h1:r1=medianAdjacent lt d i 0) (h2:r2=medianAdjacent lt d j r1.2) (h3:r3=medianAdjacent lt d k r2.2) (hr:r=median lt d r1.1 r2.1 r3.1 r3.2) :
 choosePivot lt d a b=(r.1,hintN r.2):=by
 subst hl hi hj hk h1 h2 h3 hr;unfold choosePivot;simp only;rw [if_pos (show b - a ≥ 8 by omega),if_pos h];rfl
theorem choose_8 {d:Array α} {a b l i j k:Nat} (hl:l=b - a) (hi:i=a+l/4*1) (hj:j=a+l/4*2) (hk:k=a+l/4*3) (h8:l ≥ 8) (h:¬l ≥ 50) {r:Nat × Nat} (hr:r=median lt d i j k 0) :
 choosePivot lt d a b=(r.1,hintN r.2):=by
 subst hl hi hj hk hr;unfold choosePivot;simp only;rw [if_pos h8,if_neg h];rfl
theorem pIns_done {a b s i i2:Nat} {d:Array α} (hi:i2=scanSorted lt d b i) (h:i2=b):partialIns lt a b (s+1) i d=(d,true):=by
 subst hi;rw [partialIns_succ,if_pos h]
theorem pIns_short {a b s i i2:Nat} {d:Array α} (hi:i2=scanSorted lt d b i) (h:i2≠b) (h2:b - a < 50):partialIns lt a b (s+1) i d=(d,false):=by
 subst hi;rw [partialIns_succ,if_neg h,if_pos h2]
theorem pIns_go {a b s i i2:Nat} {d d1 d2 d3:Array α} (hi:i2=scanSorted lt d b i) (h:i2≠b) (h2:¬b - a < 50) (h1:d1=swp d i2 (i2 - 1)) (h3:d2=if i2 - a ≥ 2 then shiftDown lt (i2 - 1) d1 else d1) (h4:d3=if b - i2 ≥ 2 then shiftUp lt b (i2+1) d2 else d2) :
 partialIns lt a b (s+1) i d=partialIns lt a b s i2 d3:=by
 subst hi h1 h3 h4;rw [partialIns_succ,if_neg h,if_neg h2];rfl
theorem part_1 {a b pv i j:Nat} {d d1:Array α} (hd:d1=swp d a pv) (hi:i=scanUp (λx=>lt x d1[a]!) d1 (b - 1) (a+1)) (hj:j=scanDown (λx=>!lt x d1[a]!) d1 i (b - 1)) (h:i > j):partition lt d a b pv=(j,true,swp d1 j a):=by
 subst hd hi hj;unfold partition;simp only;rw [if_pos h]
theorem part_2 {a b pv i j:Nat} {d d1:Array α} (hd:d1=swp d a pv) (hi:i=scanUp (λx=>lt x d1[a]!) d1 (b - 1) (a+1)) (hj:j=scanDown (λx=>!lt x d1[a]!) d1 i (b - 1)) (h:¬i > j) {r:Nat × Array α} (hr:r=partLoop lt a (i+1) (j - 1) (swp d1 i j)):partition lt d a b pv=(r.1,false,swp r.2 r.1 a):=by
 subst hd hi hj hr;unfold partition;simp only;rw [if_neg h]
theorem ploop_x {a i j i2 j2:Nat} {d:Array α} (hi:i2=scanUp (λx=>lt x d[a]!) d j i) (hj:j2=scanDown (λx=>!lt x d[a]!) d i2 j) (h:i2 > j2):partLoop lt a i j d=(j2,d):=by
 subst hi hj;rw [partLoop_eq,if_pos h]
theorem ploop_y {a i j i2 j2:Nat} {d:Array α} (hi:i2=scanUp (λx=>lt x d[a]!) d j i) (hj:j2=scanDown (λx=>!lt x d[a]!) d i2 j) (h:¬i2 > j2):partLoop lt a i j d=partLoop lt a (i2+1) (j2 - 1) (swp d i2 j2):=by
 subst hi hj;rw [partLoop_eq,if_neg h]
theorem qloop_x {a i j i2 j2:Nat} {d:Array α} (hi:i2=scanUp (λx=>!lt d[a]! x) d j i) (hj:j2=scanDown (λx=>lt d[a]! x) d i2 j) (h:i2 > j2):partEqLoop lt a i j d=(i2,d):=by
 subst hi hj;rw [partEqLoop_eq,if_pos h]
theorem qloop_y {a i j i2 j2:Nat} {d:Array α} (hi:i2=scanUp (λx=>!lt d[a]! x) d j i) (hj:j2=scanDown (λx=>lt d[a]! x) d i2 j) (h:¬i2 > j2):partEqLoop lt a i j d=partEqLoop lt a (i2+1) (j2 - 1) (swp d i2 j2):=by
 subst hi hj;rw [partEqLoop_eq,if_neg h]
theorem pdq_ins {d:Array α} {a b lim:Nat} {wb wp:Bool} (h:b - a≤12):pdq lt d a b lim wb wp=insertionSort lt d a b:=by rw [pdq,if_pos h]
theorem pdq_heap {d:Array α} {a b lim:Nat} {wb wp:Bool} (h:¬b - a≤12) (h2:lim=0):pdq lt d a b lim wb wp=heapSort lt d a b:=by rw [pdq,if_neg h,if_pos h2]
section
variable {d d1 d2:Array α} {a b lim lim1 pv:Nat} {wb wp:Bool} {c:Nat × Hint} {hint:Hint} {pi:Array α × Bool}
theorem pdq_unf (h:¬b - a≤12) (h2:¬lim=0) (e1:d1=if !wb then breakPatterns d a b else d) (e2:lim1=if !wb then lim - 1 else lim) (e3:c=choosePivot lt d1 a b) (e4:d2=if c.2=.decreasing then reverseRange d1 a b else d1)
 (e5:pv=if c.2=.decreasing then (b - 1) - (c.1 - a) else c.1) (e6:hint=if c.2=.decreasing then Hint.increasing else c.2) (e7:pi=if wb && wp && hint=.increasing then partialInsertionSort lt d2 a b else (d2,false)) :
 pdq lt d a b lim wb wp=if pi.2 then pi.1 else if a > 0 && !lt pi.1[a - 1]! pi.1[pv]! then
  (if _h:a < (partitionEqual lt pi.1 a b pv).1∧(partitionEqual lt pi.1 a b pv).1≤b then pdq lt (partitionEqual lt pi.1 a b pv).2 (partitionEqual lt pi.1 a b pv).1 b lim1 wb wp else (partitionEqual lt pi.1 a b pv).2)
  else if _h:a≤(partition lt pi.1 a b pv).1∧(partition lt pi.1 a b pv).1 < b then
   (if (partition lt pi.1 a b pv).1 - a < b - (partition lt pi.1 a b pv).1 then
    pdq lt (pdq lt (partition lt pi.1 a b pv).2.2 a (partition lt pi.1 a b pv).1 lim1 true true) ((partition lt pi.1 a b pv).1+1) b lim1 (decide ((partition lt pi.1 a b pv).1 - a ≥ (b - a)/8)) (partition lt pi.1 a b pv).2.1
   else
    pdq lt (pdq lt (partition lt pi.1 a b pv).2.2 ((partition lt pi.1 a b pv).1+1) b lim1 true true) a (partition lt pi.1 a b pv).1 lim1 (decide (b - (partition lt pi.1 a b pv).1 ≥ (b - a)/8)) (partition lt pi.1 a b pv).2.1)
  else (partition lt pi.1 a b pv).2.2:=by
 subst e1 e2 e3 e4 e5 e6 e7;rw [pdq,if_neg h,if_neg h2]
end
end
end Go.Pol
namespace Go.Proofs.YtjekhacnoopdpaaGreatDoor
open Go Go.RowKit Go.Pg Go.Pol
attribute [-bool_to_prop] Bool.and_eq_decide Bool.or_eq_decide Bool.decide_beq_decide decide_eq_decide
attribute [local go_sem] Tryz.underlying3 Tryz.underlying4 Tryz.underlying172 Tryz.underlying5 Tryz.underlying153 Tryz.underlying9 Tryz.underlying289 Tryz.underlying315 sz3 by3 z3 szXs byXs zXs
theorem Zqk {a:Nat} (h:a < 18446744073709551616):(BitVec.ofInt 64 (a:Int)).toNat=a:=by
 rw [BitVec.ofInt_natCast,BitVec.toNat_ofNat];exact Nat.mod_eq_of_lt h
theorem Zov {a b:Nat} (ha:a < 18446744073709551616) (hb:b < 18446744073709551616):xorI .u64 (a:Int) (b:Int)=((a ^^^ b:Nat):Int):=by
 have h:a ^^^ b < 2 ^ 64:=Nat.xor_lt_two_pow (by omega) (by omega);show IntKind.u64.wrap (((BitVec.ofInt 64 (a:Int) ^^^ BitVec.ofInt 64 (b:Int)).toNat:Nat):Int)=_;rw [BitVec.toNat_xor,Zqk ha,Zqk hb];exact Zdz (by omega) (by omega)
theorem and_u64 {a b:Nat} (ha:a < 18446744073709551616) (hb:b < 18446744073709551616):andI .u64 (a:Int) (b:Int)=((a &&& b:Nat):Int):=by
 have h:a &&& b≤a:=Nat.and_le_left;show IntKind.u64.wrap (((BitVec.ofInt 64 (a:Int) &&& BitVec.ofInt 64 (b:Int)).toNat:Nat):Int)=_;rw [BitVec.toNat_and,Zqk ha,Zqk hb];exact Zdz (by omega) (by omega)
theorem Zo6 (a:Nat) (s:Nat) (hs:s < 64):shlI .u64 (a:Int) (s:Int)=((a*2 ^ s%18446744073709551616:Nat):Int):=by
 unfold shlI;rw [show min ((s:Int).toNat) IntKind.u64.bits=s by rw [Int.toNat_natCast];exact Nat.min_eq_left (by show s≤64;omega)];unfold IntKind.wrap;simp [IntKind.signed,IntKind.bits]
theorem Zll (a:Nat) (s:Nat) (hs:s < 64):shrI .u64 (a:Int) (s:Int)=((a/2 ^ s:Nat):Int):=by
 unfold shrI;rw [show min ((s:Int).toNat) IntKind.u64.bits=s by rw [Int.toNat_natCast];exact Nat.min_eq_left (by show s≤64;omega),Int.fdiv_eq_ediv_of_nonneg _ (Int.le_of_lt (Int.pow_pos (by decide)))];simp
def Zmd:Go.Sort.Hint→Int
 | .unknown=>0
 | .increasing=>1
 | .decreasing=>2
abbrev u64A (n:Nat):AV:=.v (.int .u64 (n:Int))
theorem Zl9 (i:Nat):len8 i=Go.Sort.bitsLen i:=rfl
theorem bLen64 (x:Nat) (hx:x≤1000000000):Pure Tryz.prog 229 [u64A x] (iv (Go.Sort.bitsLen x:Nat)):=by
 have n32:¬(4294967296:Int)≤(x:Int):=by omega
 by_cases h16:65536≤x
 ·have g16:(65536:Int)≤(x:Int):=by omega
  have b1:=Go.Pol.bitsLen_256 (x:=x) (by omega);have b2:=Go.Pol.bitsLen_256 (x:=x/256) (by omega);rw [Nat.div_div_eq_div_mul] at b2;have b2:Go.Sort.bitsLen (x/256)=8+Go.Sort.bitsLen (x/65536):=b2;have s16:shrI .u64 (x:Int) 16=((x/65536:Nat):Int):=Zll x 16 (by omega);have hy:x/65536≤15258:=by omega
  rw [b1,b2];clear b1 b2;generalize x/65536=y at *;have s8:shrI .u64 (y:Int) 8=((y/256:Nat):Int):=Zll y 8 (by omega);by_cases h8:256≤y
  ·have g8:(256:Int)≤(y:Int):=by omega
   rw [Go.Pol.bitsLen_256 h8];have hz:y/256 < 256:=by omega
   generalize y/256=z at *;rw [←Zl9];have b:=Zfn hz;refine Zaa (tok:=0) Tryz.func229 rfl Tryz.ntmps229 Tryz.results229 Tryz.call229 (by rfl) (by simp) ?_
   (repeat' (first|(apply Zpq (g:=len8) (n:=256) (by kernel_rfl) (by kernel_rfl) (by omega))|(with_reducible first|refine stp ?_|apply gx1|apply gx2|apply gx3|apply gx4|apply gx5|apply gx6|apply gx7)|(with_reducible refine Zao ?_;intro _)|((with_reducible refine gE ?_);(try simp (disch:=omega) only [go_sem,n32,g16,s16,s8,g8])<;>first|rfl|omega)|with_reducible refine Zab (by decide) ?_))
   (all_goals (try simp (disch:=omega) only [go_sem,decide_eq_true,decide_eq_false,if_pos,if_neg,Int.reduceAdd,Int.reduceSub,Int.reduceToNat,Int.zero_add]));(all_goals first|done|rfl|(congr 2;first|done|omega|(rw [Bool.eq_iff_iff];simp only [bool_to_prop,Bool.false_eq_true,iff_true,true_iff,iff_false,false_iff];omega))|skip)
  ·have g8:¬(256:Int)≤(y:Int):=by omega
   rw [←Zl9];have b:=Zfn (i:=y) (by omega);refine Zaa (tok:=0) Tryz.func229 rfl Tryz.ntmps229 Tryz.results229 Tryz.call229 (by rfl) (by simp) ?_
   (repeat' (first|(apply Zpq (g:=len8) (n:=256) (by kernel_rfl) (by kernel_rfl) (by omega))|(with_reducible first|refine stp ?_|apply gx1|apply gx2|apply gx3|apply gx4|apply gx5|apply gx6|apply gx7)|(with_reducible refine Zao ?_;intro _)|((with_reducible refine gE ?_);(try simp (disch:=omega) only [go_sem,n32,g16,s16,s8,g8])<;>first|rfl|omega)|with_reducible refine Zab (by decide) ?_))
   (all_goals (try simp (disch:=omega) only [go_sem,decide_eq_true,decide_eq_false,if_pos,if_neg,Int.reduceAdd,Int.reduceSub,Int.reduceToNat,Int.zero_add]));(all_goals first|done|rfl|(congr 2;first|done|omega|(rw [Bool.eq_iff_iff];simp only [bool_to_prop,Bool.false_eq_true,iff_true,true_iff,iff_false,false_iff];omega))|skip)
 ·have g16:¬(65536:Int)≤(x:Int):=by omega
  have s8:shrI .u64 (x:Int) 8=((x/256:Nat):Int):=Zll x 8 (by omega);by_cases h8:256≤x
  ·have g8:(256:Int)≤(x:Int):=by omega
   rw [Go.Pol.bitsLen_256 h8];have hz:x/256 < 256:=by omega
   generalize x/256=z at *;rw [←Zl9];have b:=Zfn hz;refine Zaa (tok:=0) Tryz.func229 rfl Tryz.ntmps229 Tryz.results229 Tryz.call229 (by rfl) (by simp) ?_
   (repeat' (first|(apply Zpq (g:=len8) (n:=256) (by kernel_rfl) (by kernel_rfl) (by omega))|(with_reducible first|refine stp ?_|apply gx1|apply gx2|apply gx3|apply gx4|apply gx5|apply gx6|apply gx7)|(with_reducible refine Zao ?_;intro _)|((with_reducible refine gE ?_);(try simp (disch:=omega) only [go_sem,n32,g16,s8,g8])<;>first|rfl|omega)|with_reducible refine Zab (by decide) ?_))
   (all_goals (try simp (disch:=omega) only [go_sem,decide_eq_true,decide_eq_false,if_pos,if_neg,Int.reduceAdd,Int.reduceSub,Int.reduceToNat,Int.zero_add]));(all_goals first|done|rfl|(congr 2;first|done|omega|(rw [Bool.eq_iff_iff];simp only [bool_to_prop,Bool.false_eq_true,iff_true,true_iff,iff_false,false_iff];omega))|skip)
  ·have g8:¬(256:Int)≤(x:Int):=by omega
   rw [←Zl9];have b:=Zfn (i:=x) (by omega);refine Zaa (tok:=0) Tryz.func229 rfl Tryz.ntmps229 Tryz.results229 Tryz.call229 (by rfl) (by simp) ?_
   (repeat' (first|(apply Zpq (g:=len8) (n:=256) (by kernel_rfl) (by kernel_rfl) (by omega))|(with_reducible first|refine stp ?_|apply gx1|apply gx2|apply gx3|apply gx4|apply gx5|apply gx6|apply gx7)|(with_reducible refine Zao ?_;intro _)|((with_reducible refine gE ?_);(try simp (disch:=omega) only [go_sem,n32,g16,s8,g8])<;>first|rfl|omega)|with_reducible refine Zab (by decide) ?_))
   (all_goals (try simp (disch:=omega) only [go_sem,decide_eq_true,decide_eq_false,if_pos,if_neg,Int.reduceAdd,Int.reduceSub,Int.reduceToNat,Int.zero_add]));(all_goals first|done|rfl|(congr 2;first|done|omega|(rw [Bool.eq_iff_iff];simp only [bool_to_prop,Bool.false_eq_true,iff_true,true_iff,iff_false,false_iff];omega))|skip)
theorem bLen (x:Nat) (hx:x≤1000000000):Pure Tryz.prog 147 [u64A x] (iv (Go.Sort.bitsLen x:Nat)):=by
 have c:=bLen64 x hx;generalize ((Go.Sort.bitsLen x:Nat):Int)=r at *;refine Zaa (tok:=0) Tryz.func147 rfl Tryz.ntmps147 Tryz.results147 Tryz.call147 (by rfl) (by simp) ?_;(focus (refine wkad w_t (w_1 c) w_t ?_;(repeat' first|exact w_t|apply w_l);all_goals intros));all_goals exact gL
theorem Zg0 {x:Nat} (h:x≤1000000000):Go.Sort.bitsLen x≤30:=(Go.Sort.bitsLen_le_iff x 30).2 (by omega)
theorem sNextPow (x:Nat) (hx:x≤1000000000):Pure Tryz.prog 278 [iv x] (u64A (2 ^ Go.Sort.bitsLen x)):=by
 have c:=bLen x hx;have hb:=Zg0 hx;have s1:=Zo6 1 (Go.Sort.bitsLen x) (by omega);rw [Nat.one_mul,Nat.mod_eq_of_lt (Nat.lt_of_le_of_lt (Nat.pow_le_pow_right (by omega) hb) (by decide))] at s1;have s1:shlI .u64 1 ((Go.Sort.bitsLen x:Nat):Int)=((2 ^ Go.Sort.bitsLen x:Nat):Int):=s1;generalize 2 ^ Go.Sort.bitsLen x=r at *;generalize Go.Sort.bitsLen x=n at *;refine Zaa (tok:=0) Tryz.func278 rfl Tryz.ntmps278 Tryz.results278 Tryz.call278 (by rfl) (by simp) ?_;(focus (refine wkad (w_1 s1) (w_1 c) w_t ?_;(repeat' first|exact w_t|apply w_l);all_goals intros));all_goals exact gL
theorem sNext (σ:Mem) (K g r:Nat) (hr:r < 18446744073709551616) (hK:σ K=some (.box g 289 [u64A r] false)) :
 ACall Tryz.prog 279 [.pbox K g 0] σ λx σ'=>x=u64A (Go.Sort.xorNextN r)∧σ'=upd σ K (some (.box g 289 [u64A (Go.Sort.xorNextN r)] false)):=by
 have p:(18446744073709551616:Nat)=2 ^ 64:=by decide
 have s1:shlI .u64 (r:Int) 13=((r*8192%18446744073709551616:Nat):Int):=Zo6 r 13 (by omega);have l1:r*8192%18446744073709551616 < 18446744073709551616:=Nat.mod_lt _ (by omega);have x1:=Zov hr l1;have l2:r ^^^ (r*8192%18446744073709551616) < 18446744073709551616:=by rw [p];exact Nat.xor_lt_two_pow (by omega) (by omega)
 show ACall _ _ _ _ λx σ'=>x=u64A ((r ^^^ (r*8192%18446744073709551616)) ^^^ ((r ^^^ (r*8192%18446744073709551616))/128) ^^^ (((r ^^^ (r*8192%18446744073709551616)) ^^^ ((r ^^^ (r*8192%18446744073709551616))/128))*131072%18446744073709551616))∧σ'=upd σ K (some (.box g 289 [u64A ((r ^^^ (r*8192%18446744073709551616)) ^^^ ((r ^^^ (r*8192%18446744073709551616))/128) ^^^ (((r ^^^ (r*8192%18446744073709551616)) ^^^ ((r ^^^ (r*8192%18446744073709551616))/128))*131072%18446744073709551616))] false));generalize r ^^^ (r*8192%18446744073709551616)=a at *;generalize r*8192%18446744073709551616=r1 at *;have s2:shrI .u64 (a:Int) 7=((a/128:Nat):Int):=Zll a 7 (by omega)
 have x2:=Zov l2 (show a/128 < 18446744073709551616 by omega);have l3:a ^^^ (a/128) < 18446744073709551616:=by rw [p];exact Nat.xor_lt_two_pow (by omega) (by omega)
 generalize a ^^^ (a/128)=b at *;generalize a/128=a1 at *;have s3:shlI .u64 (b:Int) 17=((b*131072%18446744073709551616:Nat):Int):=Zo6 b 17 (by omega);have l4:b*131072%18446744073709551616 < 18446744073709551616:=Nat.mod_lt _ (by omega);have x3:=Zov l3 l4;generalize b ^^^ (b*131072%18446744073709551616)=c at *;generalize b*131072%18446744073709551616=b1 at *;refine Za9 (args':=[.pbox (K+1000) g 0]) Tryz.func279 rfl Tryz.ntmps279 Tryz.results279 Tryz.call279 (by rfl) (by simp) (.cons (Sub.pbox _ _ _ _) .nil) ?_;have hL:∀k,lent σ (k+1000)=σ k:=λk=>by unfold lent;rw [if_neg (by omega),Nat.add_sub_cancel]
 generalize lent σ=m0 at *;have m0K:m0 (K+1000)=some (.box g 289 [u64A r] false):=by rw [hL,hK]
 (focus (refine wkax (w_7 m0K s1 x1 s2 x2 s3 x3) w_t (w_3 (w_d 1 [] [9] []) (w_d 2 [] [9] []) (w_d 3 [] [9] [])) w_t w_t w_t (w_r 0) ?_;(repeat' first|exact w_t|apply w_l);all_goals intros));simp (disch:=omega) only [go_sem];refine Zap (Sub.refl _) ⟨rfl,rfl⟩ λk hk=>?_;by_cases e:k=K
 ·subst e;simp (disch:=omega) only [go_sem,if_pos]
 ·simp only [Zac,if_neg e,if_neg (show ¬k+1000=K+1000 by omega)];exact hL k
attribute [local go_sem] Tryz.underlying25 Tryz.underlying47 Tryz.underlying49 Tryz.underlying22 Tryz.underlying23 szB zB Zaj Zaw Zak Bool.and_self Zan Zbs zSlQ szQT byQT zQT Zby zSlT szQP zQP
instance:Inhabited Qt:=⟨Qt.zero⟩
abbrev sqLt:Qt→Qt→Bool:=ltC λs t=>Qt.cmp s t
theorem sqIns (σ:Mem) (K:Nat) (sv:Value) (d:Array Qt) (a b:Nat) (hab:a≤b) (hb:b≤d.size) (hK:σ K=some (.row sv 25 4 ((d).toList.map Qt.av) 0)) (hz:d.size≤1000000000):ACall Tryz.prog 220 [.own K sv,iv a,iv b,.fn 73 []] σ λr σ'=>r=.tup []∧σ'=upd σ K (some (.row sv 25 4 ((Go.Sort.insertionSort sqLt d a b).toList.map Qt.av) 0)):=by
 refine Za9 (args':=[.own (K+1000) sv,iv a,iv b,.fn 73 []]) Tryz.func220 rfl Tryz.ntmps220 Tryz.results220 Tryz.call220 (by rfl) (by simp) (.cons (Sub.own _ _ _) (.cons (Sub.refl _) (.cons (Sub.refl _) (.cons (Sub.refl _) .nil)))) ?_;have hL:∀k,lent σ (k+1000)=σ k:=λk=>by unfold lent;rw [if_neg (by omega),Nat.add_sub_cancel]
 generalize lent σ=m0 at *;have m0K:m0 (K+1000)=some (.row sv 25 4 ((d).toList.map Qt.av) 0):=by rw [hL,hK]
 (focus (refine wkad w_t w_t w_t ?_;(repeat' first|exact w_t|apply w_l);all_goals intros));refine Zad (ι:=Nat × Array Qt) (λp e m=>(a < p.1∧p.1≤b+1∧p.2.size=d.size∧Go.Sort.insOuter sqLt a b p.1 p.2=Go.Sort.insertionSort sqLt d a b)∧e 0=.own (K+1000) sv∧e 1=iv a∧e 2=iv b∧e 3=.fn 73 []∧e 8=iv p.1∧(∀k,k≠K→m (k+1000)=σ k)∧m (K+1000)=some (.row sv 25 4 ((p.2).toList.map Qt.av) 0)) (λp=>b+1 - p.1) (a+1,d) (by rfl) ?_ ?_
 ·rintro ⟨i,dk⟩ e m ⟨⟨hi1,hi,hsz,hO⟩,e0,e1,e2,e3,e8,hm,mK⟩
  simp only at hi1 hi hsz hO e8 mK;by_cases hlt:i < b
  ·rw [Zkw hlt] at hO;(focus (refine wkad (w_5 e0 e1 e2 e3 e8) w_t w_t ?_;(repeat' first|exact w_t|apply w_l);all_goals intros));refine Zad (ι:=Nat × Array Qt) (λp e m=>(a≤p.1∧p.1≤i∧p.2.size=d.size∧Go.Sort.insInner sqLt a p.1 p.2=Go.Sort.insInner sqLt a i dk)∧e 0=.own (K+1000) sv∧e 1=iv a∧e 2=iv b∧e 3=.fn 73 []∧e 8=iv i∧e 9=iv p.1∧(∀k,k≠K→m (k+1000)=σ k)∧m (K+1000)=some (.row sv 25 4 ((p.2).toList.map Qt.av) 0)) (λp=>p.1) (i,dk) (by rfl) ?_ ?_
   ·rintro ⟨j,dj⟩ e m ⟨⟨hj1,hj,hsj,hI⟩,e0,e1,e2,e3,e8,e9,hm,mK⟩
    simp only at hj1 hj hsj hI e9 mK;by_cases hja:a < j
    ·obtain⟨j,rfl⟩:∃t,j=t+1:=⟨j - 1,by omega⟩;have hml:=Zbm Qt.av dj;rw [hsj] at hml;have g1:(dj.toList.map Qt.av).getD (j+1) .u=Qt.av dj[j+1]!:=Zay Qt.av (by omega) _;have g2:(dj.toList.map Qt.av).getD j .u=Qt.av dj[j]!:=Zay Qt.av (by omega) _;have hs:=Zcd Qt.av dj (j+1) j;have g3:=Zce Qt.av (d:=dj) (j:=j) (by omega) (j+1) AV.u;have cc:=quCmp dj[j+1]!.k dj[j+1]!.a dj[j+1]!.b dj[j+1]!.c dj[j]!.k dj[j]!.a dj[j]!.b dj[j]!.c;have ej:(j:Int)+1 - 1=(j:Int):=by omega
     have en:((j+1:Nat):Int) - 1=(j:Int):=by omega
     by_cases hlt0:Qt.cmp dj[j+1]! dj[j]! < 0
     ·rw [Zky (by omega) (Zfw hlt0)] at hI;have hsw:(Go.Sort.swp dj (j+1) j).size=d.size:=by rw [Go.Sort.size_swp,hsj]
      generalize Go.Sort.swp dj (j+1) j=dn at *;generalize hz1:Qt.cmp dj[j+1]! dj[j]! = z at *;clear hz1;generalize dj[j+1]! = x at *;generalize dj[j]! = y at *;generalize dj.toList.map Qt.av=M at *;obtain⟨x1,x2,x3,x4⟩:=x;obtain⟨y1,y2,y3,y4⟩:=y
      try simp only at *
      (focus (refine wkad (w_16 e0 e1 e2 e3 e8 e9 mK g1 g2 g3 hml ej en hlt0 @Zas @Zel) (w_1 cc) (w_2 (w_d 4 [(14,iv z)] [] []) (w_d 6 [] [15,2015,16,17] [])) ?_;(repeat' first|exact w_t|apply w_l);all_goals intros));exact⟨(j,dn),⟨⟨by show a≤j;omega,by show j≤i;omega,hsw,hI⟩,by exact gW e0,by exact gW e1,by exact gW e2,by exact gW e3,by exact gW e8,by exact gW en,λk hk=>by rw [←hm k hk];try simp (disch:=omega) [Zac,marks,mark,hk],by simp only;rw [←hs];exact gC⟩,by show j < j+1;omega⟩
     ·rw [Zk0 (Ze4 hlt0)] at hI;rw [←hI] at hO;generalize hz1:Qt.cmp dj[j+1]! dj[j]! = z at *;clear hz1 hs g3;generalize dj[j+1]! = x at *;generalize dj[j]! = y at *;generalize hM:dj.toList.map Qt.av=M at *;obtain⟨x1,x2,x3,x4⟩:=x;obtain⟨y1,y2,y3,y4⟩:=y
      try simp only at *
      (focus (refine wkad (w_14 e0 e1 e2 e3 e8 e9 mK g1 g2 hml ej en hlt0 @Zas) (w_1 cc) (w_1 (w_d 4 [(14,iv z)] [] [])) ?_;(repeat' first|exact w_t|apply w_l);all_goals intros));exact⟨(i+1,dj),⟨⟨by show a < i+1;omega,by show i+1≤b+1;omega,hsj,hO⟩,by exact gW e0,by exact gW e1,by exact gW e2,by exact gW e3,by exact gS,λk hk=>by rw [←hm k hk];try simp (disch:=omega) [Zac,marks,mark,hk],by simp only;rw [hM];(simp (disch:=omega) only [go_sem,mK]<;>repeat' first|rfl|refine⟨?_,?_⟩)⟩,by show b+1 - (i+1) < b+1 - i;omega⟩
    ·rw [Zkz (by omega)] at hI;rw [←hI] at hO;(focus (refine wkad (w_6 e0 e1 e2 e3 e8 e9) w_t w_t ?_;(repeat' first|exact w_t|apply w_l);all_goals intros));exact⟨(i+1,dj),⟨⟨by show a < i+1;omega,by show i+1≤b+1;omega,hsj,hO⟩,by exact gW e0,by exact gW e1,by exact gW e2,by exact gW e3,by exact gS,λk hk=>by rw [←hm k hk];try simp (disch:=omega) [Zac,marks,mark,hk],by(simp (disch:=omega) only [go_sem,mK]<;>repeat' first|rfl|refine⟨?_,?_⟩)⟩,by show b+1 - (i+1) < b+1 - i;omega⟩
   ·exact⟨⟨by show a≤i;omega,Nat.le_refl _,hsz,rfl⟩,by exact gW e0,by exact gW e1,by exact gW e2,by exact gW e3,by exact gW e8,by exact gC,λk hk=>by rw [←hm k hk];try simp (disch:=omega) [Zac,marks,mark,hk],by(simp (disch:=omega) only [go_sem,mK]<;>repeat' first|rfl|refine⟨?_,?_⟩)⟩
  ·rw [Zkx hlt] at hO;rw [hO] at mK;(focus (refine wkad (w_5 e0 e1 e2 e3 e8) w_t w_t ?_;(repeat' first|exact w_t|apply w_l);all_goals intros));simp (disch:=omega) only [go_sem];refine Zap (Sub.refl _) ⟨rfl,rfl⟩ λk hk=>?_;by_cases e:k=K
   ·subst e;rw [mK];simp only [Zac,if_pos]
   ·rw [hm k e];simp only [Zac,if_neg e]
 ·exact⟨⟨Nat.lt_succ_self a,by show a+1≤b+1;omega,rfl,rfl⟩,by exact gC,by exact gC,by exact gC,by exact gC,by exact gS,λk hk=>by rw [←hL k];try simp (disch:=omega) [Zac,marks,mark],by(simp (disch:=omega) only [go_sem,m0K]<;>repeat' first|rfl|refine⟨?_,?_⟩)⟩
theorem sqPdq' (n:Nat) (σ:Mem) (K:Nat) (sv:Value) (d:Array Qt) (a0 b0 lim0:Nat) (hn:b0 - a0=n) (h0:a0≤b0) (h1:b0≤d.size) (hl:lim0≤1000000) (hz:d.size≤12) (hB:Go.Sort.Below sqLt a0 b0 d) (hK:σ K=some (.row sv 25 4 ((d).toList.map Qt.av) 0)) :
 ACall Tryz.prog 146 [.own K sv,iv a0,iv b0,iv lim0,.fn 73 []] σ λr σ'=>r=.tup []∧σ'=upd σ K (some (.row sv 25 4 ((Go.Sort.pdq sqLt d a0 b0 lim0 true true).toList.map Qt.av) 0)):=by
 rw [Go.Pol.pdq_ins (by omega)];refine Za9 (args':=[.own (K+1000) sv,iv a0,iv b0,iv lim0,.fn 73 []]) Tryz.func146 rfl Tryz.ntmps146 Tryz.results146 Tryz.call146 (by rfl) (by simp) (.cons (Sub.own _ _ _) (.cons (Sub.refl _) (.cons (Sub.refl _) (.cons (Sub.refl _) (.cons (Sub.refl _) .nil))))) ?_;have hL:∀k,lent σ (k+1000)=σ k:=λk=>by unfold lent;rw [if_neg (by omega),Nat.add_sub_cancel]
 generalize lent σ=m0 at *;have m0K:m0 (K+1000)=some (.row sv 25 4 ((d).toList.map Qt.av) 0):=by rw [hL,hK]
 have ci:=fun(m:Mem) h=>sqIns m (K+1000) sv d a0 b0 h0 h1 h (by omega);have hc:(b0:Int) - (a0:Int)=(n:Int):=by omega
 have h12:(n:Int)≤12:=by omega
 (focus (refine wkax (w_2 hc h12) w_t w_t w_t w_t w_t (w_r 2) ?_;(repeat' first|exact w_t|apply w_l);all_goals intros));refine Zbj (ci _ (by(simp (disch:=omega) only [go_sem,m0K]<;>repeat' first|rfl|refine⟨?_,?_⟩))) ?_;(focus (refine wkad w_t w_t w_t ?_;(repeat' first|exact w_t|apply w_l);all_goals intros));simp (disch:=omega) only [go_sem];refine Zap (Sub.refl _) ⟨rfl,rfl⟩ λk hk=>?_;by_cases e:k=K
 ·subst e;simp only [Zac,if_pos]
 ·simp only [Zac,if_neg e,if_neg (show ¬k+1000=K+1000 by omega)];exact hL k
theorem sqSortA (σ:Mem) (K:Nat) (sv:Value) (d:Array Qt) (hK:σ K=some (.row sv 25 4 ((d).toList.map Qt.av) 0)) (hz:d.size≤12):ACall Tryz.prog 72 [.own K sv,.fn 73 []] σ λr σ'=>r=.tup []∧σ'=upd σ K (some (.row sv 25 4 ((Go.Sort.pdq sqLt d 0 d.size (Go.Sort.bitsLen d.size) true true).toList.map Qt.av) 0)):=by
 refine Za9 (args':=[.own (K+1000) sv,.fn 73 []]) Tryz.func72 rfl Tryz.ntmps72 Tryz.results72 Tryz.call72 (by rfl) (by simp) (.cons (Sub.own _ _ _) (.cons (Sub.refl _) .nil)) ?_;have hL:∀k,lent σ (k+1000)=σ k:=λk=>by unfold lent;rw [if_neg (by omega),Nat.add_sub_cancel]
 generalize lent σ=m0 at *;have m0K:m0 (K+1000)=some (.row sv 25 4 ((d).toList.map Qt.av) 0):=by rw [hL,hK]
 have cb:=bLen d.size (by omega);have hb:=Zg0 (x:=d.size) (by omega);have ci:=fun(σ:Mem) h=>sqPdq' d.size σ (K+1000) sv d 0 d.size (Go.Sort.bitsLen d.size) (Nat.sub_zero _) (Nat.zero_le _) (Nat.le_refl _) (by omega) hz (Or.inl rfl) h;generalize Go.Sort.pdq sqLt d 0 d.size (Go.Sort.bitsLen d.size) true true=V at *;have hml:=Zbm Qt.av d;generalize Go.Sort.bitsLen d.size=lim at *;have ci:∀(σ:Mem),σ (K+1000)=some (.row sv 25 4 ((d).toList.map Qt.av) 0)→ACall Tryz.prog 146 [.own (K+1000) sv,iv 0,iv d.size,iv lim,.fn 73 []] σ _:=ci;(focus (refine wkad (w_2 m0K hml) (w_1 cb) w_t ?_;(repeat' first|exact w_t|apply w_l);all_goals intros))
 refine Zbj (ci _ (by(simp (disch:=omega) only [go_sem,m0K]<;>repeat' first|rfl|refine⟨?_,?_⟩))) ?_;(focus (refine wkad w_t w_t w_t ?_;(repeat' first|exact w_t|apply w_l);all_goals intros));simp (disch:=omega) only [go_sem];refine Zap (Sub.refl _) ⟨rfl,rfl⟩ λk hk=>?_;by_cases e:k=K
 ·subst e;rw [Zac,if_pos rfl,Zac,if_pos rfl]
 ·rw [Zac,if_neg (by omega),Zac,if_neg e,hL]
theorem qSort (σ:Mem) (K:Nat) (sv:Value) (L:List Qt) (hK:σ K=some (.row sv 25 4 (L.map Qt.av) 0)) (hl:L.length≤12):ACall Tryz.prog 72 [.own K sv,.fn 73 []] σ λr σ'=>r=.tup []∧σ'=upd σ K (some (.row sv 25 4 ((srtQ Qt.cmp L).map Qt.av) 0)):=by
 have h:=sqSortA σ K sv L.toArray hK (by simpa using hl);have e:=Zvh qtO (λq:Qt=>q) (λq:Qt=>q) L (λs _ t _ h=>h) (Go.Sort.bitsLen L.length);rw [List.map_id',List.map_id'] at e;have e:(Go.Sort.pdq sqLt L.toArray 0 L.length (Go.Sort.bitsLen L.length) true true).toList=srtQ Qt.cmp L:=e;rw [show L.toArray.size=L.length by simp,e] at h;exact h
abbrev TQ:Type:={s:Rat × List Qt // s.2.length≤1000000}
instance:Inhabited TQ:=⟨⟨(0,[]),Nat.zero_le _⟩⟩
abbrev tqA (x:TQ):AV:=qtA x.1
abbrev stLt:TQ→TQ→Bool:=ltC λs t=>ordT s.1 t.1
theorem Zg3 (x y:TQ):Pure Tryz.prog 152 [tqA x,tqA y] (iv (ordT x.1 y.1)):=exCmpT x.1 y.1 x.2 y.2
theorem stIns (σ:Mem) (K:Nat) (sv:Value) (d:Array TQ) (a b:Nat) (hab:a≤b) (hb:b≤d.size) (hK:σ K=some (.row sv 49 4 ((d).toList.map tqA) 0)) (hz:d.size≤1000000000):ACall Tryz.prog 282 [.own K sv,iv a,iv b,.fn 152 []] σ λr σ'=>r=.tup []∧σ'=upd σ K (some (.row sv 49 4 ((Go.Sort.insertionSort stLt d a b).toList.map tqA) 0)):=by
 refine Za9 (args':=[.own (K+1000) sv,iv a,iv b,.fn 152 []]) Tryz.func282 rfl Tryz.ntmps282 Tryz.results282 Tryz.call282 (by rfl) (by simp) (.cons (Sub.own _ _ _) (.cons (Sub.refl _) (.cons (Sub.refl _) (.cons (Sub.refl _) .nil)))) ?_;have hL:∀k,lent σ (k+1000)=σ k:=λk=>by unfold lent;rw [if_neg (by omega),Nat.add_sub_cancel]
 generalize lent σ=m0 at *;have m0K:m0 (K+1000)=some (.row sv 49 4 ((d).toList.map tqA) 0):=by rw [hL,hK]
 (focus (refine wkad w_t w_t w_t ?_;(repeat' first|exact w_t|apply w_l);all_goals intros));refine Zad (ι:=Nat × Array TQ) (λp e m=>(a < p.1∧p.1≤b+1∧p.2.size=d.size∧Go.Sort.insOuter stLt a b p.1 p.2=Go.Sort.insertionSort stLt d a b)∧e 0=.own (K+1000) sv∧e 1=iv a∧e 2=iv b∧e 3=.fn 152 []∧e 8=iv p.1∧(∀k,k≠K→m (k+1000)=σ k)∧m (K+1000)=some (.row sv 49 4 ((p.2).toList.map tqA) 0)) (λp=>b+1 - p.1) (a+1,d) (by rfl) ?_ ?_
 ·rintro ⟨i,dk⟩ e m ⟨⟨hi1,hi,hsz,hO⟩,e0,e1,e2,e3,e8,hm,mK⟩
  simp only at hi1 hi hsz hO e8 mK;by_cases hlt:i < b
  ·rw [Zkw hlt] at hO;(focus (refine wkad (w_5 e0 e1 e2 e3 e8) w_t w_t ?_;(repeat' first|exact w_t|apply w_l);all_goals intros));refine Zad (ι:=Nat × Array TQ) (λp e m=>(a≤p.1∧p.1≤i∧p.2.size=d.size∧Go.Sort.insInner stLt a p.1 p.2=Go.Sort.insInner stLt a i dk)∧e 0=.own (K+1000) sv∧e 1=iv a∧e 2=iv b∧e 3=.fn 152 []∧e 8=iv i∧e 9=iv p.1∧(∀k,k≠K→m (k+1000)=σ k)∧m (K+1000)=some (.row sv 49 4 ((p.2).toList.map tqA) 0)) (λp=>p.1) (i,dk) (by rfl) ?_ ?_
   ·rintro ⟨j,dj⟩ e m ⟨⟨hj1,hj,hsj,hI⟩,e0,e1,e2,e3,e8,e9,hm,mK⟩
    simp only at hj1 hj hsj hI e9 mK;by_cases hja:a < j
    ·obtain⟨j,rfl⟩:∃t,j=t+1:=⟨j - 1,by omega⟩;have hml:=Zbm tqA dj;rw [hsj] at hml;have g1:(dj.toList.map tqA).getD (j+1) .u=tqA dj[j+1]!:=Zay tqA (by omega) _;have g2:(dj.toList.map tqA).getD j .u=tqA dj[j]!:=Zay tqA (by omega) _;have hs:=Zcd tqA dj (j+1) j;have g3:=Zce tqA (d:=dj) (j:=j) (by omega) (j+1) AV.u;have cc:=Zg3 dj[j+1]! dj[j]!;have ej:(j:Int)+1 - 1=(j:Int):=by omega
     have en:((j+1:Nat):Int) - 1=(j:Int):=by omega
     by_cases hlt0:ordT dj[j+1]!.1 dj[j]!.1 < 0
     ·rw [Zky (by omega) (Zfw hlt0)] at hI;have hsw:(Go.Sort.swp dj (j+1) j).size=d.size:=by rw [Go.Sort.size_swp,hsj]
      generalize Go.Sort.swp dj (j+1) j=dn at *;generalize hz1:ordT dj[j+1]!.1 dj[j]!.1=z at *;clear hz1;generalize dj[j+1]! = x at *;generalize dj[j]! = y at *;generalize dj.toList.map tqA=M at *;obtain⟨⟨x1,x2⟩,x3⟩:=x;obtain⟨⟨y1,y2⟩,y3⟩:=y
      try simp only [tqA] at *
      (focus (refine wkad (w_16 e0 e1 e2 e3 e8 e9 mK g1 g2 g3 hml ej en hlt0 @Zas @Zel) (w_1 cc) (w_2 (w_d 4 [(14,iv z)] [] []) (w_d 6 [] [15,2015,16,17] [])) ?_;(repeat' first|exact w_t|apply w_l);all_goals intros));exact⟨(j,dn),⟨⟨by show a≤j;omega,by show j≤i;omega,hsw,hI⟩,by exact gW e0,by exact gW e1,by exact gW e2,by exact gW e3,by exact gW e8,by exact gW en,λk hk=>by rw [←hm k hk];try simp (disch:=omega) [Zac,marks,mark,hk],by simp only;rw [←hs];exact gC⟩,by show j < j+1;omega⟩
     ·rw [Zk0 (Ze4 hlt0)] at hI;rw [←hI] at hO;generalize hz1:ordT dj[j+1]!.1 dj[j]!.1=z at *;clear hz1 hs g3;generalize dj[j+1]! = x at *;generalize dj[j]! = y at *;generalize hM:dj.toList.map tqA=M at *;obtain⟨⟨x1,x2⟩,x3⟩:=x;obtain⟨⟨y1,y2⟩,y3⟩:=y
      try simp only [tqA] at *
      (focus (refine wkad (w_14 e0 e1 e2 e3 e8 e9 mK g1 g2 hml ej en hlt0 @Zas) (w_1 cc) (w_1 (w_d 4 [(14,iv z)] [] [])) ?_;(repeat' first|exact w_t|apply w_l);all_goals intros));exact⟨(i+1,dj),⟨⟨by show a < i+1;omega,by show i+1≤b+1;omega,hsj,hO⟩,by exact gW e0,by exact gW e1,by exact gW e2,by exact gW e3,by exact gS,λk hk=>by rw [←hm k hk];try simp (disch:=omega) [Zac,marks,mark,hk],by simp only;rw [hM];(simp (disch:=omega) only [go_sem,mK]<;>repeat' first|rfl|refine⟨?_,?_⟩)⟩,by show b+1 - (i+1) < b+1 - i;omega⟩
    ·rw [Zkz (by omega)] at hI;rw [←hI] at hO;(focus (refine wkad (w_6 e0 e1 e2 e3 e8 e9) w_t w_t ?_;(repeat' first|exact w_t|apply w_l);all_goals intros));exact⟨(i+1,dj),⟨⟨by show a < i+1;omega,by show i+1≤b+1;omega,hsj,hO⟩,by exact gW e0,by exact gW e1,by exact gW e2,by exact gW e3,by exact gS,λk hk=>by rw [←hm k hk];try simp (disch:=omega) [Zac,marks,mark,hk],by(simp (disch:=omega) only [go_sem,mK]<;>repeat' first|rfl|refine⟨?_,?_⟩)⟩,by show b+1 - (i+1) < b+1 - i;omega⟩
   ·exact⟨⟨by show a≤i;omega,Nat.le_refl _,hsz,rfl⟩,by exact gW e0,by exact gW e1,by exact gW e2,by exact gW e3,by exact gW e8,by exact gC,λk hk=>by rw [←hm k hk];try simp (disch:=omega) [Zac,marks,mark,hk],by(simp (disch:=omega) only [go_sem,mK]<;>repeat' first|rfl|refine⟨?_,?_⟩)⟩
  ·rw [Zkx hlt] at hO;rw [hO] at mK;(focus (refine wkad (w_5 e0 e1 e2 e3 e8) w_t w_t ?_;(repeat' first|exact w_t|apply w_l);all_goals intros));simp (disch:=omega) only [go_sem];refine Zap (Sub.refl _) ⟨rfl,rfl⟩ λk hk=>?_;by_cases e:k=K
   ·subst e;rw [mK];simp only [Zac,if_pos]
   ·rw [hm k e];simp only [Zac,if_neg e]
 ·exact⟨⟨Nat.lt_succ_self a,by show a+1≤b+1;omega,rfl,rfl⟩,by exact gC,by exact gC,by exact gC,by exact gC,by exact gS,λk hk=>by rw [←hL k];try simp (disch:=omega) [Zac,marks,mark],by(simp (disch:=omega) only [go_sem,m0K]<;>repeat' first|rfl|refine⟨?_,?_⟩)⟩
theorem stSift (σ:Mem) (K:Nat) (sv:Value) (d:Array TQ) (lo hi F:Nat) (hlo:lo≤hi) (hb:F+hi≤d.size) (hK:σ K=some (.row sv 49 4 ((d).toList.map tqA) 0)) (hz:d.size≤1000000000):ACall Tryz.prog 313 [.own K sv,iv lo,iv hi,iv F,.fn 152 []] σ λr σ'=>r=.tup []∧σ'=upd σ K (some (.row sv 49 4 ((Go.Sort.siftDown stLt hi F lo d).toList.map tqA) 0)):=by
 refine Za9 (args':=[.own (K+1000) sv,iv lo,iv hi,iv F,.fn 152 []]) Tryz.func313 rfl Tryz.ntmps313 Tryz.results313 Tryz.call313 (by rfl) (by simp) (.cons (Sub.own _ _ _) (.cons (Sub.refl _) (.cons (Sub.refl _) (.cons (Sub.refl _) (.cons (Sub.refl _) .nil))))) ?_;have hL:∀k,lent σ (k+1000)=σ k:=λk=>by unfold lent;rw [if_neg (by omega),Nat.add_sub_cancel]
 generalize lent σ=m0 at *;have m0K:m0 (K+1000)=some (.row sv 49 4 ((d).toList.map tqA) 0):=by rw [hL,hK]
 (focus (refine wkad w_t w_t w_t ?_;(repeat' first|exact w_t|apply w_l);all_goals intros));refine Zad (ι:=Nat × Array TQ) (λp e m=>(p.1≤hi∧p.2.size=d.size∧Go.Sort.siftDown stLt hi F p.1 p.2=Go.Sort.siftDown stLt hi F lo d)∧e 0=.own (K+1000) sv∧e 2=iv hi∧e 3=iv F∧e 4=.fn 152 []∧e 10=iv p.1∧(∀k,k≠K→m (k+1000)=σ k)∧m (K+1000)=some (.row sv 49 4 ((p.2).toList.map tqA) 0)) (λp=>hi - p.1) (lo,d) (by rfl) ?_ ?_
 ·rintro ⟨r,dk⟩ e m ⟨⟨hr,hsz,hO⟩,e0,e2,e3,e4,e10,hm,mK⟩
  simp only at hr hsz hO e10 mK;have hml:=Zbm tqA dk;rw [hsz] at hml;obtain⟨c0,hc0⟩:∃c0,c0=2*r+1:=⟨_,rfl⟩;have c1:2*(r:Int)+1=(c0:Int):=by omega
  by_cases h1:c0 ≥ hi
  ·rw [Zuc (by omega)] at hO;rw [←hO];(focus (refine wkad (w_6 e0 e2 e3 e4 e10 c1) w_t w_t ?_;(repeat' first|exact w_t|apply w_l);all_goals intros));simp (disch:=omega) only [go_sem];refine Zap (Sub.refl _) ⟨rfl,rfl⟩ λk hk=>?_;by_cases e:k=K
   ·subst e;rw [mK];simp only [Zac,if_pos]
   ·rw [hm k e];simp only [Zac,if_neg e]
  ·obtain⟨x,hx⟩:∃x,x=F+r:=⟨_,rfl⟩;obtain⟨y0,hy0⟩:∃y,y=F+c0:=⟨_,rfl⟩;have cx:(F:Int)+(r:Int)=(x:Int):=by omega
   have cy0:(F:Int)+(c0:Int)=(y0:Int):=by omega
   have hh:¬(hi:Int)≤(c0:Int):=by omega
   have gx:(dk.toList.map tqA).getD x .u=tqA dk[x]!:=Zay tqA (by omega) _;have gy:(dk.toList.map tqA).getD y0 .u=tqA dk[y0]!:=Zay tqA (by omega) _;by_cases h2:c0+1 < hi
   ·obtain⟨c,hc⟩:∃c,c=c0+1:=⟨_,rfl⟩;obtain⟨y,hy⟩:∃y,y=y0+1:=⟨_,rfl⟩;have hn:(c0:Int)+1=(c:Int):=by omega
    have hn2:(y0:Int)+1=(y:Int):=by omega
    have cy:(F:Int)+(c:Int)=(y:Int):=by omega
    have gz:(dk.toList.map tqA).getD y .u=tqA dk[y]!:=Zay tqA (by omega) _;have cc1:=Zg3 dk[y0]! dk[y]!;have h2:(c:Int) < (hi:Int):=by omega
    have hyl0:y0 < d.size:=by omega
    have hyl1:y < d.size:=by omega
    by_cases h3:ordT dk[y0]!.1 dk[y]!.1 < 0
    ·rw [sift_R (c:=c) (x:=x) (y:=y) (by omega) hx (by omega) (by omega) (by rw [show F+(2*r+1)=y0 by omega];exact Zfw h3)] at hO;have cc2:=Zg3 dk[x]! dk[y]!;by_cases h5:ordT dk[x]!.1 dk[y]!.1 < 0
     ·rw [if_neg (by rw [show stLt dk[x]! dk[y]! = true from Zfw h5];decide)] at hO;have hs:=Zcd tqA dk x y;have hsw:(Go.Sort.swp dk x y).size=d.size:=by rw [Go.Sort.size_swp,hsz]
      have hch:hi - c < hi - r:=by omega
      have hcl:c≤hi:=by omega
      have hxl:x < d.size:=by omega
      have hyl:y < d.size:=by omega
      have g3:=Zce tqA (d:=dk) (j:=y) (by omega) x AV.u;generalize Go.Sort.swp dk x y=dn at *;generalize hz1:ordT dk[x]!.1 dk[y]!.1=z at *;generalize hz2:ordT dk[y0]!.1 dk[y]!.1=w at *;clear hz1 hz2;generalize dk[x]! = vx at *;generalize dk[y]! = vy at *;generalize dk[y0]! = vw at *;generalize dk.toList.map tqA=M at *;obtain⟨⟨vx1,vx2⟩,vx3⟩:=vx;obtain⟨⟨vy1,vy2⟩,vy3⟩:=vy;obtain⟨⟨vw1,vw2⟩,vw3⟩:=vw
      try simp only [tqA] at *
      (focus (refine wkax (w_22 e0 e2 e3 e4 e10 mK gx g3 hml c1 cx cy0 hn hn2 hh h5 gy gz cy h2 h3 @Zel) (w_2 cc1 cc2) (w_3 (w_d 3 [(19,iv w)] [] []) (w_d 5 [(13,iv z)] [] []) (w_d 6 [] [21,2021,22,23] [])) w_t w_t w_t (w_r 0) ?_;(repeat' first|exact w_t|apply w_l);all_goals intros));exact⟨(c,dn),⟨⟨hcl,hsw,hO⟩,by exact gW e0,by exact gW e2,by exact gW e3,by exact gW e4,by exact gW hn,λk hk=>by rw [←hm k hk];try simp (disch:=omega) [Zac,marks,mark,hk],by simp only;rw [←hs];exact gC⟩,hch⟩
     ·rw [if_pos (show stLt dk[x]! dk[y]! = false from Ze4 h5)] at hO;have hxl:x < d.size:=by omega
      have hyl:y < d.size:=by omega
      rw [←hO];clear hO hsz;generalize hz1:ordT dk[x]!.1 dk[y]!.1=z at *;generalize hz2:ordT dk[y0]!.1 dk[y]!.1=w at *;clear hz1 hz2;generalize dk[x]! = vx at *;generalize dk[y]! = vy at *;generalize dk[y0]! = vw at *;generalize dk.toList.map tqA=M at *;obtain⟨⟨vx1,vx2⟩,vx3⟩:=vx;obtain⟨⟨vy1,vy2⟩,vy3⟩:=vy;obtain⟨⟨vw1,vw2⟩,vw3⟩:=vw
      try simp only [tqA] at *
      (focus (refine wkad (w_21 e0 e2 e3 e4 e10 mK gx hml c1 cx cy0 hn hn2 hh h5 gy gz cy h2 h3 @Zel) (w_2 cc1 cc2) (w_2 (w_d 3 [(19,iv w)] [] []) (w_d 5 [(13,iv z)] [] [])) ?_;(repeat' first|exact w_t|apply w_l);all_goals intros));simp (disch:=omega) only [go_sem];refine Zap (Sub.refl _) ⟨rfl,rfl⟩ λk hk=>?_;by_cases e:k=K
      ·subst e;rw [mK];simp only [Zac,if_pos]
      ·rw [hm k e];simp only [Zac,if_neg e]
    ·rw [Zud (c:=c0) (x:=x) (y:=y0) (by omega) hx (by omega) (by omega) (by rintro ⟨-,h⟩;rw [←hy,show stLt dk[y0]! dk[y]! = false from Ze4 h3] at h;cases h)] at hO;have cc2:=Zg3 dk[x]! dk[y0]!;by_cases h5:ordT dk[x]!.1 dk[y0]!.1 < 0
     ·rw [if_neg (by rw [show stLt dk[x]! dk[y0]! = true from Zfw h5];decide)] at hO;have hs:=Zcd tqA dk x y0;have hsw:(Go.Sort.swp dk x y0).size=d.size:=by rw [Go.Sort.size_swp,hsz]
      have hch:hi - c0 < hi - r:=by omega
      have hcl:c0≤hi:=by omega
      have hxl:x < d.size:=by omega
      have hyl:y0 < d.size:=by omega
      have g3:=Zce tqA (d:=dk) (j:=y0) (by omega) x AV.u;generalize Go.Sort.swp dk x y0=dn at *;generalize hz1:ordT dk[x]!.1 dk[y0]!.1=z at *;generalize hz2:ordT dk[y0]!.1 dk[y]!.1=w at *;clear hz1 hz2;generalize dk[x]! = vx at *;generalize dk[y0]! = vy at *;generalize dk[y]! = vw at *;generalize dk.toList.map tqA=M at *;obtain⟨⟨vx1,vx2⟩,vx3⟩:=vx;obtain⟨⟨vy1,vy2⟩,vy3⟩:=vy;obtain⟨⟨vw1,vw2⟩,vw3⟩:=vw
      try simp only [tqA] at *
      (focus (refine wkax (w_22 e0 e2 e3 e4 e10 mK gx g3 hml c1 cx cy0 hn hn2 hh h5 gy gz cy h2 h3 @Zel) (w_2 cc1 cc2) (w_3 (w_d 3 [(19,iv w)] [] []) (w_d 5 [(13,iv z)] [] []) (w_d 6 [] [21,2021,22,23] [])) w_t w_t w_t (w_r 0) ?_;(repeat' first|exact w_t|apply w_l);all_goals intros));exact⟨(c0,dn),⟨⟨hcl,hsw,hO⟩,by exact gW e0,by exact gW e2,by exact gW e3,by exact gW e4,by exact gC,λk hk=>by rw [←hm k hk];try simp (disch:=omega) [Zac,marks,mark,hk],by simp only;rw [←hs];exact gC⟩,hch⟩
     ·rw [if_pos (show stLt dk[x]! dk[y0]! = false from Ze4 h5)] at hO;have hxl:x < d.size:=by omega
      have hyl:y0 < d.size:=by omega
      rw [←hO];clear hO hsz;generalize hz1:ordT dk[x]!.1 dk[y0]!.1=z at *;generalize hz2:ordT dk[y0]!.1 dk[y]!.1=w at *;clear hz1 hz2;generalize dk[x]! = vx at *;generalize dk[y0]! = vy at *;generalize dk[y]! = vw at *;generalize dk.toList.map tqA=M at *;obtain⟨⟨vx1,vx2⟩,vx3⟩:=vx;obtain⟨⟨vy1,vy2⟩,vy3⟩:=vy;obtain⟨⟨vw1,vw2⟩,vw3⟩:=vw
      try simp only [tqA] at *
      (focus (refine wkad (w_21 e0 e2 e3 e4 e10 mK gx hml c1 cx cy0 hn hn2 hh h5 gy gz cy h2 h3 @Zel) (w_2 cc1 cc2) (w_2 (w_d 3 [(19,iv w)] [] []) (w_d 5 [(13,iv z)] [] [])) ?_;(repeat' first|exact w_t|apply w_l);all_goals intros));simp (disch:=omega) only [go_sem];refine Zap (Sub.refl _) ⟨rfl,rfl⟩ λk hk=>?_;by_cases e:k=K
      ·subst e;rw [mK];simp only [Zac,if_pos]
      ·rw [hm k e];simp only [Zac,if_neg e]
   ·rw [Zud (c:=c0) (x:=x) (y:=y0) (by omega) hx (by omega) (by omega) (by omega)] at hO;obtain⟨c,hc⟩:∃c,c=c0+1:=⟨_,rfl⟩;have hn:(c0:Int)+1=(c:Int):=by omega
    have hn2:¬(c:Int) < (hi:Int):=by omega
    have cc2:=Zg3 dk[x]! dk[y0]!;by_cases h5:ordT dk[x]!.1 dk[y0]!.1 < 0
    ·rw [if_neg (by rw [show stLt dk[x]! dk[y0]! = true from Zfw h5];decide)] at hO;have hs:=Zcd tqA dk x y0;have hsw:(Go.Sort.swp dk x y0).size=d.size:=by rw [Go.Sort.size_swp,hsz]
     have hch:hi - c0 < hi - r:=by omega
     have hcl:c0≤hi:=by omega
     have hxl:x < d.size:=by omega
     have hyl:y0 < d.size:=by omega
     have g3:=Zce tqA (d:=dk) (j:=y0) (by omega) x AV.u;generalize Go.Sort.swp dk x y0=dn at *;generalize hz1:ordT dk[x]!.1 dk[y0]!.1=z at *;clear hz1;generalize dk[x]! = vx at *;generalize dk[y0]! = vy at *;generalize dk.toList.map tqA=M at *;obtain⟨⟨vx1,vx2⟩,vx3⟩:=vx;obtain⟨⟨vy1,vy2⟩,vy3⟩:=vy
     try simp only [tqA] at *
     (focus (refine wkax (w_18 e0 e2 e3 e4 e10 mK gx g3 hml c1 cx cy0 hn hn2 hh h5 gy @Zel) (w_1 cc2) (w_3 (w_d 3 [] [] []) (w_d 5 [(13,iv z)] [] []) (w_d 6 [] [21,2021,22,23] [])) w_t w_t w_t (w_r 0) ?_;(repeat' first|exact w_t|apply w_l);all_goals intros));exact⟨(c0,dn),⟨⟨hcl,hsw,hO⟩,by exact gW e0,by exact gW e2,by exact gW e3,by exact gW e4,by exact gC,λk hk=>by rw [←hm k hk];try simp (disch:=omega) [Zac,marks,mark,hk],by simp only;rw [←hs];exact gC⟩,hch⟩
    ·rw [if_pos (show stLt dk[x]! dk[y0]! = false from Ze4 h5)] at hO;have hxl:x < d.size:=by omega
     have hyl:y0 < d.size:=by omega
     rw [←hO];clear hO hsz;generalize hz1:ordT dk[x]!.1 dk[y0]!.1=z at *;clear hz1;generalize dk[x]! = vx at *;generalize dk[y0]! = vy at *;generalize dk.toList.map tqA=M at *;obtain⟨⟨vx1,vx2⟩,vx3⟩:=vx;obtain⟨⟨vy1,vy2⟩,vy3⟩:=vy
     try simp only [tqA] at *
     (focus (refine wkad (w_17 e0 e2 e3 e4 e10 mK gx hml c1 cx cy0 hn hn2 hh h5 gy @Zel) (w_1 cc2) (w_2 (w_d 3 [] [] []) (w_d 5 [(13,iv z)] [] [])) ?_;(repeat' first|exact w_t|apply w_l);all_goals intros));simp (disch:=omega) only [go_sem];refine Zap (Sub.refl _) ⟨rfl,rfl⟩ λk hk=>?_;by_cases e:k=K
     ·subst e;rw [mK];simp only [Zac,if_pos]
     ·rw [hm k e];simp only [Zac,if_neg e]
 ·exact⟨⟨hlo,rfl,rfl⟩,by exact gC,by exact gC,by exact gC,by exact gC,by exact gC,λk hk=>by rw [←hL k];try simp (disch:=omega) [Zac,marks,mark],by(simp (disch:=omega) only [go_sem,m0K]<;>repeat' first|rfl|refine⟨?_,?_⟩)⟩
theorem stHeap (σ:Mem) (K:Nat) (sv:Value) (d:Array TQ) (a b:Nat) (hab:a < b) (hb:b≤d.size) (hK:σ K=some (.row sv 49 4 ((d).toList.map tqA) 0)) (hz:d.size≤1000000000):ACall Tryz.prog 283 [.own K sv,iv a,iv b,.fn 152 []] σ λr σ'=>r=.tup []∧σ'=upd σ K (some (.row sv 49 4 ((Go.Sort.heapSort stLt d a b).toList.map tqA) 0)):=by
 refine Za9 (args':=[.own (K+1000) sv,iv a,iv b,.fn 152 []]) Tryz.func283 rfl Tryz.ntmps283 Tryz.results283 Tryz.call283 (by rfl) (by simp) (.cons (Sub.own _ _ _) (.cons (Sub.refl _) (.cons (Sub.refl _) (.cons (Sub.refl _) .nil)))) ?_;have hL:∀k,lent σ (k+1000)=σ k:=λk=>by unfold lent;rw [if_neg (by omega),Nat.add_sub_cancel]
 generalize lent σ=m0 at *;have m0K:m0 (K+1000)=some (.row sv 49 4 ((d).toList.map tqA) 0):=by rw [hL,hK]
 obtain⟨n,hn⟩:∃n,n=b - a:=⟨_,rfl⟩;obtain⟨k0,hk0⟩:∃k,k=(n - 1)/2:=⟨_,rfl⟩;obtain⟨n1,hn1⟩:∃n1,n=n1+1:=⟨n - 1,by omega⟩;have cn:(b:Int) - (a:Int)=(n:Int):=by omega
 have cm:(n:Int) - 1=(n1:Int):=by omega
 have ck:((n1:Nat):Int).tdiv 2=(k0:Int):=by rw [hk0,hn1];rfl
 have hH:Go.Sort.heapSort stLt d a b=Go.Sort.heapPop stLt a n (Go.Sort.heapBuild stLt n a (k0+1) d):=by unfold Go.Sort.heapSort;rw [←hn,←hk0]
 rw [hH];clear hH;have hw0:=Go.Pol.size_heapBuild (lt:=stLt) (hi:=n) (F:=a) (k0+1) d;generalize hT:Go.Sort.heapBuild stLt n a (k0+1) d=T at *;generalize hV:Go.Sort.heapPop stLt a n T=V at *;(focus (refine wkad (w_3 cn cm ck) w_t w_t ?_;(repeat' first|exact w_t|apply w_l);all_goals intros));refine Zad (ι:=Nat × Array TQ) (λp e m=>(p.1≤k0+1∧p.2.size=d.size∧Go.Sort.heapBuild stLt n a p.1 p.2=T)∧e 0=.own (K+1000) sv∧e 3=.fn 152 []∧e 8=iv a∧e 9=iv 0∧e 10=iv n∧e 11=iv ((p.1:Int) - 1)∧(∀k,k≠K→m (k+1000)=σ k)∧m (K+1000)=some (.row sv 49 4 ((p.2).toList.map tqA) 0)) (λp=>p.1) (k0+1,d) (by rfl) ?_ ?_
 ·rintro ⟨k,dk⟩ e m ⟨⟨hk,hsz,hO⟩,e0,e3,e8,e9,e10,e11,hm,mK⟩
  simp only at hk hsz hO e11 mK
  cases k with
  | zero =>
    have hO:dk=T:=hO;rw [hO] at mK;have e11:e 11=iv (-1):=e11;(focus (refine wkad (w_7 e0 e3 e8 e9 e10 e11 cm) w_t w_t ?_;(repeat' first|exact w_t|apply w_l);all_goals intros));clear e11 hO hsz hk;refine Zad (ι:=Nat × Array TQ) (λp e m=>(p.1≤n∧p.2.size=d.size∧Go.Sort.heapPop stLt a p.1 p.2=V)∧e 0=.own (K+1000) sv∧e 3=.fn 152 []∧e 8=iv a∧e 9=iv 0∧e 12=iv ((p.1:Int) - 1)∧(∀k,k≠K→m (k+1000)=σ k)∧m (K+1000)=some (.row sv 49 4 ((p.2).toList.map tqA) 0)) (λp=>p.1) (n,T) (by rfl) ?_ ?_
    ·rintro ⟨k,dk⟩ e m ⟨⟨hk,hsz,hO⟩,e0,e3,e8,e9,e12,hm,mK⟩
     simp only at hk hsz hO e12 mK
     cases k with
     | zero =>
       have hO:dk=V:=hO;rw [hO] at mK;have e12:e 12=iv (-1):=e12;(focus (refine wkad (w_5 e0 e3 e8 e9 e12) w_t w_t ?_;(repeat' first|exact w_t|apply w_l);all_goals intros));simp (disch:=omega) only [go_sem];refine Zap (Sub.refl _) ⟨rfl,rfl⟩ λk hk=>?_;by_cases e:k=K
       ·subst e;rw [mK];simp only [Zac,if_pos]
       ·rw [hm k e];simp only [Zac,if_neg e]
     | succ k =>
       have ek:((k+1:Nat):Int) - 1=(k:Int):=by omega
       rw [ek] at e12;obtain⟨x,hx⟩:∃x,x=a+k:=⟨_,rfl⟩;have cx:(a:Int)+(k:Int)=(x:Int):=by omega
       have hx1:x < d.size:=by omega
       have hml:=Zbm tqA dk;rw [hsz] at hml;have gx:(dk.toList.map tqA).getD x .u=tqA dk[x]!:=Zay tqA (by omega) _;have ga:(dk.toList.map tqA).getD a .u=tqA dk[a]!:=Zay tqA (by omega) _;have hO:Go.Sort.heapPop stLt a k (Go.Sort.siftDown stLt k a 0 (Go.Sort.swp dk a (a+k)))=V:=hO;rw [←hx] at hO;have hs:=Zcd tqA dk a x;have g3:=Zce tqA (d:=dk) (j:=x) (by omega) a AV.u;have hsw:(Go.Sort.swp dk a x).size=d.size:=by rw [Go.Sort.size_swp,hsz]
       generalize Go.Sort.swp dk a x=dn at *;have ci:=fun(m:Mem) h=>stSift m (K+1000) sv dn 0 k a (Nat.zero_le _) (by omega) h (by omega);have hsd:=Go.Pol.size_siftDown (lt:=stLt) (hi:=k) (F:=a) k 0 dn (by omega);generalize Go.Sort.siftDown stLt k a 0 dn=dm at *;generalize dk[x]! = vx at *;generalize dk[a]! = vy at *;generalize dk.toList.map tqA=M at *;obtain⟨⟨vx1,vx2⟩,vx3⟩:=vx;obtain⟨⟨vy1,vy2⟩,vy3⟩:=vy
       try simp only [tqA] at *
       (focus (refine wkad (w_12 e0 e3 e8 e9 e12 mK gx ga g3 hml cx @Zel) w_t (w_1 (w_d 10 [] [17,2017,18,19] [])) ?_;(repeat' first|exact w_t|apply w_l);all_goals intros));refine Zbj (ci _ (by rw [←hs];exact gC)) ?_;(focus (refine wkad (w_5 e0 e3 e8 e9 e12) w_t w_t ?_;(repeat' first|exact w_t|apply w_l);all_goals intros));exact⟨(k,dm),⟨⟨by show k≤n;omega,by show dm.size=d.size;omega,hO⟩,by exact gW e0,by exact gW e3,by exact gW e8,by exact gW e9,by exact gC,λk hk=>by rw [←hm k hk];try simp (disch:=omega) [Zac,marks,mark,hk],by exact gC⟩,by show k < k+1;omega⟩
    ·exact⟨⟨Nat.le_refl _,hw0,hV⟩,by exact gW e0,by exact gW e3,by exact gW e8,by exact gW e9,by exact gW cm,λk hk=>by rw [←hm k hk];try simp (disch:=omega) [Zac,marks,mark,hk],by(simp (disch:=omega) only [go_sem,mK]<;>repeat' first|rfl|refine⟨?_,?_⟩)⟩
  | succ k =>
    have ek:((k+1:Nat):Int) - 1=(k:Int):=by omega
    rw [ek] at e11;have hO:Go.Sort.heapBuild stLt n a k (Go.Sort.siftDown stLt n a k dk)=T:=hO;have ci:=fun(m:Mem) h=>stSift m (K+1000) sv dk k n a (by omega) (by omega) h (by omega);have hsd:=Go.Pol.size_siftDown (lt:=stLt) (hi:=n) (F:=a) n k dk (by omega);generalize Go.Sort.siftDown stLt n a k dk=dm at *;(focus (refine wkad (w_7 e0 e3 e8 e9 e10 e11 mK) w_t w_t ?_;(repeat' first|exact w_t|apply w_l);all_goals intros));refine Zbj (ci _ (by(simp (disch:=omega) only [go_sem,mK]<;>repeat' first|rfl|refine⟨?_,?_⟩))) ?_;(focus (refine wkad (w_6 e0 e3 e8 e9 e10 e11) w_t w_t ?_;(repeat' first|exact w_t|apply w_l);all_goals intros))
    exact⟨(k,dm),⟨⟨by show k≤k0+1;omega,by show dm.size=d.size;omega,hO⟩,by exact gW e0,by exact gW e3,by exact gW e8,by exact gW e9,by exact gW e10,by exact gC,λk hk=>by rw [←hm k hk];try simp (disch:=omega) [Zac,marks,mark,hk],by exact gC⟩,by show k < k+1;omega⟩
 ·exact⟨⟨Nat.le_refl _,rfl,hT⟩,by exact gC,by exact gC,by exact gC,by exact gC,by exact gC,by simp only;rw [show((k0+1:Nat):Int) - 1=(k0:Int) by omega];exact gC,λk hk=>by rw [←hL k];try simp (disch:=omega) [Zac,marks,mark],by(simp (disch:=omega) only [go_sem,m0K]<;>repeat' first|rfl|refine⟨?_,?_⟩)⟩
theorem stRev (σ:Mem) (K:Nat) (sv:Value) (d:Array TQ) (a b:Nat) (hab:a < b) (hb:b≤d.size) (hK:σ K=some (.row sv 49 4 ((d).toList.map tqA) 0)) (hz:d.size≤1000000000):ACall Tryz.prog 286 [.own K sv,iv a,iv b,.fn 152 []] σ λr σ'=>r=.tup []∧σ'=upd σ K (some (.row sv 49 4 ((Go.Sort.reverseRange d a b).toList.map tqA) 0)):=by
 refine Za9 (args':=[.own (K+1000) sv,iv a,iv b,.fn 152 []]) Tryz.func286 rfl Tryz.ntmps286 Tryz.results286 Tryz.call286 (by rfl) (by simp) (.cons (Sub.own _ _ _) (.cons (Sub.refl _) (.cons (Sub.refl _) (.cons (Sub.refl _) .nil)))) ?_;have hL:∀k,lent σ (k+1000)=σ k:=λk=>by unfold lent;rw [if_neg (by omega),Nat.add_sub_cancel]
 generalize lent σ=m0 at *;have m0K:m0 (K+1000)=some (.row sv 49 4 ((d).toList.map tqA) 0):=by rw [hL,hK]
 obtain⟨b1,hb1⟩:∃n,n=b - 1:=⟨_,rfl⟩;have cb:(b:Int) - 1=(b1:Int):=by omega
 (focus (refine wkad (w_1 cb) w_t w_t ?_;(repeat' first|exact w_t|apply w_l);all_goals intros));refine Zad (ι:=(Nat × Nat) × Array TQ) (λp e m=>(a≤p.1.1∧p.1.1≤b∧p.1.2 < b∧p.2.size=d.size∧Go.Sort.reverseLoop p.1.1 p.1.2 p.2=Go.Sort.reverseRange d a b)∧e 0=.own (K+1000) sv∧e 8=iv p.1.1∧e 9=iv p.1.2∧(∀k,k≠K→m (k+1000)=σ k)∧m (K+1000)=some (.row sv 49 4 ((p.2).toList.map tqA) 0)) (λp=>p.1.2+1 - p.1.1) ((a,b1),d) (by rfl) ?_ ?_
 ·rintro ⟨⟨i,j⟩,dk⟩ e m ⟨⟨hi1,hi,hj,hsz,hO⟩,e0,e8,e9,hm,mK⟩
  simp only at hi1 hi hj hsz hO e8 e9 mK;by_cases hlt:i < j
  ·rw [rev_y hlt] at hO;have hml:=Zbm tqA dk;rw [hsz] at hml;have gx:(dk.toList.map tqA).getD i .u=tqA dk[i]!:=Zay tqA (by omega) _;have gy:(dk.toList.map tqA).getD j .u=tqA dk[j]!:=Zay tqA (by omega) _;have hs:=Zcd tqA dk i j;have g3:=Zce tqA (d:=dk) (j:=j) (by omega) i AV.u;have hsw:(Go.Sort.swp dk i j).size=d.size:=by rw [Go.Sort.size_swp,hsz]
   generalize Go.Sort.swp dk i j=dn at *;have ej:(j:Int) - 1=((j - 1:Nat):Int):=by omega
   generalize dk[i]! = vx at *;generalize dk[j]! = vy at *;generalize dk.toList.map tqA=M at *;obtain⟨⟨vx1,vx2⟩,vx3⟩:=vx;obtain⟨⟨vy1,vy2⟩,vy3⟩:=vy
   try simp only [tqA] at *
   (focus (refine wkad (w_10 e0 e8 e9 mK gx gy g3 hml ej @Zel) w_t (w_1 (w_d 3 [] [13,2013,14,15] [])) ?_;(repeat' first|exact w_t|apply w_l);all_goals intros));exact⟨((i+1,j - 1),dn),⟨⟨by show a≤i+1;omega,by show i+1≤b;omega,by show j - 1 < b;omega,hsw,hO⟩,by exact gW e0,by exact gS,by exact gC,λk hk=>by rw [←hm k hk];try simp (disch:=omega) [Zac,marks,mark,hk],by simp only;rw [←hs];exact gC⟩,by show j - 1+1 - (i+1) < j+1 - i;omega⟩
  ·rw [rev_x hlt] at hO;rw [hO] at mK;(focus (refine wkad (w_3 e0 e8 e9) w_t w_t ?_;(repeat' first|exact w_t|apply w_l);all_goals intros));simp (disch:=omega) only [go_sem];refine Zap (Sub.refl _) ⟨rfl,rfl⟩ λk hk=>?_;by_cases e:k=K
   ·subst e;rw [mK];simp only [Zac,if_pos]
   ·rw [hm k e];simp only [Zac,if_neg e]
 ·exact⟨⟨Nat.le_refl _,by show a≤b;omega,by show b1 < b;omega,rfl,by rw [hb1];rfl⟩,by exact gC,by exact gC,by exact gW cb,λk hk=>by rw [←hL k];try simp (disch:=omega) [Zac,marks,mark],by(simp (disch:=omega) only [go_sem,m0K]<;>repeat' first|rfl|refine⟨?_,?_⟩)⟩
theorem stOrd (σ:Mem) (K KS:Nat) (sv:Value) (g:Nat) (d:Array TQ) (a b s:Nat) (ha:a < d.size) (hb:b < d.size) (hs:s≤1000) (hK:σ K=some (.row sv 49 4 ((d).toList.map tqA) 0)) (hS:σ KS=some (.box g 3 [iv (s)] false)) (hne:K≠KS) (hz:d.size≤1000000000):ACall Tryz.prog 324 [.own K sv,iv a,iv b,.pbox KS g 0,.fn 152 []] σ λr σ'=>r=.tup [iv (Go.Sort.order2 stLt d a b s).1,iv (Go.Sort.order2 stLt d a b s).2.1]∧σ'=upd σ KS (some (.box g 3 [iv ((Go.Sort.order2 stLt d a b s).2.2)] false)):=by
 refine Za9 (args':=[.own (K+1000) sv,iv a,iv b,.pbox (KS+1000) g 0,.fn 152 []]) Tryz.func324 rfl Tryz.ntmps324 Tryz.results324 Tryz.call324 (by rfl) (by simp) (.cons (Sub.own _ _ _) (.cons (Sub.refl _) (.cons (Sub.refl _) (.cons (Sub.pbox _ _ _ _) (.cons (Sub.refl _) .nil))))) ?_;have hL:∀k,lent σ (k+1000)=σ k:=λk=>by unfold lent;rw [if_neg (by omega),Nat.add_sub_cancel]
 generalize lent σ=m0 at *;have m0K:m0 (K+1000)=some (.row sv 49 4 ((d).toList.map tqA) 0):=by rw [hL,hK]
 have m0S:m0 (KS+1000)=some (.box g 3 [iv (s)] false):=by rw [hL,hS]
 have hne1:K+1000≠KS+1000:=by omega
 have hml:=Zbm tqA d;have gx:(d.toList.map tqA).getD b .u=tqA d[b]!:=Zay tqA hb _;have gy:(d.toList.map tqA).getD a .u=tqA d[a]!:=Zay tqA ha _;have cc:=Zg3 d[b]! d[a]!;unfold Go.Sort.order2;by_cases h:ordT d[b]!.1 d[a]!.1 < 0
 ·rw [show stLt d[b]! d[a]! = true from Zfw h];simp only [if_true];generalize hz1:ordT d[b]!.1 d[a]!.1=z at *;clear hz1;generalize d[b]! = vx at *;generalize d[a]! = vy at *;generalize d.toList.map tqA=M at *;obtain⟨⟨vx1,vx2⟩,vx3⟩:=vx;obtain⟨⟨vy1,vy2⟩,vy3⟩:=vy
  try simp only [tqA] at *
  (focus (refine wkad (w_7 m0K m0S hml gx gy h hne1) (w_1 cc) (w_1 (w_d 1 [(9,iv z)] [] [])) ?_;(repeat' first|exact w_t|apply w_l);all_goals intros));simp (disch:=omega) only [go_sem];refine Zap (Sub.refl _) ⟨rfl,rfl⟩ λk hk=>?_;by_cases e:k=KS
  ·subst e;simp only [Zac,if_pos]<;>rfl
  ·simp only [Zac,if_neg e,if_neg (show ¬k+1000=KS+1000 by omega)];exact hL k
 ·rw [show stLt d[b]! d[a]! = false from Ze4 h];simp only [Bool.false_eq_true,if_false];generalize hz1:ordT d[b]!.1 d[a]!.1=z at *;clear hz1;generalize d[b]! = vx at *;generalize d[a]! = vy at *;generalize d.toList.map tqA=M at *;obtain⟨⟨vx1,vx2⟩,vx3⟩:=vx;obtain⟨⟨vy1,vy2⟩,vy3⟩:=vy
  try simp only [tqA] at *
  (focus (refine wkad (w_7 m0K m0S hml gx gy h hne1) (w_1 cc) (w_1 (w_d 1 [(9,iv z)] [] [])) ?_;(repeat' first|exact w_t|apply w_l);all_goals intros));simp (disch:=omega) only [go_sem];refine Zap (Sub.refl _) ⟨rfl,rfl⟩ λk hk=>?_;by_cases e:k=KS
  ·subst e;simp only [Zac,if_pos];exact m0S
  ·simp only [Zac,if_neg e];exact hL k
theorem stMed (σ:Mem) (K KS:Nat) (sv:Value) (g:Nat) (d:Array TQ) (a b c s:Nat) (ha:a < d.size) (hb:b < d.size) (hc:c < d.size) (hs:s≤100) (hK:σ K=some (.row sv 49 4 ((d).toList.map tqA) 0)) (hS:σ KS=some (.box g 3 [iv (s)] false)) (hne:K≠KS) (hz:d.size≤1000000000):ACall Tryz.prog 315 [.own K sv,iv a,iv b,iv c,.pbox KS g 0,.fn 152 []] σ λr σ'=>r=iv (Go.Sort.median stLt d a b c s).1∧σ'=upd σ KS (some (.box g 3 [iv ((Go.Sort.median stLt d a b c s).2)] false)):=by
 refine Za9 (args':=[.own (K+1000) sv,iv a,iv b,iv c,.pbox (KS+1000) g 0,.fn 152 []]) Tryz.func315 rfl Tryz.ntmps315 Tryz.results315 Tryz.call315 (by rfl) (by simp) (.cons (Sub.own _ _ _) (.cons (Sub.refl _) (.cons (Sub.refl _) (.cons (Sub.refl _) (.cons (Sub.pbox _ _ _ _) (.cons (Sub.refl _) .nil)))))) ?_;have hL:∀k,lent σ (k+1000)=σ k:=λk=>by unfold lent;rw [if_neg (by omega),Nat.add_sub_cancel]
 generalize lent σ=m0 at *;have m0K:m0 (K+1000)=some (.row sv 49 4 ((d).toList.map tqA) 0):=by rw [hL,hK]
 have m0S:m0 (KS+1000)=some (.box g 3 [iv (s)] false):=by rw [hL,hS]
 have hne1:K+1000≠KS+1000:=by omega
 unfold Go.Sort.median;simp only;obtain⟨p1,p2,p3⟩:=Go.Pol.ord_bd (lt:=stLt) (d:=d) (s:=s) ha hb;have c1:=fun(m:Mem) h1 h2=>stOrd m (K+1000) (KS+1000) sv g d a b s ha hb (by omega) h1 h2 hne1 hz;generalize Go.Sort.order2 stLt d a b s=r1 at *;obtain⟨a1,b1,s1⟩:=r1;simp only at *;obtain⟨q1,q2,q3⟩:=Go.Pol.ord_bd (lt:=stLt) (d:=d) (s:=s1) p2 hc;have c2:=fun(m:Mem) h1 h2=>stOrd m (K+1000) (KS+1000) sv g d b1 c s1 p2 hc (by omega) h1 h2 hne1 hz;generalize Go.Sort.order2 stLt d b1 c s1=r2 at *;obtain⟨b2,c2',s2⟩:=r2;simp only at *;have c3:=fun(m:Mem) h1 h2=>stOrd m (K+1000) (KS+1000) sv g d a1 b2 s2 p1 q1 (by omega) h1 h2 hne1 hz
 generalize Go.Sort.order2 stLt d a1 b2 s2=r3 at *;obtain⟨a3,b3,s3⟩:=r3;simp only at *;(focus (refine wkad (w_3 m0K m0S hne1) w_t w_t ?_;(repeat' first|exact w_t|apply w_l);all_goals intros));refine Zbj (c1 _ (by(simp (disch:=omega) only [go_sem,m0K]<;>repeat' first|rfl|refine⟨?_,?_⟩)) (by(simp (disch:=omega) only [go_sem,m0S]<;>repeat' first|rfl|refine⟨?_,?_⟩))) ?_;(focus (refine wkad (w_2 m0K hne1) w_t w_t ?_;(repeat' first|exact w_t|apply w_l);all_goals intros));refine Zbj (c2 _ (by(simp (disch:=omega) only [go_sem,m0K,hne]<;>repeat' first|rfl|refine⟨?_,?_⟩)) (by exact gC)) ?_;(focus (refine wkad (w_2 m0K hne1) w_t w_t ?_;(repeat' first|exact w_t|apply w_l);all_goals intros))
 refine Zbj (c3 _ (by(simp (disch:=omega) only [go_sem,m0K,hne]<;>repeat' first|rfl|refine⟨?_,?_⟩)) (by exact gC)) ?_;(focus (refine wkad (w_2 m0K hne1) w_t w_t ?_;(repeat' first|exact w_t|apply w_l);all_goals intros));simp (disch:=omega) only [go_sem];refine Zap (Sub.refl _) ⟨rfl,rfl⟩ λk hk=>?_;by_cases e:k=KS
 ·subst e;simp only [Zac,if_pos]<;>rfl
 ·simp only [Zac,if_neg e,if_neg (show ¬k+1000=KS+1000 by omega)];exact hL k
theorem stAdj (σ:Mem) (K KS:Nat) (sv:Value) (g:Nat) (d:Array TQ) (a s:Nat) (h0:0 < a) (ha:a+1 < d.size) (hs:s≤100) (hK:σ K=some (.row sv 49 4 ((d).toList.map tqA) 0)) (hS:σ KS=some (.box g 3 [iv (s)] false)) (hne:K≠KS) (hz:d.size≤1000000000):ACall Tryz.prog 314 [.own K sv,iv a,.pbox KS g 0,.fn 152 []] σ λr σ'=>r=iv (Go.Sort.medianAdjacent stLt d a s).1∧σ'=upd σ KS (some (.box g 3 [iv ((Go.Sort.medianAdjacent stLt d a s).2)] false)):=by
 refine Za9 (args':=[.own (K+1000) sv,iv a,.pbox (KS+1000) g 0,.fn 152 []]) Tryz.func314 rfl Tryz.ntmps314 Tryz.results314 Tryz.call314 (by rfl) (by simp) (.cons (Sub.own _ _ _) (.cons (Sub.refl _) (.cons (Sub.pbox _ _ _ _) (.cons (Sub.refl _) .nil)))) ?_;have hL:∀k,lent σ (k+1000)=σ k:=λk=>by unfold lent;rw [if_neg (by omega),Nat.add_sub_cancel]
 generalize lent σ=m0 at *;have m0K:m0 (K+1000)=some (.row sv 49 4 ((d).toList.map tqA) 0):=by rw [hL,hK]
 have m0S:m0 (KS+1000)=some (.box g 3 [iv (s)] false):=by rw [hL,hS]
 have hne1:K+1000≠KS+1000:=by omega
 unfold Go.Sort.medianAdjacent;obtain⟨a0,ha0⟩:∃a0,a0=a - 1:=⟨_,rfl⟩;have e1:(a:Int) - 1=(a0:Int):=by omega
 have e2:(a:Int)+1=((a+1:Nat):Int):=by omega
 rw [←ha0];have c1:=fun(m:Mem) h1 h2=>stMed m (K+1000) (KS+1000) sv g d a0 a (a+1) s (by omega) (by omega) ha hs h1 h2 hne1 hz;generalize Go.Sort.median stLt d a0 a (a+1) s=r1 at *;obtain⟨x,y⟩:=r1;simp only at *;generalize a+1=a1 at *;(focus (refine wkad (w_5 m0K m0S hne1 e1 e2) w_t w_t ?_;(repeat' first|exact w_t|apply w_l);all_goals intros));refine Zbj (c1 _ (by(simp (disch:=omega) only [go_sem,m0K]<;>repeat' first|rfl|refine⟨?_,?_⟩)) (by(simp (disch:=omega) only [go_sem,m0S]<;>repeat' first|rfl|refine⟨?_,?_⟩))) ?_;(focus (refine wkad (w_2 m0K hne1) w_t w_t ?_;(repeat' first|exact w_t|apply w_l);all_goals intros))
 simp (disch:=omega) only [go_sem];refine Zap (Sub.refl _) ⟨rfl,rfl⟩ λk hk=>?_;by_cases e:k=KS
 ·subst e;simp only [Zac,if_pos]<;>rfl
 ·simp only [Zac,if_neg e,if_neg (show ¬k+1000=KS+1000 by omega)];exact hL k
theorem stPick (σ:Mem) (K:Nat) (sv:Value) (d:Array TQ) (a b:Nat) (hab:a+12 < b) (hb:b≤d.size) (hK:σ K=some (.row sv 49 4 ((d).toList.map tqA) 0)) (hz:d.size≤1000000000):ACall Tryz.prog 285 [.own K sv,iv a,iv b,.fn 152 []] σ λr σ'=>r=.tup [iv (Go.Sort.choosePivot stLt d a b).1,iv (Zmd (Go.Sort.choosePivot stLt d a b).2)]∧σ'=σ:=by
 refine Za9 (args':=[.own (K+1000) sv,iv a,iv b,.fn 152 []]) Tryz.func285 rfl Tryz.ntmps285 Tryz.results285 Tryz.call285 (by rfl) (by simp) (.cons (Sub.own _ _ _) (.cons (Sub.refl _) (.cons (Sub.refl _) (.cons (Sub.refl _) .nil)))) ?_;have hL:∀k,lent σ (k+1000)=σ k:=λk=>by unfold lent;rw [if_neg (by omega),Nat.add_sub_cancel]
 generalize lent σ=m0 at *;have m0K:m0 (K+1000)=some (.row sv 49 4 ((d).toList.map tqA) 0):=by rw [hL,hK]
 obtain⟨l,hl⟩:∃l,l=b - a:=⟨_,rfl⟩;obtain⟨l4,hl4⟩:∃x,x=l/4:=⟨_,rfl⟩;obtain⟨i,hi⟩:∃x,x=a+l4*1:=⟨_,rfl⟩;obtain⟨j,hj⟩:∃x,x=a+l4*2:=⟨_,rfl⟩;obtain⟨k,hk⟩:∃x,x=a+l4*3:=⟨_,rfl⟩;have el:(b:Int) - (a:Int)=(l:Int):=by omega
 have ed:((l:Nat):Int).tdiv 4=(l4:Int):=by rw [hl4];rfl
 have ei1:(l4:Int)*1=((l4*1:Nat):Int):=by omega
 have ej1:(l4:Int)*2=((l4*2:Nat):Int):=by omega
 have ek1:(l4:Int)*3=((l4*3:Nat):Int):=by omega
 have ei:(a:Int)+((l4*1:Nat):Int)=(i:Int):=by omega
 have ej:(a:Int)+((l4*2:Nat):Int)=(j:Int):=by omega
 have ek:(a:Int)+((l4*3:Nat):Int)=(k:Int):=by omega
 have h8:(8:Int)≤(l:Int):=by omega
 have hi1:=hi;have hj1:=hj;have hk1:=hk;rw [hl4] at hi1 hj1 hk1;generalize l4*1=m1 at *;generalize l4*2=m2 at *;generalize l4*3=m3 at *;have hne:K+1000≠11:=by omega
 by_cases h50:l ≥ 50
 ·have g50:(50:Int)≤(l:Int):=by omega
  obtain⟨ri,hri⟩:∃x,x=Go.Sort.medianAdjacent stLt d i 0:=⟨_,rfl⟩;obtain⟨rj,hrj⟩:∃x,x=Go.Sort.medianAdjacent stLt d j ri.2:=⟨_,rfl⟩;obtain⟨rk,hrk⟩:∃x,x=Go.Sort.medianAdjacent stLt d k rj.2:=⟨_,rfl⟩;obtain⟨rm,hrm⟩:∃x,x=Go.Sort.median stLt d ri.1 rj.1 rk.1 rk.2:=⟨_,rfl⟩;rw [Go.Pol.choose_50 hl hi1 hj1 hk1 h50 hri hrj hrk hrm];have bi:=Go.Pol.med_bd (lt:=stLt) (d:=d) (a:=i - 1) (b:=i) (c:=i+1) (s:=0) (n:=d.size) (by omega) (by omega) (by omega);have c1:=fun(g:Nat) (m:Mem) h1 h2=>stAdj m (K+1000) 11 sv g d i 0 (by omega) (by omega) (by omega) h1 h2 hne hz;have bi:(Go.Sort.medianAdjacent stLt d i 0).1 < d.size∧(Go.Sort.medianAdjacent stLt d i 0).2≤0+3:=bi
  rw [←hri] at bi c1;obtain⟨i1,s1⟩:=ri;simp only at *;have bj:=Go.Pol.med_bd (lt:=stLt) (d:=d) (a:=j - 1) (b:=j) (c:=j+1) (s:=s1) (n:=d.size) (by omega) (by omega) (by omega);have c2:=fun(g:Nat) (m:Mem) h1 h2=>stAdj m (K+1000) 11 sv g d j s1 (by omega) (by omega) (by omega) h1 h2 hne hz;have bj:(Go.Sort.medianAdjacent stLt d j s1).1 < d.size∧(Go.Sort.medianAdjacent stLt d j s1).2≤s1+3:=bj;rw [←hrj] at bj c2;obtain⟨j1,s2⟩:=rj;simp only at *;have bk:=Go.Pol.med_bd (lt:=stLt) (d:=d) (a:=k - 1) (b:=k) (c:=k+1) (s:=s2) (n:=d.size) (by omega) (by omega) (by omega);have c3:=fun(g:Nat) (m:Mem) h1 h2=>stAdj m (K+1000) 11 sv g d k s2 (by omega) (by omega) (by omega) h1 h2 hne hz
  have bk:(Go.Sort.medianAdjacent stLt d k s2).1 < d.size∧(Go.Sort.medianAdjacent stLt d k s2).2≤s2+3:=bk;rw [←hrk] at bk c3;obtain⟨k1,s3⟩:=rk;simp only at *;have c4:=fun(g:Nat) (m:Mem) h1 h2=>stMed m (K+1000) 11 sv g d i1 j1 k1 s3 bi.1 bj.1 bk.1 (by omega) h1 h2 hne hz;rw [←hrm] at c4;obtain⟨pv,sw⟩:=rm;clear hri hrj hrk hrm;simp only at *;unfold Go.Pol.hintN;(focus (refine wkad (w_11 m0K el ed ei1 ej1 ek1 ei ej ek h8 g50) w_t w_t ?_;(repeat' first|exact w_t|apply w_l);all_goals intros));refine Zbj (c1 _ _ (by(simp (disch:=omega) only [go_sem,m0K,hne]<;>repeat' first|rfl|refine⟨?_,?_⟩)) (by exact gC)) ?_
  (focus (refine wkad (w_1 m0K) w_t w_t ?_;(repeat' first|exact w_t|apply w_l);all_goals intros));refine Zbj (c2 _ _ (by(simp (disch:=omega) only [go_sem,m0K,hne]<;>repeat' first|rfl|refine⟨?_,?_⟩)) (by exact gC)) ?_;(focus (refine wkad (w_1 m0K) w_t w_t ?_;(repeat' first|exact w_t|apply w_l);all_goals intros));refine Zbj (c3 _ _ (by(simp (disch:=omega) only [go_sem,m0K,hne]<;>repeat' first|rfl|refine⟨?_,?_⟩)) (by exact gC)) ?_;(focus (refine wkad (w_1 m0K) w_t w_t ?_;(repeat' first|exact w_t|apply w_l);all_goals intros));refine Zbj (c4 _ _ (by(simp (disch:=omega) only [go_sem,m0K,hne]<;>repeat' first|rfl|refine⟨?_,?_⟩)) (by exact gC)) ?_
  by_cases z0:sw=0
  ·have z1:((sw:Nat):Int)=0:=by omega
   rw [if_pos z0];(focus (refine wkad (w_2 m0K z1) w_t w_t ?_;(repeat' first|exact w_t|apply w_l);all_goals intros));simp (disch:=omega) only [go_sem];refine Zap (Sub.refl _) ⟨rfl,rfl⟩ λk hk=>?_;simp (disch:=omega) only [go_sem];exact hL k
  ·have z1:¬((sw:Nat):Int)=0:=by omega
   rw [if_neg z0];by_cases z2:sw=12
   ·have z3:((sw:Nat):Int)=12:=by omega
    rw [if_pos z2];(focus (refine wkad (w_2 m0K z3) w_t w_t ?_;(repeat' first|exact w_t|apply w_l);all_goals intros));simp (disch:=omega) only [go_sem];refine Zap (Sub.refl _) ⟨rfl,rfl⟩ λk hk=>?_;simp (disch:=omega) only [go_sem];exact hL k
   ·have z3:¬((sw:Nat):Int)=12:=by omega
    rw [if_neg z2];(focus (refine wkad (w_3 m0K z1 z3) w_t w_t ?_;(repeat' first|exact w_t|apply w_l);all_goals intros));simp (disch:=omega) only [go_sem];refine Zap (Sub.refl _) ⟨rfl,rfl⟩ λk hk=>?_;simp (disch:=omega) only [go_sem];exact hL k
 ·have g50:¬(50:Int)≤(l:Int):=by omega
  obtain⟨rm,hrm⟩:∃x,x=Go.Sort.median stLt d i j k 0:=⟨_,rfl⟩;rw [Go.Pol.choose_8 hl hi1 hj1 hk1 (by omega) h50 hrm];have c4:=fun(g:Nat) (m:Mem) h1 h2=>stMed m (K+1000) 11 sv g d i j k 0 (by omega) (by omega) (by omega) (by omega) h1 h2 hne hz;rw [←hrm] at c4;obtain⟨pv,sw⟩:=rm;clear hrm;simp only at *;unfold Go.Pol.hintN;(focus (refine wkad (w_11 m0K el ed ei1 ej1 ek1 ei ej ek h8 g50) w_t w_t ?_;(repeat' first|exact w_t|apply w_l);all_goals intros));refine Zbj (c4 _ _ (by(simp (disch:=omega) only [go_sem,m0K,hne]<;>repeat' first|rfl|refine⟨?_,?_⟩)) (by exact gC)) ?_;by_cases z0:sw=0
  ·have z1:((sw:Nat):Int)=0:=by omega
   rw [if_pos z0];(focus (refine wkad (w_2 m0K z1) w_t w_t ?_;(repeat' first|exact w_t|apply w_l);all_goals intros));simp (disch:=omega) only [go_sem];refine Zap (Sub.refl _) ⟨rfl,rfl⟩ λk hk=>?_;simp (disch:=omega) only [go_sem];exact hL k
  ·have z1:¬((sw:Nat):Int)=0:=by omega
   rw [if_neg z0];by_cases z2:sw=12
   ·have z3:((sw:Nat):Int)=12:=by omega
    rw [if_pos z2];(focus (refine wkad (w_2 m0K z3) w_t w_t ?_;(repeat' first|exact w_t|apply w_l);all_goals intros));simp (disch:=omega) only [go_sem];refine Zap (Sub.refl _) ⟨rfl,rfl⟩ λk hk=>?_;simp (disch:=omega) only [go_sem];exact hL k
   ·have z3:¬((sw:Nat):Int)=12:=by omega
    rw [if_neg z2];(focus (refine wkad (w_3 m0K z1 z3) w_t w_t ?_;(repeat' first|exact w_t|apply w_l);all_goals intros));simp (disch:=omega) only [go_sem];refine Zap (Sub.refl _) ⟨rfl,rfl⟩ λk hk=>?_;simp (disch:=omega) only [go_sem];exact hL k
end Go.Proofs.YtjekhacnoopdpaaGreatDoor
namespace Go.Pg
open Go Go.RowKit
theorem EntSub.of_sh (e:Ent):EntSub e.sh e:=⟨(Ent.sh_blk e).symm,λ_ _ _ h=>Ent.of_sh h⟩
theorem Zgk {P:Program} {f n:Nat} {fn:Func} {code:Code} {rs:List ResultVar} {args:List AV} {σ:Mem} {R:AV→Mem→Prop} (hf:P.funcs[f]?=some fn) (hb:fn.body=some code) (hn:fn.ntmps=n) (hrs:fn.results=rs.toArray)
 (hc:∀(vs:Array Value) (w:World),(callFunc f vs).run P w=.ok (.enter f vs) w) (hfit:Zbn n code=true) (hal:args.length≤n)
 (h:Za4 P 0 n code (Done P rs λst b=>Zxr R b st.mem) ⟨λt=>(AV.shL args).getD t .u,Zds σ⟩):ACall P f args σ R:=by
 have key:=Zb1 (σ:=Zds σ) (R:=Zxr R) hf hb hn hrs hc hfit (by rw [AV.shL_len];exact hal) h;refine⟨hc,λc w imm vs hm hl hr=>?_⟩
 have hm':Mx c (Zds σ) w imm:=by
  refine⟨⟨λk e hk=>?_,λk k' e e' b h1 h2 h3 h4=>?_,hm.ok.lt,hm.ok.spot⟩,hm.below,hm.lt,hm.old,hm.new,hm.cells⟩
  ·unfold Zds at hk;split at hk
   ·cases hk
   ·obtain⟨e0,h0,rfl⟩:=Option.map_eq_some_iff.1 hk;exact Ent.sh_ok (hm.ok.ent _ _ h0)
  ·unfold Zds at h1 h2;split at h1
   ·cases h1
   ·split at h2
    ·cases h2
    ·obtain⟨e0,k0,rfl⟩:=Option.map_eq_some_iff.1 h1;obtain⟨e1,k1,rfl⟩:=Option.map_eq_some_iff.1 h2;rw [Ent.sh_blk] at h3 h4;have:=hm.ok.apart _ _ _ _ b k0 k1 h3 h4;omega
 refine(key.2 c w imm vs hm' (by rw [AV.shL_len];exact hl) λj a x h1 h2=>?_).mono λe w' he=>?_
 ·rw [AV.shL_at] at h1;obtain⟨y,hy,rfl⟩:=Option.map_eq_some_iff.1 h1;exact(AV.sub_sh y).1 w imm x (hr j y x hy h2)
 ·obtain⟨b,m,imm',x,rfl,⟨r,σ',ρ,h1,h2,h3,h4⟩,h5,h6,h7⟩:=he;exact⟨r,σ',imm',x,rfl,h2,h1 _ _ _ h5,h6.renameG ρ h3 h4,h7⟩
theorem Zh2 {R:AV→Mem→Prop} {b r:AV} {m σ σ':Mem} (d t:Nat) (hd:d < 1000) (hs:Sub b r) (hR:R r σ') (ht:m d=σ' t) (hm:∀k,k≠t→σ' k≠none→m (k+1000)=(σ' k).map Ent.sh):Zxr R b m :=
 ⟨r,σ',λk=>if k=t then d else k+1000,hs,hR,λk e h=>by
  by_cases hk:k=t
  ·subst hk;simp only [if_true];exact⟨e,by rw [ht,h],EntSub.refl _⟩
  ·simp only [if_neg hk];exact⟨e.sh,by rw [hm k hk (by rw [h];simp),h];rfl,EntSub.of_sh e⟩,λk k' _ _ h=>by
  by_cases hk:k=t<;>by_cases hk':k'=t
  ·rw [hk,hk']
  ·simp only [if_pos hk,if_neg hk'] at h;omega
  ·simp only [if_neg hk,if_pos hk'] at h;omega
  ·simp only [if_neg hk,if_neg hk'] at h;omega⟩
theorem Zg1 {P:Program} {tok:Nat} {all:List Oper} {K K':St→Prop} (h:∀st,K st→K' st):∀(ops:List Oper) (st:St),Zbh P tok all ops K st→Zbh P tok all ops K' st
 | [],st,hk=>h st hk
 | ⟨d,op,t,pos,af,none⟩ :: r,st,hk=>Zfc (Zg1 h r) _ _ _ _ hk
 | ⟨d,op,t,pos,af,some (j,want)⟩ :: r,st,hk=>by
   rw [Zik] at hk ⊢;refine⟨hk.1,?_⟩;have h2:=hk.2;split at h2
   ·rename_i hc;rw [if_pos hc];exact Zfc (Zg1 h r) _ _ _ _ h2
   ·rename_i hc;rw [if_neg hc];exact Zg1 h r _ h2
theorem Zsi {P:Program} {n:Nat} {code:Code} {Q Q':AE→St→Prop} {st:St} (h:∀ae st,Q ae st→Q' ae st) (k:AWP P n code Q st):AWP P n code Q' st :=
 λc a w imm hr=>Code.wp_mono (λ_ _ _ hp=>Zvf h hp) (k c a w imm hr)
theorem Zt1 {next next':St→Prop} {Q Q':AE→St→Prop} (h1:∀st,next st→next' st) (h:∀ae st,Q ae st→Q' ae st):∀ae st,AE.then next Q ae st→AE.then next' Q' ae st
 | .normal,st,k=>h1 st k
 | .exit _,st,k=>h _ st k
 | .ret,st,k=>h _ st k
theorem Zod {id:Nat} {Q Q':AE→St→Prop} (h:∀ae st,Q ae st→Q' ae st):∀ae st,AE.inBlock id Q ae st→AE.inBlock id Q' ae st
 | .normal,st,k=>h _ st k
 | .exit i,st,k=>by
   simp only [AE.inBlock] at k ⊢;split at k
   ·rename_i e;rw [if_pos e];exact h _ st k
   ·rename_i e;rw [if_neg e];exact h _ st k
 | .ret,st,k=>h _ st k
theorem Zg2 {P:Program} {n:Nat}:∀(code:Code) {Q Q':AE→St→Prop} (st:St),(∀ae st,Q ae st→Q' ae st)→Za4 P 0 n code Q st→Za4 P 0 n code Q' st:=by
 intro code
 induction code with
 | skip=>exact λst h k=>h _ _ k
 | region id ops d=>cases d with
   | false=>exact λst h k=>Zg1 (h _) _ _ k
   | true=>exact λst h k=>Zsi h k
 | seq x y ihx ihy=>exact λst h k=>ihx st (Zt1 (λst'=>ihy st' h) h) k
 | cond o x y ihx ihy =>
   intro Q Q' st h k;unfold Za4 at k ⊢;split at k
   ·exact⟨λe=>ihx st h (k.1 e),λe=>ihy st h (k.2 e)⟩
   ·exact k.elim
 | block id x ih=>exact λst h k=>ih st (Zod h) k
 | exit id=>exact λst h k=>h _ _ k
 | ret=>exact λst h k=>h _ _ k
 | _=>exact λst h k=>Zsi h k
section
variable {P:Program} {n:Nat} {Q:AE→St→Prop} {e:Nat→AV} {m:Mem}
theorem Zf6 {body:Code} (J:(Nat→AV)→Mem→Prop) (k:Nat)
 (h1:Za4 P 0 n (.loop body) (λae st=>ae=.exit k∧J st.env st.mem) ⟨e,m⟩) (h2:∀e m,J e m→Q (.exit k) ⟨e,m⟩):Za4 P 0 n (.loop body) Q ⟨e,m⟩ :=
 Zg2 _ _ (λ_ _ ⟨h,j⟩=>by subst h;exact h2 _ _ j) h1
theorem Zst {t:Bool} {x y:Code} (J:(Nat→AV)→Mem→Prop)
 (h1:CG P n t x y (λae st=>ae=.normal∧J st.env st.mem) ⟨e,m⟩) (h2:∀e m,J e m→Q .normal ⟨e,m⟩):CG P n t x y Q ⟨e,m⟩:=by
 cases t with
 | true=>exact Zg2 x _ (λ_ _ ⟨h,j⟩=>by subst h;exact h2 _ _ j) h1
 | false=>exact Zg2 y _ (λ_ _ ⟨h,j⟩=>by subst h;exact h2 _ _ j) h1
theorem r_fork {x:Code} (J:(Nat→AV)→Mem→Prop) (h2:∀e m,J e m→Q .normal ⟨e,m⟩)
 (h1:Za4 P 0 n x (λae st=>(ae=.normal∧J st.env st.mem)∨(ae=.ret∧Q .ret st)) ⟨e,m⟩):Za4 P 0 n x Q ⟨e,m⟩ :=
 Zg2 _ _ (λ_ _ h=>by
  rcases h with⟨h,j⟩ | ⟨h,j⟩
  ·subst h;exact h2 _ _ j
  ·subst h;exact j) h1
theorem Zq6 {x:Code} {st:St} (h:∀R:AE→St→Prop,(∀ae st,Q ae st→R ae st)→Za4 P 0 n x R st):Za4 P 0 n x Q st:=h Q λ_ _ h=>h
end
end Go.Pg
namespace Go.Proofs.YtjekhacnoopdpaaGreatDoor
open Go Go.RowKit Go.Pg Go.Pol
attribute [-bool_to_prop] Bool.and_eq_decide Bool.or_eq_decide Bool.decide_beq_decide decide_eq_decide
attribute [local go_sem] Tryz.underlying3 Tryz.underlying4 Tryz.underlying172 Tryz.underlying25 Tryz.underlying47 Tryz.underlying49 Tryz.underlying22 Tryz.underlying23 sz3 by3 z3 szB zB Zaj Zaw Zak Bool.and_self Zan Zbs zSlQ szQT byQT zQT Zby zSlT szQP zQP Tryz.underlying289 Tryz.underlying315 Tryz.underlying153 szXs byXs zXs
theorem stBreak (σ:Mem) (K:Nat) (sv:Value) (d:Array TQ) (a b:Nat) (hab:a+12 < b) (hb:b≤d.size) (hK:σ K=some (.row sv 49 4 ((d).toList.map tqA) 0)) (hz:d.size≤1000000000):ACall Tryz.prog 284 [.own K sv,iv a,iv b,.fn 152 []] σ λr σ'=>r=.tup []∧σ'=upd σ K (some (.row sv 49 4 ((Go.Sort.breakPatterns d a b).toList.map tqA) 0)):=by
 refine Za9 (args':=[.own (K+1000) sv,iv a,iv b,.fn 152 []]) Tryz.func284 rfl Tryz.ntmps284 Tryz.results284 Tryz.call284 (by rfl) (by simp) (.cons (Sub.own _ _ _) (.cons (Sub.refl _) (.cons (Sub.refl _) (.cons (Sub.refl _) .nil)))) ?_;have hL:∀k,lent σ (k+1000)=σ k:=λk=>by unfold lent;rw [if_neg (by omega),Nat.add_sub_cancel]
 generalize lent σ=m0 at *;have m0K:m0 (K+1000)=some (.row sv 49 4 ((d).toList.map tqA) 0):=by rw [hL,hK]
 obtain⟨l,hl⟩:∃l,l=b - a:=⟨_,rfl⟩;obtain⟨i0,hi0⟩:∃x,x=a+l/4*2 - 1:=⟨_,rfl⟩;have el:(b:Int) - (a:Int)=(l:Int):=by omega
 have h8:(8:Int)≤(l:Int):=by omega
 have e1:((l:Nat):Int).tdiv 4=((l/4:Nat):Int):=rfl;have e2:((l/4:Nat):Int)*2=((l/4*2:Nat):Int):=by omega
 have e3:(a:Int)+((l/4*2:Nat):Int)=((i0+1:Nat):Int):=by omega
 have e4:((i0+1:Nat):Int) - 1=(i0:Int):=by omega
 have e5:((i0+1:Nat):Int)+1=((i0+2:Nat):Int):=by omega
 have cn:=sNextPow l (by omega);have hbl:=Zg0 (x:=l) (by omega);have hlt:=Go.Sort.lt_two_pow_bitsLen l;have hle:=Go.Sort.two_pow_bitsLen_le (n:=l) (by omega);obtain⟨M1,hM1⟩:∃x,2 ^ Go.Sort.bitsLen l=x+1:=⟨2 ^ Go.Sort.bitsLen l - 1,by omega⟩;have hMm:1 <<< Go.Sort.bitsLen l=M1+1:=by rw [Nat.one_shiftLeft,hM1]
 have e6:((M1+1:Nat):Int) - 1=(M1:Int):=by omega
 rw [hM1] at cn
 have hB:Go.Sort.breakPatterns d a b=(Go.Sort.breakStep a l (M1+1) (Go.Sort.breakStep a l (M1+1) (Go.Sort.breakStep a l (M1+1) (UInt64.ofNat l,d) i0) (i0+1)) (i0+2)).2:=by
  unfold Go.Sort.breakPatterns;rw [←hl];simp only;rw [if_pos (show l ≥ 8 by omega),hMm,←hi0]
 have hst:∀(st:UInt64 × Array TQ) (idx:Nat),(Go.Sort.breakStep a l (M1+1) st idx).1.toNat=Go.Sort.xorNextN st.1.toNat∧∀ot,ot=Go.Sort.xorNextN st.1.toNat &&& M1→(Go.Sort.breakStep a l (M1+1) st idx).2=Go.Sort.swp st.2 idx (a+if ot ≥ l then ot - l else ot):=by
  intro st idx;unfold Go.Sort.breakStep;simp only;rw [Go.Sort.xorNext_toNat];exact⟨rfl,λot h=>by rw [h];rfl⟩
 rw [hB];clear hB;generalize hV:(Go.Sort.breakStep a l (M1+1) (Go.Sort.breakStep a l (M1+1) (Go.Sort.breakStep a l (M1+1) (UInt64.ofNat l,d) i0) (i0+1)) (i0+2)).2=V at *;have hu:(UInt64.ofNat l).toNat=l:=by rw [UInt64.toNat_ofNat'];exact Nat.mod_eq_of_lt (by omega)
 (focus (refine wkad (w_7 m0K el h8 e1 e2 e3 e4) (w_1 cn) w_t ?_;(repeat' first|exact w_t|apply w_l);all_goals intros));rename_i g9
 generalize hbn:(fun(n:Nat) (st:UInt64 × Array TQ)=>match n with
  | 0=>st.2
  | 1=>(Go.Sort.breakStep a l (M1+1) st (i0+2)).2
  | 2=>(Go.Sort.breakStep a l (M1+1) (Go.Sort.breakStep a l (M1+1) st (i0+1)) (i0+2)).2
  | _=>(Go.Sort.breakStep a l (M1+1) (Go.Sort.breakStep a l (M1+1) (Go.Sort.breakStep a l (M1+1) st i0) (i0+1)) (i0+2)).2)=bn
 have hb3:bn 3 (UInt64.ofNat l,d)=V:=by rw [←hbn];exact hV
 have hb0:∀st,bn 0 st=st.2:=λst=>by rw [←hbn];rfl
 have hbs:∀n,n < 3→∀st,bn (n+1) st=bn n (Go.Sort.breakStep a l (M1+1) st (i0+2 - n)):=by
  intro n hn st;rw [←hbn]
  match n,hn with
  | 0,_=>rfl
  | 1,_=>rfl
  | 2,_=>rfl
 clear hbn hV;refine Zad (ι:=Nat × (UInt64 × Array TQ)) (λp e m=>(p.1≤3∧p.2.2.size=d.size∧bn p.1 p.2=V)∧(e 0=.own (K+1000) sv∧e 1=iv a∧e 8=iv l∧e 9=.pbox 9 g9 0∧e 10=u64A (M1+1)∧e 11=iv (i0+3 - p.1:Nat))∧m 9=some (.box g9 289 [u64A p.2.1.toNat] false)∧(∀k,k≠K→m (k+1000)=σ k)∧m (K+1000)=some (.row sv 49 4 ((p.2.2).toList.map tqA) 0)) (λp=>p.1) (3,(UInt64.ofNat l,d)) (by rfl) ?_ ?_
 ·rintro ⟨n,⟨x,dk⟩⟩ e m ⟨⟨hn,hsz,hO⟩,⟨q0,q1,q8,q9,q10,q11⟩,m9,hm,mK⟩
  simp only at hn hsz hO q11 m9 mK
  cases n with
  | zero =>
    rw [hb0] at hO;simp only at hO;rw [hO] at mK;have q11:e 11=iv (i0+3:Nat):=q11;have hx:¬((i0+3:Nat):Int)≤((i0+2:Nat):Int):=by omega
    generalize i0+3=i3 at *;generalize i0+2=i2 at *;(focus (refine wkad (w_11 q0 q1 q8 q9 q10 q11 e1 e2 e3 e5 hx) w_t w_t ?_;(repeat' first|exact w_t|apply w_l);all_goals intros));simp (disch:=omega) only [go_sem];refine Zap (Sub.refl _) ⟨rfl,rfl⟩ λk hk=>?_;by_cases e:k=K
    ·subst e;rw [mK];simp only [Zac,if_pos]
    ·rw [hm k e];simp only [Zac,if_neg e]
  | succ n =>
    rw [hbs n (by omega)] at hO;obtain⟨idx,hidx⟩:∃y,y=i0+2 - n:=⟨_,rfl⟩;rw [show i0+3 - (n+1)=idx by omega] at q11;rw [←hidx] at hO;have hx:(idx:Int)≤((i0+2:Nat):Int):=by omega
    have hnx:i0+3 - n=idx+1:=by omega
    have hib:a≤idx∧idx < b:=by omega
    obtain⟨s1,s2⟩:=hst (x,dk) idx;simp only at s1 s2;obtain⟨ot,hot⟩:∃y,y=Go.Sort.xorNextN x.toNat &&& M1:=⟨_,rfl⟩;have s2:=s2 ot hot;generalize Go.Sort.breakStep a l (M1+1) (x,dk) idx=stn at *;obtain⟨x',dn⟩:=stn;simp only at s1 s2;have hxl:x.toNat < 18446744073709551616:=x.toNat_lt;have hXl:=Go.Sort.xorNextN_lt x.toNat hxl;have cx:=fun(m:Mem) h=>sNext m 9 g9 x.toNat hxl h;have ha:=and_u64 (a:=Go.Sort.xorNextN x.toNat) (b:=M1) hXl (by omega);rw [←hot] at ha;have hotl:ot≤M1:=by rw [hot];exact Nat.and_le_right
    rw [←s1] at cx ha;clear s1 hot hXl hxl;generalize hX':x'.toNat=X' at *;have hml:=Zbm tqA dk;rw [hsz] at hml;have gi:(dk.toList.map tqA).getD idx .u=tqA dk[idx]!:=Zay tqA (by omega) _;generalize i0+2=i2 at *;by_cases hge:ot ≥ l
    ·rw [if_pos hge] at s2;obtain⟨o2,ho2⟩:∃y,y=ot - l:=⟨_,rfl⟩;obtain⟨y,hy⟩:∃y,y=a+o2:=⟨_,rfl⟩;rw [←ho2,←hy] at s2;have f1:(l:Int)≤(ot:Int):=by omega
     have f2:(ot:Int) - (l:Int)=(o2:Int):=by omega
     have f3:(a:Int)+(o2:Int)=(y:Int):=by omega
     have hyl:y < d.size:=by omega
     have hil:idx < d.size:=by omega
     have gy:(dk.toList.map tqA).getD y .u=tqA dk[y]!:=Zay tqA (by omega) _;have hs:=Zcd tqA dk idx y;have g3:=Zce tqA (d:=dk) (j:=y) (by omega) idx AV.u;have hsw:dn.size=d.size:=by rw [s2,Go.Sort.size_swp,hsz]
     rw [←s2] at hs;clear s2 ho2 hy hidx;generalize dk[idx]! = vx at *;generalize dk[y]! = vy at *;generalize dk.toList.map tqA=M at *;obtain⟨⟨vx1,vx2⟩,vx3⟩:=vx;obtain⟨⟨vy1,vy2⟩,vy3⟩:=vy
     try simp only [tqA] at *
     (focus (refine wkad (w_12 q0 q1 q8 q9 q10 q11 e1 e2 e3 e5 hx m9) w_t w_t ?_;(repeat' first|exact w_t|apply w_l);all_goals intros));refine Zbj (cx _ (by exact gW m9)) ?_;(focus (refine wkad (w_17 q0 q1 q8 q9 q10 q11 e6 ha f1 f2 f3 mK gi gy g3 hml @Zel) w_t (w_1 (w_d 10 [] [17,2017,18,19] [])) ?_;(repeat' first|exact w_t|apply w_l);all_goals intros));exact⟨(n,(x',dn)),⟨⟨by show n≤3;omega,hsw,hO⟩,⟨by exact gW q0,by exact gW q1,by exact gW q8,by exact gW q9,by exact gW q10,by simp only;rw [hnx];exact gS⟩,by simp only;rw [hX'];exact gC,λk hk=>by rw [←hm k hk];try simp (disch:=omega) [Zac,marks,mark,hk],by simp only;rw [←hs];exact gC⟩,by show n < n+1;omega⟩
    ·rw [if_neg hge] at s2;obtain⟨y,hy⟩:∃y,y=a+ot:=⟨_,rfl⟩;rw [←hy] at s2;have f1:¬(l:Int)≤(ot:Int):=by omega
     have f3:(a:Int)+(ot:Int)=(y:Int):=by omega
     have hyl:y < d.size:=by omega
     have hil:idx < d.size:=by omega
     have gy:(dk.toList.map tqA).getD y .u=tqA dk[y]!:=Zay tqA (by omega) _;have hs:=Zcd tqA dk idx y;have g3:=Zce tqA (d:=dk) (j:=y) (by omega) idx AV.u;have hsw:dn.size=d.size:=by rw [s2,Go.Sort.size_swp,hsz]
     rw [←s2] at hs;clear s2 hy hidx;generalize dk[idx]! = vx at *;generalize dk[y]! = vy at *;generalize dk.toList.map tqA=M at *;obtain⟨⟨vx1,vx2⟩,vx3⟩:=vx;obtain⟨⟨vy1,vy2⟩,vy3⟩:=vy
     try simp only [tqA] at *
     (focus (refine wkad (w_12 q0 q1 q8 q9 q10 q11 e1 e2 e3 e5 hx m9) w_t w_t ?_;(repeat' first|exact w_t|apply w_l);all_goals intros));refine Zbj (cx _ (by exact gW m9)) ?_;(focus (refine wkad (w_16 q0 q1 q8 q9 q10 q11 e6 ha f1 f3 mK gi gy g3 hml @Zel) w_t (w_1 (w_d 10 [] [17,2017,18,19] [])) ?_;(repeat' first|exact w_t|apply w_l);all_goals intros));exact⟨(n,(x',dn)),⟨⟨by show n≤3;omega,hsw,hO⟩,⟨by exact gW q0,by exact gW q1,by exact gW q8,by exact gW q9,by exact gW q10,by simp only;rw [hnx];exact gS⟩,by simp only;rw [hX'];exact gC,λk hk=>by rw [←hm k hk];try simp (disch:=omega) [Zac,marks,mark,hk],by simp only;rw [←hs];exact gC⟩,by show n < n+1;omega⟩
 ·exact⟨⟨Nat.le_refl _,rfl,hb3⟩,⟨by exact gC,by exact gC,by exact gC,by exact gC,by exact gC,by simp only;rw [show i0+3 - 3=i0 by omega];exact gC⟩,by simp only;rw [hu];exact gC,λk hk=>by rw [←hL k];try simp (disch:=omega) [Zac,marks,mark],by(simp (disch:=omega) only [go_sem,m0K]<;>repeat' first|rfl|refine⟨?_,?_⟩)⟩
theorem stPart (σ:Mem) (K:Nat) (sv:Value) (d:Array TQ) (a b pv:Nat) (hab:a+1 < b) (hb:b≤d.size) (hp1:a≤pv) (hp2:pv < b) (hK:σ K=some (.row sv 49 4 ((d).toList.map tqA) 0)) (hz:d.size≤1000000000):ACall Tryz.prog 289 [.own K sv,iv a,iv b,iv pv,.fn 152 []] σ λr σ'=>r=.tup [iv (Go.Sort.partition stLt d a b pv).1,.v (.bool (Go.Sort.partition stLt d a b pv).2.1)]∧σ'=upd σ K (some (.row sv 49 4 (((Go.Sort.partition stLt d a b pv).2.2).toList.map tqA) 0)):=by
 refine Za9 (args':=[.own (K+1000) sv,iv a,iv b,iv pv,.fn 152 []]) Tryz.func289 rfl Tryz.ntmps289 Tryz.results289 Tryz.call289 (by rfl) (by simp) (.cons (Sub.own _ _ _) (.cons (Sub.refl _) (.cons (Sub.refl _) (.cons (Sub.refl _) (.cons (Sub.refl _) .nil))))) ?_;have hL:∀k,lent σ (k+1000)=σ k:=λk=>by unfold lent;rw [if_neg (by omega),Nat.add_sub_cancel]
 generalize lent σ=m0 at *;have m0K:m0 (K+1000)=some (.row sv 49 4 ((d).toList.map tqA) 0):=by rw [hL,hK]
 obtain⟨b1,hb1⟩:∃x,x=b - 1:=⟨_,rfl⟩;have cb:(b:Int) - 1=(b1:Int):=by omega
 have ca:(a:Int)+1=((a+1:Nat):Int):=by omega
 obtain⟨dk,hdk⟩:∃x,x=Go.Sort.swp d a pv:=⟨_,rfl⟩;obtain⟨i2,hi2⟩:∃x,x=Go.Sort.scanUp (λx=>stLt x dk[a]!) dk b1 (a+1):=⟨_,rfl⟩;obtain⟨j2,hj2⟩:∃x,x=Go.Sort.scanDown (λx=>!stLt x dk[a]!) dk i2 b1:=⟨_,rfl⟩;have hs1:=hi2;have hs2:=hj2;rw [hb1] at hs1 hs2;have P1:=λh=>Go.Pol.part_1 hdk hs1 hs2 h;have P2:=λh (r:Nat × Array TQ)=>Go.Pol.part_2 hdk hs1 hs2 h (r:=r);clear hs1 hs2;have hml:=Zbm tqA d;have gx:(d.toList.map tqA).getD a .u=tqA d[a]!:=Zay tqA (by omega) _;have gy:(d.toList.map tqA).getD pv .u=tqA d[pv]!:=Zay tqA (by omega) _;have hxl:a < d.size:=by omega
 have hyl:pv < d.size:=by omega
 have hs:=Zcd tqA d a pv;have g3:=Zce tqA (d:=d) (j:=pv) (by omega) a AV.u;have hsz:(Go.Sort.swp d a pv).size=d.size:=by rw [Go.Sort.size_swp]
 rw [←hdk] at hs hsz;clear hdk hK;generalize d[a]! = vx at *;generalize d[pv]! = vy at *;generalize d.toList.map tqA=M at *;obtain⟨⟨vx1,vx2⟩,vx3⟩:=vx;obtain⟨⟨vy1,vy2⟩,vy3⟩:=vy
 try simp only [tqA] at *
 (focus (refine wkad (w_8 m0K gx gy g3 hml cb ca @Zel) w_t (w_1 (w_d 1 [] [13,2013,14,15] [])) ?_;(repeat' first|exact w_t|apply w_l);all_goals intros));refine Zf6 (λe m=>((a+1)≤i2∧i2≤b)∧(e 0=.own (K+1000) sv∧e 1=iv a∧e 4=.fn 152 [])∧e 12=iv i2∧e 13=iv b1∧(∀k,k≠K→m (k+1000)=σ k)∧m (K+1000)=some (.row sv 49 4 ((dk).toList.map tqA) 0)) 0 ?_ ?_
 ·refine Zad (ι:=Nat) (λi e m=>((a+1)≤i∧i≤b∧Go.Sort.scanUp (λx=>stLt x dk[a]!) dk b1 i=i2)∧(e 0=.own (K+1000) sv∧e 1=iv a∧e 4=.fn 152 [])∧e 12=iv i∧e 13=iv b1∧(∀k,k≠K→m (k+1000)=σ k)∧m (K+1000)=some (.row sv 49 4 ((dk).toList.map tqA) 0)) (λi=>b1+1 - i) (a+1) (by rfl) ?_ ?_
  ·rintro i e m ⟨⟨hv1,hv2,hO⟩,⟨q0,q1,q4⟩,ei,ej,hm,mK⟩
   by_cases hij:i≤b1
   ·have hml:=Zbm tqA dk;rw [hsz] at hml;have gv:(dk.toList.map tqA).getD i .u=tqA dk[i]!:=Zay tqA (by omega) _;have ga:(dk.toList.map tqA).getD a .u=tqA dk[a]!:=Zay tqA (by omega) _;have cc:=Zg3 dk[i]! dk[a]!;have hvl:i < d.size:=by omega
    have hij':=hij;have hij:(i:Int)≤(b1:Int):=by omega
    by_cases hp:ordT dk[i]!.1 dk[a]!.1 < 0
    ·
     rw [Zln (p:=(λx=>stLt x dk[a]!)) (by omega) (show(λx=>stLt x dk[a]!) dk[i]! = true from Zfw hp)] at hO;generalize hz1:ordT dk[i]!.1 dk[a]!.1=z at *;clear hz1;generalize dk[i]! = vx at *;generalize dk[a]! = vy at *;generalize hM:dk.toList.map tqA=M at *;obtain⟨⟨vx1,vx2⟩,vx3⟩:=vx;obtain⟨⟨vy1,vy2⟩,vy3⟩:=vy
     try simp only [tqA] at *
     (focus (refine wkad (w_11 q0 q1 q4 ei ej mK gv ga hml hij hp) (w_1 cc) (w_1 (w_d 3 [(13,iv z)] [] [])) ?_;(repeat' first|exact w_t|apply w_l);all_goals intros));exact⟨i+1,⟨⟨by omega,by omega,hO⟩,⟨by exact gW q0,by exact gW q1,by exact gW q4⟩,by exact gS,by exact gW ej,λk hk=>by rw [←hm k hk];try simp (disch:=omega) [Zac,marks,mark,hk],by(simp (disch:=omega) only [go_sem,mK]<;>repeat' first|rfl|refine⟨?_,?_⟩)⟩,by show b1+1 - (i+1) < b1+1 - i;omega⟩
    ·
     rw [Zgo (p:=(λx=>stLt x dk[a]!)) (by rintro ⟨-,h⟩;rw [show stLt dk[i]! dk[a]! = false from Ze4 hp] at h;cases h)] at hO;subst hO;generalize hz1:ordT dk[i]!.1 dk[a]!.1=z at *;clear hz1;generalize dk[i]! = vx at *;generalize dk[a]! = vy at *;generalize hM:dk.toList.map tqA=M at *;obtain⟨⟨vx1,vx2⟩,vx3⟩:=vx;obtain⟨⟨vy1,vy2⟩,vy3⟩:=vy
     try simp only [tqA] at *
     (focus (refine wkad (w_11 q0 q1 q4 ei ej mK gv ga hml hij hp) (w_1 cc) (w_1 (w_d 3 [(13,iv z)] [] [])) ?_;(repeat' first|exact w_t|apply w_l);all_goals intros));exact⟨rfl,⟨by omega,by omega⟩,⟨by exact gW q0,by exact gW q1,by exact gW q4⟩,by exact gW ei,by exact gW ej,λk hk=>by rw [←hm k hk];try simp (disch:=omega) [Zac,marks,mark,hk],by(simp (disch:=omega) only [go_sem,mK]<;>repeat' first|rfl|refine⟨?_,?_⟩)⟩
   ·
    rw [Zgo (λh=>hij h.1)] at hO;subst hO;have hij:¬(i:Int)≤(b1:Int):=by omega
    (focus (refine wkad (w_6 q0 q1 q4 ei ej hij) w_t (w_1 (w_d 3 [] [] [])) ?_;(repeat' first|exact w_t|apply w_l);all_goals intros));exact⟨rfl,⟨by omega,by omega⟩,⟨by exact gW q0,by exact gW q1,by exact gW q4⟩,by exact gW ei,by exact gW ej,λk hk=>by rw [←hm k hk];try simp (disch:=omega) [Zac,marks,mark,hk],by(simp (disch:=omega) only [go_sem,mK]<;>repeat' first|rfl|refine⟨?_,?_⟩)⟩
  ·exact⟨⟨by omega,by omega,by rw [hi2]⟩,⟨by exact gC,by exact gC,by exact gC⟩,by exact gC,by exact gC,λk hk=>by rw [←hL k];try simp (disch:=omega) [Zac,marks,mark,hk],by rw [←hs];exact gC⟩
 ·rintro e m ⟨⟨hi21,hi22⟩,⟨q0,q1,q4⟩,ei,ej,hm,mK⟩
  clear hs g3;(focus (refine wkad (w_5 q0 q1 q4 ei ej) w_t w_t ?_;(repeat' first|exact w_t|apply w_l);all_goals intros));refine Zf6 (λe m=>(a≤j2∧j2≤b1)∧(e 0=.own (K+1000) sv∧e 1=iv a∧e 4=.fn 152 [])∧e 12=iv i2∧e 13=iv j2∧(∀k,k≠K→m (k+1000)=σ k)∧m (K+1000)=some (.row sv 49 4 ((dk).toList.map tqA) 0)) 2 ?_ ?_
  ·refine Zad (ι:=Nat) (λj e m=>(a≤j∧j≤b1∧Go.Sort.scanDown (λx=>!stLt x dk[a]!) dk i2 j=j2)∧(e 0=.own (K+1000) sv∧e 1=iv a∧e 4=.fn 152 [])∧e 12=iv i2∧e 13=iv j∧(∀k,k≠K→m (k+1000)=σ k)∧m (K+1000)=some (.row sv 49 4 ((dk).toList.map tqA) 0)) (λj=>j) b1 (by rfl) ?_ ?_
   ·rintro j e m ⟨⟨hv1,hv2,hO⟩,⟨q0,q1,q4⟩,ei,ej,hm,mK⟩
    by_cases hij:i2≤j
    ·have hml:=Zbm tqA dk;rw [hsz] at hml;have gv:(dk.toList.map tqA).getD j .u=tqA dk[j]!:=Zay tqA (by omega) _;have ga:(dk.toList.map tqA).getD a .u=tqA dk[a]!:=Zay tqA (by omega) _;have cc:=Zg3 dk[j]! dk[a]!;have hvl:j < d.size:=by omega
     have hij':=hij;have hij:(i2:Int)≤(j:Int):=by omega
     by_cases hp:ordT dk[j]!.1 dk[a]!.1 < 0
     ·
      rw [Zd6 (p:=(λx=>!stLt x dk[a]!)) (by rintro ⟨-,h⟩;rw [show(!stLt dk[j]! dk[a]!)=false from by rw [show stLt dk[j]! dk[a]! = true from Zfw hp];rfl] at h;cases h)] at hO;subst hO;generalize hz1:ordT dk[j]!.1 dk[a]!.1=z at *;clear hz1;generalize dk[j]! = vx at *;generalize dk[a]! = vy at *;generalize hM:dk.toList.map tqA=M at *;obtain⟨⟨vx1,vx2⟩,vx3⟩:=vx;obtain⟨⟨vy1,vy2⟩,vy3⟩:=vy
      try simp only [tqA] at *
      (focus (refine wkad (w_11 q0 q1 q4 ei ej mK gv ga hml hij hp) (w_1 cc) (w_1 (w_d 5 [(13,iv z)] [] [])) ?_;(repeat' first|exact w_t|apply w_l);all_goals intros));exact⟨rfl,⟨by omega,by omega⟩,⟨by exact gW q0,by exact gW q1,by exact gW q4⟩,by exact gW ei,by exact gW ej,λk hk=>by rw [←hm k hk];try simp (disch:=omega) [Zac,marks,mark,hk],by(simp (disch:=omega) only [go_sem,mK]<;>repeat' first|rfl|refine⟨?_,?_⟩)⟩
     ·
      obtain⟨j,rfl⟩:∃t,j=t+1:=⟨j - 1,by omega⟩;rw [Zh7 (p:=(λx=>!stLt x dk[a]!)) (by omega) (show(λx=>!stLt x dk[a]!) dk[j+1]! = true from by show(!stLt dk[j+1]! dk[a]!)=true;rw [show stLt dk[j+1]! dk[a]! = false from Ze4 hp];rfl)] at hO;have en:((j+1:Nat):Int) - 1=(j:Int):=by omega
      generalize hz1:ordT dk[j+1]!.1 dk[a]!.1=z at *;clear hz1;generalize dk[j+1]! = vx at *;generalize dk[a]! = vy at *;generalize hM:dk.toList.map tqA=M at *;obtain⟨⟨vx1,vx2⟩,vx3⟩:=vx;obtain⟨⟨vy1,vy2⟩,vy3⟩:=vy
      try simp only [tqA] at *
      generalize hj1:j+1=j1 at *;(focus (refine wkad (w_11 q0 q1 q4 ei ej mK gv ga hml hij hp) (w_1 cc) (w_1 (w_d 5 [(13,iv z)] [] [])) ?_;(repeat' first|exact w_t|apply w_l);all_goals intros));subst hj1;exact⟨j,⟨⟨by omega,by omega,hO⟩,⟨by exact gW q0,by exact gW q1,by exact gW q4⟩,by exact gW ei,by exact gW en,λk hk=>by rw [←hm k hk];try simp (disch:=omega) [Zac,marks,mark,hk],by(simp (disch:=omega) only [go_sem,mK]<;>repeat' first|rfl|refine⟨?_,?_⟩)⟩,by show j < j+1;omega⟩
    ·
     rw [Zd6 (λh=>hij h.1)] at hO;subst hO;have hij:¬(i2:Int)≤(j:Int):=by omega
     (focus (refine wkad (w_6 q0 q1 q4 ei ej hij) w_t (w_1 (w_d 5 [] [] [])) ?_;(repeat' first|exact w_t|apply w_l);all_goals intros));exact⟨rfl,⟨by omega,by omega⟩,⟨by exact gW q0,by exact gW q1,by exact gW q4⟩,by exact gW ei,by exact gW ej,λk hk=>by rw [←hm k hk];try simp (disch:=omega) [Zac,marks,mark,hk],by(simp (disch:=omega) only [go_sem,mK]<;>repeat' first|rfl|refine⟨?_,?_⟩)⟩
   ·exact⟨⟨by omega,by omega,by rw [hj2]⟩,⟨by exact gW q0,by exact gW q1,by exact gW q4⟩,by exact gW ei,by exact gW ej,λk hk=>by rw [←hm k hk];try simp (disch:=omega) [Zac,marks,mark,hk],by(simp (disch:=omega) only [go_sem,mK]<;>repeat' first|rfl|refine⟨?_,?_⟩)⟩
  ·rintro e m ⟨⟨hj21,hj22⟩,⟨q0,q1,q4⟩,ei,ej,hm,mK⟩
   by_cases hgt:i2 > j2
   ·rw [P1 hgt];clear P1 P2 hi2 hj2;have hgt:(j2:Int) < (i2:Int):=by omega
    have hml:=Zbm tqA dk;rw [hsz] at hml;have gx:(dk.toList.map tqA).getD j2 .u=tqA dk[j2]!:=Zay tqA (by omega) _;have gy:(dk.toList.map tqA).getD a .u=tqA dk[a]!:=Zay tqA (by omega) _;have hxl:j2 < d.size:=by omega
    have hs:=Zcd tqA dk j2 a;have g3:=Zce tqA (d:=dk) (j:=a) (by omega) j2 AV.u;generalize Go.Sort.swp dk j2 a=dn at *;generalize dk[j2]! = vx at *;generalize dk[a]! = vy at *;generalize dk.toList.map tqA=M at *;obtain⟨⟨vx1,vx2⟩,vx3⟩:=vx;obtain⟨⟨vy1,vy2⟩,vy3⟩:=vy
    try simp only [tqA] at *
    (focus (refine wkad (w_12 q0 q1 q4 ei ej mK gx gy g3 hml hgt @Zel) w_t (w_1 (w_d 8 [] [13,2013,14,15] [])) ?_;(repeat' first|exact w_t|apply w_l);all_goals intros));simp (disch:=omega) only [go_sem];refine Zap (Sub.refl _) ⟨rfl,rfl⟩ λk hk=>?_;by_cases e:k=K
    ·subst e;simp only [Zac,if_pos];rw [←hs]
    ·simp only [Zac,if_neg e,if_neg (show ¬k+1000=K+1000 by omega)];exact hm k e
   ·obtain⟨V,hV⟩:∃x,x=Go.Sort.partLoop stLt a (i2+1) (j2 - 1) (Go.Sort.swp dk i2 j2):=⟨_,rfl⟩;rw [P2 hgt V hV];clear P1 P2 hi2 hj2;have hgt:¬(j2:Int) < (i2:Int):=by omega
    have hml:=Zbm tqA dk;rw [hsz] at hml;have gx:(dk.toList.map tqA).getD i2 .u=tqA dk[i2]!:=Zay tqA (by omega) _;have gy:(dk.toList.map tqA).getD j2 .u=tqA dk[j2]!:=Zay tqA (by omega) _;have hxl:i2 < d.size:=by omega
    have hyl:j2 < d.size:=by omega
    have ej1:(j2:Int) - 1=((j2 - 1:Nat):Int):=by omega
    have hs:=Zcd tqA dk i2 j2;have g3:=Zce tqA (d:=dk) (j:=j2) (by omega) i2 AV.u;have hsw:(Go.Sort.swp dk i2 j2).size=d.size:=by rw [Go.Sort.size_swp,hsz]
    generalize Go.Sort.swp dk i2 j2=dn at *;generalize dk[i2]! = vx at *;generalize dk[j2]! = vy at *;generalize dk.toList.map tqA=M at *;obtain⟨⟨vx1,vx2⟩,vx3⟩:=vx;obtain⟨⟨vy1,vy2⟩,vy3⟩:=vy
    try simp only [tqA] at *
    (focus (refine wkad (w_13 q0 q1 q4 ei ej mK gx gy g3 hml hgt ej1 @Zel) w_t (w_1 (w_d 10 [] [13,2013,14,15] [])) ?_;(repeat' first|exact w_t|apply w_l);all_goals intros));have hsz:=hsw;refine Zad (ι:=(Nat × Nat) × Array TQ) (λp e m=>(a < p.1.1∧p.1.1≤b∧a≤p.1.2∧p.1.2 < b∧p.2.size=d.size∧Go.Sort.partLoop stLt a p.1.1 p.1.2 p.2=V)∧(e 0=.own (K+1000) sv∧e 1=iv a∧e 4=.fn 152 [])∧e 12=iv p.1.1∧e 13=iv p.1.2∧(∀k,k≠K→m (k+1000)=σ k)∧m (K+1000)=some (.row sv 49 4 ((p.2).toList.map tqA) 0)) (λp=>p.1.2+1 - p.1.1) ((i2+1,j2 - 1),dn) (by rfl) ?_ ?_
    ·clear hsz
     rintro ⟨⟨i4,j4⟩,dk⟩ e m ⟨⟨hi4,hib,hj4,hjb,hsz,hO⟩,⟨q0,q1,q4⟩,ei,ej,hm,mK⟩
     simp only at hi4 hib hj4 hjb hsz hO ei ej mK;obtain⟨i3,hi3⟩:∃x,x=Go.Sort.scanUp (λx=>stLt x dk[a]!) dk j4 i4:=⟨_,rfl⟩;obtain⟨j3,hj3⟩:∃x,x=Go.Sort.scanDown (λx=>!stLt x dk[a]!) dk i3 j4:=⟨_,rfl⟩;(focus (refine wkad (w_5 q0 q1 q4 ei ej) w_t w_t ?_;(repeat' first|exact w_t|apply w_l);all_goals intros));refine Zf6 (λe m=>(i4≤i3∧i3≤b)∧(e 0=.own (K+1000) sv∧e 1=iv a∧e 4=.fn 152 [])∧e 12=iv i3∧e 13=iv j4∧(∀k,k≠K→m (k+1000)=σ k)∧m (K+1000)=some (.row sv 49 4 ((dk).toList.map tqA) 0)) 6 ?_ ?_
     ·refine Zad (ι:=Nat) (λi e m=>(i4≤i∧i≤b∧Go.Sort.scanUp (λx=>stLt x dk[a]!) dk j4 i=i3)∧(e 0=.own (K+1000) sv∧e 1=iv a∧e 4=.fn 152 [])∧e 12=iv i∧e 13=iv j4∧(∀k,k≠K→m (k+1000)=σ k)∧m (K+1000)=some (.row sv 49 4 ((dk).toList.map tqA) 0)) (λi=>j4+1 - i) i4 (by rfl) ?_ ?_
      ·rintro i e m ⟨⟨hv1,hv2,hO⟩,⟨q0,q1,q4⟩,ei,ej,hm,mK⟩
       by_cases hij:i≤j4
       ·have hml:=Zbm tqA dk;rw [hsz] at hml;have gv:(dk.toList.map tqA).getD i .u=tqA dk[i]!:=Zay tqA (by omega) _;have ga:(dk.toList.map tqA).getD a .u=tqA dk[a]!:=Zay tqA (by omega) _;have cc:=Zg3 dk[i]! dk[a]!;have hvl:i < d.size:=by omega
        have hij':=hij;have hij:(i:Int)≤(j4:Int):=by omega
        by_cases hp:ordT dk[i]!.1 dk[a]!.1 < 0
        ·
         rw [Zln (p:=(λx=>stLt x dk[a]!)) (by omega) (show(λx=>stLt x dk[a]!) dk[i]! = true from Zfw hp)] at hO;generalize hz1:ordT dk[i]!.1 dk[a]!.1=z at *;clear hz1;generalize dk[i]! = vx at *;generalize dk[a]! = vy at *;generalize hM:dk.toList.map tqA=M at *;obtain⟨⟨vx1,vx2⟩,vx3⟩:=vx;obtain⟨⟨vy1,vy2⟩,vy3⟩:=vy
         try simp only [tqA] at *
         (focus (refine wkad (w_11 q0 q1 q4 ei ej mK gv ga hml hij hp) (w_1 cc) (w_1 (w_d 13 [(13,iv z)] [] [])) ?_;(repeat' first|exact w_t|apply w_l);all_goals intros));exact⟨i+1,⟨⟨by omega,by omega,hO⟩,⟨by exact gW q0,by exact gW q1,by exact gW q4⟩,by exact gS,by exact gW ej,λk hk=>by rw [←hm k hk];try simp (disch:=omega) [Zac,marks,mark,hk],by(simp (disch:=omega) only [go_sem,mK]<;>repeat' first|rfl|refine⟨?_,?_⟩)⟩,by show j4+1 - (i+1) < j4+1 - i;omega⟩
        ·
         rw [Zgo (p:=(λx=>stLt x dk[a]!)) (by rintro ⟨-,h⟩;rw [show stLt dk[i]! dk[a]! = false from Ze4 hp] at h;cases h)] at hO;subst hO;generalize hz1:ordT dk[i]!.1 dk[a]!.1=z at *;clear hz1;generalize dk[i]! = vx at *;generalize dk[a]! = vy at *;generalize hM:dk.toList.map tqA=M at *;obtain⟨⟨vx1,vx2⟩,vx3⟩:=vx;obtain⟨⟨vy1,vy2⟩,vy3⟩:=vy
         try simp only [tqA] at *
         (focus (refine wkad (w_11 q0 q1 q4 ei ej mK gv ga hml hij hp) (w_1 cc) (w_1 (w_d 13 [(13,iv z)] [] [])) ?_;(repeat' first|exact w_t|apply w_l);all_goals intros));exact⟨rfl,⟨by omega,by omega⟩,⟨by exact gW q0,by exact gW q1,by exact gW q4⟩,by exact gW ei,by exact gW ej,λk hk=>by rw [←hm k hk];try simp (disch:=omega) [Zac,marks,mark,hk],by(simp (disch:=omega) only [go_sem,mK]<;>repeat' first|rfl|refine⟨?_,?_⟩)⟩
       ·
        rw [Zgo (λh=>hij h.1)] at hO;subst hO;have hij:¬(i:Int)≤(j4:Int):=by omega
        (focus (refine wkad (w_6 q0 q1 q4 ei ej hij) w_t (w_1 (w_d 13 [] [] [])) ?_;(repeat' first|exact w_t|apply w_l);all_goals intros));exact⟨rfl,⟨by omega,by omega⟩,⟨by exact gW q0,by exact gW q1,by exact gW q4⟩,by exact gW ei,by exact gW ej,λk hk=>by rw [←hm k hk];try simp (disch:=omega) [Zac,marks,mark,hk],by(simp (disch:=omega) only [go_sem,mK]<;>repeat' first|rfl|refine⟨?_,?_⟩)⟩
      ·exact⟨⟨by omega,by omega,by rw [hi3]⟩,⟨by exact gW q0,by exact gW q1,by exact gW q4⟩,by exact gW ei,by exact gW ej,λk hk=>by rw [←hm k hk];try simp (disch:=omega) [Zac,marks,mark,hk],by(simp (disch:=omega) only [go_sem,mK]<;>repeat' first|rfl|refine⟨?_,?_⟩)⟩
     ·rintro e m ⟨⟨hi31,hi32⟩,⟨q0,q1,q4⟩,ei,ej,hm,mK⟩
      (focus (refine wkad (w_5 q0 q1 q4 ei ej) w_t w_t ?_;(repeat' first|exact w_t|apply w_l);all_goals intros));refine Zf6 (λe m=>(a≤j3∧j3≤j4)∧(e 0=.own (K+1000) sv∧e 1=iv a∧e 4=.fn 152 [])∧e 12=iv i3∧e 13=iv j3∧(∀k,k≠K→m (k+1000)=σ k)∧m (K+1000)=some (.row sv 49 4 ((dk).toList.map tqA) 0)) 8 ?_ ?_
      ·refine Zad (ι:=Nat) (λj e m=>(a≤j∧j≤j4∧Go.Sort.scanDown (λx=>!stLt x dk[a]!) dk i3 j=j3)∧(e 0=.own (K+1000) sv∧e 1=iv a∧e 4=.fn 152 [])∧e 12=iv i3∧e 13=iv j∧(∀k,k≠K→m (k+1000)=σ k)∧m (K+1000)=some (.row sv 49 4 ((dk).toList.map tqA) 0)) (λj=>j) j4 (by rfl) ?_ ?_
       ·rintro j e m ⟨⟨hv1,hv2,hO⟩,⟨q0,q1,q4⟩,ei,ej,hm,mK⟩
        by_cases hij:i3≤j
        ·have hml:=Zbm tqA dk;rw [hsz] at hml;have gv:(dk.toList.map tqA).getD j .u=tqA dk[j]!:=Zay tqA (by omega) _;have ga:(dk.toList.map tqA).getD a .u=tqA dk[a]!:=Zay tqA (by omega) _;have cc:=Zg3 dk[j]! dk[a]!;have hvl:j < d.size:=by omega
         have hij':=hij;have hij:(i3:Int)≤(j:Int):=by omega
         by_cases hp:ordT dk[j]!.1 dk[a]!.1 < 0
         ·
          rw [Zd6 (p:=(λx=>!stLt x dk[a]!)) (by rintro ⟨-,h⟩;rw [show(!stLt dk[j]! dk[a]!)=false from by rw [show stLt dk[j]! dk[a]! = true from Zfw hp];rfl] at h;cases h)] at hO;subst hO;generalize hz1:ordT dk[j]!.1 dk[a]!.1=z at *;clear hz1;generalize dk[j]! = vx at *;generalize dk[a]! = vy at *;generalize hM:dk.toList.map tqA=M at *;obtain⟨⟨vx1,vx2⟩,vx3⟩:=vx;obtain⟨⟨vy1,vy2⟩,vy3⟩:=vy
          try simp only [tqA] at *
          (focus (refine wkad (w_11 q0 q1 q4 ei ej mK gv ga hml hij hp) (w_1 cc) (w_1 (w_d 15 [(13,iv z)] [] [])) ?_;(repeat' first|exact w_t|apply w_l);all_goals intros));exact⟨rfl,⟨by omega,by omega⟩,⟨by exact gW q0,by exact gW q1,by exact gW q4⟩,by exact gW ei,by exact gW ej,λk hk=>by rw [←hm k hk];try simp (disch:=omega) [Zac,marks,mark,hk],by(simp (disch:=omega) only [go_sem,mK]<;>repeat' first|rfl|refine⟨?_,?_⟩)⟩
         ·
          obtain⟨j,rfl⟩:∃t,j=t+1:=⟨j - 1,by omega⟩;rw [Zh7 (p:=(λx=>!stLt x dk[a]!)) (by omega) (show(λx=>!stLt x dk[a]!) dk[j+1]! = true from by show(!stLt dk[j+1]! dk[a]!)=true;rw [show stLt dk[j+1]! dk[a]! = false from Ze4 hp];rfl)] at hO;have en:((j+1:Nat):Int) - 1=(j:Int):=by omega
          generalize hz1:ordT dk[j+1]!.1 dk[a]!.1=z at *;clear hz1;generalize dk[j+1]! = vx at *;generalize dk[a]! = vy at *;generalize hM:dk.toList.map tqA=M at *;obtain⟨⟨vx1,vx2⟩,vx3⟩:=vx;obtain⟨⟨vy1,vy2⟩,vy3⟩:=vy
          try simp only [tqA] at *
          generalize hj1:j+1=j1 at *;(focus (refine wkad (w_11 q0 q1 q4 ei ej mK gv ga hml hij hp) (w_1 cc) (w_1 (w_d 15 [(13,iv z)] [] [])) ?_;(repeat' first|exact w_t|apply w_l);all_goals intros));subst hj1;exact⟨j,⟨⟨by omega,by omega,hO⟩,⟨by exact gW q0,by exact gW q1,by exact gW q4⟩,by exact gW ei,by exact gW en,λk hk=>by rw [←hm k hk];try simp (disch:=omega) [Zac,marks,mark,hk],by(simp (disch:=omega) only [go_sem,mK]<;>repeat' first|rfl|refine⟨?_,?_⟩)⟩,by show j < j+1;omega⟩
        ·
         rw [Zd6 (λh=>hij h.1)] at hO;subst hO;have hij:¬(i3:Int)≤(j:Int):=by omega
         (focus (refine wkad (w_6 q0 q1 q4 ei ej hij) w_t (w_1 (w_d 15 [] [] [])) ?_;(repeat' first|exact w_t|apply w_l);all_goals intros));exact⟨rfl,⟨by omega,by omega⟩,⟨by exact gW q0,by exact gW q1,by exact gW q4⟩,by exact gW ei,by exact gW ej,λk hk=>by rw [←hm k hk];try simp (disch:=omega) [Zac,marks,mark,hk],by(simp (disch:=omega) only [go_sem,mK]<;>repeat' first|rfl|refine⟨?_,?_⟩)⟩
       ·exact⟨⟨by omega,by omega,by rw [hj3]⟩,⟨by exact gW q0,by exact gW q1,by exact gW q4⟩,by exact gW ei,by exact gW ej,λk hk=>by rw [←hm k hk];try simp (disch:=omega) [Zac,marks,mark,hk],by(simp (disch:=omega) only [go_sem,mK]<;>repeat' first|rfl|refine⟨?_,?_⟩)⟩
      ·rintro e m ⟨⟨hj31,hj32⟩,⟨q0,q1,q4⟩,ei,ej,hm,mK⟩
       by_cases hgt:i3 > j3
       ·rw [Go.Pol.ploop_x hi3 hj3 hgt] at hO;subst hO;have hgt:(j3:Int) < (i3:Int):=by omega
        clear hi3 hj3;have hml:=Zbm tqA dk;rw [hsz] at hml;have gx:(dk.toList.map tqA).getD j3 .u=tqA dk[j3]!:=Zay tqA (by omega) _;have gy:(dk.toList.map tqA).getD a .u=tqA dk[a]!:=Zay tqA (by omega) _;have hxl:j3 < d.size:=by omega
        have hs:=Zcd tqA dk j3 a;have g3:=Zce tqA (d:=dk) (j:=a) (by omega) j3 AV.u;generalize Go.Sort.swp dk j3 a=dn at *;generalize dk[j3]! = vx at *;generalize dk[a]! = vy at *;generalize dk.toList.map tqA=M at *;obtain⟨⟨vx1,vx2⟩,vx3⟩:=vx;obtain⟨⟨vy1,vy2⟩,vy3⟩:=vy
        try simp only [tqA] at *
        (focus (refine wkad (w_12 q0 q1 q4 ei ej mK gx gy g3 hml hgt @Zel) w_t (w_1 (w_d 21 [] [13,2013,14,15] [])) ?_;(repeat' first|exact w_t|apply w_l);all_goals intros));simp (disch:=omega) only [go_sem];refine Zap (Sub.refl _) ⟨rfl,rfl⟩ λk hk=>?_;by_cases e:k=K
        ·subst e;simp only [Zac,if_pos];rw [←hs]
        ·simp only [Zac,if_neg e,if_neg (show ¬k+1000=K+1000 by omega)];exact hm k e
       ·rw [Go.Pol.ploop_y hi3 hj3 hgt] at hO;have hgt:¬(j3:Int) < (i3:Int):=by omega
        clear hi3 hj3;have hml:=Zbm tqA dk;rw [hsz] at hml;have gx:(dk.toList.map tqA).getD i3 .u=tqA dk[i3]!:=Zay tqA (by omega) _;have gy:(dk.toList.map tqA).getD j3 .u=tqA dk[j3]!:=Zay tqA (by omega) _;have hxl:i3 < d.size:=by omega
        have hyl:j3 < d.size:=by omega
        have ej1:(j3:Int) - 1=((j3 - 1:Nat):Int):=by omega
        have hs:=Zcd tqA dk i3 j3;have g3:=Zce tqA (d:=dk) (j:=j3) (by omega) i3 AV.u;have hsw:(Go.Sort.swp dk i3 j3).size=d.size:=by rw [Go.Sort.size_swp,hsz]
        generalize Go.Sort.swp dk i3 j3=dn at *;generalize dk[i3]! = vx at *;generalize dk[j3]! = vy at *;generalize dk.toList.map tqA=M at *;obtain⟨⟨vx1,vx2⟩,vx3⟩:=vx;obtain⟨⟨vy1,vy2⟩,vy3⟩:=vy
        try simp only [tqA] at *
        (focus (refine wkad (w_13 q0 q1 q4 ei ej mK gx gy g3 hml hgt ej1 @Zel) w_t (w_1 (w_d 18 [] [13,2013,14,15] [])) ?_;(repeat' first|exact w_t|apply w_l);all_goals intros));exact⟨((i3+1,j3 - 1),dn),⟨⟨by show a < i3+1;omega,by show i3+1≤b;omega,by show a≤j3 - 1;omega,by show j3 - 1 < b;omega,hsw,hO⟩,⟨by exact gW q0,by exact gW q1,by exact gW q4⟩,by exact gS,by exact gC,λk hk=>by rw [←hm k hk];try simp (disch:=omega) [Zac,marks,mark,hk],by simp only;rw [←hs];exact gC⟩,by show j3 - 1+1 - (i3+1) < j4+1 - i4;omega⟩
    ·exact⟨⟨by show a < i2+1;omega,by show i2+1≤b;omega,by show a≤j2 - 1;omega,by show j2 - 1 < b;omega,hsw,hV.symm⟩,⟨by exact gW q0,by exact gW q1,by exact gW q4⟩,by exact gS,by exact gC,λk hk=>by rw [←hm k hk];try simp (disch:=omega) [Zac,marks,mark,hk],by simp only;rw [←hs];exact gC⟩
theorem stPartEq (σ:Mem) (K:Nat) (sv:Value) (d:Array TQ) (a b pv:Nat) (hab:a+1 < b) (hb:b≤d.size) (hp1:a≤pv) (hp2:pv < b) (hK:σ K=some (.row sv 49 4 ((d).toList.map tqA) 0)) (hz:d.size≤1000000000):ACall Tryz.prog 288 [.own K sv,iv a,iv b,iv pv,.fn 152 []] σ λr σ'=>r=iv (Go.Sort.partitionEqual stLt d a b pv).1∧σ'=upd σ K (some (.row sv 49 4 (((Go.Sort.partitionEqual stLt d a b pv).2).toList.map tqA) 0)):=by
 refine Za9 (args':=[.own (K+1000) sv,iv a,iv b,iv pv,.fn 152 []]) Tryz.func288 rfl Tryz.ntmps288 Tryz.results288 Tryz.call288 (by rfl) (by simp) (.cons (Sub.own _ _ _) (.cons (Sub.refl _) (.cons (Sub.refl _) (.cons (Sub.refl _) (.cons (Sub.refl _) .nil))))) ?_;have hL:∀k,lent σ (k+1000)=σ k:=λk=>by unfold lent;rw [if_neg (by omega),Nat.add_sub_cancel]
 generalize lent σ=m0 at *;have m0K:m0 (K+1000)=some (.row sv 49 4 ((d).toList.map tqA) 0):=by rw [hL,hK]
 obtain⟨b1,hb1⟩:∃x,x=b - 1:=⟨_,rfl⟩;have cb:(b:Int) - 1=(b1:Int):=by omega
 have ca:(a:Int)+1=((a+1:Nat):Int):=by omega
 obtain⟨dk,hdk⟩:∃x,x=Go.Sort.swp d a pv:=⟨_,rfl⟩;have hR:Go.Sort.partitionEqual stLt d a b pv=Go.Sort.partEqLoop stLt a (a+1) b1 dk:=by rw [hb1,hdk];rfl
 rw [hR];clear hR;generalize hV:Go.Sort.partEqLoop stLt a (a+1) b1 dk=V at *;have hml:=Zbm tqA d;have gx:(d.toList.map tqA).getD a .u=tqA d[a]!:=Zay tqA (by omega) _;have gy:(d.toList.map tqA).getD pv .u=tqA d[pv]!:=Zay tqA (by omega) _;have hxl:a < d.size:=by omega
 have hyl:pv < d.size:=by omega
 have hs:=Zcd tqA d a pv;have g3:=Zce tqA (d:=d) (j:=pv) (by omega) a AV.u;have hsz:(Go.Sort.swp d a pv).size=d.size:=by rw [Go.Sort.size_swp]
 rw [←hdk] at hs hsz;clear hdk hK;generalize d[a]! = vx at *;generalize d[pv]! = vy at *;generalize d.toList.map tqA=M at *;obtain⟨⟨vx1,vx2⟩,vx3⟩:=vx;obtain⟨⟨vy1,vy2⟩,vy3⟩:=vy
 try simp only [tqA] at *
 (focus (refine wkad (w_8 m0K gx gy g3 hml cb ca @Zel) w_t (w_1 (w_d 1 [] [13,2013,14,15] [])) ?_;(repeat' first|exact w_t|apply w_l);all_goals intros));refine Zad (ι:=(Nat × Nat) × Array TQ) (λp e m=>(a < p.1.1∧p.1.1≤b∧a≤p.1.2∧p.1.2 < b∧p.2.size=d.size∧Go.Sort.partEqLoop stLt a p.1.1 p.1.2 p.2=V)∧(e 0=.own (K+1000) sv∧e 1=iv a∧e 4=.fn 152 [])∧e 11=iv p.1.1∧e 12=iv p.1.2∧(∀k,k≠K→m (k+1000)=σ k)∧m (K+1000)=some (.row sv 49 4 ((p.2).toList.map tqA) 0)) (λp=>p.1.2+1 - p.1.1) ((a+1,b1),dk) (by rfl) ?_ ?_
 ·clear hsz
  rintro ⟨⟨i4,j4⟩,dk⟩ e m ⟨⟨hi4,hib,hj4,hjb,hsz,hO⟩,⟨q0,q1,q4⟩,ei,ej,hm,mK⟩
  simp only at hi4 hib hj4 hjb hsz hO ei ej mK;obtain⟨i3,hi3⟩:∃x,x=Go.Sort.scanUp (λx=>!stLt dk[a]! x) dk j4 i4:=⟨_,rfl⟩;obtain⟨j3,hj3⟩:∃x,x=Go.Sort.scanDown (λx=>stLt dk[a]! x) dk i3 j4:=⟨_,rfl⟩;(focus (refine wkad (w_5 q0 q1 q4 ei ej) w_t w_t ?_;(repeat' first|exact w_t|apply w_l);all_goals intros));refine Zf6 (λe m=>(i4≤i3∧i3≤b)∧(e 0=.own (K+1000) sv∧e 1=iv a∧e 4=.fn 152 [])∧e 11=iv i3∧e 12=iv j4∧(∀k,k≠K→m (k+1000)=σ k)∧m (K+1000)=some (.row sv 49 4 ((dk).toList.map tqA) 0)) 2 ?_ ?_
  ·refine Zad (ι:=Nat) (λi e m=>(i4≤i∧i≤b∧Go.Sort.scanUp (λx=>!stLt dk[a]! x) dk j4 i=i3)∧(e 0=.own (K+1000) sv∧e 1=iv a∧e 4=.fn 152 [])∧e 11=iv i∧e 12=iv j4∧(∀k,k≠K→m (k+1000)=σ k)∧m (K+1000)=some (.row sv 49 4 ((dk).toList.map tqA) 0)) (λi=>j4+1 - i) i4 (by rfl) ?_ ?_
   ·rintro i e m ⟨⟨hv1,hv2,hO⟩,⟨q0,q1,q4⟩,ei,ej,hm,mK⟩
    by_cases hij:i≤j4
    ·have hml:=Zbm tqA dk;rw [hsz] at hml;have gv:(dk.toList.map tqA).getD i .u=tqA dk[i]!:=Zay tqA (by omega) _;have ga:(dk.toList.map tqA).getD a .u=tqA dk[a]!:=Zay tqA (by omega) _;have cc:=Zg3 dk[a]! dk[i]!;have hvl:i < d.size:=by omega
     have hij':=hij;have hij:(i:Int)≤(j4:Int):=by omega
     by_cases hp:ordT dk[a]!.1 dk[i]!.1 < 0
     ·
      rw [Zgo (p:=(λx=>!stLt dk[a]! x)) (by rintro ⟨-,h⟩;rw [show(!stLt dk[a]! dk[i]!)=false from by rw [show stLt dk[a]! dk[i]! = true from Zfw hp];rfl] at h;cases h)] at hO;subst hO;generalize hz1:ordT dk[a]!.1 dk[i]!.1=z at *;clear hz1;generalize dk[i]! = vx at *;generalize dk[a]! = vy at *;generalize hM:dk.toList.map tqA=M at *;obtain⟨⟨vx1,vx2⟩,vx3⟩:=vx;obtain⟨⟨vy1,vy2⟩,vy3⟩:=vy
      try simp only [tqA] at *
      (focus (refine wkad (w_11 q0 q1 q4 ei ej mK gv ga hml hij hp) (w_1 cc) (w_1 (w_d 3 [(13,iv z)] [] [])) ?_;(repeat' first|exact w_t|apply w_l);all_goals intros));exact⟨rfl,⟨by omega,by omega⟩,⟨by exact gW q0,by exact gW q1,by exact gW q4⟩,by exact gW ei,by exact gW ej,λk hk=>by rw [←hm k hk];try simp (disch:=omega) [Zac,marks,mark,hk],by(simp (disch:=omega) only [go_sem,mK]<;>repeat' first|rfl|refine⟨?_,?_⟩)⟩
     ·
      rw [Zln (p:=(λx=>!stLt dk[a]! x)) (by omega) (show(λx=>!stLt dk[a]! x) dk[i]! = true from by show(!stLt dk[a]! dk[i]!)=true;rw [show stLt dk[a]! dk[i]! = false from Ze4 hp];rfl)] at hO;generalize hz1:ordT dk[a]!.1 dk[i]!.1=z at *;clear hz1;generalize dk[i]! = vx at *;generalize dk[a]! = vy at *;generalize hM:dk.toList.map tqA=M at *;obtain⟨⟨vx1,vx2⟩,vx3⟩:=vx;obtain⟨⟨vy1,vy2⟩,vy3⟩:=vy
      try simp only [tqA] at *
      (focus (refine wkad (w_11 q0 q1 q4 ei ej mK gv ga hml hij hp) (w_1 cc) (w_1 (w_d 3 [(13,iv z)] [] [])) ?_;(repeat' first|exact w_t|apply w_l);all_goals intros));exact⟨i+1,⟨⟨by omega,by omega,hO⟩,⟨by exact gW q0,by exact gW q1,by exact gW q4⟩,by exact gS,by exact gW ej,λk hk=>by rw [←hm k hk];try simp (disch:=omega) [Zac,marks,mark,hk],by(simp (disch:=omega) only [go_sem,mK]<;>repeat' first|rfl|refine⟨?_,?_⟩)⟩,by show j4+1 - (i+1) < j4+1 - i;omega⟩
    ·
     rw [Zgo (λh=>hij h.1)] at hO;subst hO;have hij:¬(i:Int)≤(j4:Int):=by omega
     (focus (refine wkad (w_6 q0 q1 q4 ei ej hij) w_t (w_1 (w_d 3 [] [] [])) ?_;(repeat' first|exact w_t|apply w_l);all_goals intros));exact⟨rfl,⟨by omega,by omega⟩,⟨by exact gW q0,by exact gW q1,by exact gW q4⟩,by exact gW ei,by exact gW ej,λk hk=>by rw [←hm k hk];try simp (disch:=omega) [Zac,marks,mark,hk],by(simp (disch:=omega) only [go_sem,mK]<;>repeat' first|rfl|refine⟨?_,?_⟩)⟩
   ·exact⟨⟨by omega,by omega,by rw [hi3]⟩,⟨by exact gW q0,by exact gW q1,by exact gW q4⟩,by exact gW ei,by exact gW ej,λk hk=>by rw [←hm k hk];try simp (disch:=omega) [Zac,marks,mark,hk],by(simp (disch:=omega) only [go_sem,mK]<;>repeat' first|rfl|refine⟨?_,?_⟩)⟩
  ·rintro e m ⟨⟨hi31,hi32⟩,⟨q0,q1,q4⟩,ei,ej,hm,mK⟩
   (focus (refine wkad (w_5 q0 q1 q4 ei ej) w_t w_t ?_;(repeat' first|exact w_t|apply w_l);all_goals intros));refine Zf6 (λe m=>(a≤j3∧j3≤j4)∧(e 0=.own (K+1000) sv∧e 1=iv a∧e 4=.fn 152 [])∧e 11=iv i3∧e 12=iv j3∧(∀k,k≠K→m (k+1000)=σ k)∧m (K+1000)=some (.row sv 49 4 ((dk).toList.map tqA) 0)) 4 ?_ ?_
   ·refine Zad (ι:=Nat) (λj e m=>(a≤j∧j≤j4∧Go.Sort.scanDown (λx=>stLt dk[a]! x) dk i3 j=j3)∧(e 0=.own (K+1000) sv∧e 1=iv a∧e 4=.fn 152 [])∧e 11=iv i3∧e 12=iv j∧(∀k,k≠K→m (k+1000)=σ k)∧m (K+1000)=some (.row sv 49 4 ((dk).toList.map tqA) 0)) (λj=>j) j4 (by rfl) ?_ ?_
    ·rintro j e m ⟨⟨hv1,hv2,hO⟩,⟨q0,q1,q4⟩,ei,ej,hm,mK⟩
     by_cases hij:i3≤j
     ·have hml:=Zbm tqA dk;rw [hsz] at hml;have gv:(dk.toList.map tqA).getD j .u=tqA dk[j]!:=Zay tqA (by omega) _;have ga:(dk.toList.map tqA).getD a .u=tqA dk[a]!:=Zay tqA (by omega) _;have cc:=Zg3 dk[a]! dk[j]!;have hvl:j < d.size:=by omega
      have hij':=hij;have hij:(i3:Int)≤(j:Int):=by omega
      by_cases hp:ordT dk[a]!.1 dk[j]!.1 < 0
      ·
       obtain⟨j,rfl⟩:∃t,j=t+1:=⟨j - 1,by omega⟩;rw [Zh7 (p:=(λx=>stLt dk[a]! x)) (by omega) (show(λx=>stLt dk[a]! x) dk[j+1]! = true from Zfw hp)] at hO;have en:((j+1:Nat):Int) - 1=(j:Int):=by omega
       generalize hz1:ordT dk[a]!.1 dk[j+1]!.1=z at *;clear hz1;generalize dk[j+1]! = vx at *;generalize dk[a]! = vy at *;generalize hM:dk.toList.map tqA=M at *;obtain⟨⟨vx1,vx2⟩,vx3⟩:=vx;obtain⟨⟨vy1,vy2⟩,vy3⟩:=vy
       try simp only [tqA] at *
       generalize hj1:j+1=j1 at *;(focus (refine wkad (w_11 q0 q1 q4 ei ej mK gv ga hml hij hp) (w_1 cc) (w_1 (w_d 5 [(13,iv z)] [] [])) ?_;(repeat' first|exact w_t|apply w_l);all_goals intros));subst hj1;exact⟨j,⟨⟨by omega,by omega,hO⟩,⟨by exact gW q0,by exact gW q1,by exact gW q4⟩,by exact gW ei,by exact gW en,λk hk=>by rw [←hm k hk];try simp (disch:=omega) [Zac,marks,mark,hk],by(simp (disch:=omega) only [go_sem,mK]<;>repeat' first|rfl|refine⟨?_,?_⟩)⟩,by show j < j+1;omega⟩
      ·
       rw [Zd6 (p:=(λx=>stLt dk[a]! x)) (by rintro ⟨-,h⟩;rw [show stLt dk[a]! dk[j]! = false from Ze4 hp] at h;cases h)] at hO;subst hO;generalize hz1:ordT dk[a]!.1 dk[j]!.1=z at *;clear hz1;generalize dk[j]! = vx at *;generalize dk[a]! = vy at *;generalize hM:dk.toList.map tqA=M at *;obtain⟨⟨vx1,vx2⟩,vx3⟩:=vx;obtain⟨⟨vy1,vy2⟩,vy3⟩:=vy
       try simp only [tqA] at *
       (focus (refine wkad (w_11 q0 q1 q4 ei ej mK gv ga hml hij hp) (w_1 cc) (w_1 (w_d 5 [(13,iv z)] [] [])) ?_;(repeat' first|exact w_t|apply w_l);all_goals intros));exact⟨rfl,⟨by omega,by omega⟩,⟨by exact gW q0,by exact gW q1,by exact gW q4⟩,by exact gW ei,by exact gW ej,λk hk=>by rw [←hm k hk];try simp (disch:=omega) [Zac,marks,mark,hk],by(simp (disch:=omega) only [go_sem,mK]<;>repeat' first|rfl|refine⟨?_,?_⟩)⟩
     ·
      rw [Zd6 (λh=>hij h.1)] at hO;subst hO;have hij:¬(i3:Int)≤(j:Int):=by omega
      (focus (refine wkad (w_6 q0 q1 q4 ei ej hij) w_t (w_1 (w_d 5 [] [] [])) ?_;(repeat' first|exact w_t|apply w_l);all_goals intros));exact⟨rfl,⟨by omega,by omega⟩,⟨by exact gW q0,by exact gW q1,by exact gW q4⟩,by exact gW ei,by exact gW ej,λk hk=>by rw [←hm k hk];try simp (disch:=omega) [Zac,marks,mark,hk],by(simp (disch:=omega) only [go_sem,mK]<;>repeat' first|rfl|refine⟨?_,?_⟩)⟩
    ·exact⟨⟨by omega,by omega,by rw [hj3]⟩,⟨by exact gW q0,by exact gW q1,by exact gW q4⟩,by exact gW ei,by exact gW ej,λk hk=>by rw [←hm k hk];try simp (disch:=omega) [Zac,marks,mark,hk],by(simp (disch:=omega) only [go_sem,mK]<;>repeat' first|rfl|refine⟨?_,?_⟩)⟩
   ·rintro e m ⟨⟨hj31,hj32⟩,⟨q0,q1,q4⟩,ei,ej,hm,mK⟩
    by_cases hgt:i3 > j3
    ·rw [Go.Pol.qloop_x hi3 hj3 hgt] at hO;subst hO;have hgt:(j3:Int) < (i3:Int):=by omega
     clear hi3 hj3;(focus (refine wkad (w_6 q0 q1 q4 ei ej hgt) w_t w_t ?_;(repeat' first|exact w_t|apply w_l);all_goals intros));simp (disch:=omega) only [go_sem];refine Zap (Sub.refl _) ⟨rfl,rfl⟩ λk hk=>?_;by_cases e:k=K
     ·subst e;rw [mK];simp only [Zac,if_pos]
     ·rw [hm k e];simp only [Zac,if_neg e]
    ·rw [Go.Pol.qloop_y hi3 hj3 hgt] at hO;have hgt:¬(j3:Int) < (i3:Int):=by omega
     clear hi3 hj3;have hml:=Zbm tqA dk;rw [hsz] at hml;have gx:(dk.toList.map tqA).getD i3 .u=tqA dk[i3]!:=Zay tqA (by omega) _;have gy:(dk.toList.map tqA).getD j3 .u=tqA dk[j3]!:=Zay tqA (by omega) _;have hxl:i3 < d.size:=by omega
     have hyl:j3 < d.size:=by omega
     have ej1:(j3:Int) - 1=((j3 - 1:Nat):Int):=by omega
     have hs:=Zcd tqA dk i3 j3;have g3:=Zce tqA (d:=dk) (j:=j3) (by omega) i3 AV.u;have hsw:(Go.Sort.swp dk i3 j3).size=d.size:=by rw [Go.Sort.size_swp,hsz]
     generalize Go.Sort.swp dk i3 j3=dn at *;generalize dk[i3]! = vx at *;generalize dk[j3]! = vy at *;generalize dk.toList.map tqA=M at *;obtain⟨⟨vx1,vx2⟩,vx3⟩:=vx;obtain⟨⟨vy1,vy2⟩,vy3⟩:=vy
     try simp only [tqA] at *
     (focus (refine wkad (w_13 q0 q1 q4 ei ej mK gx gy g3 hml hgt ej1 @Zel) w_t (w_1 (w_d 8 [] [13,2013,14,15] [])) ?_;(repeat' first|exact w_t|apply w_l);all_goals intros));exact⟨((i3+1,j3 - 1),dn),⟨⟨by show a < i3+1;omega,by show i3+1≤b;omega,by show a≤j3 - 1;omega,by show j3 - 1 < b;omega,hsw,hO⟩,⟨by exact gW q0,by exact gW q1,by exact gW q4⟩,by exact gS,by exact gC,λk hk=>by rw [←hm k hk];try simp (disch:=omega) [Zac,marks,mark,hk],by simp only;rw [←hs];exact gC⟩,by show j3 - 1+1 - (i3+1) < j4+1 - i4;omega⟩
 ·exact⟨⟨by show a < a+1;omega,by show a+1≤b;omega,by show a≤b1;omega,by show b1 < b;omega,hsz,hV⟩,⟨by exact gC,by exact gC,by exact gC⟩,by exact gC,by exact gC,λk hk=>by rw [←hL k];try simp (disch:=omega) [Zac,marks,mark,hk],by simp only;rw [←hs];exact gC⟩
theorem stPins (σ:Mem) (K:Nat) (sv:Value) (d:Array TQ) (a b:Nat) (hab:a+12 < b) (hb:b≤d.size) (hK:σ K=some (.row sv 49 4 ((d).toList.map tqA) 0)) (hz:d.size≤1000000000):ACall Tryz.prog 287 [.own K sv,iv a,iv b,.fn 152 []] σ λr σ'=>r=.v (.bool (Go.Sort.partialInsertionSort stLt d a b).2)∧σ'=upd σ K (some (.row sv 49 4 (((Go.Sort.partialInsertionSort stLt d a b).1).toList.map tqA) 0)):=by
 refine Za9 (args':=[.own (K+1000) sv,iv a,iv b,.fn 152 []]) Tryz.func287 rfl Tryz.ntmps287 Tryz.results287 Tryz.call287 (by rfl) (by simp) (.cons (Sub.own _ _ _) (.cons (Sub.refl _) (.cons (Sub.refl _) (.cons (Sub.refl _) .nil)))) ?_;have hL:∀k,lent σ (k+1000)=σ k:=λk=>by unfold lent;rw [if_neg (by omega),Nat.add_sub_cancel]
 generalize lent σ=m0 at *;have m0K:m0 (K+1000)=some (.row sv 49 4 ((d).toList.map tqA) 0):=by rw [hL,hK]
 have hR:Go.Sort.partialInsertionSort stLt d a b=Go.Sort.partialIns stLt a b 5 (a+1) d:=rfl;rw [hR];clear hR;have ca:(a:Int)+1=((a+1:Nat):Int):=by omega
 generalize hV:Go.Sort.partialIns stLt a b 5 (a+1) d=V at *;(focus (refine wkad (w_1 ca) w_t w_t ?_;(repeat' first|exact w_t|apply w_l);all_goals intros));refine Zad (ι:=(Nat × Nat) × Array TQ) (λp e m=>(p.1.1≤5∧a < p.1.2∧p.1.2≤b∧p.2.size=d.size∧Go.Sort.partialIns stLt a b p.1.1 p.1.2 p.2=V)∧(e 0=.own (K+1000) sv∧e 1=iv a∧e 2=iv b∧e 3=.fn 152 [])∧e 9=iv p.1.2∧e 10=iv ((5:Int) - (p.1.1:Int))∧(∀k,k≠K→m (k+1000)=σ k)∧m (K+1000)=some (.row sv 49 4 ((p.2).toList.map tqA) 0)) (λp=>p.1.1) ((5,a+1),d) (by rfl) ?_ ?_
 ·rintro ⟨⟨s,i0⟩,dk⟩ e m ⟨⟨hs5,hi0,hi0b,hsz,hO⟩,⟨q0,q1,q2,q3⟩,ei,es,hm,mK⟩
  simp only at hs5 hi0 hi0b hsz hO ei es mK
  cases s with
  | zero =>
    have hO:(dk,false)=V:=hO;rw [←hO];have es:e 10=iv 5:=es;(focus (refine wkad (w_6 q0 q1 q2 q3 ei es) w_t w_t ?_;(repeat' first|exact w_t|apply w_l);all_goals intros));simp (disch:=omega) only [go_sem];refine Zap (Sub.refl _) ⟨rfl,rfl⟩ λk hk=>?_;by_cases e:k=K
    ·subst e;rw [mK];simp only [Zac,if_pos]
    ·rw [hm k e];simp only [Zac,if_neg e]
  | succ s =>
    obtain⟨z0,hz0⟩:∃z:Int,z=(5:Int) - ((s+1:Nat):Int):=⟨_,rfl⟩;rw [←hz0] at es;have hz1:z0 < 5:=by omega
    have hz2:z0+1=(5:Int) - (s:Int):=by omega
    obtain⟨i2,hi2⟩:∃x,x=Go.Sort.scanSorted stLt dk b i0:=⟨_,rfl⟩;(focus (refine wkad (w_7 q0 q1 q2 q3 ei es hz1) w_t w_t ?_;(repeat' first|exact w_t|apply w_l);all_goals intros));refine Zf6 (λe m=>(i0≤i2∧i2≤b)∧(e 0=.own (K+1000) sv∧e 1=iv a∧e 2=iv b∧e 3=.fn 152 [])∧e 9=iv i2∧e 10=iv z0∧(∀k,k≠K→m (k+1000)=σ k)∧m (K+1000)=some (.row sv 49 4 ((dk).toList.map tqA) 0)) 2 ?_ ?_
    ·refine Zad (ι:=Nat) (λi e m=>(i0≤i∧i≤b∧Go.Sort.scanSorted stLt dk b i=i2)∧(e 0=.own (K+1000) sv∧e 1=iv a∧e 2=iv b∧e 3=.fn 152 [])∧e 9=iv i∧e 10=iv z0∧(∀k,k≠K→m (k+1000)=σ k)∧m (K+1000)=some (.row sv 49 4 ((dk).toList.map tqA) 0)) (λi=>b - i) i0 (by rfl) ?_ ?_
     ·rintro i e m ⟨⟨hv1,hv2,hS⟩,⟨q0,q1,q2,q3⟩,ei,es,hm,mK⟩
      by_cases hij:i < b
      ·have hml:=Zbm tqA dk;rw [hsz] at hml;obtain⟨i1,hi1⟩:∃x,x=i - 1:=⟨_,rfl⟩;have ce:(i:Int) - 1=(i1:Int):=by omega
       have gv:(dk.toList.map tqA).getD i .u=tqA dk[i]!:=Zay tqA (by omega) _;have ga:(dk.toList.map tqA).getD i1 .u=tqA dk[i1]!:=Zay tqA (by omega) _;have cc:=Zg3 dk[i]! dk[i1]!;have hvl:i < d.size:=by omega
       have hvl1:i1 < d.size:=by omega
       have hij':(i:Int) < (b:Int):=by omega
       by_cases hp:ordT dk[i]!.1 dk[i1]!.1 < 0
       ·rw [Zio (by rintro ⟨-,h⟩;rw [←hi1,show stLt dk[i]! dk[i1]! = true from Zfw hp] at h;cases h)] at hS;subst hS;generalize hz3:ordT dk[i]!.1 dk[i1]!.1=z at *;clear hz3;generalize dk[i]! = vx at *;generalize dk[i1]! = vy at *;generalize hM:dk.toList.map tqA=M at *;obtain⟨⟨vx1,vx2⟩,vx3⟩:=vx;obtain⟨⟨vy1,vy2⟩,vy3⟩:=vy
        try simp only [tqA] at *
        (focus (refine wkad (w_13 q0 q1 q2 q3 ei es mK gv ga hml hij' ce hp) (w_1 cc) (w_1 (w_d 5 [(14,iv z)] [] [])) ?_;(repeat' first|exact w_t|apply w_l);all_goals intros));exact⟨rfl,⟨by omega,by omega⟩,⟨by exact gW q0,by exact gW q1,by exact gW q2,by exact gW q3⟩,by exact gW ei,by exact gW es,λk hk=>by rw [←hm k hk];try simp (disch:=omega) [Zac,marks,mark,hk],by(simp (disch:=omega) only [go_sem,mK]<;>repeat' first|rfl|refine⟨?_,?_⟩)⟩
       ·rw [Znb hij (by rw [←hi1];exact Ze4 hp)] at hS;generalize hz3:ordT dk[i]!.1 dk[i1]!.1=z at *;clear hz3;generalize dk[i]! = vx at *;generalize dk[i1]! = vy at *;generalize hM:dk.toList.map tqA=M at *;obtain⟨⟨vx1,vx2⟩,vx3⟩:=vx;obtain⟨⟨vy1,vy2⟩,vy3⟩:=vy
        try simp only [tqA] at *
        (focus (refine wkad (w_13 q0 q1 q2 q3 ei es mK gv ga hml hij' ce hp) (w_1 cc) (w_1 (w_d 5 [(14,iv z)] [] [])) ?_;(repeat' first|exact w_t|apply w_l);all_goals intros));exact⟨i+1,⟨⟨by omega,by omega,hS⟩,⟨by exact gW q0,by exact gW q1,by exact gW q2,by exact gW q3⟩,by exact gS,by exact gW es,λk hk=>by rw [←hm k hk];try simp (disch:=omega) [Zac,marks,mark,hk],by(simp (disch:=omega) only [go_sem,mK]<;>repeat' first|rfl|refine⟨?_,?_⟩)⟩,by show b - (i+1) < b - i;omega⟩
      ·rw [Zio (λh=>hij h.1)] at hS;subst hS;have hij':¬(i:Int) < (b:Int):=by omega
       (focus (refine wkad (w_7 q0 q1 q2 q3 ei es hij') w_t (w_1 (w_d 5 [] [] [])) ?_;(repeat' first|exact w_t|apply w_l);all_goals intros));exact⟨rfl,⟨by omega,by omega⟩,⟨by exact gW q0,by exact gW q1,by exact gW q2,by exact gW q3⟩,by exact gW ei,by exact gW es,λk hk=>by rw [←hm k hk];try simp (disch:=omega) [Zac,marks,mark,hk],by(simp (disch:=omega) only [go_sem,mK]<;>repeat' first|rfl|refine⟨?_,?_⟩)⟩
     ·exact⟨⟨Nat.le_refl _,hi0b,hi2.symm⟩,⟨by exact gW q0,by exact gW q1,by exact gW q2,by exact gW q3⟩,by exact gW ei,by exact gW es,λk hk=>by rw [←hm k hk];try simp (disch:=omega) [Zac,marks,mark,hk],by(simp (disch:=omega) only [go_sem,mK]<;>repeat' first|rfl|refine⟨?_,?_⟩)⟩
    ·rintro e m ⟨⟨hi21,hi22⟩,⟨q0,q1,q2,q3⟩,ei,es,hm,mK⟩
     by_cases hib:i2=b
     ·rw [Go.Pol.pIns_done hi2 hib] at hO;rw [←hO];have hib':(i2:Int)=(b:Int):=by omega
      clear hO hi2;(focus (refine wkad (w_7 q0 q1 q2 q3 ei es hib') w_t w_t ?_;(repeat' first|exact w_t|apply w_l);all_goals intros));simp (disch:=omega) only [go_sem];refine Zap (Sub.refl _) ⟨rfl,rfl⟩ λk hk=>?_;by_cases e:k=K
      ·subst e;rw [mK];simp only [Zac,if_pos]
      ·rw [hm k e];simp only [Zac,if_neg e]
     ·have hib':¬(i2:Int)=(b:Int):=by omega
      obtain⟨l,hl⟩:∃l,l=b - a:=⟨_,rfl⟩;have cl:(b:Int) - (a:Int)=(l:Int):=by omega
      by_cases h50:l < 50
      ·rw [Go.Pol.pIns_short hi2 hib (by omega)] at hO;rw [←hO];have h50':(l:Int) < 50:=by omega
       clear hO hi2;(focus (refine wkad (w_9 q0 q1 q2 q3 ei es hib' cl h50') w_t w_t ?_;(repeat' first|exact w_t|apply w_l);all_goals intros));simp (disch:=omega) only [go_sem];refine Zap (Sub.refl _) ⟨rfl,rfl⟩ λk hk=>?_;by_cases e:k=K
       ·subst e;rw [mK];simp only [Zac,if_pos]
       ·rw [hm k e];simp only [Zac,if_neg e]
      ·have h50':¬(l:Int) < 50:=by omega
       obtain⟨y,hy⟩:∃y,y=i2 - 1:=⟨_,rfl⟩;obtain⟨d1,hd1⟩:∃x,x=Go.Sort.swp dk i2 y:=⟨_,rfl⟩;obtain⟨d2,hd2⟩:∃x,x=if i2 - a ≥ 2 then Go.Sort.shiftDown stLt y d1 else d1:=⟨_,rfl⟩;obtain⟨d3,hd3⟩:∃x,x=if b - i2 ≥ 2 then Go.Sort.shiftUp stLt b (i2+1) d2 else d2:=⟨_,rfl⟩;rw [Go.Pol.pIns_go (d1:=d1) (d2:=d2) (d3:=d3) hi2 hib (by omega) (by rw [hd1,hy]) (by rw [hd2,hy]) hd3] at hO;clear hi2;have cy:(i2:Int) - 1=(y:Int):=by omega
       have hml:=Zbm tqA dk;rw [hsz] at hml;have gx:(dk.toList.map tqA).getD i2 .u=tqA dk[i2]!:=Zay tqA (by omega) _;have gy:(dk.toList.map tqA).getD y .u=tqA dk[y]!:=Zay tqA (by omega) _;have hxl:i2 < d.size:=by omega
       have hyl:y < d.size:=by omega
       have hs:=Zcd tqA dk i2 y;have g3:=Zce tqA (d:=dk) (j:=y) (by omega) i2 AV.u;have hsw:d1.size=d.size:=by rw [hd1,Go.Sort.size_swp,hsz]
       rw [←hd1] at hs;clear hd1;obtain⟨ia,hia⟩:∃x,x=i2 - a:=⟨_,rfl⟩;obtain⟨ib,hib2⟩:∃x,x=b - i2:=⟨_,rfl⟩;have cia:(i2:Int) - (a:Int)=(ia:Int):=by omega
       have cib:(b:Int) - (i2:Int)=(ib:Int):=by omega
       rw [←hia] at hd2;rw [←hib2] at hd3
       have hsd2:d2.size=d.size:=by
        rw [hd2];split
        ·rw [Go.Pol.size_shiftDown,hsw]
        ·exact hsw
       have hsd3:d3.size=d.size:=by
        rw [hd3];split
        ·rw [Go.Pol.size_shiftUp _ _ _ rfl,hsd2]
        ·exact hsd2
       generalize dk[i2]! = vx at *;generalize dk[y]! = vy at *;generalize dk.toList.map tqA=M at *;obtain⟨⟨vx1,vx2⟩,vx3⟩:=vx;obtain⟨⟨vy1,vy2⟩,vy3⟩:=vy
       try simp only [tqA] at *
       (focus (refine wkvd (w_17 q0 q1 q2 q3 ei es mK gx gy g3 hml hib' cl h50' cy cia @Zel) w_t (w_1 (w_d 11 [] [15,2015,16,17] [])) ?_;(repeat' first|exact w_t|apply w_l);all_goals intros));refine Zst (λe m=>(e 0=.own (K+1000) sv∧e 1=iv a∧e 2=iv b∧e 3=.fn 152 [])∧e 9=iv i2∧e 10=iv z0∧(∀k,k≠K→m (k+1000)=σ k)∧m (K+1000)=some (.row sv 49 4 ((d2).toList.map tqA) 0)) ?_ ?_
       ·by_cases h2:2≤ia
        ·rw [if_pos h2] at hd2;have h2':(2:Int)≤(ia:Int):=by omega
         (focus (refine wkad (w_8 q0 q1 q2 q3 ei es h2' cy) w_t w_t ?_;(repeat' first|exact w_t|apply w_l);all_goals intros));refine Zad (ι:=Nat × Array TQ) (λp e m=>(p.1≤y∧p.2.size=d.size∧Go.Sort.shiftDown stLt p.1 p.2=d2)∧(e 0=.own (K+1000) sv∧e 1=iv a∧e 2=iv b∧e 3=.fn 152 [])∧e 9=iv i2∧e 10=iv z0∧e 11=iv p.1∧(∀k,k≠K→m (k+1000)=σ k)∧m (K+1000)=some (.row sv 49 4 ((p.2).toList.map tqA) 0)) (λp=>p.1) (y,d1) (by rfl) ?_ ?_
         ·rintro ⟨j,dj⟩ e m ⟨⟨hjy,hsj,hS⟩,⟨q0,q1,q2,q3⟩,ei,es,ej,hm,mK⟩
          simp only at hjy hsj hS ej mK
          cases j with
          | zero =>
            have hS:dj=d2:=hS;rw [hS] at mK;have ej:e 11=iv 0:=ej;(focus (refine wkad (w_7 q0 q1 q2 q3 ei es ej) w_t w_t ?_;(repeat' first|exact w_t|apply w_l);all_goals intros));exact⟨rfl,⟨by exact gW q0,by exact gW q1,by exact gW q2,by exact gW q3⟩,by exact gW ei,by exact gW es,λk hk=>by rw [←hm k hk];try simp (disch:=omega) [Zac,marks,mark,hk],by(simp (disch:=omega) only [go_sem,mK]<;>repeat' first|rfl|refine⟨?_,?_⟩)⟩
          | succ j =>
            have hml:=Zbm tqA dj;rw [hsj] at hml;have gv:(dj.toList.map tqA).getD (j+1) .u=tqA dj[j+1]!:=Zay tqA (by omega) _;have ga:(dj.toList.map tqA).getD j .u=tqA dj[j]!:=Zay tqA (by omega) _;have cc:=Zg3 dj[j+1]! dj[j]!;have en:((j+1:Nat):Int) - 1=(j:Int):=by omega
            have h1j:(1:Int)≤((j+1:Nat):Int):=by omega
            have hjl:j+1 < d.size:=by omega
            have hjl0:j < d.size:=by omega
            by_cases hp:ordT dj[j+1]!.1 dj[j]!.1 < 0
            ·rw [Zjg (Zfw hp)] at hS;have hs:=Zcd tqA dj (j+1) j;have g3:=Zce tqA (d:=dj) (j:=j) (by omega) (j+1) AV.u;have hsw:(Go.Sort.swp dj (j+1) j).size=d.size:=by rw [Go.Sort.size_swp,hsj]
             generalize Go.Sort.swp dj (j+1) j=dn at *;generalize hz3:ordT dj[j+1]!.1 dj[j]!.1=z at *;clear hz3;generalize dj[j+1]! = vx at *;generalize dj[j]! = vy at *;generalize dj.toList.map tqA=M at *;obtain⟨⟨vx1,vx2⟩,vx3⟩:=vx;obtain⟨⟨vy1,vy2⟩,vy3⟩:=vy
             try simp only [tqA] at *
             generalize hj1:j+1=j1 at *
             (repeat' (first|(with_reducible first|refine stp ?_|apply gx1|apply gx2|apply gx3|apply gx4|apply gx5|apply gx6|apply gx7|apply gy8|apply gz2|apply gz3|refine gw0 (cc) ?_ ?_|refine gw3 (cc) ?_ ?_ ?_)|(with_reducible refine Zao ?_;intro _)|((with_reducible refine gE ?_);(try simp (disch:=omega) only [go_sem,q0,q1,q2,q3,ei,es,ej,mK,gv,ga,g3,hml,en,h1j,hp,List.length_set,decide_eq_true,decide_eq_false,if_pos,if_neg,Int.reduceAdd,Int.reduceSub,Int.reduceToNat,Int.zero_add])<;>first|rfl|omega)|with_reducible refine Zab (by decide) ?_|((with_reducible apply gy1);iterate 3 focus rfl)|((with_reducible apply gy2);iterate 3 focus rfl)|((with_reducible apply gy3);iterate 2 focus rfl)|((with_reducible apply gy4);iterate 1 focus rfl)|((with_reducible apply gy5);iterate 4 focus rfl)|((with_reducible apply gy5c);iterate 4 focus rfl)|((with_reducible apply gy6);iterate 4 focus rfl)|((with_reducible apply Za7);iterate 3 focus rfl)|((with_reducible apply Za6);iterate 1 focus rfl)|((with_reducible apply gy7);iterate 1 focus rfl)|((with_reducible apply gy9);(focus ((with_reducible refine gE ?_);(try simp (disch:=omega) only [go_sem,q0,q1,q2,q3,ei,es,ej,mK,gv,ga,g3,hml,en,h1j,hp,List.length_set,decide_eq_true,decide_eq_false,if_pos,if_neg,Int.reduceAdd,Int.reduceSub,Int.reduceToNat,Int.zero_add])<;>rfl)))|((with_reducible apply gz1);(focus first|rfl|(simp (disch:=omega) only [go_sem,q0,q1,q2,q3,ei,es,ej,mK,gv,ga,g3,hml,en,h1j,hp,List.length_set,decide_eq_true,decide_eq_false,if_pos,if_neg,Int.reduceAdd,Int.reduceSub,Int.reduceToNat,Int.zero_add];done)))|((with_reducible apply Zae (id:=16) (Zau [(10,iv z)]) [] []);(focus kernel_rfl);(focus rfl);(focus kernel_rfl);(focus (simp only [List.length_cons,List.length_nil,Nat.reduceAdd];rfl)))|((with_reducible apply Zae (id:=17) (Zau []) [15,2015,16,17] []);(focus kernel_rfl);(focus rfl);(focus kernel_rfl);(focus (simp only [List.length_cons,List.length_nil,Nat.reduceAdd];rfl)))|((with_reducible first|apply Za1|apply Za3|apply Za2);all_goals (intro hc;(try simp only [bool_to_prop] at hc);try (exfalso;omega)))))
             exact⟨(j,dn),⟨⟨by show j≤y;omega,hsw,hS⟩,⟨by exact gW q0,by exact gW q1,by exact gW q2,by exact gW q3⟩,by exact gW ei,by exact gW es,by exact gW en,λk hk=>by rw [←hm k hk];try simp (disch:=omega) [Zac,marks,mark,hk],by simp only;rw [←hs];exact gC⟩,by show j < j1;omega⟩
            ·rw [Zjh (Ze4 hp)] at hS;rw [hS] at mK gv ga hml;rw [hS] at cc hp;clear hS hsj;generalize hz3:ordT d2[j+1]!.1 d2[j]!.1=z at *;clear hz3;generalize d2[j+1]! = vx at *;generalize d2[j]! = vy at *;generalize hM:d2.toList.map tqA=M at *;obtain⟨⟨vx1,vx2⟩,vx3⟩:=vx;obtain⟨⟨vy1,vy2⟩,vy3⟩:=vy
             try simp only [tqA] at *
             generalize hj1:j+1=j1 at *
             (repeat' (first|(with_reducible first|refine stp ?_|apply gx1|apply gx2|apply gx3|apply gx4|apply gx5|apply gx6|apply gx7|apply gy8|apply gz2|apply gz3|refine gw0 (cc) ?_ ?_|refine gw3 (cc) ?_ ?_ ?_)|(with_reducible refine Zao ?_;intro _)|((with_reducible refine gE ?_);(try simp (disch:=omega) only [go_sem,q0,q1,q2,q3,ei,es,ej,mK,gv,ga,hml,en,h1j,hp,decide_eq_true,decide_eq_false,if_pos,if_neg,Int.reduceAdd,Int.reduceSub,Int.reduceToNat,Int.zero_add])<;>first|rfl|omega)|with_reducible refine Zab (by decide) ?_|((with_reducible apply gy1);iterate 3 focus rfl)|((with_reducible apply gy2);iterate 3 focus rfl)|((with_reducible apply gy3);iterate 2 focus rfl)|((with_reducible apply gy4);iterate 1 focus rfl)|((with_reducible apply gy5);iterate 4 focus rfl)|((with_reducible apply gy5c);iterate 4 focus rfl)|((with_reducible apply gy6);iterate 4 focus rfl)|((with_reducible apply Za7);iterate 3 focus rfl)|((with_reducible apply Za6);iterate 1 focus rfl)|((with_reducible apply gy7);iterate 1 focus rfl)|((with_reducible apply gy9);(focus ((with_reducible refine gE ?_);(try simp (disch:=omega) only [go_sem,q0,q1,q2,q3,ei,es,ej,mK,gv,ga,hml,en,h1j,hp,decide_eq_true,decide_eq_false,if_pos,if_neg,Int.reduceAdd,Int.reduceSub,Int.reduceToNat,Int.zero_add])<;>rfl)))|((with_reducible apply gz1);(focus first|rfl|(simp (disch:=omega) only [go_sem,q0,q1,q2,q3,ei,es,ej,mK,gv,ga,hml,en,h1j,hp,decide_eq_true,decide_eq_false,if_pos,if_neg,Int.reduceAdd,Int.reduceSub,Int.reduceToNat,Int.zero_add];done)))|((with_reducible apply Zae (id:=16) (Zau [(10,iv z)]) [] []);(focus kernel_rfl);(focus rfl);(focus kernel_rfl);(focus (simp only [List.length_cons,List.length_nil,Nat.reduceAdd];rfl)))|((with_reducible first|apply Za1|apply Za3|apply Za2);all_goals (intro hc;(try simp only [bool_to_prop] at hc);try (exfalso;omega)))))
             exact⟨rfl,⟨by exact gW q0,by exact gW q1,by exact gW q2,by exact gW q3⟩,by exact gW ei,by exact gW es,λk hk=>by rw [←hm k hk];try simp (disch:=omega) [Zac,marks,mark,hk],by(simp (disch:=omega) only [go_sem,mK]<;>repeat' first|rfl|refine⟨?_,?_⟩)⟩
         ·exact⟨⟨Nat.le_refl _,hsw,hd2.symm⟩,⟨by exact gW q0,by exact gW q1,by exact gW q2,by exact gW q3⟩,by exact gW ei,by exact gW es,by exact gW cy,λk hk=>by rw [←hm k hk];try simp (disch:=omega) [Zac,marks,mark,hk],by simp only;rw [←hs];exact gC⟩
        ·rw [if_neg h2] at hd2;have h2':¬(2:Int)≤(ia:Int):=by omega
         rw [←hd2] at hs;(focus (refine wkad (w_7 q0 q1 q2 q3 ei es h2') w_t w_t ?_;(repeat' first|exact w_t|apply w_l);all_goals intros));exact⟨rfl,⟨by exact gW q0,by exact gW q1,by exact gW q2,by exact gW q3⟩,by exact gW ei,by exact gW es,λk hk=>by rw [←hm k hk];try simp (disch:=omega) [Zac,marks,mark,hk],by rw [←hs];exact gC⟩
       ·clear hs gx gy g3 hml mK q0 q1 q2 q3 ei es hm hd2 hsw
        rintro e m ⟨⟨q0,q1,q2,q3⟩,ei,es,hm,mK⟩
        (focus (refine wkvd (w_7 q0 q1 q2 q3 ei es cib) w_t w_t ?_;(repeat' first|exact w_t|apply w_l);all_goals intros));refine Zst (λe m=>(e 0=.own (K+1000) sv∧e 1=iv a∧e 2=iv b∧e 3=.fn 152 [])∧e 9=iv i2∧e 10=iv z0∧(∀k,k≠K→m (k+1000)=σ k)∧m (K+1000)=some (.row sv 49 4 ((d3).toList.map tqA) 0)) ?_ ?_
        ·by_cases h2:2≤ib
         ·rw [if_pos h2] at hd3;have h2':(2:Int)≤(ib:Int):=by omega
          have ci1:(i2:Int)+1=((i2+1:Nat):Int):=by omega
          (focus (refine wkad (w_8 q0 q1 q2 q3 ei es h2' ci1) w_t w_t ?_;(repeat' first|exact w_t|apply w_l);all_goals intros));refine Zad (ι:=Nat × Array TQ) (λp e m=>(i2+1≤p.1∧p.1≤b∧p.2.size=d.size∧Go.Sort.shiftUp stLt b p.1 p.2=d3)∧(e 0=.own (K+1000) sv∧e 1=iv a∧e 2=iv b∧e 3=.fn 152 [])∧e 9=iv i2∧e 10=iv z0∧e 12=iv p.1∧(∀k,k≠K→m (k+1000)=σ k)∧m (K+1000)=some (.row sv 49 4 ((p.2).toList.map tqA) 0)) (λp=>b - p.1) (i2+1,d2) (by rfl) ?_ ?_
          ·rintro ⟨j,dj⟩ e m ⟨⟨hj1,hjb,hsj,hS⟩,⟨q0,q1,q2,q3⟩,ei,es,ej,hm,mK⟩
           simp only at hj1 hjb hsj hS ej mK;by_cases hij:j < b
           ·have hij':(j:Int) < (b:Int):=by omega
            have hml:=Zbm tqA dj;rw [hsj] at hml;obtain⟨j0,hj0⟩:∃x,x=j - 1:=⟨_,rfl⟩;have gv:(dj.toList.map tqA).getD j .u=tqA dj[j]!:=Zay tqA (by omega) _;have ga:(dj.toList.map tqA).getD j0 .u=tqA dj[j0]!:=Zay tqA (by omega) _;have cc:=Zg3 dj[j]! dj[j0]!;have en:(j:Int) - 1=(j0:Int):=by omega
            have hjl:j < d.size:=by omega
            have hjl0:j0 < d.size:=by omega
            by_cases hp:ordT dj[j]!.1 dj[j0]!.1 < 0
            ·rw [Zm7 hij (by rw [←hj0];exact Zfw hp),←hj0] at hS;have hs:=Zcd tqA dj j j0;have g3:=Zce tqA (d:=dj) (j:=j0) (by omega) j AV.u;have hsw:(Go.Sort.swp dj j j0).size=d.size:=by rw [Go.Sort.size_swp,hsj]
             generalize Go.Sort.swp dj j j0=dn at *;generalize hz3:ordT dj[j]!.1 dj[j0]!.1=z at *;clear hz3;generalize dj[j]! = vx at *;generalize dj[j0]! = vy at *;generalize dj.toList.map tqA=M at *;obtain⟨⟨vx1,vx2⟩,vx3⟩:=vx;obtain⟨⟨vy1,vy2⟩,vy3⟩:=vy
             try simp only [tqA] at *
             (focus (refine wkad (w_16 q0 q1 q2 q3 ei es ej mK gv ga g3 hml en hij' hp @Zel) (w_1 cc) (w_2 (w_d 22 [(10,iv z)] [] []) (w_d 23 [] [15,2015,16,17] [])) ?_;(repeat' first|exact w_t|apply w_l);all_goals intros));exact⟨(j+1,dn),⟨⟨by show i2+1≤j+1;omega,by show j+1≤b;omega,hsw,hS⟩,⟨by exact gW q0,by exact gW q1,by exact gW q2,by exact gW q3⟩,by exact gW ei,by exact gW es,by exact gS,λk hk=>by rw [←hm k hk];try simp (disch:=omega) [Zac,marks,mark,hk],by simp only;rw [←hs];exact gC⟩,by show b - (j+1) < b - j;omega⟩
            ·rw [Zhn (by rintro ⟨-,h⟩;rw [←hj0,show stLt dj[j]! dj[j0]! = false from Ze4 hp] at h;cases h)] at hS;rw [hS] at mK gv ga hml;rw [hS] at cc hp;clear hS hsj;generalize hz3:ordT d3[j]!.1 d3[j0]!.1=z at *;clear hz3;generalize d3[j]! = vx at *;generalize d3[j0]! = vy at *;generalize hM:d3.toList.map tqA=M at *;obtain⟨⟨vx1,vx2⟩,vx3⟩:=vx;obtain⟨⟨vy1,vy2⟩,vy3⟩:=vy
             try simp only [tqA] at *
             (focus (refine wkad (w_14 q0 q1 q2 q3 ei es ej mK gv ga hml en hij' hp) (w_1 cc) (w_1 (w_d 22 [(10,iv z)] [] [])) ?_;(repeat' first|exact w_t|apply w_l);all_goals intros));exact⟨rfl,⟨by exact gW q0,by exact gW q1,by exact gW q2,by exact gW q3⟩,by exact gW ei,by exact gW es,λk hk=>by rw [←hm k hk];try simp (disch:=omega) [Zac,marks,mark,hk],by(simp (disch:=omega) only [go_sem,mK]<;>repeat' first|rfl|refine⟨?_,?_⟩)⟩
           ·rw [Zhn (λh=>hij h.1)] at hS;rw [hS] at mK;have hij':¬(j:Int) < (b:Int):=by omega
            (focus (refine wkad (w_8 q0 q1 q2 q3 ei es ej hij') w_t w_t ?_;(repeat' first|exact w_t|apply w_l);all_goals intros));exact⟨rfl,⟨by exact gW q0,by exact gW q1,by exact gW q2,by exact gW q3⟩,by exact gW ei,by exact gW es,λk hk=>by rw [←hm k hk];try simp (disch:=omega) [Zac,marks,mark,hk],by(simp (disch:=omega) only [go_sem,mK]<;>repeat' first|rfl|refine⟨?_,?_⟩)⟩
          ·exact⟨⟨Nat.le_refl _,by show i2+1≤b;omega,hsd2,hd3.symm⟩,⟨by exact gW q0,by exact gW q1,by exact gW q2,by exact gW q3⟩,by exact gW ei,by exact gW es,by exact gW ci1,λk hk=>by rw [←hm k hk];try simp (disch:=omega) [Zac,marks,mark,hk],by(simp (disch:=omega) only [go_sem,mK]<;>repeat' first|rfl|refine⟨?_,?_⟩)⟩
         ·rw [if_neg h2] at hd3;have h2':¬(2:Int)≤(ib:Int):=by omega
          rw [←hd3] at mK;(focus (refine wkad (w_7 q0 q1 q2 q3 ei es h2') w_t w_t ?_;(repeat' first|exact w_t|apply w_l);all_goals intros));exact⟨rfl,⟨by exact gW q0,by exact gW q1,by exact gW q2,by exact gW q3⟩,by exact gW ei,by exact gW es,λk hk=>by rw [←hm k hk];try simp (disch:=omega) [Zac,marks,mark,hk],by(simp (disch:=omega) only [go_sem,mK]<;>repeat' first|rfl|refine⟨?_,?_⟩)⟩
        ·clear mK q0 q1 q2 q3 ei es hm hd3
         rintro e m ⟨⟨q0,q1,q2,q3⟩,ei,es,hm,mK⟩
         (focus (refine wkad (w_7 q0 q1 q2 q3 ei es hz2) w_t w_t ?_;(repeat' first|exact w_t|apply w_l);all_goals intros));exact⟨((s,i2),d3),⟨⟨by show s≤5;omega,by show a < i2;omega,hi22,hsd3,hO⟩,⟨by exact gW q0,by exact gW q1,by exact gW q2,by exact gW q3⟩,by exact gW ei,by exact gW hz2,λk hk=>by rw [←hm k hk];try simp (disch:=omega) [Zac,marks,mark,hk],by(simp (disch:=omega) only [go_sem,mK]<;>repeat' first|rfl|refine⟨?_,?_⟩)⟩,by show s < s+1;omega⟩
 ·exact⟨⟨Nat.le_refl _,Nat.lt_succ_self a,by show a+1≤b;omega,rfl,hV⟩,⟨by exact gC,by exact gC,by exact gC,by exact gC⟩,by exact gW ca,by exact gC,λk hk=>by rw [←hL k];try simp (disch:=omega) [Zac,marks,mark],by(simp (disch:=omega) only [go_sem,m0K]<;>repeat' first|rfl|refine⟨?_,?_⟩)⟩
end Go.Proofs.YtjekhacnoopdpaaGreatDoor
