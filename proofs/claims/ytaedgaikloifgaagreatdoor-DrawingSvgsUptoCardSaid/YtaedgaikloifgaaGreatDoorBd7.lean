/- Contracts of the functions that the law reaches, and the rules by which they are walked. They say what a call hands back for every input within the bounds that each names; no other condition. -/
import Derived.Test.YtaedgaikloifgaaGreatDoorBd6
import Derived.Laws.RangeString
import Derived.Lib.OthersKept
import Derived.Laws.Strings
import Derived.Shelf.SlSortCmp.NoneTotal
import Derived.Shelf.Strconv.Itoa3
import Derived.Lib.Builder
import Derived.Lib.UnsafeStr
import Derived.Laws.Externs
import Derived.Shelf.RegionOpenPlain
import Derived.Lib.ItoaLen
set_option linter.unusedSimpArgs false
set_option linter.unusedVariables false
set_option maxRecDepth 20000
set_option maxHeartbeats 16000000
namespace Go.Proofs.YtaedgaikloifgaaGreatDoor
open Go Go.RowKit Go.Pg Go.Proofs.Tryz
attribute [-bool_to_prop] Bool.and_eq_decide Bool.or_eq_decide Bool.decide_beq_decide decide_eq_decide
theorem Zpi:∀(l:List Rat) (m:Rat),minF m l≤m∧∀a∈l,minF m l≤a
 | [],m=>⟨Rat.le_refl,by simp⟩
 | a :: l,m=>by
   have e:minF m (a :: l)=minF (if a < m then a else m) l:=rfl;obtain⟨h1,h2⟩:=Zpi l (if a < m then a else m);rw [e];have h3:(if a < m then a else m)≤m:=by split<;>grind
   have h4:(if a < m then a else m)≤a:=by split<;>grind
   refine⟨Rat.le_trans h1 h3,λb hb=>?_⟩;rcases List.mem_cons.1 hb with rfl | hb
   ·exact Rat.le_trans h1 h4
   ·exact h2 b hb
theorem Zpn:∀(l:List Rat) (m:Rat),m≤maxF m l∧∀a∈l,a≤maxF m l
 | [],m=>⟨Rat.le_refl,by simp⟩
 | a :: l,m=>by
   have e:maxF m (a :: l)=maxF (if m < a then a else m) l:=rfl;obtain⟨h1,h2⟩:=Zpn l (if m < a then a else m);rw [e];have h3:m≤(if m < a then a else m):=by split<;>grind
   have h4:a≤(if m < a then a else m):=by split<;>grind
   refine⟨Rat.le_trans h3 h1,λb hb=>?_⟩;rcases List.mem_cons.1 hb with rfl | hb
   ·exact Rat.le_trans h4 h1
   ·exact h2 b hb
theorem Zra {a b:Rat} (ha:0≤a) (hb:0 < b):0≤a/b:=by
 rw [Rat.div_def];exact Rat.mul_nonneg ha (Rat.le_of_lt (Rat.inv_pos.2 hb))
theorem Zlh {a b:Rat} (hb:b≠0):a/b*b=a:=Rat.div_mul_cancel hb
theorem fac_ok {w h:Nat} {x y:Rat} (hx:0≤x) (hy:0≤y):0≤fac w h x y∧fac w h x y*x≤((w - 40:Nat):Rat)∧fac w h x y*y≤((h - 40:Nat):Rat):=by
 have nw:(0:Rat)≤((w - 40:Nat):Rat):=Rat.natCast_nonneg;have nh:(0:Rat)≤((h - 40:Nat):Rat):=Rat.natCast_nonneg;generalize hw':((w - 40:Nat):Rat)=W at *;generalize hh':((h - 40:Nat):Rat)=H at *;unfold fac;rw [hw',hh'];by_cases h0:x=0
 ·rw [Zv6 h0];by_cases h1:y=0
  ·rw [Zv6 h1,h0,h1,Rat.mul_zero];exact⟨by decide,nw,nh⟩
  ·rw [Zv5 h1,h0,Rat.mul_zero,Zlh h1];exact⟨Zra nh (by grind),nw,Rat.le_refl⟩
 ·rw [Zv5 h0];have hxp:0 < x:=by grind
  by_cases h1:y=0
  ·rw [Zv6 h1,h1,Rat.mul_zero,Zlh h0];exact⟨Zra nw hxp,Rat.le_refl,nh⟩
  ·have hyp:0 < y:=by grind
   rw [Zv5 h1];by_cases hlt:H/y < W/x
   ·rw [Zv6 hlt,Zlh h1];refine⟨Zra nh hyp,?_,Rat.le_refl⟩;have:=Rat.mul_le_mul_of_nonneg_right (Rat.le_of_lt hlt) hx
    rwa [Zlh h0] at this
   ·rw [Zv5 hlt,Zlh h0];refine⟨Zra nw hxp,Rat.le_refl,?_⟩;have:=Rat.mul_le_mul_of_nonneg_right (Rat.not_lt.1 hlt) hy
    rwa [Zlh h1] at this
theorem hlf_eq:hlf=1/2:=by
 have:=Rat.mkRat_eq_div 1 2;exact this
theorem Zq8 {q:Rat} {a b:Nat} (h1:((a:Nat):Rat)≤q) (h2:q≤((b:Nat):Rat)):(a:Int)≤(q+hlf).floor∧(q+hlf).floor≤(b:Int):=by
 constructor
 ·refine Rat.le_floor_iff.2 ?_;have:(((a:Nat):Int):Rat)=((a:Nat):Rat):=rfl;rw [this,hlf_eq]
  grind
 ·have h3:(q+hlf).floor < (b:Int)+1:=by
   refine Rat.floor_lt_iff.2 ?_;have:(((b:Nat):Int):Rat)=((b:Nat):Rat):=rfl;rw [Rat.intCast_add,this,hlf_eq];have:((1:Int):Rat)=1:=rfl;rw [this]
   grind
  omega
theorem Zm4 {f c c0 c1:Rat} {w:Nat} (hf:0≤f) (hw:f*(c1 - c0)≤((w - 40:Nat):Rat)) (hw0:40≤w) (h1:c0≤c) (h2:c≤c1) :
 ((0:Nat):Rat)≤f*(c - c0)∧f*(c - c0)≤((w - 40:Nat):Rat):=by
 have a1:0≤c - c0:=by grind
 have a2:c - c0≤c1 - c0:=by grind
 exact⟨Rat.mul_nonneg hf a1,Rat.le_trans (Rat.mul_le_mul_of_nonneg_left a2 hf) hw⟩
theorem Zfw {a b:Nat} (h:b≤a):((a - b:Nat):Rat)=(a:Rat) - (b:Rat):=by
 have:(a:Rat)=((a - b+b:Nat):Rat):=by rw [ZAf h]
 rw [this,Rat.natCast_add]
 grind
theorem px_in {f x0 x1:Rat} {w:Nat} {b:BxQ} (hf:0≤f) (hw:f*(x1 - x0)≤((w - 40:Nat):Rat)) (hw0:40≤w) (h1:x0≤b.cx) (h2:b.cx≤x1):(20:Int)≤(pxR f x0 b+hlf).floor∧(pxR f x0 b+hlf).floor≤((w - 20:Nat):Int):=by
 have h:=Zm4 hf hw hw0 h1 h2;have e1:=Zfw (a:=w) (b:=40) zo;have e2:=Zfw (a:=w) (b:=20) zo;refine Zq8 (a:=20) ?_ ?_
 ·unfold pxR;generalize f*(b.cx - x0)=z at *;have:=h.1
  grind
 ·unfold pxR;rw [e2];rw [e1] at h;generalize f*(b.cx - x0)=z at *;have:=h.2
  grind
theorem py_in {f y0 y1:Rat} {h:Nat} {b:BxQ} (hf:0≤f) (hw:f*(y1 - y0)≤((h - 40:Nat):Rat)) (hw0:40≤h) (h1:y0≤b.cy) (h2:b.cy≤y1):(20:Int)≤(pyR f y0 h b+hlf).floor∧(pyR f y0 h b+hlf).floor≤((h - 20:Nat):Int):=by
 have hh:=Zm4 hf hw hw0 h1 h2;have e1:=Zfw (a:=h) (b:=40) zo;have e2:=Zfw (a:=h) (b:=20) zo;refine Zq8 (a:=20) ?_ ?_
 ·unfold pyR;rw [e2];rw [e1] at hh;generalize f*(b.cy - y0)=z at *;have:=hh.2
  grind
 ·unfold pyR;generalize f*(b.cy - y0)=z at *;have:=hh.1
  grind
attribute [local go_sem] Zcb Zcc Zca Zrq eqP2 List.not_mem_nil false_imp_iff
def RBox.q (x:RBox):BxQ:=⟨x.a.q,x.b.q,x.c.q,x.d.q⟩
theorem RQ.sh_av {r:RQ} (h1:Lm r.l) (h2:Lm r.d) (h:r.sh=true):r.av=ratQ r.q∧Sz r.q 4:=by
 simp only [RQ.sh,Zwv,Zw4] at h;exact RQ.ok_av ⟨h1,h2,h.1.2,h.2⟩ h.1.1
theorem RBox.sh_av {x:RBox} {k:Nat} (hl:x.lm k) (h:x.sh=true):x.av=x.q.av∧x.q.sz 4:=by
 simp only [RBox.sh,Zwv] at h;obtain⟨⟨⟨ha,hb⟩,hc⟩,hd⟩:=h;obtain⟨la,lb,lc,ld⟩:=hl;obtain⟨ea,sa⟩:=RQ.sh_av la.1 la.2.1 ha;obtain⟨eb,sb⟩:=RQ.sh_av lb.1 lb.2.1 hb;obtain⟨ec,sc⟩:=RQ.sh_av lc.1 lc.2.1 hc;obtain⟨ed,sd⟩:=RQ.sh_av ld.1 ld.2.1 hd;refine⟨?_,sa,sb,sc,sd⟩;show AV.agg (x.a.av.cells++(x.b.av.cells++(x.c.av.cells++x.d.av.cells)))=AV.agg ((ratQ x.a.q).cells++((ratQ x.b.q).cells++((ratQ x.c.q).cells++(ratQ x.d.q).cells)));rw [ea,eb,ec,ed]
theorem okB_row {l:List RBox} {k:Nat} (hl:∀b∈l,b.lm k) (h:okB l=true):l.map RBox.av=(l.map RBox.q).map BxQ.av∧(∀b∈l.map RBox.q,b.sz 4)∧l.length≤12:=by
 simp only [okB,Zwv,Zw4,Zy1] at h;obtain⟨⟨h1,h2⟩,_⟩:=h;refine⟨?_,λb hb=>?_,h2⟩
 ·rw [List.map_map];exact Zzn λx hx=>(RBox.sh_av (hl x hx) (h1 x hx)).1
 ·obtain⟨x,hx,rfl⟩:=List.mem_map.1 hb;exact(RBox.sh_av (hl x hx) (h1 x hx)).2
theorem scale_ok (b0:BxQ) (rest:List BxQ) (w h:Nat) (h1:100≤w) (h2:w≤4000) (h3:100≤h) (h4:h≤4000)
 {x0 x1 y0 y1 f:Rat} (ex0:minF b0.cx (rest.map BxQ.cx)=x0) (ex1:maxF b0.cx (rest.map BxQ.cx)=x1) (ey0:minF b0.cy (rest.map BxQ.cy)=y0) (ey1:maxF b0.cy (rest.map BxQ.cy)=y1)
 (ef:fac w h (x1 - x0) (y1 - y0)=f):(0≤f)∧∀b∈b0 :: rest,((20:Int)≤(pxR f x0 b+hlf).floor∧(pxR f x0 b+hlf).floor≤((w - 20:Nat):Int))∧((20:Int)≤(pyR f y0 h b+hlf).floor∧(pyR f y0 h b+hlf).floor≤((h - 20:Nat):Int)):=by
 have hx:∀b∈b0 :: rest,x0≤b.cx∧b.cx≤x1:=by
  intro b hb;have m1:=Zpi (rest.map BxQ.cx) b0.cx;have m2:=Zpn (rest.map BxQ.cx) b0.cx;rw [ex0] at m1;rw [ex1] at m2;rcases List.mem_cons.1 hb with rfl | hb
  ·exact⟨m1.1,m2.1⟩
  ·exact⟨m1.2 _ (List.mem_map_of_mem hb),m2.2 _ (List.mem_map_of_mem hb)⟩
 have hy:∀b∈b0 :: rest,y0≤b.cy∧b.cy≤y1:=by
  intro b hb;have m1:=Zpi (rest.map BxQ.cy) b0.cy;have m2:=Zpn (rest.map BxQ.cy) b0.cy;rw [ey0] at m1;rw [ey1] at m2;rcases List.mem_cons.1 hb with rfl | hb
  ·exact⟨m1.1,m2.1⟩
  ·exact⟨m1.2 _ (List.mem_map_of_mem hb),m2.2 _ (List.mem_map_of_mem hb)⟩
 have dx:0≤x1 - x0:=by have:=hx b0 Zxd;grind
 have dy:0≤y1 - y0:=by have:=hy b0 Zxd;grind
 have hf:=fac_ok (w:=w) (h:=h) dx dy;rw [ef] at hf;refine⟨hf.1,λb hb=>⟨px_in hf.1 hf.2.1 zo (hx b hb).1 (hx b hb).2,py_in hf.1 hf.2.2 zo (hy b hb).1 (hy b hb).2⟩⟩
abbrev ppA (p:Int × Int):AV:=.agg [.v (.int .i64 p.1),.v (.int .i64 p.2)]
theorem Zqc {q:Rat} {n:Nat} (hn:n≤4000) (h:(20:Int)≤(q+hlf).floor∧(q+hlf).floor≤((n - 20:Nat):Int)):Zm8 q:=by unfold Zm8;omega
end Go.Proofs.YtaedgaikloifgaaGreatDoor
namespace Go.Pol
structure KO {α:Type} (D:α→Prop) (lt:α→α→Prop):Prop where
 irr:∀x,¬lt x x
 tr:∀x y z,lt x y→lt y z→lt x z
 tri:∀x y,D x→D y→lt x y∨x=y∨lt y x
section
variable {α:Type} {D:α→Prop} {lt:α→α→Prop} [DecidableEq α]
def cof:List (Rat × α)→α→Rat
 | [],_=>0
 | t :: p,x=>(if t.2=x then t.1 else 0)+cof p x
end
section
variable {α:Type} {D:α→Prop} {lt:α→α→Prop}
def addP (lt:α→α→Prop) [DecidableRel lt]:List (Rat × α)→List (Rat × α)→List (Rat × α)
 | [],q=>q
 | s :: p,[]=>s :: p
 | s :: p,t :: q =>
   if lt t.2 s.2 then s :: addP lt p (t :: q)
   else if lt s.2 t.2 then t :: addP lt (s :: p) q
   else if s.1+t.1=0 then addP lt p q
   else (s.1+t.1,s.2) :: addP lt p q
termination_by p q=>p.length+q.length
def Srt (D:α→Prop) (lt:α→α→Prop) (p:List (Rat × α)):Prop:=(∀t∈p,t.1≠0∧D t.2)∧p.Pairwise (λs t=>lt t.2 s.2)
end
section
variable {α:Type} {D:α→Prop} {lt:α→α→Prop} [DecidableEq α]
end
section
variable {α:Type} {D:α→Prop} {lt:α→α→Prop} [DecidableRel lt]
theorem Zmc {p q:List (Rat × α)} {t:Rat × α} (h:t∈addP lt p q):∃s∈p++q,t.2=s.2:=by
 fun_induction addP lt p q with
 | case1 q=>exact⟨t,by simpa using h,rfl⟩
 | case2 s p=>exact⟨t,by simpa using h,rfl⟩
 | case3 s p u q h1 ih =>
   rcases List.mem_cons.1 h with rfl | h
   ·exact⟨t,by simp,rfl⟩
   ·obtain⟨v,hv,e⟩:=ih h;exact⟨v,by simp only [Zzz,Zxk,Zyo] at hv ⊢;rcases hv with hv | hv | hv<;>simp [hv],e⟩
 | case4 s p u q h1 h2 ih =>
   rcases List.mem_cons.1 h with rfl | h
   ·exact⟨t,by simp,rfl⟩
   ·obtain⟨v,hv,e⟩:=ih h;exact⟨v,by simp only [Zzz,Zxk,Zyo] at hv ⊢;rcases hv with hv | hv | hv<;>simp [hv],e⟩
 | case5 s p u q h1 h2 h3 ih =>
   obtain⟨v,hv,e⟩:=ih h;exact⟨v,by simp only [Zzz,Zxk,Zyo] at hv ⊢;rcases hv with hv | hv<;>simp [hv],e⟩
 | case6 s p u q h1 h2 h3 ih =>
   rcases List.mem_cons.1 h with rfl | h
   ·exact⟨s,by simp,rfl⟩
   ·obtain⟨v,hv,e⟩:=ih h;exact⟨v,by simp only [Zzz,Zxk,Zyo] at hv ⊢;rcases hv with hv | hv<;>simp [hv],e⟩
end
section
variable {α:Type} {D:α→Prop} {lt:α→α→Prop} [DecidableEq α] [DecidableRel lt]
theorem cof_addP (o:KO D lt) {p q:List (Rat × α)} (x:α) (hp:∀t∈p,D t.2) (hq:∀t∈q,D t.2):cof (addP lt p q) x=cof p x+cof q x:=by
 fun_induction addP lt p q with
 | case1 q=>show cof q x=0+cof q x;rw [Rat.zero_add]
 | case2 s p=>show cof (s :: p) x=cof (s :: p) x+0;rw [Rat.add_zero]
 | case3 s p u q h1 ih =>
   have:=ih (λt h=>hp t (.tail _ h)) hq;simp only [cof] at this ⊢;rw [this];grind
 | case4 s p u q h1 h2 ih =>
   have:=ih hp (λt h=>hq t (.tail _ h));simp only [cof] at this ⊢;rw [this];grind
 | case5 s p u q h1 h2 h3 ih =>
   have e:s.2=u.2:=by rcases o.tri s.2 u.2 (hp s (.head _)) (hq u (.head _)) with h | h | h;exact absurd h h2;exact h;exact absurd h h1
   have:=ih (λt h=>hp t (.tail _ h)) (λt h=>hq t (.tail _ h));simp only [cof] at this ⊢;rw [this,e];split<;>grind
 | case6 s p u q h1 h2 h3 ih =>
   have e:s.2=u.2:=by rcases o.tri s.2 u.2 (hp s (.head _)) (hq u (.head _)) with h | h | h;exact absurd h h2;exact h;exact absurd h h1
   have:=ih (λt h=>hp t (.tail _ h)) (λt h=>hq t (.tail _ h));simp only [cof] at this ⊢;rw [this,e];split<;>grind
end
section
variable {α:Type} {D:α→Prop} {lt:α→α→Prop}
theorem Srt.nil:Srt D lt ([]:List (Rat × α)):=⟨by simp,.nil⟩
theorem Srt.tail {t:Rat × α} {p:List (Rat × α)} (h:Srt D lt (t :: p)):Srt D lt p:=⟨λu hu=>h.1 u (.tail _ hu),(List.pairwise_cons.1 h.2).2⟩
theorem Srt.cons {t:Rat × α} {p:List (Rat × α)} (h:Srt D lt p) (h1:t.1≠0) (h2:D t.2) (h3:∀u∈p,lt u.2 t.2):Srt D lt (t :: p) :=
 ⟨λu hu=>by rcases List.mem_cons.1 hu with rfl | hu;exact⟨h1,h2⟩;exact h.1 u hu,List.pairwise_cons.2 ⟨h3,h.2⟩⟩
theorem Srt.dom {p:List (Rat × α)} (h:Srt D lt p):∀t∈p,D t.2:=λt ht=>(h.1 t ht).2
theorem Srt.head_lt {t:Rat × α} {p:List (Rat × α)} (h:Srt D lt (t :: p)):∀u∈p,lt u.2 t.2:=(List.pairwise_cons.1 h.2).1
end
section
variable {α:Type} {D:α→Prop} {lt:α→α→Prop} [DecidableRel lt]
theorem Zmu (o:KO D lt) {p q:List (Rat × α)} (hp:Srt D lt p) (hq:Srt D lt q):Srt D lt (addP lt p q):=by
 fun_induction addP lt p q with
 | case1 q=>exact hq
 | case2 s p=>exact hp
 | case3 s p u q h1 ih =>
   refine(ih hp.tail hq).cons (hp.1 s (.head _)).1 (hp.1 s (.head _)).2 λv hv=>?_;obtain⟨w,hw,e⟩:=Zmc hv;rw [e];rcases List.mem_append.1 hw with hw | hw
   ·exact hp.head_lt w hw
   ·rcases List.mem_cons.1 hw with rfl | hw
    ·exact h1
    ·exact o.tr _ _ _ (hq.head_lt w hw) h1
 | case4 s p u q h1 h2 ih =>
   refine(ih hp hq.tail).cons (hq.1 u (.head _)).1 (hq.1 u (.head _)).2 λv hv=>?_;obtain⟨w,hw,e⟩:=Zmc hv;rw [e];rcases List.mem_append.1 hw with hw | hw
   ·rcases List.mem_cons.1 hw with rfl | hw
    ·exact h2
    ·exact o.tr _ _ _ (hp.head_lt w hw) h2
   ·exact hq.head_lt w hw
 | case5 s p u q h1 h2 h3 ih=>exact ih hp.tail hq.tail
 | case6 s p u q h1 h2 h3 ih =>
   have es:s.2=u.2:=by rcases o.tri s.2 u.2 (hp.dom s (.head _)) (hq.dom u (.head _)) with h | h | h;exact absurd h h2;exact h;exact absurd h h1
   refine(ih hp.tail hq.tail).cons h3 (hp.1 s (.head _)).2 λv hv=>?_;obtain⟨w,hw,e⟩:=Zmc hv;rw [e];rcases List.mem_append.1 hw with hw | hw
   ·exact hp.head_lt w hw
   ·show lt w.2 s.2;rw [es];exact hq.head_lt w hw
end
section
variable {α:Type} {D:α→Prop} {lt:α→α→Prop} [DecidableEq α]
theorem Zkj (o:KO D lt) {p:List (Rat × α)} {x:α} (h:∀t∈p,lt t.2 x):cof p x=0:=by
 induction p with
 | nil=>rfl
 | cons t p ih =>
   show(if t.2=x then t.1 else 0)+cof p x=0;rw [Zv5 (by rintro rfl;exact o.irr _ (h t (.head _))),ih λu hu=>h u (.tail _ hu),Rat.add_zero]
theorem Zg1 (o:KO D lt) {t:Rat × α} {p:List (Rat × α)} (h:Srt D lt (t :: p)):cof (t :: p) t.2=t.1:=by
 show(if t.2=t.2 then t.1 else 0)+cof p t.2=t.1;rw [Zv6 rfl,Zkj o h.head_lt,Rat.add_zero]
theorem Ztd (o:KO D lt):∀{p q:List (Rat × α)},Srt D lt p→Srt D lt q→(∀x,cof p x=cof q x)→p=q
 | [],[],_,_,_=>rfl
 | [],t :: q,_,hq,h=>absurd ((Zg1 o hq).symm.trans (h t.2).symm) (hq.1 t (.head _)).1
 | s :: p,[],hp,_,h=>absurd ((Zg1 o hp).symm.trans (h s.2)) (hp.1 s (.head _)).1
 | s :: p,t :: q,hp,hq,h=>by
   have ks:s.2=t.2:=by
    rcases o.tri s.2 t.2 (hp.dom s (.head _)) (hq.dom t (.head _)) with hl | hl | hl
    ·have h1:cof (s :: p) t.2=0:=Zkj o λu hu=>by
      rcases List.mem_cons.1 hu with rfl | hu
      ·exact hl
      ·exact o.tr _ _ _ (hp.head_lt u hu) hl
     exact absurd (((h t.2).symm.trans h1).symm.trans (Zg1 o hq)).symm (hq.1 t (.head _)).1
    ·exact hl
    ·have h1:cof (t :: q) s.2=0:=Zkj o λu hu=>by
      rcases List.mem_cons.1 hu with rfl | hu
      ·exact hl
      ·exact o.tr _ _ _ (hq.head_lt u hu) hl
     exact absurd (((h s.2).trans h1).symm.trans (Zg1 o hp)).symm (hp.1 s (.head _)).1
   have kc:s.1=t.1:=by
    have h1:=h s.2;rw [Zg1 o hp,ks,Zg1 o hq] at h1;exact h1
   have e:s=t:=Prod.ext kc ks;subst e;congr 1;refine Ztd o hp.tail hq.tail λx=>?_;have h1:=h x;simp only [cof] at h1
   grind
end
section
variable {α:Type} {D:α→Prop} {lt:α→α→Prop}
def Zjh (m:α→α→α) (p:List (Rat × α)) (t:Rat × α):List (Rat × α):=p.map λs=>(s.1*t.1,m s.2 t.2)
structure KM (D:α→Prop) (lt:α→α→Prop) (m:α→α→α):Prop where
 comm:∀x y,m x y=m y x
 dom:∀x y,D x→D y→D (m x y)
 mono:∀x y z,D x→D y→D z→lt x y→lt (m x z) (m y z)
theorem Zs5 {m:α→α→α} (k:KM D lt m) {p:List (Rat × α)} {t:Rat × α} (hp:Srt D lt p) (h1:t.1≠0) (h2:D t.2):Srt D lt (Zjh m p t):=by
 refine⟨λu hu=>?_,?_⟩
 ·obtain⟨s,hs,rfl⟩:=List.mem_map.1 hu;have:=hp.1 s hs;exact⟨by show s.1*t.1≠0;intro h0;rcases Rat.mul_eq_zero.1 h0 with h | h;exact this.1 h;exact h1 h,k.dom _ _ this.2 h2⟩
 ·refine List.pairwise_map.2 (hp.2.imp_of_mem λ{a b} ha hb hl=>k.mono _ _ _ (hp.dom b hb) (hp.dom a ha) h2 hl)
end
section
variable {α:Type} {D:α→Prop} {lt:α→α→Prop} [DecidableEq α]
def cofM (m:α→α→α) (p:List (Rat × α)):List (Rat × α)→α→Rat
 | [],_=>0
 | t :: q,x=>cof (Zjh m p t) x+cofM m p q x
end
section
variable {α:Type} {D:α→Prop} {lt:α→α→Prop}
def mulR (lt:α→α→Prop) [DecidableRel lt] (m:α→α→α) (p q:List (Rat × α)):List (Rat × α):=q.foldl (λout t=>addP lt out (Zjh m p t)) []
end
section
variable {α:Type} {D:α→Prop} {lt:α→α→Prop} [DecidableRel lt]
theorem Zn5 (o:KO D lt) {m:α→α→α} (k:KM D lt m) {p:List (Rat × α)} (hp:Srt D lt p):∀(q out:List (Rat × α)),Srt D lt q→Srt D lt out→Srt D lt (q.foldl (λout t=>addP lt out (Zjh m p t)) out)
 | [],_,_,ho=>ho
 | t :: q,_,hq,ho=>Zn5 o k hp q _ hq.tail (Zmu o ho (Zs5 k hp (hq.1 t (.head _)).1 (hq.1 t (.head _)).2))
end
section
variable {α:Type} {D:α→Prop} {lt:α→α→Prop} [DecidableEq α] [DecidableRel lt]
end
section
variable {α:Type} {D:α→Prop} {lt:α→α→Prop} [DecidableRel lt]
theorem mulR_srt (o:KO D lt) {m:α→α→α} (k:KM D lt m) {p q:List (Rat × α)} (hp:Srt D lt p) (hq:Srt D lt q):Srt D lt (mulR lt m p q):=Zn5 o k hp q [] hq .nil
end
section
variable {α:Type} {D:α→Prop} {lt:α→α→Prop} [DecidableEq α] [DecidableRel lt]
end
section
variable {α:Type} {D:α→Prop} {lt:α→α→Prop}
def sumH (lt:α→α→Prop) [DecidableRel lt]:List (List (Rat × α))→List (Rat × α)
 | []=>[]
 | [p]=>p
 | p :: q :: l=>addP lt (sumH lt ((p :: q :: l).take ((p :: q :: l).length/2))) (sumH lt ((p :: q :: l).drop ((p :: q :: l).length/2)))
termination_by l=>l.length
decreasing_by all_goals (simp only [Zws,Zys,Zwd];omega)
end
section
variable {α:Type} {D:α→Prop} {lt:α→α→Prop} [DecidableEq α]
def cofL:List (List (Rat × α))→α→Rat
 | [],_=>0
 | p :: l,x=>cof p x+cofL l x
end
section
variable {α:Type} {D:α→Prop} {lt:α→α→Prop} [DecidableRel lt]
end
section
variable {α:Type} {D:α→Prop} {lt:α→α→Prop} [DecidableEq α] [DecidableRel lt]
end
section
variable {α:Type} {D:α→Prop} {lt:α→α→Prop}
def mulH (lt:α→α→Prop) [DecidableRel lt] (m:α→α→α) (p q:List (Rat × α)):List (Rat × α):=sumH lt (p.map λt=>Zjh m q t)
end
section
variable {α:Type} {D:α→Prop} {lt:α→α→Prop} [DecidableEq α] [DecidableRel lt]
end
section
variable {α:Type} {D:α→Prop} {lt:α→α→Prop} [DecidableRel lt]
end
def evl {α:Type} (φ:α→Rat):List (Rat × α)→Rat
 | []=>0
 | t :: p=>t.1*φ t.2+evl φ p
section
variable {α:Type} {D:α→Prop} {lt:α→α→Prop} [DecidableRel lt]
end
section
variable {α:Type} {D:α→Prop} {lt:α→α→Prop}
def Zjo (a:Rat) (p:List (Rat × α)):List (Rat × α):=p.map λs=>(s.1*a,s.2)
theorem Zf7 {a:Rat} {p:List (Rat × α)} (hp:Srt D lt p) (h:a≠0):Srt D lt (Zjo a p):=by
 refine⟨λu hu=>?_,List.pairwise_map.2 hp.2⟩;obtain⟨s,hs,rfl⟩:=List.mem_map.1 hu;have:=hp.1 s hs;exact⟨by show s.1*a≠0;intro h0;rcases Rat.mul_eq_zero.1 h0 with h1 | h1;exact this.1 h1;exact h h1,this.2⟩
end
section
variable {α:Type} [DecidableEq α]
theorem Zof (a:Rat) (p:List (Rat × α)) (x:α):cof (Zjo a p) x=cof p x*a:=by
 induction p with
 | nil=>show(0:Rat)=0*a;rw [Rat.zero_mul]
 | cons s p ih =>
   show(if s.2=x then s.1*a else 0)+cof (Zjo a p) x=((if s.2=x then s.1 else 0)+cof p x)*a;rw [ih];split<;>grind
end
section
variable {α:Type} {D:α→Prop} {lt:α→α→Prop} [DecidableEq α] [DecidableRel lt]
end
section
variable {α:Type} {lt:α→α→Prop} [DecidableRel lt]
end
section
variable {α:Type} {D:α→Prop} {lt:α→α→Prop} [DecidableRel lt]
def subP (lt:α→α→Prop) [DecidableRel lt] (p q:List (Rat × α)):List (Rat × α):=addP lt p (Zjo (-1) q)
theorem neg1:(-1:Rat)≠0:=by decide
theorem Zta (o:KO D lt) {p q:List (Rat × α)} (hp:Srt D lt p) (hq:Srt D lt q):Srt D lt (subP lt p q):=Zmu o hp (Zf7 hq neg1)
end
section
variable {α:Type} {D:α→Prop} {lt:α→α→Prop} [DecidableEq α] [DecidableRel lt]
theorem Ztb (o:KO D lt) {p q:List (Rat × α)} (hp:Srt D lt p) (hq:Srt D lt q) (x:α):cof (subP lt p q) x=cof p x - cof q x:=by
 unfold subP;rw [cof_addP o x hp.dom (Zf7 hq neg1).dom,Zof]
 grind
theorem neg_sub (o:KO D lt) {p q:List (Rat × α)} (hp:Srt D lt p) (hq:Srt D lt q):Zjo (-1) (subP lt p q)=subP lt q p :=
 Ztd o (Zf7 (Zta o hp hq) neg1) (Zta o hq hp) λx=>by rw [Zof,Ztb o hp hq,Ztb o hq hp];grind
end
section
variable {α:Type} {lt:α→α→Prop} [DecidableRel lt]
theorem Znx {p q:List (Rat × α)} {t:Rat × α} (h:t∈addP lt p q):t∈p∨t∈q∨∃s∈p,∃u∈q,t=(s.1+u.1,s.2):=by
 fun_induction addP lt p q with
 | case1 q=>exact .inr (.inl h)
 | case2 s p=>exact .inl h
 | case3 s p u q h1 ih =>
   rcases List.mem_cons.1 h with rfl | h
   ·exact .inl (.head _)
   ·rcases ih h with h | h | ⟨a,ha,b,hb,e⟩
    ·exact .inl (.tail _ h)
    ·exact .inr (.inl h)
    ·exact .inr (.inr ⟨a,.tail _ ha,b,hb,e⟩)
 | case4 s p u q h1 h2 ih =>
   rcases List.mem_cons.1 h with rfl | h
   ·exact .inr (.inl (.head _))
   ·rcases ih h with h | h | ⟨a,ha,b,hb,e⟩
    ·exact .inl h
    ·exact .inr (.inl (.tail _ h))
    ·exact .inr (.inr ⟨a,ha,b,.tail _ hb,e⟩)
 | case5 s p u q h1 h2 h3 ih =>
   rcases ih h with h | h | ⟨a,ha,b,hb,e⟩
   ·exact .inl (.tail _ h)
   ·exact .inr (.inl (.tail _ h))
   ·exact .inr (.inr ⟨a,.tail _ ha,b,.tail _ hb,e⟩)
 | case6 s p u q h1 h2 h3 ih =>
   rcases List.mem_cons.1 h with rfl | h
   ·exact .inr (.inr ⟨s,.head _,u,.head _,rfl⟩)
   ·rcases ih h with h | h | ⟨a,ha,b,hb,e⟩
    ·exact .inl (.tail _ h)
    ·exact .inr (.inl (.tail _ h))
    ·exact .inr (.inr ⟨a,.tail _ ha,b,.tail _ hb,e⟩)
end
def BQ (D B:Nat) (q:Rat):Prop:=q.den ∣ D∧q.num.natAbs≤B*q.den
theorem Zqx {z:Int} {m:Nat} (hm:m≠0) {D B:Nat} (hd:m ∣ D*Nat.gcd z.natAbs m) (hb:z.natAbs≤B*m):BQ D B (mkRat z m):=by
 have h0:0 < Nat.gcd z.natAbs m:=ZA1 _ (Zx9 hm);obtain⟨c,hc⟩:=Nat.gcd_dvd_right z.natAbs m;obtain⟨a,ha⟩:=Nat.gcd_dvd_left z.natAbs m;unfold BQ;rw [Rat.num_mkRat,Rat.den_mkRat,Zv5 hm,Zzq m z.natAbs];generalize Nat.gcd z.natAbs m=g at *;have e1:m/g=c:=by rw [hc];exact Nat.mul_div_cancel_left _ h0
 have e2:(z/(g:Int)).natAbs=a:=by
  rcases Int.natAbs_eq z with h | h
  ·rw [h,ha,show((g*a:Nat):Int)=(g:Int)*(a:Int) from by simp,ZAj _ zo];simp
  ·rw [h,ha,show -((g*a:Nat):Int)=(g:Int)*(-(a:Int)) from by simp [Int.mul_neg],ZAj _ zo];simp
 rw [e1,Zv5 hm,e2];constructor
 ·rw [hc,Zw2 D] at hd;exact Nat.dvd_of_mul_dvd_mul_left h0 hd
 ·rw [ha,hc,show B*(g*c)=g*(B*c) from by simp only [Zze]] at hb;exact Nat.le_of_mul_le_mul_left hb h0
theorem BQ.mono {D B E C:Nat} {q:Rat} (h:BQ D B q) (hd:D ∣ E) (hb:B≤C):BQ E C q:=⟨Nat.dvd_trans h.1 hd,Zwj h.2 (Zww _ hb)⟩
theorem BQ.mul {D B E C:Nat} {a b:Rat} (h:BQ D B a) (k:BQ E C b):BQ (D*E) (B*C) (a*b):=by
 rw [Rat.mul_def'];refine Zqx (Zz1 a.den_nz b.den_nz) (Nat.dvd_trans (Nat.mul_dvd_mul h.1 k.1) (ZAr _ _)) ?_;rw [Zyr]
 calc _≤(B*a.den)*(C*b.den):=Zyq h.2 k.2
  _=B*C*(a.den*b.den):=by simp only [Zxf,Zze]
theorem BQ.add {D B C:Nat} {a b:Rat} (h:BQ D B a) (k:BQ D C b):BQ D (B+C) (a+b):=by
 obtain⟨x,hx⟩:=h.1;obtain⟨y,hy⟩:=k.1;have e:a+b=mkRat (a.num*b.den+b.num*a.den) (a.den*b.den):=Rat.add_def' a b;rw [e];refine Zqx (Zz1 a.den_nz b.den_nz) ?_ ?_
 ·
  rw [←Nat.gcd_mul_left];refine Nat.dvd_gcd ?_ (Nat.dvd_mul_left _ _)
  have e2:((D*(a.num*b.den+b.num*a.den).natAbs:Nat):Int)=((D:Int)*(a.num*b.den+b.num*a.den)).natAbs:=by
   rw [Zyr];simp
  have e3:D*(a.num*b.den+b.num*a.den).natAbs=((D:Int)*(a.num*b.den+b.num*a.den)).natAbs:=zo;rw [e3]
  have e4:(D:Int)*(a.num*b.den+b.num*a.den)=((a.den*b.den:Nat):Int)*(x*a.num+y*b.num):=by
   have h1:(D:Int)=a.den*x:=by rw [hx];simp
   have h2:(D:Int)=b.den*y:=by rw [hy];simp
   rw [Int.mul_add,Int.mul_add,show((a.den*b.den:Nat):Int)=(a.den:Int)*b.den from by simp];congr 1
   ·rw [h1];simp only [Int.mul_assoc,Int.mul_left_comm,Int.mul_comm]
   ·rw [h2];simp only [Int.mul_assoc,Int.mul_left_comm,Int.mul_comm]
  rw [e4,Zyr,Zyf];exact ZAr _ _
 ·have h1:=h.2;have h2:=k.2
  calc _≤(a.num*b.den).natAbs+(b.num*a.den).natAbs:=zo
   _=a.num.natAbs*b.den+b.num.natAbs*a.den:=by rw [Zyr,Zyr,Zyf,Zyf]
   _≤(B*a.den)*b.den+(C*b.den)*a.den:=ZAk (Zww _ h1) (Zww _ h2)
   _=(B+C)*(a.den*b.den):=by rw [Zw0];simp only [Zxf,Zw2 b.den]
theorem BQ.neg {D B:Nat} {a:Rat} (h:BQ D B a):BQ D B (-a):=by
 refine⟨h.1,?_⟩;show(-a.num).natAbs≤B*a.den;rw [ZA2];exact h.2
theorem BQ.int (z:Int) {D B:Nat} (h:z.natAbs≤B):BQ D B (z:Rat):=⟨⟨D,(Zx0 D).symm⟩,by show z.natAbs≤B*1;omega⟩
end Go.Pol
namespace Go.Proofs.YtaedgaikloifgaaGreatDoor
open Go Go.RowKit Go.Pg Go.Proofs.Tryz
def Can (l:List Int):Prop:=(∀j,0≤gI l j)∧(l.length=0∨gI l (l.length - 1)≠0)
def LTm (a b:List Int):Prop:=∃k,gI a k < gI b k∧∀j,k < j→gI a j=gI b j
def ltM (a b:List Int):Prop:=lexC a b (max a.length b.length)=-1
instance:DecidableRel ltM:=λa b=>inferInstanceAs (Decidable (lexC a b (max a.length b.length)=-1))
theorem Zu2 {a b:List Int}:∀n,lexC a b n=-1↔∃k,k < n∧gI a k < gI b k∧∀j,k < j→j < n→gI a j=gI b j
 | 0=>by
   constructor
   ·intro h;exact absurd h (by show ¬(0:Int)=-1;omega)
   ·rintro ⟨k,h,_⟩;omega
 | n+1=>by
   unfold lexC;by_cases h:gI a n=gI b n
   ·rw [Zv6 h,Zu2 n];constructor
    ·rintro ⟨k,h1,h2,h3⟩
     exact⟨k,zo,h2,λj h4 h5=>by by_cases hj:j=n;subst hj;exact h;exact h3 j h4 zo⟩
    ·rintro ⟨k,h1,h2,h3⟩
     have:k≠n:=by rintro rfl;omega
     exact⟨k,zo,h2,λj h4 h5=>h3 j h4 zo⟩
   ·rw [Zv5 h];unfold lt1;constructor
    ·intro h1;by_cases h2:gI a n < gI b n
     ·exact⟨n,zo,h2,λj h3 h4=>zo⟩
     ·rw [Zv5 h2] at h1;omega
    ·rintro ⟨k,h1,h2,h3⟩
     by_cases hk:k=n
     ·subst hk;rw [Zv6 h2]
     ·exact absurd (h3 n zo zo) h
theorem Zic {a b:List Int}:ltM a b↔LTm a b:=by
 unfold ltM LTm;rw [Zu2];constructor
 ·rintro ⟨k,h1,h2,h3⟩
  refine⟨k,h2,λj h4=>?_⟩;by_cases hj:j < max a.length b.length
  ·exact h3 j h4 hj
  ·rw [Zfl zo,Zfl zo]
 ·rintro ⟨k,h2,h3⟩
  refine⟨k,?_,h2,λj h4 _=>h3 j h4⟩;by_cases hk:k < max a.length b.length
  ·exact hk
  ·rw [Zfl zo,Zfl zo] at h2;omega
theorem Zlb {a b:List Int}:∀n,lexC a b n=0∧(∀j,j < n→gI a j=gI b j)∨lexC a b n=-1∨lexC a b n=1
 | 0=>.inl ⟨rfl,λj h=>zo⟩
 | n+1=>by
   unfold lexC;by_cases h:gI a n=gI b n
   ·rw [Zv6 h];rcases @Zlb a b n with⟨h1,h2⟩ | h1
    ·exact .inl ⟨h1,λj hj=>by by_cases e:j=n;subst e;exact h;exact h2 j zo⟩
    ·exact .inr h1
   ·rw [Zv5 h];unfold lt1;split
    ·exact .inr (.inl rfl)
    ·exact .inr (.inr rfl)
theorem Zq1 {a b:List Int}:∀n,lexC b a n=- lexC a b n
 | 0=>rfl
 | n+1=>by
   unfold lexC;by_cases h:gI a n=gI b n
   ·rw [Zv6 h,Zv6 h.symm,Zq1 n]
   ·rw [Zv5 h,Zv5 (λe=>h e.symm)];unfold lt1;by_cases h1:gI a n < gI b n
    ·rw [Zv6 h1,Zv5 zo];rfl
    ·rw [Zv5 h1,Zv6 zo]
theorem can_ext {a b:List Int} (ha:Can a) (hb:Can b) (h:∀j,gI a j=gI b j):a=b:=by
 have hl:a.length=b.length:=by
  have h1:=h (a.length - 1);have h2:=h (b.length - 1);rcases Nat.lt_trichotomy a.length b.length with hl | hl | hl
  ·rcases hb.2 with hb0 | hb0
   ·omega
   ·rw [←h2,Zfl zo] at hb0;exact absurd rfl hb0
  ·exact hl
  ·rcases ha.2 with ha0 | ha0
   ·omega
   ·rw [h1,Zfl zo] at ha0;exact absurd rfl ha0
 refine List.ext_getElem hl λj h1 h2=>?_;have:=h j
 rwa [Zbp h1,Zbp h2] at this
theorem ordM:Go.Pol.KO Can ltM where
 irr x h:=by obtain⟨k,h1,_⟩:=Zic.1 h;omega
 tr x y z h g:=by
  obtain⟨k,h1,h2⟩:=Zic.1 h;obtain⟨i,g1,g2⟩:=Zic.1 g;rw [Zic];rcases Nat.lt_trichotomy k i with h3 | h3 | h3
  ·exact⟨i,by rw [h2 i h3];exact g1,λj hj=>by rw [h2 j zo,g2 j hj]⟩
  ·subst h3;exact⟨k,zo,λj hj=>by rw [h2 j hj,g2 j hj]⟩
  ·exact⟨k,by rw [←g2 k h3];exact h1,λj hj=>by rw [h2 j hj,g2 j zo]⟩
 tri x y hx hy:=by
  rcases @Zlb x y (max x.length y.length) with⟨_,h⟩ | h | h
  ·refine .inr (.inl (can_ext hx hy λj=>?_));by_cases hj:j < max x.length y.length
   ·exact h j hj
   ·rw [Zfl zo,Zfl zo]
  ·exact .inl h
  ·refine .inr (.inr ?_);unfold ltM;rw [Nat.max_comm,Zq1,h]
theorem Zkc (F:Int→Int→Int) (h0:F 0 0=0) (a b:List Int) (j:Nat):gI (zipI F a b) j=F (gI a j) (gI b j):=by
 by_cases h:j < max a.length b.length
 ·rw [Zbp (by unfold zipI;simpa using h)];unfold zipI;simp only [ZAi,List.getElem_range]
 ·rw [Zfl (by unfold zipI;simp only [Zv9,List.length_range];omega),Zfl zo,Zfl zo,h0]
abbrev mulM (a b:List Int):List Int:=zipI (·+·) a b
theorem Zqw (a b:List Int):(mulM a b).length=max a.length b.length:=by simp [mulM,zipI]
theorem mulK:Go.Pol.KM Can ltM mulM where
 comm x y:=by
  unfold mulM zipI;rw [Nat.max_comm];exact Zzn λi _=>Int.add_comm _ _
 dom x y hx hy:=by
  refine⟨λj=>by rw [Zkc _ rfl];have:=hx.1 j;have:=hy.1 j;omega,?_⟩;rw [Zqw,Zkc _ rfl];have a1:=hx.1 (max x.length y.length - 1);have b1:=hy.1 (max x.length y.length - 1);rcases Nat.le_total x.length y.length with h | h
  ·rw [Nat.max_eq_right h] at *;rcases hy.2 with h1 | h1
   ·exact .inl h1
   ·exact .inr zo
  ·rw [Nat.max_eq_left h] at *;rcases hx.2 with h1 | h1
   ·exact .inl h1
   ·exact .inr zo
 mono x y z _ _ _ h:=by
  obtain⟨k,h1,h2⟩:=Zic.1 h;rw [Zic];exact⟨k,by rw [Zkc _ rfl,Zkc _ rfl];omega,λj hj=>by rw [Zkc _ rfl,Zkc _ rfl,h2 j hj]⟩
def mvN (v:Nat→Rat) (m:List Int):Nat→Rat
 | 0=>1
 | n+1=>mvN v m n*v n ^ (gI m n).toNat
def mv (v:Nat→Rat) (m:List Int):Rat:=mvN v m m.length
end Go.Proofs.YtaedgaikloifgaaGreatDoor
namespace Go.Proofs.YtaedgaikloifgaaGreatDoor
open Go Go.RowKit Go.Pg Go.Pol Go.Proofs.Tryz
attribute [-bool_to_prop] Bool.and_eq_decide Bool.or_eq_decide Bool.decide_beq_decide decide_eq_decide
abbrev Tm:=Rat × List Int
abbrev Po:=List Tm
abbrev tmA (t:Tm):AV:=.agg [.v (.bool (decide (t.1.num < 0))),lim (toL t.1.num.natAbs),lim (toL t.1.den),ivs t.2]
abbrev poA (p:Po):AV:=.sl 4 (p.map tmA)
abbrev SrtM (p:Po):Prop:=Srt Can ltM p
abbrev addM (p q:Po):Po:=addP ltM p q
abbrev subM (p q:Po):Po:=subP ltM p q
abbrev mlM (p q:Po):Po:=mulR ltM mulM p q
def sclM (a:Rat) (p:Po):Po:=if a=0 then [] else Zjo a p
def PK (p:Po) (k e:Nat):Prop:=∀t∈p,Sz t.1 k∧t.2.length≤1000∧∀j,0≤gI t.2 j∧gI t.2 j≤(e:Int)
theorem PK.mono {p:Po} {k j e f:Nat} (h:PK p k e) (hk:k≤j) (he:e≤f):PK p j f:=λt ht=>⟨(h t ht).1.mono hk,(h t ht).2.1,λi=>by have:=(h t ht).2.2 i;omega⟩
theorem PK.sm {p:Po} {k e:Nat} (h:PK p k e) (he:e≤16777216) {t:Tm} (ht:t∈p):Sm t.2:=⟨(h t ht).2.1,λi=>by have:=(h t ht).2.2 i;omega⟩
theorem PK.nil {k e:Nat}:PK [] k e:=λt ht=>by simp at ht
theorem PK.tail {t:Tm} {p:Po} {k e:Nat} (h:PK (t :: p) k e):PK p k e:=λu hu=>h u (.tail _ hu)
theorem PK.drop {p:Po} {k e:Nat} (h:PK p k e) (i:Nat):PK (p.drop i) k e:=λu hu=>h u (Zym hu)
theorem PK.add {p q:Po} {j k e:Nat} (hp:PK p j e) (hq:PK q k e):PK (addM p q) (j+k+1) e:=λt ht=>by
 rcases Znx ht with h | h | ⟨s,hs,u,hu,rfl⟩
 ·exact⟨(hp t h).1.mono zo,(hp t h).2⟩
 ·exact⟨(hq t h).1.mono zo,(hq t h).2⟩
 ·exact⟨(hp s hs).1.add (hq u hu).1,(hp s hs).2⟩
def Zi3 (v:Nat):List Int:=List.replicate v 0++[1]
theorem Zf4 (v:Nat):(Zi3 v).length=v+1:=by simp [Zi3]
theorem Zmg (v j:Nat):gI (Zi3 v) j=if j=v then 1 else 0:=by
 by_cases h:j < v+1
 ·rw [Zbp (by rw [Zf4];exact h)];unfold Zi3;rw [List.getElem_append];by_cases hj:j < v
  ·rw [dif_pos (by simpa using hj),List.getElem_replicate,Zv5 zo]
  ·rw [dif_neg (by simpa using hj),Zv6 zo];simp
 ·rw [Zfl (by rw [Zf4];omega),Zv5 zo]
theorem can_unit (v:Nat):Can (Zi3 v):=by
 refine⟨λj=>by rw [Zmg];split<;>omega,.inr ?_⟩;rw [Zf4,Zmg,Zv6 zo];omega
def varM (v:Nat):Po:=if v < 64 then [(1,Zi3 v)] else []
theorem Zp2 (v:Nat):SrtM (varM v):=by
 unfold varM;split
 ·exact Srt.nil.cons (by show(1:Rat)≠0;decide) (can_unit v) zs
 ·exact .nil
structure RS where
 k:Int
 nm:ByteArray
 ar:List Int
 r:RQ
structure RG where
 k:Int
 ar:List Int
 r:RQ
abbrev RS.av (s:RS):AV:=.agg [iv s.k,strA s.nm,ivs s.ar,.v (.bool s.r.s),lim s.r.l,lim s.r.d]
abbrev RG.av (g:RG):AV:=.agg [iv g.k,ivs g.ar,.v (.bool g.r.s),lim g.r.l,lim g.r.d]
abbrev figA (ss:List RS) (gs:List RG):AV:=.agg [.sl 6 (ss.map RS.av),.sl 5 (gs.map RG.av)]
def RQ.none (r:RQ):Bool:=!r.s && (decide (r.l.length=0) && decide (r.d.length=0))
structure FS where
 cs:List (Po × Po)
 vs:List Vt
 fr:Nat
abbrev coA (c:Po × Po):AV:=.agg [poA c.1,poA c.2]
def FS.at (f:FS) (s:RS) (k:Nat):Po × Po:=f.cs.getD (gI s.ar k).toNat ([],[])
def FS.nxt (f:FS) (i:Nat) (s:RS):List Vt × (Po × Po) :=
 let v:=f.vs.length
 let a:=f.at s 0
 let b:=f.at s 1
 let c:=f.at s 2
 if s.k=1 then
  (if f.fr=0 then ([],([],[]))
   else if f.fr=1 then ([(1,(i:Int),0)],(varM v,[]))
   else ([(1,(i:Int),0),(1,(i:Int),1)],(varM v,varM (v+1))))
 else if s.k=2 then ([],(addM a.1 (sclM s.r.q (subM b.1 a.1)),addM a.2 (sclM s.r.q (subM b.2 a.2))))
 else if s.k=3 then ([],(addM a.1 (subM c.1 b.1),addM a.2 (subM c.2 b.2)))
 else if s.k=4 then ([],(addM a.1 (subM b.2 c.2),addM a.2 (subM c.1 b.1)))
 else if s.k=5 then ([(1,(i:Int),0)],(addM a.1 (mlM (subM b.1 a.1) (varM v)),addM a.2 (mlM (subM b.2 a.2) (varM v))))
 else if s.k=6 then ([(1,(i:Int),0),(2,(i:Int),1),(2,(i:Int),2)],(varM (v+1),varM (v+2)))
 else ([(2,(i:Int),0),(2,(i:Int),1)],(varM v,varM (v+1)))
def FS.push (f:FS) (i:Nat) (s:RS):FS:=⟨f.cs++[(f.nxt i s).2],f.vs++(f.nxt i s).1,if s.k=1 then f.fr+1 else f.fr⟩
def frN (ss:List RS):Nat→FS
 | 0=>⟨[],[],0⟩
 | i+1=>(frN ss i).push i (ss.getD i ⟨0,.empty,[],⟨false,[],[]⟩⟩)
def bigN (ss:List RS) (i:Nat):Bool :=
 decide (64 < (frN ss (i+1)).vs.length) || decide (4000 < ((frN ss i).nxt i (ss.getD i ⟨0,.empty,[],⟨false,[],[]⟩⟩)).2.1.length) || decide (4000 < ((frN ss i).nxt i (ss.getD i ⟨0,.empty,[],⟨false,[],[]⟩⟩)).2.2.length)
def BB (n:Nat):Nat:=65536 ^ (3*n)
theorem BB_pos (n:Nat):1≤BB n:=Nat.one_le_pow _ _ zo
theorem BB_succ (n:Nat):BB (n+1)=BB n*65536 ^ 3:=by unfold BB;rw [←Zya];rfl
def GP (n D v:Nat) (p:Po):Prop:=SrtM p∧∀t∈p,BQ D (BB n) t.1∧t.2.length≤v∧∀j,gI t.2 j≤1
theorem GP.nil {n D v:Nat}:GP n D v []:=⟨.nil,λt h=>by simp at h⟩
theorem GP.mono {n D v m E w:Nat} {p:Po} (h:GP n D v p) (hn:n≤m) (hd:D ∣ E) (hv:v≤w):GP m E w p :=
 ⟨h.1,λt ht=>⟨(h.2 t ht).1.mono hd (Zyl zo zo),by have:=(h.2 t ht).2.1;omega,(h.2 t ht).2.2⟩⟩
def GB (B D v:Nat) (p:Po):Prop:=SrtM p∧∀t∈p,BQ D B t.1∧t.2.length≤v∧∀j,gI t.2 j≤1
theorem GB.mono {B D v C E w:Nat} {p:Po} (h:GB B D v p) (hn:B≤C) (hd:D ∣ E) (hv:v≤w):GB C E w p :=
 ⟨h.1,λt ht=>⟨(h.2 t ht).1.mono hd hn,by have:=(h.2 t ht).2.1;omega,(h.2 t ht).2.2⟩⟩
theorem GB.add {B C D v:Nat} {p q:Po} (h:GB B D v p) (k:GB C D v q):GB (B+C) D v (addM p q):=by
 refine⟨Zmu ordM h.1 k.1,λt ht=>?_⟩;rcases Znx ht with h1 | h1 | ⟨s,hs,u,hu,rfl⟩
 ·exact⟨(h.2 t h1).1.mono (Zzs _) zo,(h.2 t h1).2⟩
 ·exact⟨(k.2 t h1).1.mono (Zzs _) zo,(k.2 t h1).2⟩
 ·exact⟨(h.2 s hs).1.add (k.2 u hu).1,(h.2 s hs).2⟩
theorem GB.neg {B D v:Nat} {p:Po} (h:GB B D v p):GB B D v (Zjo (-1) p):=by
 refine⟨Zf7 h.1 neg1,λt ht=>?_⟩;obtain⟨s,hs,rfl⟩:=List.mem_map.1 ht;refine⟨?_,(h.2 s hs).2⟩;have e:s.1*-1=-s.1:=by grind
 show BQ D B (s.1*-1);rw [e];exact(h.2 s hs).1.neg
theorem GB.sub {B C D v:Nat} {p q:Po} (h:GB B D v p) (k:GB C D v q):GB (B+C) D v (subM p q):=h.add k.neg
theorem GB.scl {B C D E v:Nat} {p:Po} {a:Rat} (h:GB B D v p) (ha:BQ E C a):GB (B*C) (D*E) v (sclM a p):=by
 unfold sclM;split
 ·exact⟨.nil,λt h=>by simp at h⟩
 ·rename_i h0;refine⟨Zf7 h.1 h0,λt ht=>?_⟩;obtain⟨s,hs,rfl⟩:=List.mem_map.1 ht;exact⟨(h.2 s hs).1.mul ha,(h.2 s hs).2⟩
theorem mul_var (p:Po) (v:Nat):mlM p (varM v)=if v < 64 then Zjh mulM p (1,Zi3 v) else []:=by
 unfold varM;split
 ·show addP ltM [] (Zjh mulM p (1,Zi3 v))=_;simp [addP]
 ·rfl
theorem GB.var {B D v:Nat} {p:Po} (h:GB B D v p):GB B D (v+1) (mlM p (varM v)):=by
 refine⟨mulR_srt ordM mulK h.1 (Zp2 v),λt ht=>?_⟩;rw [mul_var] at ht;split at ht
 ·obtain⟨s,hs,rfl⟩:=List.mem_map.1 ht;obtain⟨h1,h2,h3⟩:=h.2 s hs;refine⟨by show BQ D B (s.1*1);rw [Rat.mul_one];exact h1,by show(mulM s.2 (Zi3 v)).length≤v+1;rw [Zqw,Zf4];omega,λj=>?_⟩;show gI (mulM s.2 (Zi3 v)) j≤1;rw [Zkc _ rfl,Zmg];split
  ·rename_i hj;rw [Zfl zo];omega
  ·have:=h3 j;omega
 ·simp at ht
theorem GB.one {B D v w:Nat} (hB:1≤B) (h:v < w):GB B D w (varM v):=by
 refine⟨Zp2 v,λt ht=>?_⟩;unfold varM at ht;split at ht
 ·rw [Zy5] at ht;subst ht;refine⟨BQ.int 1 (by simpa using hB),by show(Zi3 v).length≤w;rw [Zf4];omega,λj=>?_⟩;show gI (Zi3 v) j≤1;rw [Zmg];split<;>omega
 ·simp at ht
theorem GB.nil {B D v:Nat}:GB B D v []:=⟨.nil,λt h=>by simp at h⟩
structure FI (f:FS) (n D:Nat):Prop where
 D0:D≠0
 Dl:D < 65536 ^ (2*n+1)
 nv:f.vs.length≤64
 cs:∀c∈f.cs,GP n D f.vs.length c.1∧GP n D f.vs.length c.2
 ln:∀c∈f.cs,c.1.length≤4000∧c.2.length≤4000
theorem FI.at {f:FS} {n D:Nat} (h:FI f n D) (s:RS) (k:Nat):(GP n D f.vs.length (f.at s k).1∧GP n D f.vs.length (f.at s k).2)∧(f.at s k).1.length≤4000∧(f.at s k).2.length≤4000:=by
 unfold FS.at;by_cases hk:(gI s.ar k).toNat < f.cs.length
 ·have:=getD_mem (d:=(([],[]):Po × Po)) hk;exact⟨h.cs _ this,h.ln _ this⟩
 ·rw [Zwp,Zxw zo];exact⟨⟨.nil,.nil⟩,by simp,by simp⟩
def RQ.bd (r:RQ):Prop:=r.ok=true→r.q.den < 65536 ^ 2∧r.q.num.natAbs < 65536 ^ 2
theorem FI.nxt {f:FS} {n D:Nat} (h:FI f n D) (i:Nat) (s:RS) (hr:s.k=2→s.r.ok=true) (hb:s.r.bd) :
 ∃E,E≠0∧D ∣ E∧E < 65536 ^ (2*(n+if s.k=1 then 0 else 1)+1) ∧
  GP (n+if s.k=1 then 0 else 1) E (f.vs++(f.nxt i s).1).length (f.nxt i s).2.1∧GP (n+if s.k=1 then 0 else 1) E (f.vs++(f.nxt i s).1).length (f.nxt i s).2.2:=by
 obtain⟨⟨a1,a2⟩,-⟩:=h.at s 0;obtain⟨⟨b1,b2⟩,-⟩:=h.at s 1;obtain⟨⟨c1,c2⟩,-⟩:=h.at s 2;have hB:=BB_pos n;have hS:=BB_succ n;unfold FS.nxt;simp only;have one:∀v w,v < w→GP n D w (varM v):=λv w hv=>GB.one hB hv;have up:∀{E v:Nat} {p:Po} {C:Nat},GB C E v p→C≤BB n*65536 ^ 3→GP (n+1) E v p:=λh hc=>GB.mono h (by rw [hS];exact hc) (Zzs _) (Zwa _);have dl:D < 65536 ^ (2*(n+1)+1):=Zxt h.Dl (Zyl zo zo)
 have b3:BB n+(BB n+BB n)≤BB n*65536 ^ 3:=by
  have:BB n*3≤BB n*65536 ^ 3:=Zy8 _ zd;omega
 by_cases k1:s.k=1
 ·rw [Zv6 k1,Zv6 k1];refine⟨D,h.D0,Zzs _,h.Dl,?_⟩;split
  ·exact⟨.nil,.nil⟩
  ·split
   ·exact⟨one _ _ zs,.nil⟩
   ·exact⟨one _ _ zs,one _ _ zs⟩
 ·rw [Zv5 k1,Zv5 k1];by_cases k2:s.k=2
  ·rw [Zv6 k2];obtain⟨h1,h2⟩:=hb (hr k2);refine⟨D*s.r.q.den,Zz1 h.D0 s.r.q.den_nz,ZAr _ _,?_,?_⟩
   ·calc D*s.r.q.den < 65536 ^ (2*n+1)*65536 ^ 2:=Nat.mul_lt_mul_of_lt_of_lt h.Dl h1
     _=65536 ^ (2*(n+1)+1):=by rw [←Zya];congr 1
   ·have hq:BQ s.r.q.den (65536 ^ 2) s.r.q:=⟨Zzs _,by have:=s.r.q.den_pos;have:=Zzp (65536 ^ 2) this;omega⟩
    have bd:BB n+(BB n+BB n)*65536 ^ 2≤BB n*65536 ^ 3:=by
     have e1:(BB n+BB n)*65536 ^ 2=BB n*(2*65536 ^ 2):=by rw [←Nat.mul_two,Zxf]
     rw [e1];have:BB n*(1+2*65536 ^ 2)≤BB n*65536 ^ 3:=Zy8 _ zd;omega
    rw [Zxl];exact⟨up ((GB.mono a1 (Zwa _) (ZAr _ _) (Zwa _)).add ((GB.sub b1 a1).scl hq)) bd,up ((GB.mono a2 (Zwa _) (ZAr _ _) (Zwa _)).add ((GB.sub b2 a2).scl hq)) bd⟩
  ·rw [Zv5 k2];refine⟨D,h.D0,Zzs _,dl,?_⟩;have one':∀v w,v < w→GP (n+1) D w (varM v):=λv w hv=>GB.one (BB_pos _) hv;by_cases k3:s.k=3
   ·rw [Zv6 k3,Zxl];exact⟨up (GB.add a1 (GB.sub c1 b1)) b3,up (GB.add a2 (GB.sub c2 b2)) b3⟩
   ·rw [Zv5 k3];by_cases k4:s.k=4
    ·rw [Zv6 k4,Zxl];exact⟨up (GB.add a1 (GB.sub b2 c2)) b3,up (GB.add a2 (GB.sub c1 b1)) b3⟩
    ·rw [Zv5 k4];by_cases k5:s.k=5
     ·rw [Zv6 k5];have e:(f.vs++[(1,(i:Int),0)]).length=f.vs.length+1:=by simp
      rw [e];exact⟨up (GB.add (GB.mono a1 (Zwa _) (Zzs _) zo) (GB.sub b1 a1).var) b3,up (GB.add (GB.mono a2 (Zwa _) (Zzs _) zo) (GB.sub b2 a2).var) b3⟩
     ·rw [Zv5 k5];by_cases k6:s.k=6
      ·rw [Zv6 k6];exact⟨one' _ _ zs,one' _ _ zs⟩
      ·rw [Zv5 k6];exact⟨one' _ _ zs,one' _ _ zs⟩
def nfN (ss:List RS):Nat→Nat
 | 0=>0
 | i+1=>nfN ss i+if (ss.getD i ⟨0,.empty,[],⟨false,[],[]⟩⟩).k=1 then 0 else 1
section
variable {N n:Nat} {cs:List AV}
theorem agInt:Zgm prog 3=false:=by kernel_rfl
theorem csInt:prog.cellsOf 3=1:=by kernel_rfl
theorem shIvs (h:Zb7 prog N n 35 cs):∃l:List Int,cs=[ivs l]∧l.length≤N:=by
 obtain⟨bs,rfl,hl,_⟩:=Zc8 (g:=λk:Int=>[iv k]) (Q:=λ_=>True) underlying35 h λm x hx=>by
  obtain⟨i,rfl,_⟩:=Zfe underlying3 hx;exact⟨i,rfl,trivial⟩
 refine⟨bs,?_,hl⟩;rw [csInt];have:(bs.map λb:Int=>Zdh prog 3 [iv b])=bs.map iv:=Zzn λb _=>Zmv agInt _;rw [this]
theorem shStep (h:Zb7 prog N n 43 cs):∃s:RS,cs=[iv s.k,strA s.nm,ivs s.ar,.v (.bool s.r.s),lim s.r.l,lim s.r.d]∧s.r.lm N∧s.nm.size≤N∧s.ar.length≤N:=by
 obtain⟨m,rfl,hs⟩:=Zb3 underlying43 zk h;obtain⟨x,y,rfl,h1,hs⟩:=hs.inv;obtain⟨x2,y,rfl,h2,hs⟩:=hs.inv;obtain⟨x3,y,rfl,h3,hs⟩:=hs.inv;obtain⟨x4,y,rfl,h4,hs⟩:=hs.inv;obtain rfl:=hs.inv0;obtain⟨k,rfl,_⟩:=Zfe underlying3 h1;obtain⟨nm,rfl,hn⟩:=Zm2 underlying9 h2;obtain⟨ar,rfl,ha⟩:=shIvs h3;obtain⟨r,rfl,hr⟩:=shRat h4;exact⟨⟨k,nm,ar,r⟩,rfl,hr,hn,ha⟩
theorem shFact (h:Zb7 prog N n 45 cs):∃g:RG,cs=[iv g.k,ivs g.ar,.v (.bool g.r.s),lim g.r.l,lim g.r.d]∧g.r.lm N∧g.ar.length≤N:=by
 obtain⟨m,rfl,hs⟩:=Zb3 underlying45 zk h;obtain⟨x,y,rfl,h1,hs⟩:=hs.inv;obtain⟨x3,y,rfl,h3,hs⟩:=hs.inv;obtain⟨x4,y,rfl,h4,hs⟩:=hs.inv;obtain rfl:=hs.inv0;obtain⟨k,rfl,_⟩:=Zfe underlying3 h1;obtain⟨ar,rfl,ha⟩:=shIvs h3;obtain⟨r,rfl,hr⟩:=shRat h4;exact⟨⟨k,ar,r⟩,rfl,hr,ha⟩
theorem shSteps (h:Zb7 prog N n 22 cs):∃l:List RS,cs=[.sl 6 (l.map RS.av)]∧l.length≤N∧∀s∈l,s.r.lm N∧s.nm.size≤N∧s.ar.length≤N:=by
 obtain⟨bs,rfl,hl,hq⟩:=Zc8 (g:=λs:RS=>[iv s.k,strA s.nm,ivs s.ar,.v (.bool s.r.s),lim s.r.l,lim s.r.d]) (Q:=λs=>s.r.lm N∧s.nm.size≤N∧s.ar.length≤N) underlying22 h λm x hx=>shStep hx;refine⟨bs,?_,hl,hq⟩;rw [show prog.cellsOf 43=6 from by kernel_rfl];have:(bs.map λs:RS=>Zdh prog 43 [iv s.k,strA s.nm,ivs s.ar,.v (.bool s.r.s),lim s.r.l,lim s.r.d])=bs.map RS.av:=Zzn λb _=>Zjg underlying43 _;rw [this]
theorem shFacts (h:Zb7 prog N n 23 cs):∃l:List RG,cs=[.sl 5 (l.map RG.av)]∧l.length≤N∧∀s∈l,s.r.lm N∧s.ar.length≤N:=by
 obtain⟨bs,rfl,hl,hq⟩:=Zc8 (g:=λs:RG=>[iv s.k,ivs s.ar,.v (.bool s.r.s),lim s.r.l,lim s.r.d]) (Q:=λs=>s.r.lm N∧s.ar.length≤N) underlying23 h λm x hx=>shFact hx;refine⟨bs,?_,hl,hq⟩;rw [show prog.cellsOf 45=5 from by kernel_rfl];have:(bs.map λs:RG=>Zdh prog 45 [iv s.k,ivs s.ar,.v (.bool s.r.s),lim s.r.l,lim s.r.d])=bs.map RG.av:=Zzn λb _=>Zjg underlying45 _;rw [this]
end
end Go.Proofs.YtaedgaikloifgaaGreatDoor
namespace Go.Pg
open Go Go.RowKit Go.Lib
section
variable {P:Program} {n:Nat}
theorem Zpw {x y:Code} {Q:AE→St→Prop} {st:St} (h:AWP P n x (AE.then (AWP P n y Q) Q) st):AWP P n (.seq x y) Q st:=λc a w imm hr=>by
 refine wp_seq (Zzd (λe a' w' hp=>?_) (h c a w imm hr));obtain⟨ae,st',imm',rfl,h2,h3⟩:=hp
 cases ae with
 | normal=>exact h2 c a' w' imm' h3
 | exit id=>exact⟨.exit id,st',imm',rfl,h2,h3⟩
 | ret=>exact⟨.ret,st',imm',rfl,h2,h3⟩
theorem Zrk {o:Oper} {a:Act} {w w':World} {ops:Array Oper} {Qp:Exit→Act→World→Prop} {l:List Oper} {y:Value} (hg:o.guard=none) (hr:(execOp a.eval o).run P w=.ok (.value y) w') (h:wpList P ops Qp l (a.put o.dst y) w'):wpList P ops Qp (o :: l) a w:=by
 unfold wpList;rw [Zv6 (by simp [Region.wanted,hg])];refine .inl ?_;unfold Oper.wp;rw [hr];exact h
theorem rebase {c:Cx} {e:Nat→AV} {a:Act} {w:World} {imm:Imm} (h:Rel c n ⟨e,Zah⟩ a w imm):Rel ⟨w.heap.size,w,imm,h.mem.tb.here⟩ n ⟨e,Zah⟩ a w imm :=
 ⟨h.env,h.size,h.defers,⟨⟨λk e hk=>by simp [Zah] at hk,λk k' e e' b hk=>by simp [Zah] at hk,h.mem.ok.lt,h.mem.ok.spot⟩,Blw.refl _ _,Zwa _,λ_ h1=>h1,λ_ h1=>.inl h1,λ_ _=>rfl⟩⟩
theorem unbase {c:Cx} {st':St} {a':Act} {w w':World} {imm imm':Imm} (hm:Mx c Zah w imm) (h:Rel ⟨w.heap.size,w,imm,hm.tb.here⟩ n st' a' w' imm') (h0:st'.mem=Zah):Rel c n st' a' w' imm':=by
 refine⟨h.env,h.size,h.defers,?_⟩;have hm':=h.mem;rw [h0] at hm' ⊢;exact⟨⟨λk e hk=>by simp [Zah] at hk,λk k' e e' b hk=>by simp [Zah] at hk,hm'.ok.lt,hm'.ok.spot⟩,hm.below.trans (hm'.below.mono hm.lt),Zwj hm.lt hm'.lt,λad h1=>hm'.old ad (hm.old ad h1),λad h1=>(hm'.new ad h1).elim (hm.new ad) (λh2=>.inr (Zwj hm.lt h2)),λad h1=>(hm'.cells ad (hm.old ad h1)).trans (hm.cells ad h1)⟩
structure ItS (c:Cx) (n:Nat) (s:ByteArray) (tI:Nat) (J:Nat→(Nat→AV)→Prop) (pos:Nat) (a:Act) (w:World):Prop where
 h:∃e imm g,Rel c n ⟨e,Zah⟩ a w imm∧w.heap[g]?=some (.stringIter s pos)∧c.B≤g∧(∀ad,imm ad→ad.block≠g)∧e tI=.v (.pointer (some ⟨g,0,none⟩))∧J pos e
theorem Zvy {s:ByteArray} {id1 id2 bid d1 tI d2 d3:Nat} {x:Operand} {ty1 ty2 ty3 ty4 tys:TypeId} {p1 p2 p3 p4:String} {f1 f2 f3 f4:Array Edge} {r2:Code} {Q:AE→St→Prop} {e:Nat→AV}
 (hx:St.ev ⟨e,Zah⟩ x=.v (.string s)) (hty:P.underlying tys=some .string) (h1:d1 < n) (hI:tI < n) (h2:d2 < n) (h3:d3 < n) (hne:tI≠d2) (hne3:tI≠d3) (hne1:d2≠d3) (hf:Zaz n r2=true)
 (J:Nat→(Nat→AV)→Prop) (h0:∀pv,J 0 (upd (upd e d1 (.v (.string s))) tI (.v pv)))
 (hstep:∀pos e pv,J pos e→e tI=.v pv→pos < s.size→Zat P 0 n r2 (AE.then (λst'=>st'.mem=Zah∧J (pos+(Utf8.decode s pos).2) st'.env∧st'.env tI=.v pv) λae st'=>st'.mem=Zah∧AE.inBlock bid Q ae st')
  ⟨upd (upd e d2 (.tup [.v (.bool true),.v (.int .i64 pos),.v (.int .i32 (Utf8.decode s pos).1)])) d3 (.v (.bool true)),Zah⟩)
 (hw:∀pos,pos < s.size→0 < (Utf8.decode s pos).2)
 (hend:∀pos e pv,J pos e→e tI=.v pv→¬pos < s.size→Zat P 0 n r2 (AE.then (λ_=>False) λae st'=>st'.mem=Zah∧AE.inBlock bid Q ae st')
  ⟨upd (upd e d2 (.tup [.v (.bool false)])) d3 (.v (.bool false)),Zah⟩) :
 AWP P n (.seq (.region id1 #[⟨some d1,.move x,ty1,p1,f1,none⟩,⟨some tI,.range tys (.tmp d1),ty2,p2,f2,none⟩] false)
  (.block bid (.loop (.seq (.region id2 #[⟨some d2,.next (.tmp tI) true,ty3,p3,f3,none⟩,⟨some d3,.extract (.tmp d2) 0,ty4,p4,f4,none⟩] false) r2)))) Q ⟨e,Zah⟩:=by
 intro c a w imm hr;refine wp_seq (wp_region_list ?_);have ex:=hr.ev x;rw [hx] at ex;have ex:=ex.v_inv;refine Zrk rfl (y:=.string s) (w':=w) (by simp [execOp,ex]) ?_;have r1:=hr.step (dst:=some d1) (av:=.v (.string s)) (x:=.string s) (Keeps.refl w imm) hr.mem (λd hd=>by cases hd;exact h1) (.pure (.v _));have e1:=(r1.ev (.tmp d1))
 have e1:(a.put (some d1) (.string s)).eval (.tmp d1)=.string s:=by
  have h9:St.ev (St.put ⟨e,Zah⟩ (some d1) (.v (.string s))) (.tmp d1)=.v (.string s):=by simp [St.ev,St.put,Zak]
  rw [h9] at e1;exact e1.v_inv
 refine Zrk rfl (y:=.pointer (some ⟨w.heap.size,0,none⟩)) (w':=w.iter s 0) (by
  simp only [execOp,e1];exact Zhf (run_range_string w tys s hty)) ?_
 have hcell:∀ad,imm ad→(w.iter s 0).cell? ad=w.cell? ad:=λad h9=>Zzt w _ ad (hr.mem.ok.lt ad h9);have hm2:Mx c Zah (w.iter s 0) imm:=⟨⟨λk e hk=>by simp [Zah] at hk,λk k' e e' b hk=>by simp [Zah] at hk,λad h9=>Zxt (hr.mem.ok.lt ad h9) (Zzu w (.stringIter s 0) none).size,hr.mem.ok.spot⟩,
  hr.mem.below.grown (Zzu w (.stringIter s 0) none) (Zwa _) hr.mem.lt (λg hg=>by cases hg),Zwj hr.mem.lt (Zzu w (.stringIter s 0) none).size,hr.mem.old,hr.mem.new,λad h9=>(hcell ad (hr.mem.old ad h9)).trans (hr.mem.cells ad h9)⟩
 have r2':=r1.step (dst:=some tI) (av:=.v (.pointer (some ⟨w.heap.size,0,none⟩))) (x:=.pointer (some ⟨w.heap.size,0,none⟩)) (w':=w.iter s 0) (imm':=imm) (λad h9=>⟨h9,hcell ad h9⟩) hm2 (λd hd=>by cases hd;exact hI) (.pure (.v _));show(Code.block bid _).wp P (post c n Q) _ _;refine wp_block ?_;have start:ItS c n s tI J 0 ((a.put (some d1) (.string s)).put (some tI) (.pointer (some ⟨w.heap.size,0,none⟩))) (w.iter s 0) :=
  ⟨_,imm,w.heap.size,r2',World.iter_heap w s 0,hr.mem.lt,λad h9=>Nat.ne_of_lt (hr.mem.ok.lt ad h9),by simp [St.put,Zak],h0 _⟩
 generalize (a.put (some d1) (.string s)).put (some tI) (.pointer (some ⟨w.heap.size,0,none⟩))=a1 at start;generalize w.iter s 0=w1 at start;clear r2' r1 hm2 hcell e1 ex hr
 let Qp:Exit→Act→World→Prop:=Exit.inBlock bid (post c n Q)
 have lift:∀(ae:AE) (st':St) (a':Act) (w w':World) (imm imm':Imm) (hm:Mx c Zah w imm),Rel ⟨w.heap.size,w,imm,hm.tb.here⟩ n st' a' w' imm'→st'.mem=Zah→AE.inBlock bid Q ae st'→ae≠.normal→Qp ae.to a' w':=by
  intro ae st' a' w w' imm imm' hm hr h9 hq hn;have hr':=unbase hm hr h9
  cases ae with
  | normal=>exact absurd rfl hn
  | exit i =>
    show Exit.inBlock bid (post c n Q) (.exit i) a' w';simp only [AE.inBlock] at hq;by_cases hi:i=bid
    ·subst hi;rw [Zv6 rfl] at hq;simp only [Exit.inBlock,Zw1];exact⟨.normal,st',imm',rfl,hq,hr'⟩
    ·rw [Zv5 hi] at hq;simp only [Exit.inBlock,Zv5 hi];exact⟨.exit i,st',imm',rfl,hq,hr'⟩
  | ret=>exact⟨.ret,st',imm',rfl,hq,hr'⟩
 have round:∀pos a w,ItS c n s tI J pos a w→(Code.seq (.region id2 #[⟨some d2,.next (.tmp tI) true,ty3,p3,f3,none⟩,⟨some d3,.extract (.tmp d2) 0,ty4,p4,f4,none⟩] false) r2).wp P
  (Exit.then (λa w=>∃pos',ItS c n s tI J pos' a w∧s.size - pos' < s.size - pos) Qp) a w:=by
  rintro pos a w ⟨e,imm,g,hr,hg,hB,hng,heI,hJ⟩
  have eI:=hr.ev (.tmp tI)
  have eI:a.eval (.tmp tI)=.pointer (some ⟨g,0,none⟩):=by
   rw [show St.ev ⟨e,Zah⟩ (.tmp tI)=_ from heI] at eI;exact eI.v_inv
  refine wp_seq (wp_region_list ?_);have glt:g < w.heap.size:=(Array.getElem?_eq_some_iff.1 hg).1;by_cases hp:pos < s.size
  ·refine Zrk rfl (y:=.tuple #[.bool true,.int .i64 pos,.int .i32 (Utf8.decode s pos).1]) (w':=w.iterAt g s (pos+(Utf8.decode s pos).2)) (by
    simp only [execOp,eI];exact Zhf (run_next_any_at w g s pos _ hg hp)) ?_
   have hgrow:w.grownBy (w.iterAt g s (pos+(Utf8.decode s pos).2)) (some g):=by
    refine⟨rfl,rfl,rfl,?_,λk hk hne=>?_⟩
    ·simp [World.iterAt]
    ·simp only [World.iterAt];rw [ZA4 (λh9=>hne (by rw [h9]))]
   have hcell:∀ad,imm ad→(w.iterAt g s (pos+(Utf8.decode s pos).2)).cell? ad=w.cell? ad:=λad h9=>Zc5 hgrow (hr.mem.ok.lt ad h9) (λh8=>hng ad h9 (by cases h8;rfl));have hm2:Mx c Zah (w.iterAt g s (pos+(Utf8.decode s pos).2)) imm:=⟨⟨λk e hk=>by simp [Zah] at hk,λk k' e e' b hk=>by simp [Zah] at hk,λad h9=>Zxt (hr.mem.ok.lt ad h9) hgrow.size,hr.mem.ok.spot⟩,
    hr.mem.below.grown hgrow (Zwa _) hr.mem.lt (λg' hg'=>by cases hg';exact hB),Zwj hr.mem.lt hgrow.size,hr.mem.old,hr.mem.new,λad h9=>(hcell ad (hr.mem.old ad h9)).trans (hr.mem.cells ad h9)⟩
   have q1:=hr.step (dst:=some d2) (av:=.tup [.v (.bool true),.v (.int .i64 pos),.v (.int .i32 (Utf8.decode s pos).1)]) (x:=.tuple #[.bool true,.int .i64 pos,.int .i32 (Utf8.decode s pos).1]) (imm':=imm) (λad h9=>⟨h9,hcell ad h9⟩) hm2 (λd hd=>by cases hd;exact h2)
    (.pure (.tup _ _ rfl λj a x k1 k2=>by
     match j with
     | 0=>simp at k1 k2;subst k1;subst k2;exact .v _
     | 1=>simp at k1 k2;subst k1;subst k2;exact .v _
     | 2=>simp at k1 k2;subst k1;subst k2;exact .v _
     | j+3=>simp at k1))
   have v2:=q1.env d2
   have v2:(a.put (some d2) (.tuple #[.bool true,.int .i64 pos,.int .i32 (Utf8.decode s pos).1])).eval (.tmp d2)=.tuple #[.bool true,.int .i64 pos,.int .i32 (Utf8.decode s pos).1]:=by
    show(a.put (some d2) _).tmps.getD d2 undef=_;rw [Act.put_getD a d2 _ (by rw [hr.size];exact h2),Zv6 rfl]
   refine Zrk rfl (y:=.bool true) (w':=w.iterAt g s (pos+(Utf8.decode s pos).2)) (by
    simp only [execOp,v2];simp [Instr.extract]) ?_
   have q2:=q1.step (dst:=some d3) (av:=.v (.bool true)) (x:=.bool true) (Keeps.refl _ imm) hm2 (λd hd=>by cases hd;exact h3) (.pure (.v _));have hst:=hstep pos e _ hJ heI hp;have q3:=rebase q2;refine Zzd (λee a' w' hpost=>?_) (Za2 r2 _ _ hf hst _ _ _ _ q3);obtain⟨ae,st',imm',rfl,hq,hrel⟩:=hpost
   cases ae with
   | normal =>
     obtain⟨hm,hJ',hpv⟩:=hq;have hr':=unbase hm2 hrel hm;refine⟨pos+(Utf8.decode s pos).2,⟨st'.env,imm',g,?_,?_,hB,λad h9=>?_,hpv,hJ'⟩,by have:=hw pos hp;omega⟩
     ·obtain⟨en,me⟩:=st';simp only at hm;subst hm;exact hr'
     ·rw [hrel.mem.below.block g (Zxt glt hgrow.size)];exact iterAt_heap w g s pos _ hg
     ·rcases hrel.mem.new ad h9 with h8 | h8
      ·exact hng ad h8
      ·have:(w.iterAt g s (pos+(Utf8.decode s pos).2)).heap.size≤ad.block:=h8;have:=hgrow.size;omega
   | exit i=>exact lift (.exit i) st' a' _ w' imm imm' hm2 hrel hq.1 hq.2 zs
   | ret=>exact lift .ret st' a' _ w' imm imm' hm2 hrel hq.1 hq.2 zs
  ·refine Zrk rfl (y:=.tuple #[.bool false]) (w':=w) (by
    simp only [execOp,eI];exact Zhf (run_next_end_at w g s pos _ hg hp)) ?_
   have q1:=hr.step (dst:=some d2) (av:=.tup [.v (.bool false)]) (x:=.tuple #[.bool false]) (Keeps.refl w imm) hr.mem (λd hd=>by cases hd;exact h2)
    (.pure (.tup _ _ rfl λj a x k1 k2=>by
     match j with
     | 0=>simp at k1 k2;subst k1;subst k2;exact .v _
     | j+1=>simp at k1))
   have v2:(a.put (some d2) (.tuple #[.bool false])).eval (.tmp d2)=.tuple #[.bool false]:=by
    show(a.put (some d2) _).tmps.getD d2 undef=_;rw [Act.put_getD a d2 _ (by rw [hr.size];exact h2),Zv6 rfl]
   refine Zrk rfl (y:=.bool false) (w':=w) (by
    simp only [execOp,v2];simp [Instr.extract]) ?_
   have q2:=q1.step (dst:=some d3) (av:=.v (.bool false)) (x:=.bool false) (Keeps.refl _ imm) hr.mem (λd hd=>by cases hd;exact h3) (.pure (.v _));have hst:=hend pos e _ hJ heI hp;have q3:=rebase q2;refine Zzd (λee a' w' hpost=>?_) (Za2 r2 _ _ hf hst _ _ _ _ q3);obtain⟨ae,st',imm',rfl,hq,hrel⟩:=hpost
   cases ae with
   | normal=>exact hq.elim
   | exit i=>exact lift (.exit i) st' a' _ w' imm imm' hr.mem hrel hq.1 hq.2 zs
   | ret=>exact lift .ret st' a' _ w' imm imm' hr.mem hrel hq.1 hq.2 zs
 intro b k cs;have key:∀m pos a w,s.size - pos=m→ItS c n s tI J pos a w →
  ∃ee a' w',Qp ee a' w'∧Arrives P (lone (b.at a (.code (Code.seq (.region id2 #[⟨some d2,.next (.tmp tI) true,ty3,p3,f3,none⟩,⟨some d3,.extract (.tmp d2) 0,ty4,p4,f4,none⟩] false) r2) :: .inLoop (Code.seq (.region id2 #[⟨some d2,.next (.tmp tI) true,ty3,p3,f3,none⟩,⟨some d3,.extract (.tmp d2) 0,ty4,p4,f4,none⟩] false) r2) :: k)) cs w) b k cs ee a' w':=by
  intro m
  induction m using Nat.strongRecOn with
  | _ m ih =>
    intro pos a w hm hI';obtain⟨ee,a₁,w₁,hq,harr⟩:=round pos a w hI' b (.inLoop _ :: k) cs
    cases ee with
    | normal =>
      obtain⟨pos',h8,h9⟩:=hq;obtain⟨e₂,a₂,w₂,hq₂,harr₂⟩:=ih (s.size - pos') (hm ▸ h9) pos' a₁ w₁ rfl h8;exact⟨e₂,a₂,w₂,hq₂,.of_steps (Steps.trans harr (.one step_inLoop)) harr₂⟩
    | exit id=>exact⟨.exit id,a₁,w₁,hq,.pass (x:=.inLoop _) rfl (λ_ _=>.inl zs) harr⟩
    | goto l=>exact⟨.goto l,a₁,w₁,hq,.pass (x:=.inLoop _) rfl (λ_ _=>.inl zs) harr⟩
    | ret=>exact⟨.ret,a₁,w₁,hq,.pass (x:=.inLoop _) rfl (λ_ _=>.inl zs) harr⟩
    | panic ch=>exact⟨.panic ch,a₁,w₁,hq,.pass (x:=.inLoop _) rfl (λ_ _=>.inl zs) harr⟩
    | outgrown=>exact⟨.outgrown,a₁,w₁,hq,.pass (x:=.inLoop _) rfl (λ_ _=>.inl zs) harr⟩
 obtain⟨ee,a',w',hq,harr⟩:=key _ 0 a1 w1 rfl start;exact⟨ee,a',w',hq,.of_steps (.one step_loop) harr⟩
theorem Zo5 {f:FuncId} {fn:Func} {code:Code} {rs:List ResultVar} {args:List AV} {r:AV} (hf:P.funcs[f]?=some fn) (hb:fn.body=some code) (hn:fn.ntmps=n) (hrs:fn.results=rs.toArray)
 (hc:∀(vs:Array Value) (w:World),(callFunc f vs).run P w=.ok (.enter f vs) w) (hal:args.length≤n)
 (h:AWP P n code (Done P rs λst=>Zk2 st r) ⟨λt=>args.getD t .u,Zah⟩):Pure P f args r:=by
 refine⟨hc,λw imm vs himm hl hr=>?_⟩;refine calls_of_wp hf hb ?_
 let c:Cx:=⟨w.heap.size,w,imm,himm.tb.here⟩
 have hrel:Rel c n ⟨λt=>args.getD t .u,Zah⟩ { tmps:=vs++Array.replicate (fn.ntmps - vs.size) undef,defers:=[] } w imm:=by
  refine⟨λt=>?_,by simp [hn];omega,rfl,⟨⟨λk e hk=>by simp [Zah] at hk,λk k' e e' b hk=>by simp [Zah] at hk,λad h1=>(himm.at_ ad h1).1,λad h1=>(himm.at_ ad h1).2⟩,Blw.refl _ _,Zwa _,λ_ h1=>h1,λ_ h1=>.inl h1,λ_ _=>rfl⟩⟩;simp only [Zwp];rcases Zwr t args.length with ht | ht
  ·have ht2:t < vs.size:=zo;rw [Zwb ht,Zxz,Zzm ht2,Zw6 ht2];exact .pure (hr t _ _ (Zwb ht) (Zw6 ht2))
  ·rw [Zxw ht];exact .pure (.u _)
 refine Zzd (λe a' w' hp=>?_) (h c _ w imm hrel);obtain⟨ae,st',imm',rfl,hdone,hrel'⟩:=hp;have hret:=Zmn hdone;have hae:∀id,ae≠.exit id:=by rintro id rfl;exact hdone
 obtain⟨y,b,hrun,⟨hpo,hpv⟩,hrs'⟩:=Zlw hrs hrel' hret;obtain⟨i2,hm2,hk2⟩:=Zcq b.toks hrel'.mem;have hrd:=Zfz hm2 (hk2.rs hrs') hpo;rw [hpv] at hrd;have fin:a'.defers=[]∧∃v,(results fn a'.tmps).run P w'=.ok v w'∧(λe w'=>∃x imm',e=Ending.returned x∧Rd w' imm' r x∧(∀ad,imm ad→imm' ad)∧(∀ad,imm' ad→(imm ad∨w.heap.size≤ad.block)∧ad.block < w'.heap.size∧ad.spot=none)∧Blw w.heap.size w w') (Ending.returned v) w' :=
  ⟨hrel'.defers,y,hrun,y,i2,rfl,hrd,hm2.old,λad h1=>⟨hm2.new ad h1,hm2.ok.lt ad h1,hm2.ok.spot ad h1⟩,hm2.below⟩
 cases ae with
 | normal=>exact fin
 | ret=>exact fin
 | exit id=>exact absurd rfl (hae id)
theorem Zsi (s:ByteArray) (i:Nat):0 < (Utf8.decode s i).2:=by
 unfold Utf8.decode;simp only
 repeat' split
 all_goals simp
end
end Go.Pg
namespace Go.Proofs.YtaedgaikloifgaaGreatDoor
open Go Go.RowKit Go.Pg Go.Proofs.Tryz
attribute [-bool_to_prop] Bool.and_eq_decide Bool.or_eq_decide Bool.decide_beq_decide decide_eq_decide
attribute [go_sem] underlying56
attribute [local go_sem] Zdl Zdu
def kwL:List ByteArray:=[
 ⟨#[97,110,103,108,101]⟩,
 ⟨#[97,112,101,120]⟩,
 ⟨#[98,105,115,101,99,116,111,114]⟩,
 ⟨#[99,101,110,116,101,114]⟩,
 ⟨#[99,105,114,99,108,101]⟩,
 ⟨#[99,105,114,99,117,109]⟩,
 ⟨#[99,111,108,108,105,110,101,97,114]⟩,
 ⟨#[99,111,109,109,111,110]⟩,
 ⟨#[99,111,110,99,121,99,108,105,99]⟩,
 ⟨#[99,111,110,103,114,117,101,110,116]⟩,
 ⟨#[99,114,111,115,115]⟩,
 ⟨#[99,117,116]⟩,
 ⟨#[100,105,118,105,100,101]⟩,
 ⟨#[102,111,111,116]⟩,
 ⟨#[108,105,110,101]⟩,
 ⟨#[109,101,101,116]⟩,
 ⟨#[109,105,100,112,111,105,110,116]⟩,
 ⟨#[109,105,114,114,111,114]⟩,
 ⟨#[111,110]⟩,
 ⟨#[111,116,104,101,114]⟩,
 ⟨#[112,97,114,97,108,108,101,108]⟩,
 ⟨#[112,101,114,112,101,110,100,105,99,117,108,97,114]⟩,
 ⟨#[112,111,105,110,116,115]⟩,
 ⟨#[112,114,111,118,101]⟩,
 ⟨#[114,97,116,105,111]⟩,
 ⟨#[114,101,102,108,101,99,116]⟩,
 ⟨#[115,97,109,101]⟩,
 ⟨#[115,104,105,102,116]⟩,
 ⟨#[116,117,114,110]⟩]
def letB (c:Nat):Bool:=decide (97≤c∧c≤122) || decide (65≤c∧c≤90)
def digB (c:Nat):Bool:=decide (48≤c∧c≤57)
def gB (s:ByteArray) (k:Nat):Nat:=(s.data.toList.getD k 0).toNat
theorem Zvd (s:ByteArray) (k:Nat):gB s k < 256:=UInt8.toNat_lt _
def namB (s:ByteArray):Bool:=decide (0 < s.size∧s.size≤20) && (letB (gB s 0) && ((List.range s.size).all (λk=>letB (gB s k) || digB (gB s k)) && !(kwL.any λw=>w.toList == s.toList)))
theorem Zhd (s:ByteArray):(s.toList == (⟨#[]⟩:ByteArray).toList)=decide (s.size=0):=by
 rw [ByteArray.toList_eq,ByteArray.toList_eq,Zxc,Zx3,Zw4];constructor
 ·intro h;have:=Zzh List.length h;exact this
 ·intro h;exact List.length_eq_zero_iff.1 h
theorem Zve (s:ByteArray) (k:Nat):((s.data.toList.getD k 0).toNat:Int)=(gB s k:Int):=rfl
theorem Zif (s:ByteArray):∀n,n≤s.size→∃k,k≤n∧(∀j,j < k→(letB (gB s j) || digB (gB s j))=true)∧(k < n→(letB (gB s k) || digB (gB s k))=false)
 | 0,_=>⟨0,zo,λj h=>zo,λh=>zo⟩
 | n+1,h=>by
   obtain⟨k,h1,h2,h3⟩:=Zif s n zo;by_cases hk:k < n
   ·exact⟨k,zo,h2,λ_=>h3 hk⟩
   ·have:k=n:=zo;subst this
    cases hb:(letB (gB s k) || digB (gB s k)) with
    | true=>exact⟨k+1,zo,λj hj=>by by_cases e:j=k;rw [e];exact hb;exact h2 j zo,λh=>zo⟩
    | false=>exact⟨k,zo,h2,λ_=>hb⟩
def kinB (c:Nat):Int:=if c=32∨c=9∨c=13∨c=10 then 1 else if letB c=true then 2 else if digB c=true then 3 else if c=40∨c=41∨c=44∨c=59∨c=47∨c=45 then 4 else if c=58 then 5 else if c=35 then 6 else 0
theorem Zq3 (c:Nat):kinB c=2↔letB c=true:=by
 unfold kinB letB;simp only [Zx2,Zw4]
 repeat' split
 all_goals omega
theorem kinB_dig (c:Nat):kinB c=3↔digB c=true:=by
 unfold kinB letB digB;simp only [Zx2,Zw4]
 repeat' split
 all_goals omega
theorem nmKind (c:Nat) (hc:c < 256):Pure prog 158 [.v (.int .u8 (c:Int))] (iv (kinB c)):=by
 unfold kinB letB digB;simp only [Zx2,Zw4];refine pI func158 rfl ntmps158 results158 call158 ?_;(focus (refine wklp w_t w_t w_t (w_r 0) ?_;(repeat' first|exact w_t|apply w_l);all_goals intros));all_goals (congr 2;repeat' split)
 all_goals (first|rfl|omega)
theorem nmEnd (s:ByteArray) (hs:s.size≤9223372036854775807):∃n:Nat,Pure prog 159 [strA s,iv 0,.v (.bool true)] (iv n)∧n≤s.size∧(n=s.size↔(List.range s.size).all (λk=>letB (gB s k) || digB (gB s k))=true):=by
 obtain⟨n,h1,h2,h3⟩:=Zif s s.size (Zwa _);refine⟨n,?_,h1,?_⟩
 ·refine pI func159 rfl ntmps159 results159 call159 ?_;(focus (refine wkap w_t w_t (w_r 0) ?_;(repeat' first|exact w_t|apply w_l);all_goals intros));refine Zai (ι:=Nat) (λi e m=>i≤n∧e 0=strA s∧e 1=iv i∧e 2=.v (.bool true)) (λi=>n - i) 0 zr ?_ ?_
  ·rintro i e m ⟨hi,e0,e1,e2⟩
   have hk:=nmKind (gB s i) (Zvd s i);have kl:=Zq3 (gB s i);have kd:=kinB_dig (gB s i);by_cases hlt:i < n
   ·have hb:=h2 i hlt;rw [Zx2,←kl,←kd] at hb;clear kl kd;have hg:=Zve s i;generalize kinB (gB s i)=x at *;rcases hb with hb | hb
    ·subst hb;(focus (refine wkap (w_4 e0 e1 e2 hg) (w_1 hk) (w_r 0) ?_;(repeat' first|exact w_t|apply w_l);all_goals intros));exact⟨i+1,⟨zo,gW e0,gS,gW e2⟩,zo⟩
    ·subst hb;(focus (refine wkap (w_4 e0 e1 e2 hg) (w_1 hk) (w_r 0) ?_;(repeat' first|exact w_t|apply w_l);all_goals intros));exact⟨i+1,⟨zo,gW e0,gS,gW e2⟩,zo⟩
   ·have hin:i=n:=zo;subst hin;by_cases hsz:i < s.size
    ·have hb:=h3 hsz;rw [Zzo] at hb;have b1:kinB (gB s i)≠2:=λh=>by rw [kl.1 h] at hb;exact absurd hb.1 zd
     have b2:kinB (gB s i)≠3:=λh=>by rw [kd.1 h] at hb;exact absurd hb.2 zd
     clear kl kd;have hg:=Zve s i;generalize kinB (gB s i)=x at *;(focus (refine wklp (w_4 e0 e1 e2 hg) (w_1 hk) w_t (w_r 0) ?_;(repeat' first|exact w_t|apply w_l);all_goals intros))
    ·(focus (refine wklp (w_3 e0 e1 e2) w_t w_t (w_r 0) ?_;(repeat' first|exact w_t|apply w_l);all_goals intros))
  ·exact⟨Zwk _,gC,gC,gC⟩
 ·rw [Zy1];constructor
  ·intro h x hx;exact h2 x (by rw [h];exact List.mem_range.1 hx)
  ·intro h;rcases Zwr n s.size with h4 | h4
   ·have:=h n (List.mem_range.2 h4);rw [h3 h4] at this;cases this
   ·omega
theorem nmKeys:Pure prog 160 [] (.sl 1 (kwL.map strA)):=by
 unfold kwL;refine pI func160 rfl ntmps160 results160 call160 ?_;(focus (refine wklp w_t w_t w_t (w_r 0) ?_;(repeat' first|exact w_t|apply w_l);all_goals intros))
theorem rnKeys:Pure prog 188 [] (.sl 1 (kwL.map strA)):=by
 unfold kwL;refine pI func188 rfl ntmps188 results188 call188 ?_;exact wklp w_t w_t w_t (w_r 0) w_z
theorem Zqd (c:Nat) (hc:c < 256):Pure prog 186 [.v (.int .u8 (c:Int))] (.v (.bool (letB c))):=by
 unfold letB;refine pI func186 rfl ntmps186 results186 call186 ?_;exact wklp w_t w_t w_t (w_r 0) w_z
theorem rnDigit (c:Nat) (hc:c < 256):Pure prog 187 [.v (.int .u8 (c:Int))] (.v (.bool (digB c))):=by
 unfold digB;refine pI func187 rfl ntmps187 results187 call187 ?_;exact wklp w_t w_t w_t (w_r 0) w_z
theorem Zd0:kwL.length=29:=rfl
theorem nmName (s:ByteArray) (hs:s.size≤9223372036854775807):Pure prog 115 [strA s] (.v (.bool (namB s))):=by
 have he:=Zhd s;unfold namB;by_cases h0:0 < s.size∧s.size≤20
 ·rw [Zv8 h0,Zyj];have h00:(decide (s.size=0))=false:=Zv7 zo;rw [h00] at he;have hk:=nmKind (gB s 0) (Zvd s 0);have hg:=Zve s 0;have kl:=Zq3 (gB s 0)
  cases hl:letB (gB s 0) with
  | false =>
    have hx:kinB (gB s 0)≠2:=λh=>by rw [kl.1 h] at hl;cases hl
    clear kl;rw [Zwx];generalize kinB (gB s 0)=x at *;refine pI func115 rfl ntmps115 results115 call115 ?_;(focus (refine wklp (w_2 he hg) (w_1 hk) w_t (w_r 0) ?_;(repeat' first|exact w_t|apply w_l);all_goals intros))
  | true =>
    have hx:kinB (gB s 0)=2:=kl.2 hl;rw [hx] at hk;rw [Zyj];obtain⟨n,ce,hn,hall⟩:=nmEnd s hs
    cases ha:(List.range s.size).all (λk=>letB (gB s k) || digB (gB s k)) with
    | false =>
      have hlt:n < s.size:=by
       rcases Zwr n s.size with h | h
       ·exact h
       ·rw [hall.1 zo] at ha;cases ha
      rw [Zwx];clear hall ha;refine pI func115 rfl ntmps115 results115 call115 ?_;(focus (refine wklp (w_2 he hg) (w_2 hk ce) w_t (w_r 0) ?_;(repeat' first|exact w_t|apply w_l);all_goals intros))
    | true =>
      have hnn:n=s.size:=hall.2 ha;subst hnn;rw [Zyj];clear hall ha hl hx kl;have ck:=nmKeys;refine pI func115 rfl ntmps115 results115 call115 ?_;(focus (refine wkap (w_4 he hg @Zcp @Zd0) (w_3 hk ce ck) (w_r 0) ?_;(repeat' first|exact w_t|apply w_l);all_goals intros));refine Zai (ι:=Nat) (λi e m=>i≤29∧e 0=strA s∧e 25=.sl 1 (kwL.map strA)∧e 26=iv 29∧e 27=iv i∧(kwL.take i).any (λw=>w.toList == s.toList)=false) (λi=>29 - i) 0 zr ?_ ?_
      ·rintro i e m ⟨hi,e0,e25,e26,e27,hno⟩
       by_cases hlt:i < 29
       ·have hlt':i < kwL.length:=by rw [Zd0];exact hlt
        have hgk:=Zaf strA hlt';have hsn:kwL.take (i+1)=kwL.take i++[kwL[i]]:=ZAd hlt';have hmem:kwL[i]∈kwL:=Zwq hlt';generalize kwL[i]=w at *
        cases hw:(w.toList == s.toList) with
        | true =>
          have:kwL.any (λw=>w.toList == s.toList)=true:=List.any_eq_true.2 ⟨w,hmem,hw⟩;rw [this];(focus (refine wklp (w_8 e0 e25 e26 e27 hgk hw @Zcp @Zd0) w_t (w_1 @Zzk) (w_r 0) ?_;(repeat' first|exact w_t|apply w_l);all_goals intros))
        | false =>
          (focus (refine wkap (w_8 e0 e25 e26 e27 hgk hw @Zcp @Zd0) w_t (w_r 0) ?_;(repeat' first|exact w_t|apply w_l);all_goals intros));exact⟨i+1,⟨zo,gW e0,gW e25,gW e26,gS,by rw [hsn,List.any_append,hno];simp [hw]⟩,zo⟩
       ·have hi2:i=29:=zo;subst hi2;rw [show kwL.take 29=kwL from by rw [←Zd0,Zza]] at hno;rw [hno];(focus (refine wklp (w_4 e0 e25 e26 e27) w_t (w_1 @Zz0) (w_r 0) ?_;(repeat' first|exact w_t|apply w_l);all_goals intros))
      ·exact⟨Zwk _,gC,gC,by(simp (disch:=omega) only [go_sem,Zv9,Zd0]<;>repeat' first|rfl|refine⟨?_,?_⟩),gC,by simp⟩
 ·rw [Zv7 h0,Zwx];by_cases h1:s.size=0
  ·rw [Zv8 h1] at he;refine pI func115 rfl ntmps115 results115 call115 ?_;(focus (refine wklp (w_1 he) w_t w_t (w_r 0) ?_;(repeat' first|exact w_t|apply w_l);all_goals intros))
  ·rw [Zv7 h1] at he;refine pI func115 rfl ntmps115 results115 call115 ?_;(focus (refine wklp (w_1 he) w_t w_t (w_r 0) ?_;(repeat' first|exact w_t|apply w_l);all_goals intros))
theorem decode_1 (s:ByteArray) (k:Nat) (hk:k < s.size) (h:gB s k < 128):(Utf8.decode s k).2=1:=by
 have e:(s[k]'hk).toNat=gB s k:=by
  unfold gB;rw [Zwp,Zwb (by simpa using hk)];rfl
 rw [decode_ascii s k hk zo]
theorem ld_ascii {c:Nat} (h:(letB c || digB c)=true):c < 128:=by
 unfold letB digB at h;simp only [Zx2,Zw4] at h;omega
theorem rnName (s:ByteArray) (hs:s.size≤9223372036854775807):Pure prog 141 [strA s] (.v (.bool (namB s))):=by
 have he:=Zhd s;unfold namB;by_cases h0:0 < s.size∧s.size≤20
 ·rw [Zv8 h0,Zyj];have h00:(decide (s.size=0))=false:=Zv7 zo;rw [h00] at he;have hk:=Zqd (gB s 0) (Zvd s 0);have hg:=Zve s 0
  cases hl:letB (gB s 0) with
  | false =>
    rw [hl] at hk;rw [Zwx];refine pI func141 rfl ntmps141 results141 call141 ?_;exact wklp (w_2 he hg) (w_1 hk) w_t (w_r 0) w_z
  | true =>
    rw [hl] at hk;rw [Zyj];obtain⟨n,h1,h2,h3⟩:=Zif s s.size (Zwa _)
    have hall:(List.range s.size).all (λk=>letB (gB s k) || digB (gB s k))=decide (n=s.size):=by
     rw [Zxc,Zy1,Zw4];constructor
     ·intro h;rcases Zwr n s.size with h4 | h4
      ·have:=h n (List.mem_range.2 h4);rw [h3 h4] at this;cases this
      ·omega
     ·intro h x hx;exact h2 x (by rw [h];exact List.mem_range.1 hx)
    rw [hall];have ck:=rnKeys;refine Zo5 (rs:=[.tmp 2]) func141 rfl ntmps141 results141 call141 zs ?_;refine Zpw (Za2 (tok:=0) _ _ _ zr ?_)
    (refine wkap w_t w_t (w_r 0) (w_s ?_);intros)
    refine Zpw (Za2 (tok:=0) _ _ _ zr ?_)
    (refine wkap (w_2 he hg) (w_1 hk) (w_r 0) (w_s ?_);intros)
    refine Zpw ?_;clear hk hg he hall;refine Zvy (s:=s) (gC) underlying9 zo zo zo zo zo zo zo zr (λpos e=>pos≤n∧e 0=strA s) ?_ ?_ (λpos _=>Zsi s pos) ?_
    ·intro pv;exact⟨Zwk _,gC⟩
    ·rintro pos e pv ⟨hp,e0⟩ epv hlt
     have hkl:=Zqd (gB s pos) (Zvd s pos);have hkd:=rnDigit (gB s pos) (Zvd s pos);have hg:=Zve s pos;by_cases hpn:pos < n
     ·have hb:=h2 pos hpn;have hd:=decode_1 s pos hlt (ld_ascii hb);rw [hd];generalize (Utf8.decode s pos).1=cc
      cases hl2:letB (gB s pos) with
      | true =>
        rw [hl2] at hkl
        (refine wkap (w_2 e0 hg) (w_2 hkl hkd) (w_r 0) (w_s ?_);intros)
        exact⟨rfl,⟨zo,gW e0⟩,gW epv⟩
      | false =>
        rw [hl2,Bool.false_or] at hb;rw [hl2] at hkl;rw [hb] at hkd
        (refine wkap (w_2 e0 hg) (w_2 hkl hkd) (w_r 0) (w_s ?_);intros)
        exact⟨rfl,⟨zo,gW e0⟩,gW epv⟩
     ·have hpe:pos=n:=zo;subst hpe;have hb:=h3 hlt;rw [Zzo] at hb;rw [hb.1] at hkl;rw [hb.2] at hkd;have hne:decide (pos=s.size)=false:=Zv7 zo;rw [hne];generalize (Utf8.decode s pos).1=cc;generalize (Utf8.decode s pos).2=cw
      (refine wkap (w_2 e0 hg) (w_2 hkl hkd) (w_r 0) (w_s ?_);intros)
      refine⟨rfl,?_⟩;exact wklp w_t w_t w_t (w_r 0) w_z
    ·rintro pos e pv ⟨hp,e0⟩ epv hlt
     have hpe:n=s.size:=zo;rw [Zv8 hpe,Zyj]
     (refine wkap (w_1 e0) w_t (w_r 0) (w_s ?_);intros)
     refine⟨rfl,?_⟩;refine Zm0 (t_then ?_);refine Za2 (tok:=0) _ _ _ zr ?_
     (refine wkap (w_3 e0 @Zcp @Zd0) (w_1 ck) (w_r 0) (w_s ?_);intros)
     refine Zai (ι:=Nat) (λi e m=>i≤29∧e 0=strA s∧e 36=.sl 1 (kwL.map strA)∧e 37=iv 29∧e 38=iv i∧(kwL.take i).any (λw=>w.toList == s.toList)=false) (λi=>29 - i) 0 zr ?_ ?_
     ·rintro i e m ⟨hi,e0,e25,e26,e27,hno⟩
      by_cases hlt:i < 29
      ·have hlt':i < kwL.length:=by rw [Zd0];exact hlt
       have hgk:=Zaf strA hlt';have hsn:kwL.take (i+1)=kwL.take i++[kwL[i]]:=ZAd hlt';have hmem:kwL[i]∈kwL:=Zwq hlt';generalize kwL[i]=w at *;have hsy:(s.toList == w.toList)=(w.toList == s.toList):=by rw [Zxc,Zx3,Zx3];exact eq_comm
       cases hw:(w.toList == s.toList) with
       | true =>
         have:kwL.any (λw=>w.toList == s.toList)=true:=List.any_eq_true.2 ⟨w,hmem,hw⟩;rw [this];rw [hw] at hsy;exact wklp (w_8 e0 e25 e26 e27 hgk hsy @Zcp @Zd0) w_t (w_1 @Zzk) (w_r 0) w_z
       | false =>
         rw [hw] at hsy
         (refine wkap (w_8 e0 e25 e26 e27 hgk hsy @Zcp @Zd0) w_t (w_r 0) (w_s ?_);intros)
         exact⟨i+1,⟨zo,gW e0,gW e25,gW e26,gS,by rw [hsn,List.any_append,hno];simp [hw]⟩,zo⟩
      ·have hi2:i=29:=zo;subst hi2;rw [show kwL.take 29=kwL from by rw [←Zd0,Zza]] at hno;rw [hno];exact wklp (w_4 e0 e25 e26 e27) w_t (w_1 @Zz0) (w_r 0) w_z
     ·exact⟨Zwk _,gW e0,gC,by(simp (disch:=omega) only [go_sem,Zv9,Zd0]<;>repeat' first|rfl|refine⟨?_,?_⟩),gC,by simp⟩
 ·rw [Zv7 h0,Zwx];by_cases h1:s.size=0
  ·rw [Zv8 h1] at he;refine pI func141 rfl ntmps141 results141 call141 ?_;exact wklp (w_1 he) w_t w_t (w_r 0) w_z
  ·rw [Zv7 h1] at he;refine pI func141 rfl ntmps141 results141 call141 ?_;exact wklp (w_1 he) w_t w_t (w_r 0) w_z
end Go.Proofs.YtaedgaikloifgaaGreatDoor
namespace Go.Proofs.YtaedgaikloifgaaGreatDoor
open Go Go.RowKit Go.Pg Go.Pol Go.Proofs.Tryz
attribute [-bool_to_prop] Bool.and_eq_decide Bool.or_eq_decide Bool.decide_beq_decide decide_eq_decide
def arS (k:Int):Int :=
 if k=1 then 0 else if k=2∨k=5∨k=6∨k=14 then 2 else if k=3∨k=4∨k=7∨k=8∨k=10∨k=11 then 3 else if k=9∨k=12∨k=13 then 4 else -1
def arG (k:Int):Int :=
 if k=8 then 2 else if k=1∨k=5 then 3 else if k=2∨k=3∨k=4∨k=6∨k=9 then 4 else if k=7 then 8 else 0
def outB (n:Int) (l:List Int):Bool:=l.any λa=>decide (a < 0) || decide (n≤a)
abbrev RS.zero:RS:=⟨0,.empty,[],⟨false,[],[]⟩⟩
def errS (ss:List RS) (i:Nat):Int :=
 let s:=ss.getD i RS.zero
 if arS s.k < 0 then 8
 else if (s.ar.length:Int)≠arS s.k then 1
 else if outB (i:Int) s.ar=true then 2
 else if (s.k=2∧s.r.ok=false)∨(s.k≠2∧s.r.none=false) then 1
 else if s.nm.size=0 then 0
 else if namB s.nm=false then 6
 else if (ss.take i).any (λt=>t.nm.toList == s.nm.toList)=true then 7
 else 0
def errG (g:RG) (n:Nat):Int :=
 if arG g.k=0 then 8
 else if (g.ar.length:Int)≠arG g.k then 1
 else if outB (n:Int) g.ar=true then 2
 else if (g.k=9∧g.r.ok=false)∨(g.k≠9∧g.r.none=false) then 1
 else 0
def fstE (f:Nat→Int):Nat→Int
 | 0=>0
 | n+1=>if fstE f n≠0 then fstE f n else f n
theorem Zfm {f:Nat→Int}:∀{n:Nat},(∀j,j < n→f j=0)→fstE f n=0
 | 0,_=>rfl
 | n+1,h=>by
   unfold fstE;rw [Zv5 (by rw [Zfm λj hj=>h j zo];simp)];exact h n zo
theorem Zkd {f:Nat→Int} {i:Nat} (h:∀j,j < i→f j=0) (hi:f i≠0):∀{n:Nat},i < n→fstE f n=f i
 | 0,hn=>zo
 | n+1,hn=>by
   unfold fstE;by_cases e:i=n
   ·subst e;rw [Zv5 (by rw [Zfm h];simp)]
   ·have:=Zkd h hi (n:=n) zo;rw [this,Zv6 hi]
theorem Zh2 {f:Nat→Int}:∀{n:Nat},fstE f n=0→∀j,j < n→f j=0
 | 0,_,j,hj=>zo
 | n+1,h,j,hj=>by
   unfold fstE at h;split at h
   ·rename_i h1;exact absurd h h1
   ·rename_i h1;by_cases e:j=n
    ·subst e;exact h
    ·exact Zh2 (n:=n) (by rcases Decidable.em (fstE f n=0) with h2 | h2;exact h2;exact absurd h2 h1) j zo
def figE (ss:List RS) (gs:List RG):Int :=
 if 40 < ss.length∨8 < gs.length then 4
 else if fstE (errS ss) ss.length≠0 then fstE (errS ss) ss.length
 else fstE (λi=>errG (gs.getD i ⟨0,[],⟨false,[],[]⟩⟩) ss.length) gs.length
def frame (ss:List RS) (gs:List RG):List (Po × Po) × List Vt × Int :=
 if figE ss gs≠0 then ([],[],figE ss gs)
 else if (List.range ss.length).any (bigN ss)=true then ([],[],4)
 else ((frN ss ss.length).cs,(frN ss ss.length).vs,0)
theorem Zuk {n:Int} {l:List Int} (h:outB n l=false) {k:Nat} (hk:k < l.length):0≤gI l k∧gI l k < n:=by
 unfold outB at h;rw [List.any_eq_false] at h;have:=h (gI l k) (by rw [Zbp hk];exact Zwq hk);simp only [Zx2,Zw4] at this;omega
theorem Zml {ss:List RS} {i:Nat} (hi:i < ss.length) (h:errS ss i=0):0≤arS ss[i].k∧(ss[i].ar.length:Int)=arS ss[i].k∧(∀k,k < ss[i].ar.length→0≤gI ss[i].ar k∧gI ss[i].ar k < (i:Int))∧(ss[i].k=2→ss[i].r.ok=true):=by
 unfold errS at h;rw [show ss.getD i RS.zero=ss[i] from by rw [Zwp,Zwb hi];rfl] at h;generalize ss[i]=s at *;simp only at h;split at h
 ·omega
 ·split at h
  ·omega
  ·split at h
   ·omega
   ·split at h
    ·omega
    ·rename_i h1 h2 h3 h4;refine⟨zo,zo,λk hk=>Zuk (by simpa using h3) hk,λh5=>?_⟩
     cases h6:s.r.ok with
     | true=>rfl
     | false=>exact absurd (.inl ⟨h5,h6⟩) h4
abbrev Pr:=Int × Int
def prA (p:Pr):AV:=.agg [iv p.1,iv p.2]
def Zcs (k:Int):List Pr :=
 if k=2∨k=5∨k=12∨k=10 then [(0,1)] else if k=8 then [(1,2)] else if k=3∨k=4∨k=7 then [(1,2),(0,-1)] else if k=9 then [(0,1),(2,3)] else if k=14 then [(0,1),(0,-1),(1,-1)] else []
def Zct (k:Int):List Pr :=
 if k=1 then [(0,1),(1,2)] else if k=2∨k=3∨k=4∨k=9 then [(0,1),(2,3)] else if k=5 then [(1,2)] else if k=7 then [(0,1),(2,3),(4,5),(6,7)] else []
def atN (i:Int) (ar:List Int) (k:Int):Int:=if k < 0 then i else gI ar k.toNat
def Zd2 (i:Nat) (s:RS):List Pr:=(Zcs s.k).map λp=>(atN i s.ar p.1,atN i s.ar p.2)
def Zd4 (g:RG):List Pr:=(Zct g.k).map λp=>(gI g.ar p.1.toNat,gI g.ar p.2.toNat)
def Za1 (ss:List RS):Nat→List Pr
 | 0=>[]
 | i+1=>Za1 ss i++(match ss[i]? with | some s=>Zd2 i s | none=>[])
def Zbo (gs:List RG):Nat→List Pr
 | 0=>[]
 | i+1=>Zbo gs i++(match gs[i]? with | some g=>Zd4 g | none=>[])
def Zcf (ss:List RS) (gs:List RG):List Pr:=Za1 ss ss.length++Zbo gs gs.length
theorem Zf6 {ss:List RS} {i:Nat} (h:i < ss.length):Za1 ss (i+1)=Za1 ss i++Zd2 i ss[i]:=by
 unfold Za1;rw [Zwb h];cases i<;>rfl
theorem Zgf {gs:List RG} {i:Nat} (h:i < gs.length):Zbo gs (i+1)=Zbo gs i++Zd4 gs[i]:=by
 unfold Zbo;rw [Zwb h];cases i<;>rfl
def ori (p:Pr):List Pr:=if p.1 < p.2 then [p] else if p.1 > p.2 then [(p.2,p.1)] else []
def oris (l:List Pr):List Pr:=l.flatMap ori
def cmpP (p q:Pr):Int:=if p.1≠q.1 then p.1 - q.1 else p.2 - q.2
theorem Zog (x y:Pr):cmpP x x=0∧(cmpP x y < 0↔0 < cmpP y x):=by
 unfold cmpP;refine⟨by simp,?_⟩;by_cases h:x.1=y.1
 ·rw [Zv5 (by simpa using h),Zv5 (by simpa using h.symm)];omega
 ·rw [Zv6 h,Zv6 (Zyg h)];omega
theorem cmpP_2 (x y z:Pr) (h1:cmpP x y≤0) (h2:cmpP y z≤0):cmpP x z≤0:=by
 unfold cmpP at *;by_cases a:x.1=y.1<;>by_cases b:y.1=z.1
 ·rw [Zv5 (by simpa using a)] at h1;rw [Zv5 (by simpa using b)] at h2;rw [Zv5 (by simp [a,b])];omega
 ·rw [Zv5 (by simpa using a)] at h1;rw [Zv6 b] at h2;rw [Zv6 (by rw [a];exact b)];omega
 ·rw [Zv6 a] at h1;rw [Zv5 (by simpa using b)] at h2;rw [Zv6 (by rw [←b];exact a)];omega
 ·rw [Zv6 a] at h1;rw [Zv6 b] at h2;have:x.1≠z.1:=zo;rw [Zv6 this];omega
theorem Zvq {x y:Pr} (h:cmpP x y=0):x=y:=by
 unfold cmpP at h;by_cases a:x.1=y.1
 ·rw [Zv5 (by simpa using a)] at h;exact Prod.ext a zo
 ·rw [Zv6 a] at h;omega
def Zav:List Pr→List Pr
 | []=>[]
 | [a]=>[a]
 | a :: b :: r=>if a=b then Zav (b :: r) else a :: Zav (b :: r)
theorem Zh3:∀(l:List Pr) (x:Pr),x∈Zav l↔x∈l
 | [],x=>Iff.rfl
 | [a],x=>Iff.rfl
 | a :: b :: r,x=>by
   unfold Zav;have ih:=Zh3 (b :: r) x;split
   ·rename_i h;rw [ih,h];simp
   ·rw [Zxk,ih,Zxk,Zxk,Zxk]
theorem Zgj:∀(l:List Pr),l.Pairwise (λx y=>cmpP x y≤0)→(Zav l).Pairwise λx y=>cmpP x y < 0
 | [],_=>.nil
 | [a],_=>by unfold Zav;simp
 | a :: b :: r,h=>by
   unfold Zav;have h2:=(List.pairwise_cons.1 h).2;have ih:=Zgj (b :: r) h2;split
   ·exact ih
   ·rename_i hab;refine List.pairwise_cons.2 ⟨λy hy=>?_,ih⟩;have hy:=(Zh3 (b :: r) y).1 hy;have h1:=(List.pairwise_cons.1 h).1 y hy;have hb:cmpP a b≤0:=(List.pairwise_cons.1 h).1 b (Zxd ..);rcases Int.lt_or_eq_of_le h1 with h3 | h3
    ·exact h3
    ·exfalso;have e:=Zvq h3;subst e;rcases List.mem_cons.1 hy with e | hy
     ·exact hab e
     ·have h4:=(List.pairwise_cons.1 h2).1 a hy;have h5:=(Zog b a).2;rcases Int.lt_or_eq_of_le h4 with h6 | h6
      ·have:=h5.1 h6;omega
      ·exact hab (Zvq h6).symm
theorem Zjm:∀(l m:List Pr),l.Pairwise (λx y=>cmpP x y < 0)→m.Pairwise (λx y=>cmpP x y < 0)→(∀x,x∈l↔x∈m)→l=m
 | [],[],_,_,_=>rfl
 | [],b :: m,_,_,h=>by have:=(h b).2 (Zxd ..);cases this
 | a :: l,[],_,_,h=>by have:=(h a).1 (Zxd ..);cases this
 | a :: l,b :: m,hl,hm,h=>by
   obtain⟨l1,l2⟩:=List.pairwise_cons.1 hl;obtain⟨m1,m2⟩:=List.pairwise_cons.1 hm
   have e:a=b:=by
    rcases List.mem_cons.1 ((h a).1 (Zxd ..)) with e | ha
    ·exact e
    ·rcases List.mem_cons.1 ((h b).2 (Zxd ..)) with e | hb
     ·exact e.symm
     ·have h1:=l1 b hb;have h2:=m1 a ha;have:=(Zog a b).2.1 h1;omega
   subst e;rw [Zjm l m l2 m2 λx=>?_];constructor
   ·intro hx;rcases List.mem_cons.1 ((h x).1 (Zxu _ hx)) with e | h3
    ·subst e;have:=l1 x hx;rw [(Zog x x).1] at this;omega
    ·exact h3
   ·intro hx;rcases List.mem_cons.1 ((h x).2 (Zxu _ hx)) with e | h3
    ·subst e;have:=m1 x hx;rw [(Zog x x).1] at this;omega
    ·exact h3
def hasB (all:List Pr) (i k:Nat):Bool:=decide (((i:Int),(k:Int))∈all) || decide (((k:Int),(i:Int))∈all)
def Zee (all:List Pr) (i:Nat):Nat→List Pr
 | 0=>[]
 | k+1=>Zee all i k++(if hasB all i (i+1+k) then [((i:Int),((i+1+k:Nat):Int))] else [])
def Zdi (all:List Pr) (n:Nat):Nat→List Pr
 | 0=>[]
 | i+1=>Zdi all n i++Zee all i (n - (i+1))
theorem Zhr (all:List Pr) (i:Nat):∀(m:Nat) (x:Pr),x∈Zee all i m↔∃k,i < k∧k < i+1+m∧hasB all i k=true∧x=((i:Int),(k:Int))
 | 0,x=>by
   unfold Zee;constructor
   ·intro h;cases h
   ·rintro ⟨k,h1,h2,_⟩;omega
 | m+1,x=>by
   unfold Zee;rw [Zyo,Zhr all i m x];constructor
   ·rintro (⟨k,h1,h2,h3,h4⟩ | h)
    ·exact⟨k,h1,zo,h3,h4⟩
    ·split at h
     ·rename_i hh;simp only [Zy5] at h;exact⟨i+1+m,zo,zo,hh,h⟩
     ·cases h
   ·rintro ⟨k,h1,h2,h3,h4⟩
    by_cases hk:k=i+1+m
    ·subst hk;right;rw [Zv6 h3];simp [h4]
    ·left;exact⟨k,h1,zo,h3,h4⟩
theorem Zht (all:List Pr) (n:Nat):∀(m:Nat) (x:Pr),x∈Zdi all n m↔∃i k:Nat,i < m∧i < k∧k < n∧hasB all i k=true∧x=((i:Int),(k:Int))
 | 0,x=>by
   unfold Zdi;constructor
   ·intro h;cases h
   ·rintro ⟨i,k,h1,_⟩;omega
 | m+1,x=>by
   unfold Zdi;rw [Zyo,Zht all n m x,Zhr];constructor
   ·rintro (⟨i,k,h1,h2,h3,h4,h5⟩ | ⟨k,h1,h2,h3,h4⟩)
    ·exact⟨i,k,zo,h2,h3,h4,h5⟩
    ·exact⟨m,k,zo,h1,zo,h3,h4⟩
   ·rintro ⟨i,k,h1,h2,h3,h4,h5⟩
    by_cases hi:i=m
    ·subst hi;right;exact⟨k,h2,zo,h4,h5⟩
    ·left;exact⟨i,k,zo,h2,h3,h4,h5⟩
theorem Zip (all:List Pr) (i:Nat):∀m,(Zee all i m).Pairwise λx y=>cmpP x y < 0
 | 0=>.nil
 | m+1=>by
   unfold Zee;refine List.pairwise_append.2 ⟨Zip all i m,by split<;>simp,λx hx y hy=>?_⟩;obtain⟨k,h1,h2,h3,rfl⟩:=(Zhr all i m x).1 hx;split at hy
   ·simp only [Zy5] at hy;subst hy;unfold cmpP;simp only [ne_eq,not_true_eq_false,Zwt];omega
   ·cases hy
theorem Ziq (all:List Pr) (n:Nat):∀m,(Zdi all n m).Pairwise λx y=>cmpP x y < 0
 | 0=>.nil
 | m+1=>by
   unfold Zdi;refine List.pairwise_append.2 ⟨Ziq all n m,Zip all m _,λx hx y hy=>?_⟩;obtain⟨i,k,h1,h2,h3,h4,rfl⟩:=(Zht all n m x).1 hx;obtain⟨k',h1',h2',h3',rfl⟩:=(Zhr all m _ y).1 hy;unfold cmpP;simp only;rw [Zv6 zo];omega
theorem Zqr {l:List Pr} {x:Pr}:x∈oris l↔x.1 < x.2∧(x∈l∨(x.2,x.1)∈l):=by
 unfold oris;rw [List.mem_flatMap];constructor
 ·rintro ⟨p,hp,hx⟩
  unfold ori at hx;split at hx
  ·simp only [Zy5] at hx;subst hx;exact⟨by assumption,.inl hp⟩
  ·split at hx
   ·simp only [Zy5] at hx;subst hx;exact⟨by simp only;omega,.inr hp⟩
   ·cases hx
 ·rintro ⟨h1,h | h⟩
  ·exact⟨x,h,by unfold ori;rw [Zv6 h1];simp⟩
  ·exact⟨(x.2,x.1),h,by unfold ori;simp only;rw [Zv5 zo,Zv6 h1];simp⟩
theorem lines_eq {all l:List Pr} {n:Nat} (hb:∀p∈all,0≤p.1∧p.1 < n∧0≤p.2∧p.2 < n) (hp:l.Perm (oris all)) (hs:l.Pairwise λx y=>cmpP x y≤0):Zav l=Zdi all n n:=by
 refine Zjm _ _ (Zgj l hs) (Ziq all n n) λx=>?_;rw [Zh3,hp.mem_iff,Zqr,Zht];constructor
 ·rintro ⟨h1,h⟩
  have hx:0≤x.1∧x.1 < n∧0≤x.2∧x.2 < n:=by
   rcases h with h | h
   ·exact hb x h
   ·obtain⟨a,b,c,d⟩:=hb _ h;exact⟨c,d,a,b⟩
  obtain⟨a,b,c,d⟩:=hx;have e1:((x.1.toNat:Nat):Int)=x.1:=ZAt a;have e2:((x.2.toNat:Nat):Int)=x.2:=ZAt c;refine⟨x.1.toNat,x.2.toNat,zo,zo,zo,?_,by rw [e1,e2]⟩;unfold hasB;rw [e1,e2];rcases h with h | h
  ·simp [h]
  ·simp [h]
 ·rintro ⟨i,k,h1,h2,h3,h4,rfl⟩
  refine⟨by simp only;omega,?_⟩;unfold hasB at h4;simp only [Zx2,Zw4] at h4;exact h4
theorem rg2 (t:TypeId):List.map (λi=>(t,i*1)) (List.range 0++[0]++[1])=[(t,0),(t,1)]:=rfl
theorem Zen:szOf prog 51=some 1:=by kernel_rfl
theorem zSlP:Za6 prog 51=some (.slice none 0 0):=by kernel_rfl
theorem Zey:szOf prog 82=some 1:=by kernel_rfl
attribute [go_sem] underlying43 underlying22 underlying45 underlying23 underlying25 zErr zFig zSlI zSlS zSlF underlying82 zSlP
attribute [local go_sem] Zec Zdl Zdu Zca Zcc Zcb Zcg Zcj Zd6 Zch Zck Zd7 Zeb Zd9 Zd8 Zea eqP2 Zen Zey rg2
def Zqa (k:Int):AV :=
 if k=2∨k=5∨k=12∨k=10 then .sl 2 [.agg [iv 0,iv 1]] else if k=8 then .sl 2 [.agg [iv 1,iv 2]] else if k=3∨k=4∨k=7 then .sl 2 [.agg [iv 1,iv 2],.agg [iv 0,iv (-1)]] else if k=9 then .sl 2 [.agg [iv 0,iv 1],.agg [iv 2,iv 3]] else if k=14 then .sl 2 [.agg [iv 0,iv 1],.agg [iv 0,iv (-1)],.agg [iv 1,iv (-1)]] else .v (.slice none 0 0)
theorem Zhq {c:Prop} [Decidable c] {a b:AV} {l m:List Pr} (h1:Vk a (.sl 2 (l.map prA))) (h2:Vk b (.sl 2 (m.map prA))):Vk (if c then a else b) (.sl 2 ((if c then l else m).map prA)):=by
 split
 ·exact h1
 ·exact h2
theorem sidesV (k:Int):Vk (Zqa k) (.sl 2 ((Zcs k).map prA)):=by
 unfold Zqa Zcs;exact Zhq (.refl _) (Zhq (.refl _) (Zhq (.refl _) (Zhq (.refl _) (Zhq (.refl _) (.nil 2)))))
theorem drSides (k:Int):Pure prog 31 [iv k] (.sl 2 ((Zcs k).map prA)):=by
 refine Zcx (r:=Zqa k) ?_ (sidesV k);refine pI func31 rfl ntmps31 results31 call31 ?_;(focus (refine wkad w_t w_t w_t ?_;(repeat' first|exact w_t|apply w_l);all_goals intros));all_goals (all_goals (try simp (disch:=omega) only [go_sem,Zqa,Zv8,Zv7,Zv6,Zv5,Int.reduceAdd,Int.reduceSub,Int.reduceToNat,Zwc]));(all_goals first|done|rfl|(congr 2;first|done|omega|(rw [Zxc];simp only [bool_to_prop,Zwm,Zxo,Zxp,Zxq,Zxr];omega))|skip)
def Zqq (k:Int):AV :=
 if k=1 then .sl 2 [.agg [iv 0,iv 1],.agg [iv 1,iv 2]] else if k=2∨k=3∨k=4∨k=9 then .sl 2 [.agg [iv 0,iv 1],.agg [iv 2,iv 3]] else if k=5 then .sl 2 [.agg [iv 1,iv 2]] else if k=7 then .sl 2 [.agg [iv 0,iv 1],.agg [iv 2,iv 3],.agg [iv 4,iv 5],.agg [iv 6,iv 7]] else .v (.slice none 0 0)
theorem partsV (k:Int):Vk (Zqq k) (.sl 2 ((Zct k).map prA)):=by
 unfold Zqq Zct;exact Zhq (.refl _) (Zhq (.refl _) (Zhq (.refl _) (Zhq (.refl _) (.nil 2))))
theorem drParts (k:Int):Pure prog 32 [iv k] (.sl 2 ((Zct k).map prA)):=by
 refine Zcx (r:=Zqq k) ?_ (partsV k);refine pI func32 rfl ntmps32 results32 call32 ?_;(focus (refine wkad w_t w_t w_t ?_;(repeat' first|exact w_t|apply w_l);all_goals intros));all_goals (all_goals (try simp (disch:=omega) only [go_sem,Zqq,Zv8,Zv7,Zv6,Zv5,Int.reduceAdd,Int.reduceSub,Int.reduceToNat,Zwc]));(all_goals first|done|rfl|(congr 2;first|done|omega|(rw [Zxc];simp only [bool_to_prop,Zwm,Zxo,Zxp,Zxq,Zxr];omega))|skip)
theorem drAt (i k k0:Int) (nm:ByteArray) (ar:List Int) (bo:Bool) (l d:List Nat) (hk:k < (ar.length:Int)):Pure prog 72 [iv k,.pimm [iv i],.pimm [iv k0,strA nm,ivs ar,.v (.bool bo),lim l,lim d]] (iv (atN i ar k)):=by
 have hll:(ar.map iv).length=ar.length:=Zv9 ..;unfold atN;by_cases h:k < 0
 ·rw [Zv6 h];refine pI func72 rfl ntmps72 results72 call72 ?_;(focus (refine wkad (w_1 h) w_t w_t ?_;(repeat' first|exact w_t|apply w_l);all_goals intros));all_goals exact gL
 ·rw [Zv5 h];have hg:(ar.map iv).getD k.toNat .u=iv (gI ar k.toNat):=by rw [Zaf iv zo,Zbp zo]
  refine pI func72 rfl ntmps72 results72 call72 ?_;(focus (refine wkad (w_3 h hll hg) w_t w_t ?_;(repeat' first|exact w_t|apply w_l);all_goals intros));all_goals exact gL
abbrev fnV (f:FuncId):Value:=.func (.func f) #[] #[]
theorem rd_fnV {w:World} {imm:Imm} {f:FuncId} {x:Value} (h:Rd w imm (.fn f []) x):Rd w imm (.v (fnV f)) x:=by
 cases h with
 | fn _ _ vs hl _ =>
   obtain rfl:vs=#[]:=Array.eq_empty_of_size_eq_zero (by simpa using hl.symm);exact .v _
theorem rd_Vfn {w:World} {imm:Imm} {f:FuncId} {x:Value} (h:Rd w imm (.v (fnV f)) x):Rd w imm (.fn f []) x:=by
 cases h;exact .fn f [] #[] rfl λj a x h1 _=>by simp at h1
theorem Zlr (f:FuncId):Sub (.pimm [.v (fnV f)]) (.pimm [.fn f []]):=λw imm x hx=>by
 obtain⟨ad,g,rfl,h1,h2⟩:=hx.pimm_inv;refine .pure (.pimm _ ad g h1 λj a ha=>?_)
 match j with
 | 0=>simp only [Zy2,Option.some.injEq] at ha;subst ha;exact rd_Vfn (h2 0 _ rfl)
 | j+1=>simp at ha
theorem Zq9 (M N:List AV) (f g:FuncId):Pure prog 30 [.agg [.sl 6 M,.sl 5 N],.v (fnV f),.v (fnV g)] (.fn 71 [.pimm [.sl 6 M,.sl 5 N],.pimm [.v (fnV f)],.pimm [.v (fnV g)]]):=by
 refine pI func30 rfl ntmps30 results30 call30 ?_;(focus (refine wkad w_t w_t w_t ?_;(repeat' first|exact w_t|apply w_l);all_goals intros));all_goals exact gL
theorem Zvf (M N:List AV) (f g:FuncId):Pure prog 30 [.agg [.sl 6 M,.sl 5 N],.fn f [],.fn g []] (.fn 71 [.pimm [.sl 6 M,.sl 5 N],.pimm [.v (fnV f)],.pimm [.v (fnV g)]]):=by
 refine⟨(Zq9 M N f g).1,λw imm vs him hl hr=>(Zq9 M N f g).2 w imm vs him hl λj a x h1 h2=>?_⟩
 match j with
 | 0=>simp only [Zy2,Option.some.injEq] at h1;subst h1;exact hr 0 _ x rfl h2
 | 1=>simp only [Zzc,Zy2,Option.some.injEq] at h1;subst h1;exact rd_fnV (hr 1 _ x rfl h2)
 | 2=>simp only [Zzc,Zy2,Option.some.injEq] at h1;subst h1;exact rd_fnV (hr 2 _ x rfl h2)
 | j+3=>simp at h1
theorem Zoj {P:Program} {f:FuncId} {args args':List AV} {σ:Mem} {R:AV→Mem→Prop} (hs:Subs args args') (h:ACall P f args' σ R):ACall P f args σ R :=
 ⟨h.1,λc w imm vs hm hl hr=>h.2 c w imm vs hm (by rw [←hs.len];exact hl) λj a x h1 h2=>by
  have hj:j < args.length:=by rw [hs.len];exact(List.getElem?_eq_some_iff.1 h1).1
  exact hs.get j args[j] a (Zwb hj) h1 w imm x (hr j args[j] x (Zwb hj) h2)⟩
theorem Zfv {P:Program} {f:FuncId} {args:List AV} {e:Nat→AV} {m:Mem} {t d:Nat} {K:St→Prop} {R:AV→Mem→Prop} (c:ACall P f args m R) (h:∀r σ',R r σ'→K ⟨upd e d r,σ'⟩):aRes P t (some d) (.call f args) K ⟨e,m⟩:=c.mono h
theorem Zgw {P:Program} {n:Nat} {K:St→Prop} {st:St} (h:K st):Zi2 P n [] K st:=h
theorem Frz.pub {n:Nat} {e:Nat→AV} {m:Mem} {d:Nat} {a:AV} (he:e d=a) (ho:Zff (marks m a.toks) a):Frz n ⟨e,m⟩ ⟨upd e d (pubV (marks m a.toks) a),marks m a.toks⟩:=λc ac w imm h=>by
 obtain⟨i',hm,hk⟩:=Zcq a.toks h.mem;refine⟨i',λt=>?_,h.size,h.defers,hm⟩;show Rs w i' (upd e d (pubV (marks m a.toks) a) t) (ac.tmps.getD t undef);rw [Zak];split
 ·rename_i ht;subst ht;have:=h.env t;rw [show(⟨e,m⟩:St).env t=a from he] at this;exact .pure (Zfz hm (hk.rs this) ho)
 ·exact hk.rs (h.env t)
theorem Zdg {P:Program} {t:TypeId} {w:World} (h:(P.underlying t).map Zfj=some false):(isAgg t).run P w=.ok false w:=by
 obtain⟨d,hd,h⟩:=Option.map_eq_some_iff.1 h;simp only [isAgg,Zwn,Zwo hd,Zwl];cases d<;>first|rfl|cases h
theorem Zst {P:Program} {t:TypeId} {w:World} (h:(P.underlying t).map Zfj=some true):(isAgg t).run P w=.ok true w:=by
 obtain⟨d,hd,h⟩:=Option.map_eq_some_iff.1 h;simp only [isAgg,Zwn,Zwo hd,Zwl];cases d<;>first|rfl|cases h
def ppR:Go.Shelf.Ren:=⟨fun | 14=>120 | 15=>121 | 20=>162 | 21=>163 | 22=>164 | 23=>165 | 24=>166 | 25=>167 | 26=>168 | 27=>169 | 28=>170 | 29=>171 | 46=>190 | 47=>191 | 48=>192 | 49=>193 | 50=>194 | 57=>201 | n=>n,fun | 0=>0 | 3=>3 | 4=>4 | 5=>5 | 9=>9 | 22=>51 | 24=>64 | 25=>76 | 39=>147 | 45=>175 | 46=>176 | 50=>180 | 53=>155 | 55=>106 | 66=>191 | 70=>195 | 76=>200 | 77=>201 | n=>n,λn=>n⟩
theorem ppL:Go.Proofs.SlLaysF0.n14 prog ppR:={
 mixed:=by kernel_rfl
 f14:=⟨f120.name,by decide,by kernel_rfl⟩
 f15:=by kernel_rfl
 f20:=⟨f162.name,by decide,by kernel_rfl⟩
 f21:=⟨f163.name,by decide,by kernel_rfl⟩
 f22:=⟨f164.name,by decide,by kernel_rfl⟩
 f23:=⟨f165.name,by decide,by kernel_rfl⟩
 f24:=⟨f166.name,by decide,by kernel_rfl⟩
 f25:=⟨f167.name,by decide,by kernel_rfl⟩
 f26:=⟨f168.name,by decide,by kernel_rfl⟩
 f27:=⟨f169.name,by decide,by kernel_rfl⟩
 f28:=by kernel_rfl
 f29:=by kernel_rfl
 f46:=⟨f190.name,by decide,by kernel_rfl⟩
 f47:=by kernel_rfl
 f48:=by kernel_rfl
 f49:=⟨f193.name,by decide,by kernel_rfl⟩
 f50:=⟨f194.name,by decide,by kernel_rfl⟩
 f57:=⟨f201.name,by decide,by kernel_rfl⟩
 t0:=by kernel_rfl
 a0:=λ_=>Zdg (t:=0) zk
 z0:=λ_=>Zac zk
 v0:=λ_=>Zab zk
 t3:=by kernel_rfl
 a3:=λ_=>Zdg (t:=3) zk
 z3:=λ_=>Zac zk
 v3:=λ_=>Zab zk
 t4:=by kernel_rfl
 a4:=λ_=>Zdg (t:=4) zk
 z4:=λ_=>Zac zk
 v4:=λ_=>Zab zk
 t5:=by kernel_rfl
 a5:=λ_=>Zdg (t:=5) zk
 z5:=λ_=>Zac zk
 v5:=λ_=>Zab zk
 t9:=by kernel_rfl
 a9:=λ_=>Zdg (t:=9) zk
 z9:=λ_=>Zac zk
 v9:=λ_=>Zab zk
 t22:=by kernel_rfl
 a22:=λ_=>Zdg (t:=51) zk
 z22:=λ_=>Zac zk
 v22:=λ_=>Zab zk
 t25:=by kernel_rfl
 a25:=λ_=>Zdg (t:=76) zk
 z25:=λ_=>Zac zk
 v25:=λ_=>Zab zk
 t39:=by kernel_rfl
 a39:=λ_=>Zdg (t:=147) zk
 z39:=λ_=>Zac zk
 v39:=λ_=>Zab zk
 t45:=by kernel_rfl
 a45:=λ_=>Zdg (t:=175) zk
 z45:=λ_=>Zac zk
 v45:=λ_=>Zab zk
 t46:=by kernel_rfl
 a46:=λ_=>Zdg (t:=176) zk
 z46:=λ_=>Zac zk
 v46:=λ_=>Zab zk
 t50:=by kernel_rfl
 a50:=λ_=>Zdg (t:=180) zk
 z50:=λ_=>Zac zk
 v50:=λ_=>Zab zk
 t53:=by kernel_rfl
 a53:=λ_=>Zdg (t:=155) zk
 z53:=λ_=>Zac zk
 v53:=λ_=>Zab zk
 t55:=by kernel_rfl
 a55:=λ_=>Zdg (t:=106) zk
 z55:=λ_=>Zac zk
 v55:=λ_=>Zab zk
 t66:=by kernel_rfl
 a66:=λ_=>Zdg (t:=191) zk
 z66:=λ_=>Zac zk
 v66:=λ_=>Zab zk
 t70:=by kernel_rfl
 a70:=λ_=>Zdg (t:=195) zk
 z70:=λ_=>Zac zk
 v70:=λ_=>Zab zk
 t76:=by kernel_rfl
 a76:=λ_=>Zdg (t:=200) zk
 z76:=λ_=>Zac zk
 v76:=λ_=>Zab zk
 t77:=by kernel_rfl
 a77:=λ_=>Zdg (t:=201) zk
 z77:=λ_=>Zac zk
 v77:=λ_=>Zab zk
}
def smP (p:Pr):Prop:=0≤p.1∧p.1 < 1000000000∧0≤p.2∧p.2 < 1000000000
theorem cmpC (p q:Pr) (hp:smP p) (hq:smP q):Pure prog 74 [prA p,prA q] (iv (cmpP p q)):=by
 obtain⟨a,b⟩:=p;obtain⟨c,d⟩:=q;obtain⟨a1,a2,a3,a4⟩:=hp;obtain⟨c1,c2,c3,c4⟩:=hq;simp only at a1 a2 a3 a4 c1 c2 c3 c4;show Pure _ _ [.agg [iv a,iv b],.agg [iv c,iv d]] (iv (cmpP (a,b) (c,d)));unfold cmpP;simp only;have w1:IntKind.i64.wrap (a - c)=a - c:=Za9 zo zo;have w2:IntKind.i64.wrap (b - d)=b - d:=Za9 zo zo;by_cases h:a=c
 ·rw [Zv5 (by simpa using h)];refine pI func74 rfl ntmps74 results74 call74 ?_;(focus (refine wkad (w_3 h w1 w2) w_t w_t ?_;(repeat' first|exact w_t|apply w_l);all_goals intros));all_goals exact gL
 ·rw [Zv6 h];refine pI func74 rfl ntmps74 results74 call74 ?_;(focus (refine wkad (w_3 h w1 w2) w_t w_t ?_;(repeat' first|exact w_t|apply w_l);all_goals intros));all_goals exact gL
theorem ppPdqK (σ:Mem) (K:Nat) (sv:Value) (L:List Pr) (lm:Nat) (hK:σ K=some (.row sv 64 2 (L.map prA) 0)) (hl:L.length≤1000000000) (hlim:lm≤1000000000) (hs:∀p∈L,smP p):ACall prog 120 [.own K sv,iv 0,iv L.length,iv lm,.fn 74 []] σ λr σ'=>∃l':List Pr,l'.Perm L∧l'.Pairwise (λx y=>cmpP x y≤0)∧r=.tup []∧σ'=upd σ K (some (.row sv 64 2 (l'.map prA) 0)) :=
 Zrs ppL (k:=2) (λ_=>Zst (t:=64) zk) (λ_=>Zac zk) zo (λp:Pr=>[iv p.1,iv p.2]) cmpP (g:=74) L (λ_=>rfl) hK zo Zog cmpP_2 (λx hx y hy=>cmpC x y (hs x hx) (hs y hy)) call120 lm zo λp cap w=>Go.Proofs.AnyF.pdqsortCmpFunc_none ppL p cap lm _ w
theorem ppSort (σ:Mem) (K:Nat) (sv:Value) (L:List Pr) (hK:σ K=some (.row sv 64 2 (L.map prA) 0)) (hl:L.length < 256) (hs:∀p∈L,smP p):ACall prog 73 [.own K sv,.fn 74 []] σ λr σ'=>∃l':List Pr,l'.Perm L∧l'.Pairwise (λx y=>cmpP x y≤0)∧r=.tup []∧σ'=upd σ K (some (.row sv 64 2 (l'.map prA) 0)):=by
 refine Zbq (tok:=0) func73 rfl ntmps73 results73 call73 zr zs ?_;have cb:=bitsLen L.length hl;have hb:=Zid (i:=L.length) hl;have hml:(L.map prA).length=L.length:=Zv9 ..;have ci:=fun(σ:Mem) h=>ppPdqK σ K sv L (len8 L.length) h zo zo hs;generalize len8 L.length=lim at *;have ci:∀(σ:Mem),σ K=some (.row sv 64 2 (L.map prA) 0)→ACall prog 120 [.own K sv,iv 0,iv L.length,iv lim,.fn 74 []] σ _:=ci;generalize L.map prA=LA at *;(focus (refine wkad (w_2 hK hml) (w_1 cb) w_t ?_;(repeat' first|exact w_t|apply w_l);all_goals intros));refine Zfv (ci _ (by(simp (disch:=omega) only [go_sem,hK]<;>repeat' first|rfl|refine⟨?_,?_⟩))) ?_
 rintro _ _ ⟨l',h1,h2,rfl,rfl⟩
 (focus (refine wkad w_t w_t w_t ?_;(repeat' first|exact w_t|apply w_l);all_goals intros));simp (disch:=omega) only [go_sem];exact⟨l',h1,h2,rfl⟩
set_option maxRecDepth 100000
def itR:Go.Shelf.Ren:=⟨fun | 129=>171 | 171=>14 | 243=>44 | 246=>91 | 283=>135 | 284=>136 | 285=>137 | 286=>138 | 317=>182 | 318=>183 | 319=>184 | 320=>185 | 337=>199 | 338=>200 | n=>n,fun | 0=>0 | 2=>2 | 3=>3 | 4=>4 | 5=>5 | 9=>9 | 20=>20 | 37=>59 | 46=>147 | 51=>155 | 53=>106 | 171=>158 | 173=>161 | 212=>188 | 213=>189 | 232=>203 | 233=>204 | n=>n,fun | 17=>0 | 18=>1 | 19=>2 | n=>n⟩
theorem itL0:Go.Proofs.Lays.n171 prog itR:={
 mixed:=by kernel_rfl
 f129:=by kernel_rfl
 f171:=by kernel_rfl
 f243:=by kernel_rfl
 f246:=by kernel_rfl
 f283:=by kernel_rfl
 f284:=by kernel_rfl
 f285:=by kernel_rfl
 f286:=by kernel_rfl
 f317:=by kernel_rfl
 f318:=by kernel_rfl
 f319:=by kernel_rfl
 f320:=by kernel_rfl
 f337:=by kernel_rfl
 f338:=by kernel_rfl
 t0:=by kernel_rfl
 a0:=λ_=>Zdg (t:=0) zk
 z0:=λ_=>Zac zk
 v0:=λ_=>Zab zk
 t2:=by kernel_rfl
 a2:=λ_=>Zdg (t:=2) zk
 z2:=λ_=>Zac zk
 v2:=λ_=>Zab zk
 t3:=by kernel_rfl
 a3:=λ_=>Zdg (t:=3) zk
 z3:=λ_=>Zac zk
 v3:=λ_=>Zab zk
 t4:=by kernel_rfl
 a4:=λ_=>Zdg (t:=4) zk
 z4:=λ_=>Zac zk
 v4:=λ_=>Zab zk
 t5:=by kernel_rfl
 a5:=λ_=>Zdg (t:=5) zk
 z5:=λ_=>Zac zk
 v5:=λ_=>Zab zk
 t9:=by kernel_rfl
 a9:=λ_=>Zdg (t:=9) zk
 z9:=λ_=>Zac zk
 v9:=λ_=>Zab zk
 t20:=by kernel_rfl
 a20:=λ_=>Zdg (t:=20) zk
 z20:=λ_=>Zac zk
 v20:=λ_=>Zab zk
 t37:=by kernel_rfl
 a37:=λ_=>Zdg (t:=59) zk
 z37:=λ_=>Zac zk
 v37:=λ_=>Zab zk
 t46:=by kernel_rfl
 a46:=λ_=>Zdg (t:=147) zk
 z46:=λ_=>Zac zk
 v46:=λ_=>Zab zk
 t51:=by kernel_rfl
 a51:=λ_=>Zdg (t:=155) zk
 z51:=λ_=>Zac zk
 v51:=λ_=>Zab zk
 t53:=by kernel_rfl
 a53:=λ_=>Zdg (t:=106) zk
 z53:=λ_=>Zac zk
 v53:=λ_=>Zab zk
 t171:=by kernel_rfl
 a171:=λ_=>Zst (t:=158) zk
 z171:=λ_=>Zac zk
 v171:=λ_=>Zab zk
 t173:=by kernel_rfl
 a173:=λ_=>Zdg (t:=161) zk
 z173:=λ_=>Zac zk
 v173:=λ_=>Zab zk
 t212:=by kernel_rfl
 a212:=λ_=>Zst (t:=188) zk
 z212:=λ_=>Zac zk
 v212:=λ_=>Zab zk
 t213:=by kernel_rfl
 a213:=λ_=>Zst (t:=189) zk
 z213:=λ_=>Zac zk
 t232:=by kernel_rfl
 a232:=λ_=>Zst (t:=203) zk
 z232:=λ_=>Zac zk
 v232:=λ_=>Zab zk
 t233:=by kernel_rfl
 a233:=λ_=>Zst (t:=204) zk
 z233:=λ_=>Zac zk
 v233:=λ_=>Zab zk
 g17:=by kernel_rfl
 g18:=by kernel_rfl
 g19:=by kernel_rfl
}
theorem itL:Go.Proofs.LaysM.n171 prog itR:={ itL0 with
 i0:=by kernel_rfl
 i2:=by kernel_rfl
 i3:=by kernel_rfl
 i4:=by kernel_rfl
 i5:=by kernel_rfl
 i9:=by kernel_rfl
 i20:=by kernel_rfl
 i37:=by kernel_rfl
 i46:=by kernel_rfl
 i51:=by kernel_rfl
 i53:=by kernel_rfl
 i171:=by kernel_rfl
 i173:=by kernel_rfl
 i212:=by kernel_rfl
 i232:=by kernel_rfl
 i233:=by kernel_rfl
 m17:=by kernel_rfl
 m18:=by kernel_rfl
 m19:=by kernel_rfl
}
def itS (n:Int):ByteArray:=⟨(Lib.itoa n).toArray⟩
theorem tb_tab {w : World} (h : Tb w) : Lib.TabIs prog w "internal/strconv.uint64pow10" .u64 Lib.pow10Tab := by
 obtain⟨cs,e,s,h1,h2⟩:=h
 have hg : prog.globalNamed "internal/strconv.uint64pow10" = some 0 := itL.m17
 unfold Lib.TabIs World.var?;rw [hg];simp only [Zzv,h1,h2];unfold Lib.pow10Tab;rw [List.map_map];congr 2
theorem Zkx (n:Int) (h0:-9223372036854775808≤n) (h1:n≤9223372036854775807):Pure prog 14 [iv n] (.v (.string (itS n))):=by
 refine⟨call14,λw imm vs him hl hr=>?_⟩
 obtain⟨x,rfl⟩:∃x,vs=#[x]:=by
  have h2:vs.size=1:=by simpa using hl.symm
  exact⟨vs[0],by refine Array.ext (by simp [h2]) λi h3 h4=>?_;match i,(by omega:i < 1) with | 0,_=>rfl⟩
 have hx:=hr 0 _ x rfl rfl;cases hx;refine(Go.Proofs.Any.strconv_Itoa itL n h0 h1 w (tb_tab him.tb)).mono λe w' h=>?_;obtain⟨rfl,k,os,rfl⟩:=h;have hb:Blw w.heap.size w (Go.Sort.grow (w.drewN k) os):=⟨⟨rfl,rfl,rfl,by simp [Go.Sort.grow,World.drewN],λi hi=>by simp only [Go.Sort.grow,World.drewN];rw [Array.getElem?_append,Zv6 hi]⟩,ZAu _ _⟩;exact⟨_,imm,rfl,.v _,λ_ h=>h,λad h=>⟨.inl h,Zxt (him.at_ ad h).1 hb.size,(him.at_ ad h).2⟩,hb⟩
theorem Zko:szOf prog 61=some 2:=by kernel_rfl
theorem Zlp:szOf prog 59=some 1:=by kernel_rfl
theorem zSl8:Za6 prog 59=some (.slice none 0 0):=by kernel_rfl
theorem szPB:szOf prog 58=some 1:=by kernel_rfl
theorem zPB:Za6 prog 58=some (.pointer none):=by kernel_rfl
theorem ubSize:(prog.info? 61).map (·.size)=some 2:=by kernel_rfl
theorem ubLies:liesAt prog prog.depth 63 (4/prog.cellsOf 63) 0 61 1=true:=by kernel_rfl
theorem ubCells:prog.cellsOf 5=1:=by kernel_rfl
theorem ubUsed (b:Nat) (w:World) (h0:w.cell? ⟨b,0,none⟩=some (.pointer (some ⟨b,0,none⟩))) :
 Calls prog 43 #[.pointer (some ⟨b,0,none⟩)] w λe w'=>e=.returned (.tuple #[])∧w'=w:=by
 obtain⟨j,hj,_⟩:=Option.map_eq_some_iff.1 ubSize
 go_enter func43,ntmps43
 go_wp2
 rw [Lib.run_neq_ptr_same w _ underlying58 hj]
 go_wp2
 go_end0
 exact⟨rfl,rfl⟩
theorem ubFresh (b:Nat) (w:World) (h0:w.cell? ⟨b,0,none⟩=some (.pointer none)) (hsh:w.shape? b=some (63,4)) (hfz:w.frozen? ⟨b,0,none⟩=false) :
 Calls prog 43 #[.pointer (some ⟨b,0,none⟩)] w λe w'=>e=.returned (.tuple #[])∧w'=w.setCell ⟨b,0,none⟩ (.pointer (some ⟨b,0,none⟩)):=by
 obtain⟨j,hj,hjs⟩:=Option.map_eq_some_iff.1 ubSize
 go_enter func43,ntmps43
 go_wp2
 rw [Lib.run_to_unsafe w ⟨b,0,none⟩ underlying58 underlying127 hj (by rw [hjs];decide) hsh (Nat.zero_lt_succ 3)];simp only [Result.andThen];rw [Oper.upon_value]
 go_wp2
 rw [run_callFunc_extern func90 zk zk zk (e:=Extern.AbiNoEscape.same) zk];rw [Lib.run_noEscape];simp only [Result.andThen];rw [Oper.upon_value]
 go_wp2
 rw [Lib.run_from_unsafe w ⟨b,0,none⟩ underlying127 underlying58 hj hsh ubLies];simp only [Result.andThen];rw [Oper.upon_value]
 go_wp2
 go_end0
 exact⟨rfl,rfl⟩
theorem ubString (b g cap:Nat) (p r1 r2:Value) (cur:Array Value) (l:List UInt8) (w:World) (hbk:w.heap[b]?=some (.cells #[p,.slice (some ⟨g,0,none⟩) l.length cap,r1,r2] 63 (0,0)))
 (hg:w.heap[g]?=some (.cells cur 5 (0,0))) (h0:l≠[]) (hnc:l.length≤cap) (hcm:cap≤maxLen) (hcs:cur.size=cap) (hc:∀j x,l[j]?=some x→w.cell? ((⟨g,0,none⟩:Addr).add j)=some (.int .u8 x.toNat)) :
 Calls prog 20 #[.pointer (some ⟨b,0,none⟩)] w λe w'=>e=.returned (.string ⟨l.toArray⟩)∧w'=w.drew.freeze ⟨g,0,none⟩ l.length:=by
 have hl0:l.length≠0:=by simpa using h0
 have c1:w.drew.cell? ⟨b,1,none⟩=some (.slice (some ⟨g,0,none⟩) l.length cap):=by
  have:w.drew.heap[b]?=some (.cells #[p,.slice (some ⟨g,0,none⟩) l.length cap,r1,r2] 63 (0,0)):=hbk;rw [Lib.cell_of_heap this];rfl
 have hSD:(Builtin.unsafeSliceData_ #[59] 93 #[.slice (some ⟨g,0,none⟩) l.length cap]).run prog w.drew=.ok (.pointer (some ⟨g,0,none⟩)) w.drew :=
  Lib.run_unsafeSliceData_row _ _ _ _ _ _ zo
 have hUS:(Builtin.unsafeString_ #[93,3] 9 #[.pointer (some ⟨g,0,none⟩),.int .i64 l.length]).run prog w.drew=.ok (.string ⟨l.toArray⟩) (w.drew.freeze ⟨g,0,none⟩ l.length) :=
  Lib.run_unsafeString_row w.drew 93 3 9 5 underlying93 ubCells g cur.size (by have hg':w.drew.heap[g]?=some (.cells cur 5 (0,0)):=hg;simp [World.shape?,hg']) l h0 zo (by unfold maxLen at hcm;omega) hc
 have mixed:prog.follows .mixedOrders=true:=by kernel_rfl
 go_enter func20,ntmps20
 go_wp2
 go_region_o
 all_goals (go_wp2;go_ret;exact⟨rfl,rfl⟩)
theorem Zpt (w:World) (a:Addr) (n:Nat) (ad:Addr):(w.freeze a n).cell? ad=w.cell? ad:=by
 unfold World.freeze;split
 ·rfl
 ·unfold World.cell?;simp only [ZAa];by_cases h:a.block=ad.block
  ·rw [Zv6 h]
   cases hh:w.heap[ad.block]? with
   | none=>rfl
   | some o=>cases o<;>rfl
  ·rw [Zv5 h]
theorem Zn4 (w:World) (g n:Nat):w.grownBy (w.freeze ⟨g,0,none⟩ n) (some g):=by
 unfold World.freeze;split
 ·exact⟨rfl,rfl,rfl,Zwa _,λk _ _=>rfl⟩
 ·exact⟨rfl,rfl,rfl,by simp,λk _ hk=>by
   simp only [ZAa];rw [Zv5 (λe=>hk (by rw [←e]))]⟩
theorem mem_drop {c:Cx} {σ:Mem} {w w':World} {imm:Imm} (h:Mx c σ w imm) {row:Option Nat} (hg:w.grownBy w' row) (hdw:w.drawn≤w'.drawn) (hB:∀g,row=some g→c.B≤g) (hcell:∀ad,imm ad→w'.cell? ad=w.cell? ad)
 (k:Nat) (hoth:∀j e2 b,j≠k→σ j=some e2→e2.blk=some b→some b≠row):Mx c (upd σ k none) w' imm∧Keeps w imm w' imm:=by
 refine⟨⟨⟨λj e2 hj=>?_,λj j' e1 e2 b h1 h2 h3 h4=>?_,λad h1=>Zxt (h.ok.lt ad h1) hg.size,λad h1=>h.ok.spot ad h1⟩,h.below.grown hg hdw h.lt (λg hg'=>hB g hg'),Zwj h.lt hg.size,h.old,h.new,λad h1=>(hcell ad (h.old ad h1)).trans (h.cells ad h1)⟩,λad h1=>⟨h1,hcell ad h1⟩⟩
 ·rw [Zak] at hj;by_cases hjk:j=k
  ·rw [Zv6 hjk] at hj;cases hj
  ·rw [Zv5 hjk] at hj;refine(h.ok.ent j e2 hj).keep hg ?_ (λ_ h1=>h1) hcell λad h1=>.inl h1;rcases hb:e2.blk with _ | b
   ·exact .inl rfl
   ·exact .inr (hoth j e2 b hjk hj hb)
 ·rw [Zak] at h1 h2;by_cases hjk:j=k
  ·rw [Zv6 hjk] at h1;cases h1
  ·by_cases hjk':j'=k
   ·rw [Zv6 hjk'] at h2;cases h2
   ·rw [Zv5 hjk] at h1;rw [Zv5 hjk'] at h2;exact h.ok.apart j j' e1 e2 b h1 h2 h3 h4
theorem ubVs {w:World} {imm:Imm} {KB g:Nat} {vs:Array Value} (hl:[AV.pbox KB g 0].length=vs.size) (hr:∀(j:Nat) (a:AV) (x:Value),[AV.pbox KB g 0][j]?=some a→vs[j]?=some x→Rs w imm a x):vs=#[.pointer (some ⟨g,0,none⟩)]:=by
 have h1:vs.size=1:=hl.symm;have h2:=hr 0 _ vs[0] rfl (Zw6 zo);have h3:=h2.pbox_inv;refine Array.ext (by simpa using h1) λi hi hj=>?_;have:i=0:=zo;subst this
 simpa using h3
theorem ubCur {cur:Array Value} (h:4=cur.size):∃x y z u,cur=#[x,y,z,u]:=by
 refine⟨cur[0],cur[1],cur[2],cur[3],Array.ext (by simpa using h.symm) λi hi hj=>?_⟩
 match i,hi,hj with
 | 0,_,_=>rfl
 | 1,_,_=>rfl
 | 2,_,_=>rfl
 | 3,_,_=>rfl
 | i+4,hi,_=>omega
theorem bldCheck (σ:Mem) (KB g:Nat) (c0 c1 c2 c3:AV) (hB:σ KB=some (.box g 63 [c0,c1,c2,c3] false)) (h0:c0=.v (.pointer none)∨c0=.pbox KB g 0) :
 ACall prog 43 [.pbox KB g 0] σ λr σ'=>r=.tup []∧σ'=upd σ KB (some (.box g 63 [.pbox KB g 0,c1,c2,c3] false)):=by
 refine⟨call43,λc w imm vs hm hl hr=>?_⟩;obtain rfl:=ubVs hl hr;obtain⟨cur,hh,hBg,hlen,hone,hrs,hp,hq⟩:=hm.ok.ent KB _ hB;obtain⟨x,y,z3,z4,rfl⟩:=ubCur hlen;have hx:=hrs 0 _ x rfl rfl;have hy:=hrs 1 _ y rfl rfl;have c0':w.cell? ⟨g,0,none⟩=some x:=by rw [Lib.cell_of_heap hh];rfl
 rcases h0 with rfl | rfl
 ·obtain rfl:=hx.v_inv;refine(ubFresh g w c0' (by simp [World.shape?,hh]) (by simp [World.frozen?,hh])).mono ?_
  rintro e w' ⟨rfl,rfl⟩
  have hgr:w.grownBy (w.setCell ⟨g,0,none⟩ (.pointer (some ⟨g,0,none⟩))) (some g):=⟨rfl,rfl,rfl,by simp,λk _ hk=>heap_setCell_other w ⟨g,0,none⟩ k _ (λe=>hk (by simp [e]))⟩;have hcell:∀ad,imm ad→(w.setCell ⟨g,0,none⟩ (.pointer (some ⟨g,0,none⟩))).cell? ad=w.cell? ad:=λad h2=>Zc5 hgr (hm.ok.lt ad h2) (by
   have hne:ad.block≠g:=λe=>by have:=hp ad h2 e;cases this
   simpa using hne)
  have hkeep:Keeps w imm (w.setCell ⟨g,0,none⟩ (.pointer (some ⟨g,0,none⟩))) imm:=λad h2=>⟨h2,hcell ad h2⟩;refine⟨.tup [],_,imm,_,rfl,⟨rfl,rfl⟩,.pure (.tup [] #[] rfl λj a x h1 _=>by simp at h1),Zde hm hgr (Zwa _) (λg' hg'=>by cases hg';exact hBg) hcell KB _ ⟨_,heap_setCell_same w g 0 _ _ _ hh,hBg,rfl,λb hb=>?_,λj b z h2 h3=>?_,hp,λh2=>by cases h2⟩ λj e2 b h2 h3 h4=>?_⟩
  ·simp only [Zxk,List.not_mem_nil,or_false] at hb;rcases hb with rfl | rfl | rfl | rfl
   ·rfl
   ·exact hone _ zs
   ·exact hone _ zs
   ·exact hone _ zs
  ·match j,h2,h3 with
   | 0,h2,h3 =>
     simp only [Zy2,Option.some.injEq] at h2;subst h2;have:z=.pointer (some ⟨g,0,none⟩):=by simpa using h3.symm
     subst this;exact .pbox _ _ _
   | 1,h2,h3 =>
     simp only [Zzc,Zy2,Option.some.injEq] at h2;subst h2;have:z=y:=by simpa using h3.symm
     subst this;exact hkeep.rs hy
   | 2,h2,h3 =>
     simp only [Zzc,Zy2,Option.some.injEq] at h2;subst h2;exact hkeep.rs (hrs 2 _ z rfl (by simpa using h3))
   | 3,h2,h3 =>
     simp only [Zzc,Zy2,Option.some.injEq] at h2;subst h2;exact hkeep.rs (hrs 3 _ z rfl (by simpa using h3))
   | j+4,h2,h3=>simp at h2
  ·have:b≠g:=λe=>h2 (hm.ok.apart j KB e2 _ g h3 hB (e ▸ h4) rfl);exact⟨by simpa using this,by simpa [Ent.blk] using λe=>this e.symm⟩
 ·obtain rfl:=hx.pbox_inv;refine(ubUsed g w c0').mono ?_
  rintro e w' ⟨rfl,rfl⟩
  have he:upd σ KB (some (.box g 63 [.pbox KB g 0,c1,c2,c3] false))=σ:=by
   funext k
   rw [Zak];split
   ·rename_i h;rw [h,hB]
   ·rfl
  exact⟨.tup [],_,imm,_,rfl,⟨rfl,rfl⟩,.pure (.tup [] #[] rfl λj a x h1 _=>by simp at h1),by rw [he];exact hm,Keeps.refl _ _⟩
theorem Zvw (σ:Mem) (KB KT g:Nat) (sv:Value) (c0 c2 c3:AV) (l:List UInt8) (hB:σ KB=some (.box g 63 [c0,.own KT sv,c2,c3] false)) (hT:σ KT=some (.row sv 5 1 (l.map λb=>.v (.int .u8 b.toNat)) 0)) (h0:l≠[]) :
 ACall prog 20 [.pbox KB g 0] σ λr σ'=>r=.v (.string ⟨l.toArray⟩)∧σ'=upd σ KT none:=by
 refine⟨call20,λc w imm vs hm hl hr=>?_⟩;obtain rfl:=ubVs hl hr;obtain⟨cur,hh,hBg,hlen,hone,hrs,hp,hq⟩:=hm.ok.ent KB _ hB;obtain⟨x,y,z3,z4,rfl⟩:=ubCur hlen;have hy:=hrs 1 _ y rfl rfl;obtain rfl:=hy.own_inv;obtain⟨xs,hown,-,-,hrd,-,hpi,-⟩:=hm.ok.ent KT _ hT;have hl0:l.length≠0:=by simpa using h0
 have hll:(l.map λb=>AV.v (.int .u8 b.toNat)).length=l.length:=Zv9 ..;rw [hll] at hown;rcases hown.2 with⟨_,h2⟩ | ⟨gr,cap,cur,rfl,hBr,hhr,hnc,hcm,hcs,htake⟩
 ·exact absurd h2 hl0
 have hxs:∀(j:Nat) (z:UInt8),l[j]?=some z→xs[j]?=some (Value.int .u8 z.toNat):=λj z hz=>by
  have hj:j < xs.length:=by rw [hown.1,Zy0];exact(List.getElem?_eq_some_iff.1 hz).1
  have:=hrd j (.v (.int .u8 z.toNat)) xs[j] (by rw [Zsf l λb:UInt8=>(.int .u8 b.toNat:Value),Zw9,hz];rfl) (Zwb hj);have:=(Rs.pure this).v_inv;rw [Zwb hj,this]
 refine(ubString g gr cap x z3 z4 cur l w hh hhr h0 hnc hcm (by rw [hcs,Zy0]) λj z hz=>?_).mono ?_
 ·have hj:=(List.getElem?_eq_some_iff.1 hz).1;have:=hown.cellAt j zo;rw [Zxi,Zwz,this,hxs j z hz]
 ·rintro e w' ⟨rfl,rfl⟩
  have hgr:w.grownBy (w.drew.freeze ⟨gr,0,none⟩ l.length) (some gr):=by
   have:=Zn4 w.drew gr l.length;exact⟨this.os,this.tape,this.output,this.size,this.block⟩
  have hdw:w.drawn≤w.drew.drawn:=Nat.le_succ w.drawn;have hcell:∀ad,imm ad→(w.drew.freeze ⟨gr,0,none⟩ l.length).cell? ad=w.cell? ad:=λad _=>by rw [Zpt];rfl
  obtain⟨h1,h2⟩:=mem_drop hm hgr (by have h1:(w.drew.freeze ⟨gr,0,none⟩ l.length).drawn=w.drew.drawn:=by unfold World.freeze;(repeat' split)<;>rfl
                                     rw [h1];exact hdw) (λg' hg'=>by cases hg';exact hBr) hcell KT λj e2 b h2 h3 h4 he=>h2 (hm.ok.apart j KT e2 _ gr h3 hT (by cases he;exact h4) rfl)
  exact⟨_,_,imm,_,rfl,⟨rfl,rfl⟩,.pure (.v _),h1,h2⟩
attribute [go_sem] underlying61 underlying58 underlying63 underlying55 zSl8 szPB zPB
attribute [local go_sem] Zko Zlp
def prS (x y:ByteArray) (p:Pr):ByteArray:=⟨#[32]⟩++x++⟨#[61,34]⟩++itS p.1++⟨#[34,32]⟩++y++⟨#[61,34]⟩++itS p.2++⟨#[34]⟩
def i64P (p:Pr):Prop:=-9223372036854775808≤p.1∧p.1≤9223372036854775807∧-9223372036854775808≤p.2∧p.2≤9223372036854775807
theorem Zc3 (n:Int) (h0:-9223372036854775808≤n) (h1:n≤9223372036854775807):(itS n).size≤21:=Lib.itoa_length_le n h0 h1
set_option maxRecDepth 100000 in
theorem Zoa (x y:ByteArray) (p:Pr) (h:i64P p) (hx:x.size≤100) (hy:y.size≤100):Pure prog 45 [strA x,strA y,prA p] (strA (prS x y p)):=by
 obtain⟨a,b⟩:=p;obtain⟨h1,h2,h3,h4⟩:=h;have c1:=Zkx a h1 h2;have c2:=Zkx b h3 h4;have hs:=Zc3 a h1 h2;have ht:=Zc3 b h3 h4;unfold prS;simp only;show Pure _ _ [strA x,strA y,.agg [iv a,iv b]] _;generalize itS a=s at *;generalize itS b=t at *;refine pI func45 rfl ntmps45 results45 call45 ?_;(focus (refine wkad (w_5 @Zw8 hx hy hs ht) (w_2 c1 c2) (w_1 (w_d 1 [(5,.v (.string s)),(13,.v (.string t))] [] [])) ?_;(repeat' first|exact w_t|apply w_l);all_goals intros));all_goals exact gL
def by8 (b:UInt8):AV:=.v (.int .u8 b.toNat)
theorem Zvv (σ:Mem) (KB KT g:Nat) (sv:Value) (c0 c2 c3:AV) (l:List UInt8) (s:ByteArray) (hB:σ KB=some (.box g 63 [c0,.own KT sv,c2,c3] false)) (hT:σ KT=some (.row sv 5 1 (l.map by8) 0))
 (h0:c0=.v (.pointer none)∨c0=.pbox KB g 0) (n2:KB≠KT) (hl:l.length+s.size≤1000000000) (k2:c2.sh=c2) (k3:c3.sh=c3) :
 ACall prog 13 [.pbox KB g 0,strA s] σ λr σ'=>∃sv',r=.tup [iv s.size,.v .nilIface]∧σ'=upd (upd σ KT (some (.row sv' 5 1 ((l++s.data.toList).map by8) 0))) KB (some (.box g 63 [.pbox KB g 0,.own KT sv',c2,c3] false)):=by
 have mB:=Zb1 hB;have mT:=Zb1 hT;simp only [Ent.sh,AV.shL,AV.sh,k2,k3] at mB mT;have hl1:(l.map by8).length=l.length:=Zv9 ..;rw [Zye];have hcc:=bldCheck (lents σ) (KB+1000) g c0.sh (.own (KT+1000) sv) c2 c3 mB (by rcases h0 with rfl | rfl;exact .inl rfl;exact .inr rfl);refine Zc4 func13 rfl ntmps13 results13 call13 zr zs ?_;generalize l.map by8=L at *;simp only [AV.shL,AV.sh];(focus (refine wkad (w_3 mB mT hl1) w_t w_t ?_;(repeat' first|exact w_t|apply w_l);all_goals intros));refine Zk6 hcc ?_;(focus (refine wkad (w_2 mT hl1) w_t w_t ?_;(repeat' first|exact w_t|apply w_l);all_goals intros))
 simp (disch:=omega) only [go_sem];rename_i x2;refine Zoi (Sub.refl _) ⟨x2,rfl,rfl⟩ ?_;have he:∀a c d:Option Ent,upd (upd σ KT a) KB d=upd (upd (upd σ KB c) KT a) KB d:=λa c d=>by
  funext j
  simp only [Zak];by_cases h:j=KB
  ·rw [Zv6 h,Zv6 h]
  ·rw [Zv5 h,Zv5 h,Zv5 h]
 rw [he _ (some (.box g 63 [.pbox KB g 0,.own KT sv,c2,c3] false)) _];refine Agr.put ?_ rfl (by simp only [Ent.sh,AV.shL,AV.sh,k2,k3]);refine Agr.put ?_ rfl rfl;refine Agr.put ?_ rfl (by simp only [Ent.sh,AV.shL,AV.sh,k2,k3]);exact Agr.start σ
theorem strOf_1 (k:Nat):Zf2 [(k:Int)]=⟨#[UInt8.ofNat k]⟩:=by
 unfold Zf2;rw [ZAx,List.foldl_nil,Zzi];rfl
theorem decB_dig (n:Nat):∀(s:ByteArray),n≠0→decB n n s=⟨(Lib.decDigits n).toArray⟩++s:=by
 induction n using Nat.strongRecOn with
 | ind n ih =>
   intro s h;rw [Zod h,strOf_1,Lib.decDigits];by_cases h10:n < 10
   ·rw [dif_pos h10];have:n/10=0:=zo;rw [this,show n%10=n by omega];rfl
   ·rw [dif_neg h10,ih (n/10) zo _ zo]
    ext1
    simp [ByteArray.data_append]
theorem decS_it (n:Nat):decS n=itS n:=by
 unfold decS itS;rw [Lib.itoa_nonneg];by_cases h:n=0
 ·subst h;rw [Zv6 rfl,Lib.decDigits];rfl
 ·rw [Zv5 h,decB_dig n _ h]
  ext1
  simp [ByteArray.data_append]
theorem decQ_nat (n:Nat):decQ (n:Rat)=itS n:=by
 unfold decQ decZ;rw [Zv6 (show(n:Rat).den=1 from rfl)];have h:(n:Rat).num=(n:Int):=rfl;rw [h,Zv5 (show ¬(n:Int) < 0 by omega),Zyf,decS_it]
theorem Zto (n:Nat) (h:n < 65536):Pure prog 25 [iv n] (strA (itS n)):=by
 have c1:=qOf n zo;have c2:=qText (n:Rat) (nat_sz1 n h) zo;rw [decQ_nat] at c2;generalize itS n=s at *;generalize (n:Rat)=q at *;refine pI func25 rfl ntmps25 results25 call25 ?_;(focus (refine wkad w_t (w_2 c1 c2) w_t ?_;(repeat' first|exact w_t|apply w_l);all_goals intros));all_goals exact gL
def pxS (x y:ByteArray) (p:Pr):ByteArray:=x++⟨#[61,34]⟩++itS p.1++⟨#[34,32]⟩++y++⟨#[61,34]⟩++itS p.2++⟨#[34]⟩
def natP (p:Pr):Prop:=0≤p.1∧p.1 < 65536∧0≤p.2∧p.2 < 65536
theorem natP.i64 {p:Pr} (h:natP p):i64P p:=by
 obtain⟨a,b⟩:=p;obtain⟨h1,h2,h3,h4⟩:=h;simp only at h1 h2 h3 h4;refine⟨?_,?_,?_,?_⟩<;>simp only<;>omega
theorem Zhh {x y:ByteArray} {p:Pr} (h:i64P p):(pxS x y p).size≤x.size+y.size+49:=by
 have h1:=Zc3 p.1 h.1 h.2.1;have h2:=Zc3 p.2 h.2.2.1 h.2.2.2;unfold pxS;simp only [Zw8];have e1:(⟨#[61,34]⟩:ByteArray).size=2:=rfl;have e2:(⟨#[34,32]⟩:ByteArray).size=2:=rfl;have e3:(⟨#[34]⟩:ByteArray).size=1:=rfl;omega
theorem Znf (x y:ByteArray) (p:Pr):prS x y p=⟨#[32]⟩++pxS x y p:=by
 unfold prS pxS;simp only [ByteArray.append_assoc]
set_option maxRecDepth 100000 in
theorem Zh9 (x y:ByteArray) (p:Pr) (h:natP p) (hx:x.size≤100) (hy:y.size≤100):Pure prog 23 [strA x,strA y,prA p] (strA (pxS x y p)):=by
 obtain⟨a,b⟩:=p;have h64:=h.i64;obtain⟨h1,h2,h3,h4⟩:=h;obtain⟨g1,g2,g3,g4⟩:=h64;simp only at h1 h2 h3 h4 g1 g2 g3 g4;have hs:=Zc3 a g1 g2;have ht:=Zc3 b g3 g4;obtain⟨m,rfl⟩:=Zyc h1;obtain⟨n,rfl⟩:=Zyc h3;have c1:=Zto m zo;have c2:=Zto n zo;unfold pxS;simp only;show Pure _ _ [strA x,strA y,.agg [iv m,iv n]] _;generalize itS (m:Int)=s at *;generalize itS (n:Int)=t at *;refine pI func23 rfl ntmps23 results23 call23 ?_;(focus (refine wkad (w_5 @Zw8 hx hy hs ht) (w_2 c1 c2) (w_1 (w_d 1 [(4,.v (.string s)),(12,.v (.string t))] [] [])) ?_;(repeat' first|exact w_t|apply w_l);all_goals intros))
 all_goals exact gL
def lnP (a b:Pr):ByteArray:=⟨#[60,108,105,110,101]⟩++prS ⟨#[120,49]⟩ ⟨#[121,49]⟩ a++prS ⟨#[120,50]⟩ ⟨#[121,50]⟩ b++⟨#[32,115,116,114,111,107,101,61,34,98,108,97,99,107,34,47,62,10]⟩
def lnR (a b:Pr):ByteArray:=⟨#[60,108,105,110,101,32]⟩++pxS ⟨#[120,49]⟩ ⟨#[121,49]⟩ a++⟨#[32]⟩++pxS ⟨#[120,50]⟩ ⟨#[121,50]⟩ b++⟨#[32,115,116,114,111,107,101,61,34,98,108,97,99,107,34,47,62,10]⟩
def crP (a:Pr) (r:Nat):ByteArray:=⟨#[60,99,105,114,99,108,101]⟩++prS ⟨#[99,120]⟩ ⟨#[99,121]⟩ a++⟨#[32,114,61,34]⟩++itS r++⟨#[34,32,115,116,114,111,107,101,61,34,98,108,97,99,107,34,32,102,105,108,108,61,34,110,111,110,101,34,47,62,10]⟩
def crR (a:Pr) (r:Nat):ByteArray:=⟨#[60,99,105,114,99,108,101,32]⟩++pxS ⟨#[99,120]⟩ ⟨#[99,121]⟩ a++⟨#[32,114,61,34]⟩++itS r++⟨#[34,32,115,116,114,111,107,101,61,34,98,108,97,99,107,34,32,102,105,108,108,61,34,110,111,110,101,34,47,62,10]⟩
def ptP (a:Pr):ByteArray:=⟨#[60,99,105,114,99,108,101]⟩++prS ⟨#[99,120]⟩ ⟨#[99,121]⟩ a++⟨#[32,114,61,34,51,34,47,62,10]⟩
def ptR (a:Pr):ByteArray:=⟨#[60,99,105,114,99,108,101,32]⟩++pxS ⟨#[99,120]⟩ ⟨#[99,121]⟩ a++⟨#[32,114,61,34,51,34,47,62,10]⟩
def txP (a:Pr) (s:ByteArray):ByteArray:=⟨#[60,116,101,120,116]⟩++prS ⟨#[120]⟩ ⟨#[121]⟩ (a.1+5,a.2 - 5)++⟨#[62]⟩++s++⟨#[60,47,116,101,120,116,62,10]⟩
def txR (a:Pr) (s:ByteArray):ByteArray:=⟨#[60,116,101,120,116,32]⟩++pxS ⟨#[120]⟩ ⟨#[121]⟩ (a.1+5,a.2 - 5)++⟨#[62]⟩++s++⟨#[60,47,116,101,120,116,62,10]⟩
theorem ln_eq (a b:Pr):lnP a b=lnR a b:=by
 unfold lnP lnR;simp only [Znf,ByteArray.append_assoc];rw [←ByteArray.append_assoc,show(⟨#[60,108,105,110,101]⟩:ByteArray)++⟨#[32]⟩=⟨#[60,108,105,110,101,32]⟩from rfl]
theorem cr_eq (a:Pr) (r:Nat):crP a r=crR a r:=by
 unfold crP crR;simp only [Znf,ByteArray.append_assoc];rw [←ByteArray.append_assoc,show(⟨#[60,99,105,114,99,108,101]⟩:ByteArray)++⟨#[32]⟩=⟨#[60,99,105,114,99,108,101,32]⟩from rfl]
theorem pt_eq (a:Pr):ptP a=ptR a:=by
 unfold ptP ptR;simp only [Znf,ByteArray.append_assoc];rw [←ByteArray.append_assoc,show(⟨#[60,99,105,114,99,108,101]⟩:ByteArray)++⟨#[32]⟩=⟨#[60,99,105,114,99,108,101,32]⟩from rfl]
theorem tx_eq (a:Pr) (s:ByteArray):txP a s=txR a s:=by
 unfold txP txR;simp only [Znf,ByteArray.append_assoc];rw [←ByteArray.append_assoc,show(⟨#[60,116,101,120,116]⟩:ByteArray)++⟨#[32]⟩=⟨#[60,116,101,120,116,32]⟩from rfl]
def nmN (i:Nat) (s:ByteArray):ByteArray:=if s.size=0 then ⟨#[36]⟩++itS i else s
def Zbw (ss:List RS):Nat→List ByteArray
 | 0=>[]
 | n+1=>Zbw ss n++(match ss[n]? with | some s=>[nmN n s.nm] | none=>[])
theorem Zhj {ss:List RS} {i:Nat} (h:i < ss.length):Zbw ss (i+1)=Zbw ss i++[nmN i ss[i].nm]:=by
 show Zbw ss i++_=_;rw [Zwb h]
theorem Zej (ss:List RS):∀n,n≤ss.length→(Zbw ss n).length=n
 | 0,_=>rfl
 | n+1,h=>by rw [Zhj zo,Zwy,Zej ss n zo];rfl
theorem Zns {ss:List RS}:∀{n i:Nat},(hn:n≤ss.length)→(h:i < n)→(Zbw ss n)[i]?=some (nmN i (ss[i]'(Zxt h hn)).nm)
 | n+1,i,hn,h=>by
   rw [Zhj zo];by_cases e:i=n
   ·subst e;rw [Zw7 (by rw [Zej ss i zo];exact Zwa _),Zej ss i zo,ZAb];rfl
   ·rw [Zw5 (by rw [Zej ss n zo];omega)];exact Zns (n:=n) zo zo
set_option maxRecDepth 100000 in
theorem lwNames (ss:List RS) (gs:List RG) (hl:ss.length≤60):Pure prog 12 [figA ss gs] (.sl 1 ((Zbw ss ss.length).map strA)):=by
 have hls:(ss.map RS.av).length=ss.length:=Zv9 ..;have kS:∀i (h:i < ss.length),(ss.map RS.av).getD i .u=ss[i].av:=λi h=>Zaf RS.av h;show Pure _ _ [.agg [.sl 6 (ss.map RS.av),.sl 5 (gs.map RG.av)]] _;generalize ss.map RS.av=M at *;generalize gs.map RG.av=N at *;refine pI func12 rfl ntmps12 results12 call12 ?_;(focus (refine wkap (w_1 hls) w_t (w_r 0) ?_;(repeat' first|exact w_t|apply w_l);all_goals intros));rename_i g1;refine Zez (Frz.nilOwn (d:=3) 303 1 9 (gC)) ?_;refine Zai (ι:=Nat) (λi e m=>i≤ss.length∧(e 1=.pbox 1 g1 0∧m 1=some (.box g1 25 [.sl 6 M,.sl 5 N] false))∧e 8=.sl 6 M∧e 9=iv ss.length∧e 10=iv i∧∃sv,e 3=.own 303 sv∧m 303=some (.row sv 9 1 ((Zbw ss i).map strA) 0)) (λi=>ss.length - i) 0 zr ?_ ?_
 ·rintro i e m ⟨hi,⟨e1,m1⟩,e8,e9,e10,sv,e3,m3⟩
  by_cases hlt:i < ss.length
  ·have gi:=kS i hlt;have hsu:(Zbw ss (i+1)).map strA=(Zbw ss i).map strA++[strA (nmN i ss[i].nm)]:=by rw [Zhj hlt,Zye];rfl
   have hl3:((Zbw ss i).map strA).length≤60:=by rw [Zv9,Zej _ _ hi];omega
   generalize (Zbw ss i).map strA=A at *;generalize ss[i]=s at *;obtain⟨k,nm,ar,⟨bo,l,d⟩⟩:=s;have gi:M.getD i .u=.agg [iv k,strA nm,ivs ar,.v (.bool bo),lim l,lim d]:=gi;simp only at hsu;unfold nmN at hsu;have c1:=Zkx (i:Int) zo zo;have hs:=Zc3 (i:Int) zo zo;generalize itS (i:Int)=tx at *;by_cases h0:nm.size=0
   ·rw [Zv6 h0] at hsu;have hst:=Zhd nm;rw [Zv8 h0] at hst;(focus (refine wkap (w_13 e1 m1 e8 e9 e10 e3 m3 gi hls hl3 hst @Zw8 hs) (w_1 c1) (w_r 0) ?_;(repeat' first|exact w_t|apply w_l);all_goals intros));exact⟨i+1,⟨zo,⟨gW e1,gW m1⟩,gW e8,gW e9,gS,_,gC,by rw [hsu];exact gC⟩,zo⟩
   ·rw [Zv5 h0] at hsu;have hst:=Zhd nm;rw [Zv7 h0] at hst;(focus (refine wkap (w_11 e1 m1 e8 e9 e10 e3 m3 gi hls hl3 hst) w_t (w_r 0) ?_;(repeat' first|exact w_t|apply w_l);all_goals intros));exact⟨i+1,⟨zo,⟨gW e1,gW m1⟩,gW e8,gW e9,gS,_,gC,by rw [hsu];exact gC⟩,zo⟩
  ·have hii:i=ss.length:=zo;subst hii;generalize (Zbw ss ss.length).map strA=F at *;(focus (refine wkap (w_7 e1 m1 e8 e9 e10 e3 m3) w_t (w_r 0) ?_;(repeat' first|exact w_t|apply w_l);all_goals intros));all_goals exact gM (w_1 m3)
 ·exact⟨Zwk _,⟨gC,gC⟩,gC,gW hls,gC,_,gC,gC⟩
abbrev picB (KB KT g:Nat) (sv c0:AV) (P N:List AV):Ent:=.box g 63 [c0,sv,.sl 2 P,.sl 1 N] false
abbrev picR (sv:Value) (T:ByteArray):Ent:=.row sv 5 1 (T.data.toList.map by8) 0
def PicS (KB KT g:Nat) (P N:List AV) (T:ByteArray) (σ:Mem) (r:AV) (σ':Mem):Prop:=∃sv,r=.tup []∧σ'=upd (upd σ KT (some (picR sv T))) KB (some (picB KB KT g (.own KT sv) (.pbox KB g 0) P N))
theorem wrS (σ:Mem) (KB KT g:Nat) (sv:Value) (c0:AV) (P N:List AV) (T s:ByteArray) (hB:σ KB=some (picB KB KT g (.own KT sv) c0 P N)) (hT:σ KT=some (picR sv T))
 (h0:c0=.v (.pointer none)∨c0=.pbox KB g 0) (n2:KB≠KT) (hl:T.size+s.size≤1000000000) :
 ACall prog 13 [.pbox KB g 0,strA s] σ λr σ'=>∃sv',r=.tup [iv s.size,.v .nilIface]∧σ'=upd (upd σ KT (some (picR sv' (T++s)))) KB (some (picB KB KT g (.own KT sv') (.pbox KB g 0) P N)):=by
 have:=Zvv σ KB KT g sv c0 (.sl 2 P) (.sl 1 N) T.data.toList s hB hT h0 n2 (by rw [Zyn];exact hl) rfl rfl;have e:T.data.toList++s.data.toList=(T++s).data.toList:=by rw [ByteArray.data_append,Array.toList_append]
 rw [e] at this;exact this
theorem Zfa {x y:ByteArray} {p:Pr} (h:i64P p) (hx:x.size≤10) (hy:y.size≤10):(prS x y p).size≤70:=by
 rw [Znf,Zw8];have:=Zhh (x:=x) (y:=y) h;have e3:(⟨#[32]⟩:ByteArray).size=1:=rfl;omega
theorem Zu1 {a b:Pr} (ha:natP a) (hb:natP b):(lnP a b).size≤200:=by
 have h1:=Zfa (x:=⟨#[120,49]⟩) (y:=⟨#[121,49]⟩) ha.i64 (by show 2≤10;omega) (by show 2≤10;omega);have h2:=Zfa (x:=⟨#[120,50]⟩) (y:=⟨#[121,50]⟩) hb.i64 (by show 2≤10;omega) (by show 2≤10;omega);unfold lnP;simp only [Zw8];have e1:(⟨#[60,108,105,110,101]⟩:ByteArray).size=5:=rfl;have e2:(⟨#[32,115,116,114,111,107,101,61,34,98,108,97,99,107,34,47,62,10]⟩:ByteArray).size=18:=rfl;omega
set_option maxRecDepth 100000 in
theorem drLine (σ:Mem) (KB KT g:Nat) (sv:Value) (ps:List Pr) (N:List AV) (T:ByteArray) (i k:Nat) (hB:σ KB=some (picB KB KT g (.own KT sv) (.pbox KB g 0) (ps.map prA) N)) (hT:σ KT=some (picR sv T))
 (n2:KB≠KT) (hl:T.size≤900000000) (hi:i < ps.length) (hk:k < ps.length) (hps:ps.length≤60) (ha:natP ps[i]) (hb:natP ps[k]) :
 ACall prog 16 [.pbox KB g 0,.agg [iv i,iv k]] σ (PicS KB KT g (ps.map prA) N (T++lnP ps[i] ps[k]) σ):=by
 have mB:=Zb1 hB;have mT:=Zb1 hT;simp only [Ent.sh,AV.shL,AV.sh] at mB mT;have gi:(ps.map prA).getD i .u=.agg [iv ps[i].1,iv ps[i].2]:=Zaf prA hi;have gk:(ps.map prA).getD k .u=.agg [iv ps[k].1,iv ps[k].2]:=Zaf prA hk;have hll:(ps.map prA).length=ps.length:=Zv9 ..;have c1:=Zoa ⟨#[120,49]⟩ ⟨#[121,49]⟩ ps[i] ha.i64 (by show 2≤100;omega) (by show 2≤100;omega);have c2:=Zoa ⟨#[120,50]⟩ ⟨#[121,50]⟩ ps[k] hb.i64 (by show 2≤100;omega) (by show 2≤100;omega);have s1:=Zfa (x:=⟨#[120,49]⟩) (y:=⟨#[121,49]⟩) ha.i64 (by show 2≤10;omega) (by show 2≤10;omega);have s2:=Zfa (x:=⟨#[120,50]⟩) (y:=⟨#[121,50]⟩) hb.i64 (by show 2≤10;omega) (by show 2≤10;omega)
 have s3:=Zu1 ha hb;have hw:=fun(m:Mem) (hB':m (KB+1000)=some (picB (KB+1000) (KT+1000) g (.own (KT+1000) sv) (.pbox (KB+1000) g 0) (ps.map prA) N)) (hT':m (KT+1000)=some (picR sv T))=>wrS m (KB+1000) (KT+1000) g sv _ _ _ T (lnP ps[i] ps[k]) hB' hT' (.inr rfl) zo zo;clear s3;unfold PicS;refine Zc4 func16 rfl ntmps16 results16 call16 zr zs ?_;simp only [AV.shL,AV.sh];unfold lnP at *;generalize ps[i]=a at *;generalize ps[k]=b at *;obtain⟨a1,a2⟩:=a;obtain⟨b1,b2⟩:=b;simp only at gi gk;have c1:Pure prog 45 [strA ⟨#[120,49]⟩,strA ⟨#[121,49]⟩,.agg [iv a1,iv a2]] _:=c1
 have c2:Pure prog 45 [strA ⟨#[120,50]⟩,strA ⟨#[121,50]⟩,.agg [iv b1,iv b2]] _:=c2;generalize prS ⟨#[120,49]⟩ ⟨#[121,49]⟩ (a1,a2)=A at *;generalize prS ⟨#[120,50]⟩ ⟨#[121,50]⟩ (b1,b2)=B at *;generalize ps.map prA=P at *;(focus (refine wkax (w_5 mB mT gi gk hll) w_t (w_1 (w_d 1 [] [] [])) w_t w_t w_t w_t (w_r 0) ?_;(repeat' first|exact w_t|apply w_l);all_goals intros));(focus (refine wkad (w_5 mB mT @Zw8 s1 s2) (w_2 c1 c2) (w_1 (w_d 2 [(4,.v (.string A)),(7,.v (.string B))] [10] [])) ?_;(repeat' first|exact w_t|apply w_l);all_goals intros));refine Zhi (hw _ (by(simp (disch:=omega) only [go_sem,mB,Zb0]<;>repeat' first|rfl|refine⟨?_,?_⟩)) (by(simp (disch:=omega) only [go_sem,mT,Zb0]<;>repeat' first|rfl|refine⟨?_,?_⟩))) ?_
 intro sv1;(focus (refine wkad (w_1 @Zb0) w_t w_t ?_;(repeat' first|exact w_t|apply w_l);all_goals intros));refine Zoi (Sub.refl _) ⟨sv1,rfl,rfl⟩ ?_;refine Agr.put ?_ rfl rfl;refine Agr.put ?_ rfl rfl
 (repeat' (first|exact Agr.start σ|(refine Agr.own ?_ zo)))
theorem Zig:∀(l:List Pr) (b a:Pr),Zav (l++[b,a])=if a=b then Zav (l++[b]) else Zav (l++[b])++[a]
 | [],b,a=>by
   show Zav [b,a]=if a=b then Zav [b] else Zav [b]++[a];unfold Zav;by_cases h:b=a
   ·rw [Zv6 h,Zv6 h.symm,h];rfl
   ·rw [Zv5 h,Zv5 (Zyg h)];rfl
 | [x],b,a=>by
   have ih:=Zig [] b a;simp only [ZAv] at ih;show Zav (x :: b :: [a])=if a=b then Zav (x :: b :: []) else Zav (x :: b :: [])++[a];unfold Zav;rw [ih];by_cases h:x=b<;>by_cases h2:a=b<;>simp [h,h2]
 | x :: y :: r,b,a=>by
   have ih:=Zig (y :: r) b a;simp only [Zzz] at ih ⊢;show Zav (x :: y :: (r++[b,a]))=if a=b then Zav (x :: y :: (r++[b])) else Zav (x :: y :: (r++[b]))++[a];rw [show Zav (x :: y :: (r++[b,a]))=if x=y then Zav (y :: (r++[b,a])) else x :: Zav (y :: (r++[b,a])) from rfl,show Zav (x :: y :: (r++[b]))=if x=y then Zav (y :: (r++[b])) else x :: Zav (y :: (r++[b])) from rfl,ih];by_cases h:x=y<;>by_cases h2:a=b<;>simp [h,h2]
theorem Zli {l:List Pr} {j:Nat} (h:j+1 < l.length):Zav (l.take (j+2))=if l[j+1]=l[j] then Zav (l.take (j+1)) else Zav (l.take (j+1))++[l[j+1]]:=by
 have e1:l.take (j+1)=l.take j++[l[j]]:=by rw [Zz4,Zwb zo];rfl
 have e2:l.take (j+2)=l.take j++[l[j],l[j+1]]:=by rw [show j+2=(j+1)+1 from rfl,Zz4,Zwb (by omega:j+1 < l.length),e1,Zxe];rfl
 rw [e2,e1];exact Zig _ _ _
theorem Zvj {l:List Pr} (h:0 < l.length):Zav (l.take 1)=l.take 1:=by
 cases l with
 | nil=>simp at h
 | cons a r=>rfl
theorem Zrb:∀(l:List Pr),(Zav l).length≤l.length
 | []=>Zwa _
 | [a]=>Zwa _
 | a :: b :: r=>by
   have ih:=Zrb (b :: r);unfold Zav;split
   ·exact Zwj ih (Nat.le_succ _)
   ·simp only [Zwd] at ih ⊢;omega
theorem set_take {fs:List Pr} {k:Nat} (h:k < fs.length) (x:Pr):(fs.set k x).take (k+1)=fs.take k++[x]:=by
 rw [Zz4,List.getElem?_set_self h,List.take_set_of_le (Zwa _)];rfl
theorem Zub {fs:List Pr} {k:Nat} (h:k < fs.length):(fs.map prA).getD k .u=.agg [iv fs[k].1,iv fs[k].2]:=Zaf prA h
def CmpR (K:Nat) (sv:Value) (l:List Pr) (σ:Mem) (r:AV) (σ':Mem):Prop :=
 (Zav l=l∧σ'=σ∧r=.own K sv)∨((Zav l).length≤l.length∧r=.view K sv 2 0 (Zav l).length∧σ'=upd σ K (some (.row sv 64 2 ((Zav l).map prA++List.replicate (l.length - (Zav l).length) (.agg [iv 0,iv 0])) 0)))
theorem Zuc (σ:Mem) (K:Nat) (sv:Value) (l:List Pr) (hK:σ K=some (.row sv 64 2 (l.map prA) 0)) (hl:l.length < 256):ACall prog 75 [.own K sv] σ (CmpR K sv l σ):=by
 refine Zbq (tok:=0) func75 rfl ntmps75 results75 call75 zr zs ?_;have hml:(l.map prA).length=l.length:=Zv9 ..;by_cases h2:l.length < 2
 ·have hd:Zav l=l:=by
   match l,h2 with
   | [],_=>rfl
   | [a],_=>rfl
   | a :: b :: r,h=>exact absurd h (by simp only [Zwd];omega)
  have hR:CmpR K sv l σ (.own K sv) σ:=.inl ⟨hd,rfl,rfl⟩;generalize CmpR K sv l σ=R at *;(focus (refine wkad (w_2 hK hml) w_t w_t ?_;(repeat' first|exact w_t|apply w_l);all_goals intros));all_goals (all_goals (try simp (disch:=omega) only [go_sem,Zv8,Zv7,Zv6,Zv5,Int.reduceAdd,Int.reduceSub,Int.reduceToNat,Zwc]));(all_goals first|done|rfl|(congr 2;first|done|omega|(rw [Zxc];simp only [bool_to_prop,Zwm,Zxo,Zxp,Zxq,Zxr];omega))|skip)
  all_goals assumption
 ·have hg:∀j (h:j < l.length),(l.map prA).getD j .u=.agg [iv l[j].1,iv l[j].2]:=λj h=>Zaf prA h;generalize hM:l.map prA=M at *;(focus (refine wkad (w_2 hK hml) w_t w_t ?_;(repeat' first|exact w_t|apply w_l);all_goals intros));refine Zai (ι:=Nat) (λk e m=>(1≤k∧k≤l.length)∧Zav (l.take k)=l.take k∧e 0=.own K sv∧e 3=iv k∧σ=m) (λk=>l.length - k) 1 zr ?_ ?_
  ·rintro k e m ⟨⟨hk1,hk⟩,hdk,e0,e3,rfl⟩
   by_cases hlt:k < l.length
   ·obtain⟨k,rfl⟩:∃q,k=q+1:=⟨k - 1,zo⟩;have g1:=hg (k+1) hlt;have g0:=hg k zo;have hst:=Zli hlt;have hi1:((k+1:Nat):Int) - 1=(k:Int):=zo;by_cases heq:l[k+1]=l[k]
    ·rw [Zv6 heq,hdk] at hst;rw [heq] at g1;have hsl:((l.length:Nat):Int).toNat=l.length:=zo;(focus (refine wkad (w_7 e0 e3 hK hml g1 g0 hi1) w_t w_t ?_;(repeat' first|exact w_t|apply w_l);all_goals intros));refine Zai (ι:=Nat) (λq e m=>k+2+q≤l.length∧e 0=.own K sv∧e 4=.view K sv 2 (k+1) (l.length - (k+1))∧e 5=iv ((q+1:Nat):Int)∧∃fs:List Pr,fs.length=l.length∧(Zav (l.take (k+2+q))).length≤k+1+q∧fs.take (Zav (l.take (k+2+q))).length=Zav (l.take (k+2+q))∧(∀j,k+1+q≤j→fs[j]?=l[j]?)∧e 3=iv ((Zav (l.take (k+2+q))).length:Nat)∧m K=some (.row sv 64 2 (fs.map prA) 0)∧∀t,t≠K→m t=σ t) (λq=>l.length - q) 0 zr ?_ ?_
     ·rintro q e m ⟨hq,e0,e4,e5,fs,hfl,hle,htk,hfs,e3,mK,mo⟩
      have hfm:(fs.map prA).length=l.length:=by rw [Zv9,hfl]
      by_cases hq2:q+1 < l.length - (k+1)
      ·have hq3:k+1+(q+1) < l.length:=zo;have hst2:=Zli (l:=l) (j:=k+1+q) zo
       have f1:fs[k+1+(q+1)]'zo=l[k+1+q+1]'zo:=by
        have:=hfs (k+1+(q+1)) zo;rw [Zwb zo,Zwb zo] at this;exact Option.some.inj this
       have f0:fs[k+1+q]'zo=l[k+1+q]'zo:=by
        have:=hfs (k+1+q) zo;rw [Zwb zo,Zwb zo] at this;exact Option.some.inj this
       have g1:=Zub (fs:=fs) (k:=k+1+(q+1)) zo;have g0:=Zub (fs:=fs) (k:=k+1+q) zo;rw [f1] at g1;rw [f0] at g0;have hi2:((q+1:Nat):Int) - 1=(q:Int):=zo;have hqi:((q+1:Nat):Int) < ((l.length - (k+1):Nat):Int):=zo;have e12:k+1+q+2=k+2+(q+1):=zo;have e11:k+1+q+1=k+2+q:=zo;have e13:l.take (k+1+q+2)=l.take (k+2+(q+1)):=by rw [e12]
       have e14:l.take (k+1+q+1)=l.take (k+2+q):=by rw [e11]
       rw [e13,e14] at hst2;clear f1 f0;by_cases hne:l[k+1+q+1]'zo=l[k+1+q]'zo
       ·rw [Zv6 hne] at hst2;rw [hne] at g1;generalize l[k+1+q]'zo=x at *;obtain⟨x1,x2⟩:=x;simp only at g0 g1;obtain⟨F,hF⟩:∃F,fs.map prA=F:=⟨_,rfl⟩;rw [hF] at mK hfm g0 g1;(focus (refine wkad (w_10 e0 e3 e4 e5 mK hfm g1 g0 hi2 hqi) w_t w_t ?_;(repeat' first|exact w_t|apply w_l);all_goals intros));refine⟨q+1,⟨zo,gW e0,gW e4,gS,fs,hfl,by rw [hst2];omega,by rw [hst2];exact htk,λj hj=>hfs j zo,by rw [hst2];exact gW e3,by rw [hF];(simp (disch:=omega) only [go_sem,mK]<;>repeat' first|rfl|refine⟨?_,?_⟩),mo⟩,zo⟩
       ·rw [Zv5 hne] at hst2;have hls:(Zav (l.take (k+2+(q+1)))).length=(Zav (l.take (k+2+q))).length+1:=by rw [hst2,Zwy];rfl
        have hkl:(Zav (l.take (k+2+q))).length < fs.length:=zo;have hti:((Zav (l.take (k+2+q))).length:Int) < (l.length:Int):=zo;generalize hdl:Zav (l.take (k+2+q))=dl at *;have hgx:l[k+1+q+1]?=some (l[k+1+q+1]'zo):=Zwb _;generalize l[k+1+q+1]'zo=x at *;generalize l[k+1+q]'zo=y at *;have hst3:=set_take hkl x;rw [htk,←hst2] at hst3;have hsm:(fs.map prA).set dl.length (.agg [iv x.1,iv x.2])=(fs.set dl.length x).map prA:=by rw [List.map_set];rfl
        have gz:=Zub hkl;generalize fs[(dl.length)]'hkl=z at *;obtain⟨x1,x2⟩:=x;obtain⟨y1,y2⟩:=y;simp only at g0 g1 hsm;obtain⟨F,hF⟩:∃F,fs.map prA=F:=⟨_,rfl⟩;rw [hF] at mK hfm g0 g1 hsm gz;by_cases hx:x1=y1
        ·subst hx;have hy:¬x2=y2:=λe=>hne (by rw [e]);(focus (refine wkad (w_13 e0 e3 e4 e5 mK hfm g1 g0 gz hi2 hqi hy hti) w_t w_t ?_;(repeat' first|exact w_t|apply w_l);all_goals intros));refine⟨q+1,⟨zo,gW e0,gW e4,gS,fs.set dl.length (x1,x2),by rw [List.length_set];exact hfl,by rw [hls];omega,by rw [hls];exact hst3,λj hj=>by rw [List.getElem?_set_ne zo];exact hfs j zo,by rw [hls];exact gS,by rw [←hsm];exact gC,λt ht=>by rw [←mo t ht];show upd _ _ _ t=_;rw [Zak,Zv5 ht];rfl⟩,zo⟩
        ·(focus (refine wkad (w_13 e0 e3 e4 e5 mK hfm g1 g0 gz hi2 hqi hx hti) w_t w_t ?_;(repeat' first|exact w_t|apply w_l);all_goals intros));all_goals first|(rename_i hz;exact absurd hz.1 zs)|refine⟨q+1,⟨zo,gW e0,gW e4,gS,fs.set dl.length (x1,x2),by rw [List.length_set];exact hfl,by rw [hls];omega,by rw [hls];exact hst3,λj hj=>by rw [List.getElem?_set_ne zo];exact hfs j zo,by rw [hls];exact gS,by rw [←hsm];exact gC,λt ht=>by rw [←mo t ht];show upd _ _ _ t=_;rw [Zak,Zv5 ht];rfl⟩,zo⟩
      ·have hn:k+2+q=l.length:=zo;rw [hn,Zza] at hle htk e3;have hfm2:(fs.map prA).take (Zav l).length=(Zav l).map prA:=by rw [←List.map_take,htk]
       have hfd:(fs.map prA).drop ((Zav l).length+(l.length - (Zav l).length))=[]:=Zxn (by rw [hfm];omega);have hkn:(Zav l).length≤l.length:=Zrb l;have hR:CmpR K sv l σ (.view K sv 2 0 (Zav l).length) (upd σ K (some (.row sv 64 2 ((Zav l).map prA++List.replicate (l.length - (Zav l).length) (.agg [iv 0,iv 0])) 0))):=.inr ⟨hkn,rfl,rfl⟩;have hmm:∀x,upd m K x=upd σ K x:=λx=>by
        funext t
        rw [Zak,Zak];split
        ·rfl
        ·rename_i ht;exact mo t ht
       generalize CmpR K sv l σ=R at *;generalize Zav l=dl at *;generalize fs.map prA=F at *;have hrl:(dl.map prA++List.replicate (l.length - dl.length) (AV.agg [iv 0,iv 0])).length=l.length:=by rw [Zwy,Zv9,Zzw];omega
       rw [←hmm] at hR;generalize hRP:List.replicate (l.length - dl.length) (AV.agg [iv 0,iv 0])=RP at *
       (repeat' (first|(with_reducible first|refine stp ?_|apply gx1|apply gx2|apply gx3|apply gx4|apply gx5|apply gx6|apply gx7|apply gy8|apply gz2|apply gz3)|(with_reducible refine Zbt ?_;intro _)|((with_reducible refine gE ?_);(try simp (disch:=omega) only [go_sem,e0,e3,e4,e5,mK,hfm,hfm2,hfd,hrl,hRP,Zxl,Zv8,Zv7,Zv6,Zv5,Int.reduceAdd,Int.reduceSub,Int.reduceToNat,Zwc])<;>first|rfl|omega)|with_reducible refine Zae zd ?_|((with_reducible apply gy1);iterate 3 focus rfl)|((with_reducible apply gy2);iterate 3 focus rfl)|((with_reducible apply gy3);iterate 2 focus rfl)|((with_reducible apply gy4);iterate 1 focus rfl)|((with_reducible apply gy5);iterate 4 focus rfl)|((with_reducible apply gy5c);iterate 4 focus rfl)|((with_reducible apply gy6);iterate 4 focus rfl)|((with_reducible apply Zdq);iterate 3 focus rfl)|((with_reducible apply Zdn);iterate 1 focus rfl)|((with_reducible apply gy7);iterate 1 focus rfl)|((with_reducible apply gy9);(focus ((with_reducible refine gE ?_);(try simp (disch:=omega) only [go_sem,e0,e3,e4,e5,mK,hfm,hfm2,hfd,hrl,hRP,Zxl,Zv8,Zv7,Zv6,Zv5,Int.reduceAdd,Int.reduceSub,Int.reduceToNat,Zwc])<;>rfl)))|((with_reducible apply gz1);(focus first|rfl|(simp (disch:=omega) only [go_sem,e0,e3,e4,e5,mK,hfm,hfm2,hfd,hrl,hRP,Zxl,Zv8,Zv7,Zv6,Zv5,Int.reduceAdd,Int.reduceSub,Int.reduceToNat,Zwc];done)))|((with_reducible apply Zal (Za3 []) [] []);(focus kernel_rfl);(focus rfl);(focus kernel_rfl);(focus (simp only [Zwd,Zwi,Nat.reduceAdd];rfl)))|((with_reducible first|apply Zbe|apply Zbu|apply Zbf);all_goals (intro hc;(try simp only [bool_to_prop] at hc);try (exfalso;omega)))))
       all_goals (all_goals (try simp (disch:=omega) only [go_sem,Zv8,Zv7,Zv6,Zv5,Int.reduceAdd,Int.reduceSub,Int.reduceToNat,Zwc]));(all_goals first|done|rfl|(congr 2;first|done|omega|(rw [Zxc];simp only [bool_to_prop,Zwm,Zxo,Zxp,Zxq,Zxr];omega))|skip)
       all_goals assumption
     ·have hln:(Zav (l.take (k+2+0))).length=k+1:=by show(Zav (l.take (k+2))).length=_;rw [hst,Zws];omega
      refine⟨zo,gW e0,gC,gC,l,rfl,zo,by rw [hln];exact hst.symm,λ_ _=>rfl,by rw [hln];exact gW e3,by rw [hM];(simp (disch:=omega) only [go_sem,hK]<;>repeat' first|rfl|refine⟨?_,?_⟩),λ_ _=>gC⟩
    ·rw [Zv5 heq,hdk] at hst
     have hdk2:Zav (l.take (k+2))=l.take (k+2):=by
      have e:l.take ((k+1)+1)=l.take (k+1)++[l[k+1]]:=by rw [Zz4,Zwb hlt];rfl
      exact hst.trans e.symm
     generalize l[k+1]=x at *;generalize l[k]'zo=y at *;obtain⟨x1,x2⟩:=x;obtain⟨y1,y2⟩:=y;simp only at g0 g1;by_cases hx:x1=y1
     ·subst hx;have hy:¬x2=y2:=λe=>heq (by rw [e]);(focus (refine wkad (w_8 e0 e3 hK hml g1 g0 hi1 hy) w_t w_t ?_;(repeat' first|exact w_t|apply w_l);all_goals intros));exact⟨k+2,⟨zo,hdk2,gW e0,gS,gC⟩,zo⟩
     ·(focus (refine wkad (w_8 e0 e3 hK hml g1 g0 hi1 hx) w_t w_t ?_;(repeat' first|exact w_t|apply w_l);all_goals intros));all_goals first|(rename_i hz;exact absurd hz.1 zs)|exact⟨k+2,⟨zo,hdk2,gW e0,gS,gC⟩,zo⟩
   ·have hkn:k=l.length:=zo;subst hkn;rw [Zza] at hdk;have hR:CmpR K sv l σ (.own K sv) σ:=.inl ⟨hdk,rfl,rfl⟩;generalize CmpR K sv l σ=R at *;(focus (refine wkad (w_4 e0 e3 hK hml) w_t w_t ?_;(repeat' first|exact w_t|apply w_l);all_goals intros));all_goals (all_goals (try simp (disch:=omega) only [go_sem,Zv8,Zv7,Zv6,Zv5,Int.reduceAdd,Int.reduceSub,Int.reduceToNat,Zwc]));(all_goals first|done|rfl|(congr 2;first|done|omega|(rw [Zxc];simp only [bool_to_prop,Zwm,Zxo,Zxp,Zxq,Zxr];omega))|skip)
    all_goals assumption
  ·exact⟨zo,Zvj zo,gC,gC,gC⟩
end Go.Proofs.YtaedgaikloifgaaGreatDoor
