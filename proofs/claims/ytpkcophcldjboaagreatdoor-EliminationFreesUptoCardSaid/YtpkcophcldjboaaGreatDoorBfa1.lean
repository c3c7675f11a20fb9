/- Contracts of the functions that the law reaches, and the rules by which they are walked. They say what a call hands back for every input within the bounds that each names; no other condition. -/
import Derived.Test.YtpkcophcldjboaaGreatDoorBf6
set_option linter.unusedSimpArgs false
set_option linter.unusedVariables false
set_option maxRecDepth 20000
set_option maxHeartbeats 16000000
namespace Go.Proofs.YtpkcophcldjboaaGreatDoor
open Go Go.RowKit Go.Pg Go.Pol Go.Proofs.Tryz
attribute [-bool_to_prop] Bool.and_eq_decide Bool.or_eq_decide Bool.decide_beq_decide decide_eq_decide
attribute [local go_sem] underlying3 underlying4 underlying128 underlying50 underlying52 underlying54 underlying39 underlying55 underlying57 underlying26 underlying27 sz3 by3 z3 szB zB Zas zRat Zay zInt Zax zNat Zah Zan Zai Bool.and_self Zal Za7 zSlQ szQT byQT zQT Za9 zSlT szQP zQP underlying81 underlying29 szFr byFr zFr Zb6 Zca zSQP underlying9 underlying69 underlying33 underlying76 underlying22 underlying25 underlying93 underlying23 Zce zErr Zbh Zcm zStr szL byL zL Zb3 Zb4 Zdh Zdk zFig Zdj zSlI Zdi zSlS Zcc Zcd Zd0 Zd2 zSlF underlying83 underlying119 underlying79 underlying117 Ze2 Ze4 zCmb Ze0 zSch szFn zFn Ze1 zPlc underlying5 underlying95 szU8 byU8 zU8 Zlm Ztx
section
variable {N n:Nat} {cs:List AV}
theorem shQFrac (h:Zb5 prog N n 29 cs):∃l m:List RE,cs=[.sl 4 (l.map RE.av),.sl 4 (m.map RE.av)]∧(l.length≤N∧(∀t∈l,t.r.lm N)∧∀t∈l,t.q.length≤N)∧m.length≤N∧(∀t∈m,t.r.lm N)∧∀t∈m,t.q.length≤N:=by
 obtain⟨m,rfl,hs⟩:=Zb0 underlying29 (by kernel_rfl) h;obtain⟨x,y,rfl,h1,hs⟩:=hs.inv;obtain⟨x2,y,rfl,h2,hs⟩:=hs.inv;obtain rfl:=hs.inv0;obtain⟨l,rfl,hl⟩:=Zv8 underlying27 h1;obtain⟨m,rfl,hm⟩:=Zv8 underlying27 h2;exact⟨l,m,rfl,hl,hm⟩
end
def Zym (l1 l2:List RE):Bool:=decide (0 < l2.length) && (Zgp 3 2 l1 && Zgp 2 2 l2)
theorem lwFineV (N D:List AV) (b1 b2:Bool) (hl:D.length≤9223372036854775807) (c1:Pure prog 14 [.sl 4 N,iv 3,iv 2] (.v (.bool b1))) (c2:Pure prog 14 [.sl 4 D,iv 2,iv 2] (.v (.bool b2))):Pure prog 5 [.agg [.sl 4 N,.sl 4 D]] (.v (.bool (decide (0 < D.length) && (b1 && b2)))):=by
 by_cases h:0 < D.length
 ·have h':(D.length:Int) > 0:=by omega
  rw [decide_eq_true h]
  cases b1 with
  | true =>
    refine Zaa (tok:=0) func5 rfl ntmps5 results5 call5 (by rfl) (by simp) ?_;(focus (refine wkad (w_1 h') (w_2 c1 c2) w_t ?_;(repeat' first|exact w_t|apply w_l);all_goals intros));all_goals exact gL
  | false =>
    refine Zaa (tok:=0) func5 rfl ntmps5 results5 call5 (by rfl) (by simp) ?_;(focus (refine wkad (w_1 h') (w_1 c1) w_t ?_;(repeat' first|exact w_t|apply w_l);all_goals intros));all_goals exact gL
 ·have h':¬(D.length:Int) > 0:=by omega
  rw [decide_eq_false h];refine Zaa (tok:=0) func5 rfl ntmps5 results5 call5 (by rfl) (by simp) ?_;(focus (refine wkad (w_1 h') w_t w_t ?_;(repeat' first|exact w_t|apply w_l);all_goals intros));all_goals exact gL
theorem lwFine (l1 l2:List RE) (hl1:l1.length≤9223372036854775807) (hr1:∀t∈l1,t.r.lm 9223372036854775807) (hq1:∀t∈l1,t.q.length≤9223372036854775807) (hl2:l2.length≤9223372036854775807) (hr2:∀t∈l2,t.r.lm 9223372036854775807) (hq2:∀t∈l2,t.q.length≤9223372036854775807):Pure prog 5 [.agg [.sl 4 (l1.map RE.av),.sl 4 (l2.map RE.av)]] (.v (.bool (Zym l1 l2))):=by
 have c:=lwFineV (l1.map RE.av) (l2.map RE.av) _ _ (by rw [List.length_map];exact hl2) (Zwc l1 3 2 (by omega) (by omega) hl1 hr1 hq1) (Zwc l2 2 2 (by omega) (by omega) hl2 hr2 hq2)
 rwa [List.length_map] at c
structure FineX (x:XX):Prop where
 x1:XB x.1 17 2
 x2:XB x.2 17 2
 l1:x.1.length≤3
 l2:x.2.length≤2
 ne:x.2≠[]
theorem fine_x {l1 l2:List RE} {k:Nat} (hr1:∀t∈l1,t.r.lm k) (hr2:∀t∈l2,t.r.lm k) (h:Zym l1 l2=true):FineX (l1.map RE.rt,l2.map RE.rt)∧l1.map RE.av=(l1.map RE.rt).map qtA∧l2.map RE.av=(l2.map RE.rt).map qtA:=by
 unfold Zym at h;rw [Bool.and_eq_true,Bool.and_eq_true,decide_eq_true_eq] at h;obtain⟨h1,h2,h3⟩:=h;obtain⟨x1,n1⟩:=Zrz hr1 h2 (by omega);obtain⟨x2,n2⟩:=Zrz hr2 h3 (by omega);refine⟨⟨x1,x2,n1,n2,λe=>?_⟩,Zr0 hr1 h2,Zr0 hr2 h3⟩;have e':(l2.map RE.rt).length=0:=by rw [show l2.map RE.rt=[] from e];rfl
 rw [List.length_map] at e';omega
theorem fl_len {p:QTs} {L n:Nat} (hl:p.length≤L) (hq:∀t∈p,t.2.length≤n):(flQ p).length≤L*n:=by
 have key:∀p:QTs,(∀t∈p,t.2.length≤n)→(flQ p).length≤p.length*n:=by
  intro p
  induction p with
  | nil=>intro _;exact Nat.zero_le _
  | cons t p ih =>
    intro h;have h1:=ih λu hu=>h u (.tail _ hu);have h2:=h t (.head _);show(t.2++flQ p).length≤(p.length+1)*n;rw [List.length_append,Nat.add_mul];omega
 exact Nat.le_trans (key p hq) (Nat.mul_le_mul_right _ hl)
theorem FineX.fl {x:XX} (h:FineX x):(flQ x.1++flQ x.2).length≤10:=by
 have h1:=fl_len h.l1 h.x1.2.1;have h2:=fl_len h.l2 h.x2.2.1;rw [List.length_append];omega
theorem FineX.ahead {x:XX} (h:FineX x) (i:Int):Ahead i (hvL i (flQ x.1++flQ x.2)) x:=by
 have hf:=h.fl;have a1:=h.l1;have a2:=h.l2;exact Ahead.beg h.x1 h.x2 (by omega) (by omega) h.x1.2.1 h.x2.2.1 (by omega) (by omega)
theorem has_no {x:Int} {p:QTs} (h:alQ (noP x) p):hasT x p=false:=by
 unfold hasT;rw [List.any_eq_false];intro t ht;unfold hasP;rw [Bool.not_eq_true,List.any_eq_false];intro q hq;rw [h t ht q hq];decide
theorem elR_vk (z:Int × XX):Vk (elR z nilA) (if z.1=0 then .tup [.agg [qpA z.2.1,qpA z.2.2],iv 0] else .tup [.agg [nilA,nilA],iv z.1]):=by
 unfold elR;split
 ·refine .tupL (.cons (.aggL (.cons ?_ (.refl _))) (.refl _));split
  ·rename_i h;rw [h];exact .nil 4
  ·exact .refl _
 ·exact .refl _
theorem elElimF {ss:List RS} (gs:List RG) {i:Nat} (hi:i < ss.length) (h8:ss.length≤8) (he:errS ss i=0) (hr:ss[i].r.lm 2) {x:XX} (h:FineX x):Pure prog 8 [figA ss gs,iv i,.agg [qpA x.1,qpA x.2]] (if (elT (elZ ss i hi x)).1=0 then .tup [.agg [qpA (elT (elZ ss i hi x)).2.1,qpA (elT (elZ ss i hi x)).2.2],iv 0] else .tup [.agg [nilA,nilA],iv (elT (elZ ss i hi x)).1]):=by
 have a1:=h.l1;have a2:=h.l2;have hf:=h.fl;exact Zjv (elElim ss gs i hi h8 he hr x (by omega) (by omega) (λt ht=>by have:=h.x1.2.1 t ht;omega) (λt ht=>by have:=h.x2.2.1 t ht;omega) (by omega) (h.ahead i)) (elR_vk _)
theorem lwFrN (M G N D:List AV) (p k a b c:Int) (bf bw:Bool) (hb:bf=false∨bw=false) (c1:Pure prog 5 [.agg [.sl 4 N,.sl 4 D]] (.v (.bool bf))) (c2:Pure prog 6 [.agg [.sl 6 M,.sl 5 G]] (.v (.bool bw))) (ca:Pure prog 7 [] (.v (.bool true))):Pure prog 4 [.agg [.sl 6 M,.sl 5 G],iv p,.agg [iv k,iv a,iv b,iv c],.agg [.sl 4 N,.sl 4 D]] (.v (.bool true)):=by
 cases bf with
 | false =>
   refine Zaa (tok:=0) func4 rfl ntmps4 results4 call4 (by rfl) (by simp) ?_;(focus (refine wkad w_t (w_2 c1 ca) w_t ?_;(repeat' first|exact w_t|apply w_l);all_goals intros));all_goals exact gL
 | true =>
   obtain rfl:bw=false:=by rcases hb with h | h;cases h;exact h
   refine Zaa (tok:=0) func4 rfl ntmps4 results4 call4 (by rfl) (by simp) ?_;(focus (refine wkad w_t (w_3 c1 c2 ca) w_t ?_;(repeat' first|exact w_t|apply w_l);all_goals intros));all_goals exact gL
def FrR (p:Int) (R:AV):Prop:=(∃z:Int,¬z=0∧R=.tup [.agg [nilA,nilA],iv z])∨(∃N D:List AV,R=.tup [.agg [.sl 4 N,.sl 4 D],iv 0]∧¬(D.length:Int)=0∧D.length≤1000000∧Pure prog 12 [.sl 4 N,iv p] (.v (.bool false))∧Pure prog 12 [.sl 4 D,iv p] (.v (.bool false))∧Pure prog 13 [.sl 4 N] (.v (.bool true))∧Pure prog 13 [.sl 4 D] (.v (.bool true)))
theorem lwFrV (M G N D:List AV) (p k a b c:Int) (R1 R2:AV) (h1:FrR p R1) (h2:FrR p R2) (cf:Pure prog 5 [.agg [.sl 4 N,.sl 4 D]] (.v (.bool true))) (cw:Pure prog 6 [.agg [.sl 6 M,.sl 5 G]] (.v (.bool true))) (ca:Pure prog 7 [] (.v (.bool true)))
 (c1:Pure prog 11 [.agg [.sl 6 M,.sl 5 G],iv p,.agg [iv k,iv a,iv b,iv c]] R1) (c2:Pure prog 8 [.agg [.sl 6 M,.sl 5 G],iv p,.agg [.sl 4 N,.sl 4 D]] R2):Pure prog 4 [.agg [.sl 6 M,.sl 5 G],iv p,.agg [iv k,iv a,iv b,iv c],.agg [.sl 4 N,.sl 4 D]] (.v (.bool true)):=by
 rcases h1 with⟨z1,hz1,rfl⟩ | ⟨N1,D1,rfl,hd1,hk1,n1,d1,r1,s1⟩
 ·rcases h2 with⟨z2,hz2,rfl⟩ | ⟨N2,D2,rfl,hd2,hk2,n2,d2,r2,s2⟩
  ·refine Zaa (tok:=0) func4 rfl ntmps4 results4 call4 (by rfl) (by simp) ?_;(focus (refine wkad (w_2 hz1 hz2) (w_5 cf cw c1 c2 ca) w_t ?_;(repeat' first|exact w_t|apply w_l);all_goals intros));all_goals exact gL
  ·refine Zaa (tok:=0) func4 rfl ntmps4 results4 call4 (by rfl) (by simp) ?_;(focus (refine wkax (w_2 hz1 hd2) (w_5 cf cw c1 c2 ca) w_t w_t (w_4 n2 d2 r2 s2) w_t w_y (w_r 0) ?_;(repeat' first|exact w_t|apply w_l);all_goals intros));all_goals exact gL
 ·rcases h2 with⟨z2,hz2,rfl⟩ | ⟨N2,D2,rfl,hd2,hk2,n2,d2,r2,s2⟩
  ·refine Zaa (tok:=0) func4 rfl ntmps4 results4 call4 (by rfl) (by simp) ?_;(focus (refine wkax (w_2 hd1 hz2) (w_5 cf cw c1 c2 ca) w_t w_t (w_4 n1 d1 r1 s1) w_t w_y (w_r 0) ?_;(repeat' first|exact w_t|apply w_l);all_goals intros));all_goals exact gL
  ·refine Zaa (tok:=0) func4 rfl ntmps4 results4 call4 (by rfl) (by simp) ?_;(focus (refine wkax (w_2 hd1 hd2) (w_5 cf cw c1 c2 ca) w_t w_t (w_8 n1 d1 r1 s1 n2 d2 r2 s2) w_t w_y (w_r 0) ?_;(repeat' first|exact w_t|apply w_l);all_goals intros));all_goals exact gL
theorem frR_e {p z:Int} (h:z≠0):FrR p (.tup [.agg [nilA,nilA],iv z]):=.inl ⟨z,h,rfl⟩
theorem frR_o {p:Int} {w:XX} {k n l:Nat} (h1:XB w.1 k n) (h2:XB w.2 k n) (l1:w.1.length≤l) (l2:w.2.length≤l) (a1:alQ (noP p) w.1) (a2:alQ (noP p) w.2) (ne:w.2≠[]) (hk:k≤50000) (hn:n≤1000) (hl:l≤4000):FrR p (.tup [.agg [qpA w.1,qpA w.2],iv 0]):=by
 refine .inr ⟨w.1.map qtA,w.2.map qtA,rfl,?_,by rw [List.length_map];omega,?_,?_,?_,?_⟩
 ·rw [List.length_map];intro h;exact ne (List.length_eq_zero_iff.1 (by omega))
 ·rw [←has_no a1];exact exHas w.1 p (by omega) λt ht=>by have:=h1.2.1 t ht;omega
 ·rw [←has_no a2];exact exHas w.2 p (by omega) λt ht=>by have:=h2.2.1 t ht;omega
 ·exact exRgt w.1 h1 hk ⟨by omega,by omega⟩
 ·exact exRgt w.2 h2 hk ⟨by omega,by omega⟩
theorem lawFrees (ss:List RS) (gs:List RG) (p:Int) (q:Qt) (x1 x2:List RE) (h1:ss.length≤1000000000) (h2:gs.length≤1000000000) (hs:∀s∈ss,s.sm) (hg:∀g∈gs,g.sm)
 (hl1:x1.length≤9223372036854775807) (hr1:∀t∈x1,t.r.lm 9223372036854775807) (hq1:∀t∈x1,t.q.length≤9223372036854775807) (hl2:x2.length≤9223372036854775807) (hr2:∀t∈x2,t.r.lm 9223372036854775807) (hq2:∀t∈x2,t.q.length≤9223372036854775807) :
 Pure prog 4 [figA ss gs,iv p,q.av,.agg [.sl 4 (x1.map RE.av),.sl 4 (x2.map RE.av)]] (.v (.bool true)):=by
 have cw:=few25 ss gs _ (rlFew ss gs (rlRight ss gs h1 h2 hs hg));have cf:=lwFine x1 x2 hl1 hr1 hq1 hl2 hr2 hq2;have ca:=awake34;have hml:(ss.map RS.av).length=ss.length:=List.length_map ..;by_cases hb:Zym x1 x2=true∧fewB ss gs=true
 ·obtain⟨hb1,hb2⟩:=hb;rw [hb1] at cf;rw [hb2] at cw;obtain⟨hx,e1,e2⟩:=fine_x hr1 hr2 hb1;obtain⟨h8,he,hr⟩:=few_34 hs hb2;have he:=Zl2 he;by_cases hp:0≤p∧p < (ss.length:Int)
  ·obtain⟨i,rfl⟩:∃i:Nat,p=i:=⟨p.toNat,by omega⟩;have hi:i < ss.length:=by omega
   have c1:Pure prog 11 [figA ss gs,iv i,q.av] (lmA q ss.length (lmS ss i hi q) nilA):=Znl ss gs i hi h8 (he i hi) (hr _ (List.getElem_mem hi)) q.k q.a q.b q.c;rw [Zx1] at c1;have c2:=elElimF gs hi h8 (he i hi) (hr _ (List.getElem_mem hi)) hx;refine lwFrV _ _ _ _ i q.k q.a q.b q.c _ _ ?_ ?_ cf cw ca c1 (by rw [e1,e2];exact c2)
   ·by_cases hz:(lemQ ss i hi q).1=0
    ·rw [if_pos hz];have ok:=Zq3 hi h8 (he i hi) (hr _ (List.getElem_mem hi)) hz;exact frR_o (l:=12) ok.xn ok.xd ok.ln ok.ld ok.nn ok.nd ok.ne (by decide) (by decide) (by decide)
    ·rw [if_neg hz];exact frR_e hz
   ·by_cases hz:(elT (elZ ss i hi (x1.map RE.rt,x2.map RE.rt))).1=0
    ·rw [if_pos hz];obtain⟨g1,g2,g3,g4,g5,g6,g7⟩:=elZ_ok hi h8 (he i hi) (hr _ (List.getElem_mem hi)) (hx.ahead i) (w:=(elT (elZ ss i hi (x1.map RE.rt,x2.map RE.rt))).2) (by rw [←hz]);exact frR_o g4 g5 g6 g7 g2 g3 g1 (by decide) (by decide) (by decide)
    ·rw [if_neg hz];exact frR_e hz
  ·have hb:p < 0∨((ss.map RS.av).length:Int)≤p:=by rw [hml];omega
   exact lwFrV _ _ _ _ p q.k q.a q.b q.c _ _ (frR_e (z:=2) (by decide)) (frR_e (z:=2) (by decide)) cf cw ca (elLmR _ _ p q.k q.a q.b q.c hb) (elElR _ _ _ _ p hb)
 ·refine lwFrN _ _ _ _ p q.k q.a q.b q.c _ _ ?_ cf cw ca
  cases h1:Zym x1 x2 with
  | false=>exact .inl rfl
  | true=>exact .inr (by cases h2:fewB ss gs with
    | false=>rfl
    | true=>exact absurd ⟨h1,h2⟩ hb)
theorem saidFrees (xs:List AV) (h:ShapeL prog 1048576 9 [25,3,39,29] xs):Pure prog 4 xs (.v (.bool true)):=by
 obtain⟨x,bs,rfl,h1,h⟩:=h.inv;obtain⟨y,bs,rfl,h2,h⟩:=h.inv;obtain⟨z,bs,rfl,h3,h⟩:=h.inv;obtain⟨u,bs,rfl,h4,h⟩:=h.inv;obtain rfl:=h.inv0;obtain⟨ss,gs,e,hl,kl,hq,kq⟩:=shFigure h1;obtain⟨p,rfl,_⟩:=Zb7 underlying3 h2;obtain⟨k,a,b,c,rfl⟩:=shQuant h3;obtain⟨x1,x2,rfl,⟨b1,b2,b3⟩,d1,d2,d3⟩:=shQFrac h4;rw [e,aggQuant,Zj7 agInt,Zeo underlying29];exact lawFrees ss gs p ⟨k,a,b,c⟩ x1 x2 (by omega) (by omega) (λs hs=>⟨Zm4 (hq s hs).1 (by decide),Nat.le_trans (hq s hs).2.1 (by decide),Nat.le_trans (hq s hs).2.2 (by decide)⟩) (λg hg=>⟨Zm4 (kq g hg).1 (by decide),Nat.le_trans (kq g hg).2 (by decide)⟩)
  (by omega) (λt ht=>Zm4 (b2 t ht) (by decide)) (λt ht=>Nat.le_trans (b3 t ht) (by decide)) (by omega) (λt ht=>Zm4 (d2 t ht) (by decide)) (λt ht=>Nat.le_trans (d3 t ht) (by decide))
end Go.Proofs.YtpkcophcldjboaaGreatDoor
