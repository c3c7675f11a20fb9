/- Contracts of the functions that the law reaches, and the rules by which they are walked. They say what a call hands back for every input within the bounds that each names; no other condition. -/
import Derived.Test.YtkefeinbjbeidaaGreatDoorBg11
set_option linter.unusedSimpArgs false
set_option linter.unusedVariables false
set_option maxRecDepth 20000
set_option maxHeartbeats 16000000
namespace Go.Proofs.YtkefeinbjbeidaaGreatDoor
open Go Go.RowKit Go.Pg Go.Pol Go.Proofs.Tryz
attribute [-bool_to_prop] Bool.and_eq_decide Bool.or_eq_decide Bool.decide_beq_decide decide_eq_decide
section
attribute [local go_sem] underlying3 underlying4 underlying35 underlying28 underlying24 underlying26 underlying87 underlying186 sz3 by3 z3 Zbt zErr Zas zRat Zau zNat Zav zInt szB zB szPt byPt zPt Zu5 zVec underlying161 underlying9 underlying22 underlying81 underlying39 underlying30 underlying40 underlying42 szL byL zL Za7 Zbw zStr Za9 Zba Zca Zbp Zbr Zct Zcd zFig Zcc zSlI Zcb zSlS Zcu zSlF underlying53 underlying85 Zwv ZAy zSlR Zow Zqk Zwb
end
section
attribute [local go_sem] underlying3 underlying4 underlying35 underlying28 underlying24 underlying26 underlying87 underlying186 sz3 by3 z3 Zbt zErr Zas zRat Zau zNat Zav zInt szB zB szPt byPt zPt Zu5 zVec underlying161 underlying9 underlying22 underlying81 underlying39 underlying30 underlying40 underlying42 szL byL zL Za7 Zbw zStr Za9 Zba Zca Zbp Zbr Zct Zcd zFig Zcc zSlI Zcb zSlS Zcu zSlF underlying53 underlying85 Zwv ZAy zSlR Zow Zqk Zwb
end
end Go.Proofs.YtkefeinbjbeidaaGreatDoor
namespace Go.Proofs.YtkefeinbjbeidaaGreatDoor
attribute [-bool_to_prop] Bool.and_eq_decide Bool.or_eq_decide Bool.decide_beq_decide decide_eq_decide
section
open Go Go.RowKit Go.Pg Go.Pol
end
end Go.Proofs.YtkefeinbjbeidaaGreatDoor
namespace Go.Proofs.YtkefeinbjbeidaaGreatDoor
open Go Go.RowKit Go.Pg Go.Pol Go.Proofs.Tryz
attribute [-bool_to_prop] Bool.and_eq_decide Bool.or_eq_decide Bool.decide_beq_decide decide_eq_decide
def hoR (g:RG) (ps:List PQ):AV:=if errG g ps.length=0 then .tup [.v (.bool ((prV g.k g.r.q λi=>ptI ps (gI g.ar i)).all λa=>decide (a=0))),iv 0] else .tup [.v (.bool false),iv (errG g ps.length)]
attribute [go_sem] zSlR
attribute [local go_sem] Zbt Zas Zau Zav Zu5 Za7 Zbw Za9 Zba Zca Zbp Zbr Zct Zcd Zcc Zcb Zcu Zwv ZAy Zow Zqk Zwb
theorem xs_go {k:Int} {ar:List Int} {r:Rat} (hk:arG k≠0) (hl:(ar.length:Int)=arG k) (hp:∀i,i < ar.length→pI40 (gI ar i)) (hr:k=9→Sz r 2):XS (goX k ar r):=by
 rcases Zsb hk with rfl | rfl | rfl | rfl | rfl | rfl | rfl | rfl | rfl
 ·have h:ar.length=3:=Int.ofNat.inj hl;exact(Zkp (hp 0 zo) (hp 1 zo) (hp 2 zo)).s
 ·have h:ar.length=4:=Int.ofNat.inj hl;exact(Zm0 (hp 0 zo) (hp 1 zo) (hp 2 zo) (hp 3 zo)).s
 ·have h:ar.length=4:=Int.ofNat.inj hl;exact(Zmz (hp 0 zo) (hp 1 zo) (hp 2 zo) (hp 3 zo)).s
 ·have h:ar.length=4:=Int.ofNat.inj hl;exact((Zdf (hp 0 zo) (hp 1 zo) (hp 0 zo)).sub ((Zdv Zii).mul (Zdf (hp 2 zo) (hp 3 zo) (hp 2 zo)))).s
 ·have h:ar.length=3:=Int.ofNat.inj hl;exact(((Zdf (hp 0 zo) (hp 1 zo) (hp 0 zo)).add (Zdf (hp 0 zo) (hp 2 zo) (hp 0 zo))).add ((Zdv Zjt).mul (Zdf (hp 1 zo) (hp 0 zo) (hp 2 zo)))).s
 ·have h:ar.length=4:=Int.ofNat.inj hl;exact(((Zkp (hp 1 zo) (hp 0 zo) (hp 2 zo)).mul (Zdf (hp 0 zo) (hp 3 zo) (hp 2 zo))).sub ((Zkp (hp 3 zo) (hp 0 zo) (hp 2 zo)).mul (Zdf (hp 0 zo) (hp 1 zo) (hp 2 zo)))).s
 ·have h:ar.length=8:=Int.ofNat.inj hl;exact(((Zm0 (hp 0 zo) (hp 1 zo) (hp 2 zo) (hp 3 zo)).mul (Zmz (hp 4 zo) (hp 5 zo) (hp 6 zo) (hp 7 zo))).sub ((Zm0 (hp 4 zo) (hp 5 zo) (hp 6 zo) (hp 7 zo)).mul (Zmz (hp 0 zo) (hp 1 zo) (hp 2 zo) (hp 3 zo)))).s
 ·have h:ar.length=2:=Int.ofNat.inj hl;exact(Zdf (hp 0 zo) (hp 1 zo) (hp 0 zo)).s
 ·have h:ar.length=4:=Int.ofNat.inj hl;exact((Zdf (hp 0 zo) (hp 1 zo) (hp 0 zo)).sub ((Zdv (hr rfl)).mul (Zdf (hp 2 zo) (hp 3 zo) (hp 2 zo)))).s
theorem arTiny (k:Int) (L:List AV) (bo:Bool) (l d:List Nat):Pure prog 6 [.agg [iv k,.sl 1 L,.v (.bool bo),lim l,lim d]] (.v (.bool (decide ((L.length:Int)≤20) && (decide ((l.length:Int)≤2) && decide ((d.length:Int)≤2))))):=by
 by_cases h1:(L.length:Int)≤20
 ·rw [ZBw h1,ZEu];by_cases h2:(l.length:Int)≤2
  ·rw [ZBw h2,ZEu];refine pI func6 rfl ntmps6 results6 call6 ?_;(focus (refine wkap (w_2 h1 h2) w_t (w_r 0) ?_;(repeat' first|exact w_t|apply w_l);all_goals intros));all_goals exact gL
  ·rw [ZBy h2,ZDg];refine pI func6 rfl ntmps6 results6 call6 ?_;(focus (refine wkap (w_2 h1 h2) w_t (w_r 0) ?_;(repeat' first|exact w_t|apply w_l);all_goals intros));all_goals exact gL
 ·rw [ZBy h1,ZDg];refine pI func6 rfl ntmps6 results6 call6 ?_;(focus (refine wkap (w_1 h1) w_t (w_r 0) ?_;(repeat' first|exact w_t|apply w_l);all_goals intros));all_goals exact gL
theorem lwGoals0 (k:Int) (L:List AV) (bo:Bool) (l d:List Nat) (ct:Pure prog 6 [.agg [iv k,.sl 1 L,.v (.bool bo),lim l,lim d]] (.v (.bool false))) (cA:Pure prog 7 [] (.v (.bool true))):Pure prog 3 [.agg [iv k,.sl 1 L,.v (.bool bo),lim l,lim d]] (.v (.bool true)):=by
 refine pI func3 rfl ntmps3 results3 call3 ?_;(focus (refine wkap w_t (w_2 ct cA) (w_r 0) ?_;(repeat' first|exact w_t|apply w_l);all_goals intros));all_goals exact gL
theorem Zty (k:Int) (L:List AV) (bo:Bool) (l d:List Nat) (e:Int) (G:AV) (hG:G=.v (.slice none 0 0)∨∃A,G=.sl 4 A) (ct:Pure prog 6 [.agg [iv k,.sl 1 L,.v (.bool bo),lim l,lim d]] (.v (.bool true))) (c1:Pure prog 8 [.agg [iv k,.sl 1 L,.v (.bool bo),lim l,lim d]] (.tup [G,iv e])) (c2:Pure prog 9 [.agg [iv k,.sl 1 L,.v (.bool bo),lim l,lim d]] (.tup [G,iv e])) (c3:Pure prog 10 [G,G] (.v (.bool true))) (cA:Pure prog 7 [] (.v (.bool true))):Pure prog 3 [.agg [iv k,.sl 1 L,.v (.bool bo),lim l,lim d]] (.v (.bool true)):=by
 rcases hG with rfl | ⟨A,rfl⟩
 ·refine pI func3 rfl ntmps3 results3 call3 ?_;(focus (refine wkap w_t (w_5 ct c1 c2 c3 cA) (w_r 0) ?_;(repeat' first|exact w_t|apply w_l);all_goals intros));all_goals exact gL
 ·refine pI func3 rfl ntmps3 results3 call3 ?_;(focus (refine wkap w_t (w_5 ct c1 c2 c3 cA) (w_r 0) ?_;(repeat' first|exact w_t|apply w_l);all_goals intros));all_goals exact gL
theorem lawGoals (g:RG) (h1:Lm g.r.l) (h2:Lm g.r.d) (cA:Pure prog 7 [] (.v (.bool true))):Pure prog 3 [g.av] (.v (.bool true)):=by
 have ct:=arTiny g.k (g.ar.map iv) g.r.s g.r.l g.r.d;rw [ZBr] at ct;by_cases ht:(decide ((g.ar.length:Int)≤20) && (decide ((g.r.l.length:Int)≤2) && decide ((g.r.d.length:Int)≤2)))=true
 ·rw [ht] at ct;simp only [ZCj,ZCr] at ht;obtain⟨t1,t2,t3⟩:=ht;have hr:g.r.lm 2:=⟨h1,h2,zo,zo⟩;have hs:g.sm:=⟨⟨h1,h2,zo,zo⟩,zo⟩;have c1:=ZA8 g hs hr;have c2:=raGoal g hs hr;unfold goR at c1 c2;by_cases h:errG g 40=0
  ·rw [ZBo h] at c1 c2;obtain⟨hk,hl,hp,h9⟩:=go_ok h;have x:=xs_go (r:=g.r.q) hk hl hp λe=>(RQ.ok_av hr (h9 e)).2;exact Zty _ _ _ _ _ _ _ (.inr ⟨_,rfl⟩) ct c1 c2 (Zxi _ x.x.qk (by have:=x.l;omega) zo zo) cA
  ·rw [ZBn h] at c1 c2;have c3:=Zxi [] (j:=0) (n:=0) (λt ht=>by cases ht) zd zo zo;exact Zty _ _ _ _ _ _ _ (.inl rfl) ct c1 c2 (Zhh c3 (.cons (.nil 4) (.cons (.nil 4) .nil))) cA
 ·rw [Bool.eq_false_iff.2 ht] at ct;exact lwGoals0 _ _ _ _ _ ct cA
section
attribute [local go_sem] underlying3 underlying4 underlying35 underlying28 underlying24 underlying26 underlying87 underlying186 sz3 by3 z3 Zbt zErr Zas zRat Zau zNat Zav zInt szB zB szPt byPt zPt Zu5 zVec underlying161 underlying9 underlying22 underlying81 underlying39 underlying30 underlying40 underlying42 szL byL zL Za7 Zbw zStr Za9 Zba Zca Zbp Zbr Zct Zcd zFig Zcc zSlI Zcb zSlS Zcu zSlF underlying53 underlying85 Zwv ZAy zSlR Zow Zqk Zwb
end
abbrev okC (n:Nat) (q:Qt):Prop:=Qt.chk q (n:Int) ((0:Nat):Int)=0
end Go.Proofs.YtkefeinbjbeidaaGreatDoor
namespace Go.Proofs.YtkefeinbjbeidaaGreatDoor
attribute [-bool_to_prop] Bool.and_eq_decide Bool.or_eq_decide Bool.decide_beq_decide decide_eq_decide
section
open Go Go.RowKit Go.Pg Go.Pol
end
end Go.Proofs.YtkefeinbjbeidaaGreatDoor
namespace Go.Proofs.YtkefeinbjbeidaaGreatDoor
open Go Go.RowKit Go.Pg Go.Pol Go.Proofs.Tryz
attribute [-bool_to_prop] Bool.and_eq_decide Bool.or_eq_decide Bool.decide_beq_decide decide_eq_decide
theorem Zvb (cA:Pure prog 7 [] (.v (.bool true))) (xs:List AV) (h:ShapeL prog maxLen 9 [30] xs):Pure prog 3 xs (.v (.bool true)):=by
 obtain⟨x,bs,rfl,h1,h⟩:=h.inv;obtain rfl:=h.inv0;obtain⟨g,rfl,hr,ha⟩:=shFact h1;rw [show Zdx prog 30 [iv g.k,ivs g.ar,.v (.bool g.r.s),lim g.r.l,lim g.r.d]=g.av from Zwd underlying30 _];exact lawGoals g hr.1 hr.2.1 cA
theorem saidGoals (xs:List AV) (h:ShapeL prog maxLen 9 [30] xs):Pure prog 3 xs (.v (.bool true)):=Zvb awake35 xs h
end Go.Proofs.YtkefeinbjbeidaaGreatDoor
