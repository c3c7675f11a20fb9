/- Contracts of the functions that the law reaches, and the rules by which they are walked. They say what a call hands back for every input within the bounds that each names; no other condition. -/
import Derived.Test.YtjbjejmmnbdbiaaGreatBe3
import Derived.DataElems
import Derived.DataReads
import Derived.RangeFuncRecord
import Derived.OrdersIn
import Derived.TacticsIn
set_option linter.unusedSimpArgs false
set_option linter.unusedVariables false
set_option maxRecDepth 20000
set_option maxHeartbeats 16000000
namespace Go.Pg
open Go Go.RowKit
section
variable {P:Program} {n:Nat} {Q:AE→St→Prop} {st:St} {body:Code}
def unr (P:Program) (n:Nat) (body:Code) (Q:AE→St→Prop):Nat→St→Prop
 | 0,_=>False
 | k+1,st=>Zav P 0 n body (AE.then (unr P n body Q k) Q) st
theorem r_rounds (k:Nat) (hf:Zaw n body=true) (h:unr P n body Q k st):Zav P 0 n (.loop body) Q st:=by
 intro c a w imm hr b k' cs;have key:∀k st a w imm,unr P n body Q k st→Rel c n st a w imm →
  ∃e a' w',post c n Q e a' w'∧Arrives P (lone (b.at a (.code body :: .inLoop body :: k')) cs w) b k' cs e a' w':=by
  intro k
  induction k with
  | zero=>exact λst a w imm h _=>h.elim
  | succ k ih =>
    intro st a w imm hI hr;obtain⟨e,a₁,w₁,hq,harr⟩:=Za1 body _ st hf hI c a w imm hr b (.inLoop body :: k') cs;obtain⟨ae,st',imm',rfl,h2,h3⟩:=hq
    cases ae with
    | normal =>
      obtain⟨e₂,a₂,w₂,hq₂,harr₂⟩:=ih st' a₁ w₁ imm' h2 h3;exact⟨e₂,a₂,w₂,hq₂,.of_steps (Steps.trans harr (.one step_inLoop)) harr₂⟩
    | exit id=>exact⟨_,a₁,w₁,⟨.exit id,st',imm',rfl,h2,h3⟩,.pass (x:=.inLoop body) rfl (λ_ _=>.inl (by simp [AE.to])) harr⟩
    | ret=>exact⟨_,a₁,w₁,⟨.ret,st',imm',rfl,h2,h3⟩,.pass (x:=.inLoop body) rfl (λ_ _=>.inl (by simp [AE.to])) harr⟩
 obtain⟨e₁,a',w',hq,harr⟩:=key k st a w imm h hr;exact⟨e₁,a',w',hq,.of_steps (.one step_loop) harr⟩
instance {k:Nat}:Stp (unr P n body Q (k+1) st) (Zav P 0 n body (AE.then (unr P n body Q k) Q) st):=⟨λh=>h⟩
end
section
variable {P:Program} {all rest:List Oper} {K:St→Prop} {e:Nat→AV} {m:Mem} {dst:Option Nat} {d t j n:Nat} {op:Op} {ty:TypeId} {pos:String} {af:Array Edge} {want:Bool} {Q:AE→St→Prop} {x y:Code} {rs:Nat→AV} {bar:List Nat} {fu k:Nat} {σs:Mem} {b:Bool} {st:St}
theorem Zcs (h1:b=true→OG P all rest dst op ty pos af (.bool true) want K st) (h2:b=false→OG P all rest dst op ty pos af (.bool false) want K st):OG P all rest dst op ty pos af (.bool b) want K st:=by
 cases b
 ·exact h2 rfl
 ·exact h1 rfl
theorem Zc8 (h1:b=true→DG P all rs bar σs fu k d op (.bool true) want K e m) (h2:b=false→DG P all rs bar σs fu k d op (.bool false) want K e m):DG P all rs bar σs fu k d op (.bool b) want K e m:=by
 cases b
 ·exact h2 rfl
 ·exact h1 rfl
theorem Zcv (h1:b=true→CG P n true x y Q st) (h2:b=false→CG P n false x y Q st):CG P n b x y Q st:=by
 cases b
 ·exact h2 rfl
 ·exact h1 rfl
end
end Go.Pg
namespace Go.Pg
open Go Go.RowKit
attribute [-bool_to_prop] Bool.and_eq_decide Bool.or_eq_decide Bool.decide_beq_decide decide_eq_decide
structure Fx (p:Prop):Prop where
 h:p
structure Bdy:Prop
structure Lv (a b:Prop):Prop where
 x:a
 y:b
theorem w_l {a b:Prop} (x:a) (y:b):Lv a b:=⟨x,y⟩
theorem w_a {a b:Prop} (x:a) (y:b):a∧b:=⟨x,y⟩
theorem w_t:True:=trivial
theorem w_1 {p0:Prop} (h0:p0):p0∧True:=⟨h0,trivial⟩
theorem w_2 {p0 p1:Prop} (h0:p0) (h1:p1):p0∧p1∧True:=⟨h0,h1,trivial⟩
theorem w_3 {p0 p1 p2:Prop} (h0:p0) (h1:p1) (h2:p2):p0∧p1∧p2∧True:=⟨h0,h1,h2,trivial⟩
theorem w_4 {p0 p1 p2 p3:Prop} (h0:p0) (h1:p1) (h2:p2) (h3:p3):p0∧p1∧p2∧p3∧True:=⟨h0,h1,h2,h3,trivial⟩
theorem w_5 {p0 p1 p2 p3 p4:Prop} (h0:p0) (h1:p1) (h2:p2) (h3:p3) (h4:p4):p0∧p1∧p2∧p3∧p4∧True:=⟨h0,h1,h2,h3,h4,trivial⟩
theorem w_6 {p0 p1 p2 p3 p4 p5:Prop} (h0:p0) (h1:p1) (h2:p2) (h3:p3) (h4:p4) (h5:p5):p0∧p1∧p2∧p3∧p4∧p5∧True:=⟨h0,h1,h2,h3,h4,h5,trivial⟩
theorem w_7 {p0 p1 p2 p3 p4 p5 p6:Prop} (h0:p0) (h1:p1) (h2:p2) (h3:p3) (h4:p4) (h5:p5) (h6:p6):p0∧p1∧p2∧p3∧p4∧p5∧p6∧True:=⟨h0,h1,h2,h3,h4,h5,h6,trivial⟩
theorem w_8 {p0 p1 p2 p3 p4 p5 p6 p7:Prop} (h0:p0) (h1:p1) (h2:p2) (h3:p3) (h4:p4) (h5:p5) (h6:p6) (h7:p7):p0∧p1∧p2∧p3∧p4∧p5∧p6∧p7∧True:=⟨h0,h1,h2,h3,h4,h5,h6,h7,trivial⟩
theorem w_9 {p0 p1 p2 p3 p4 p5 p6 p7 p8:Prop} (h0:p0) (h1:p1) (h2:p2) (h3:p3) (h4:p4) (h5:p5) (h6:p6) (h7:p7) (h8:p8):p0∧p1∧p2∧p3∧p4∧p5∧p6∧p7∧p8∧True:=⟨h0,h1,h2,h3,h4,h5,h6,h7,h8,trivial⟩
theorem w_10 {p0 p1 p2 p3 p4 p5 p6 p7 p8 p9:Prop} (h0:p0) (h1:p1) (h2:p2) (h3:p3) (h4:p4) (h5:p5) (h6:p6) (h7:p7) (h8:p8) (h9:p9):p0∧p1∧p2∧p3∧p4∧p5∧p6∧p7∧p8∧p9∧True:=⟨h0,h1,h2,h3,h4,h5,h6,h7,h8,h9,trivial⟩
theorem w_11 {p0 p1 p2 p3 p4 p5 p6 p7 p8 p9 p10:Prop} (h0:p0) (h1:p1) (h2:p2) (h3:p3) (h4:p4) (h5:p5) (h6:p6) (h7:p7) (h8:p8) (h9:p9) (h10:p10):p0∧p1∧p2∧p3∧p4∧p5∧p6∧p7∧p8∧p9∧p10∧True:=⟨h0,h1,h2,h3,h4,h5,h6,h7,h8,h9,h10,trivial⟩
theorem w_12 {p0 p1 p2 p3 p4 p5 p6 p7 p8 p9 p10 p11:Prop} (h0:p0) (h1:p1) (h2:p2) (h3:p3) (h4:p4) (h5:p5) (h6:p6) (h7:p7) (h8:p8) (h9:p9) (h10:p10) (h11:p11):p0∧p1∧p2∧p3∧p4∧p5∧p6∧p7∧p8∧p9∧p10∧p11∧True:=⟨h0,h1,h2,h3,h4,h5,h6,h7,h8,h9,h10,h11,trivial⟩
theorem w_13 {p0 p1 p2 p3 p4 p5 p6 p7 p8 p9 p10 p11 p12:Prop} (h0:p0) (h1:p1) (h2:p2) (h3:p3) (h4:p4) (h5:p5) (h6:p6) (h7:p7) (h8:p8) (h9:p9) (h10:p10) (h11:p11) (h12:p12):p0∧p1∧p2∧p3∧p4∧p5∧p6∧p7∧p8∧p9∧p10∧p11∧p12∧True:=⟨h0,h1,h2,h3,h4,h5,h6,h7,h8,h9,h10,h11,h12,trivial⟩
theorem w_14 {p0 p1 p2 p3 p4 p5 p6 p7 p8 p9 p10 p11 p12 p13:Prop} (h0:p0) (h1:p1) (h2:p2) (h3:p3) (h4:p4) (h5:p5) (h6:p6) (h7:p7) (h8:p8) (h9:p9) (h10:p10) (h11:p11) (h12:p12) (h13:p13):p0∧p1∧p2∧p3∧p4∧p5∧p6∧p7∧p8∧p9∧p10∧p11∧p12∧p13∧True:=⟨h0,h1,h2,h3,h4,h5,h6,h7,h8,h9,h10,h11,h12,h13,trivial⟩
theorem w_15 {p0 p1 p2 p3 p4 p5 p6 p7 p8 p9 p10 p11 p12 p13 p14:Prop} (h0:p0) (h1:p1) (h2:p2) (h3:p3) (h4:p4) (h5:p5) (h6:p6) (h7:p7) (h8:p8) (h9:p9) (h10:p10) (h11:p11) (h12:p12) (h13:p13) (h14:p14):p0∧p1∧p2∧p3∧p4∧p5∧p6∧p7∧p8∧p9∧p10∧p11∧p12∧p13∧p14∧True:=⟨h0,h1,h2,h3,h4,h5,h6,h7,h8,h9,h10,h11,h12,h13,h14,trivial⟩
theorem w_16 {p0 p1 p2 p3 p4 p5 p6 p7 p8 p9 p10 p11 p12 p13 p14 p15:Prop} (h0:p0) (h1:p1) (h2:p2) (h3:p3) (h4:p4) (h5:p5) (h6:p6) (h7:p7) (h8:p8) (h9:p9) (h10:p10) (h11:p11) (h12:p12) (h13:p13) (h14:p14) (h15:p15):p0∧p1∧p2∧p3∧p4∧p5∧p6∧p7∧p8∧p9∧p10∧p11∧p12∧p13∧p14∧p15∧True:=⟨h0,h1,h2,h3,h4,h5,h6,h7,h8,h9,h10,h11,h12,h13,h14,h15,trivial⟩
theorem w_17 {p0 p1 p2 p3 p4 p5 p6 p7 p8 p9 p10 p11 p12 p13 p14 p15 p16:Prop} (h0:p0) (h1:p1) (h2:p2) (h3:p3) (h4:p4) (h5:p5) (h6:p6) (h7:p7) (h8:p8) (h9:p9) (h10:p10) (h11:p11) (h12:p12) (h13:p13) (h14:p14) (h15:p15) (h16:p16):p0∧p1∧p2∧p3∧p4∧p5∧p6∧p7∧p8∧p9∧p10∧p11∧p12∧p13∧p14∧p15∧p16∧True:=⟨h0,h1,h2,h3,h4,h5,h6,h7,h8,h9,h10,h11,h12,h13,h14,h15,h16,trivial⟩
theorem w_18 {p0 p1 p2 p3 p4 p5 p6 p7 p8 p9 p10 p11 p12 p13 p14 p15 p16 p17:Prop} (h0:p0) (h1:p1) (h2:p2) (h3:p3) (h4:p4) (h5:p5) (h6:p6) (h7:p7) (h8:p8) (h9:p9) (h10:p10) (h11:p11) (h12:p12) (h13:p13) (h14:p14) (h15:p15) (h16:p16) (h17:p17):p0∧p1∧p2∧p3∧p4∧p5∧p6∧p7∧p8∧p9∧p10∧p11∧p12∧p13∧p14∧p15∧p16∧p17∧True:=⟨h0,h1,h2,h3,h4,h5,h6,h7,h8,h9,h10,h11,h12,h13,h14,h15,h16,h17,trivial⟩
theorem w_19 {p0 p1 p2 p3 p4 p5 p6 p7 p8 p9 p10 p11 p12 p13 p14 p15 p16 p17 p18:Prop} (h0:p0) (h1:p1) (h2:p2) (h3:p3) (h4:p4) (h5:p5) (h6:p6) (h7:p7) (h8:p8) (h9:p9) (h10:p10) (h11:p11) (h12:p12) (h13:p13) (h14:p14) (h15:p15) (h16:p16) (h17:p17) (h18:p18):p0∧p1∧p2∧p3∧p4∧p5∧p6∧p7∧p8∧p9∧p10∧p11∧p12∧p13∧p14∧p15∧p16∧p17∧p18∧True:=⟨h0,h1,h2,h3,h4,h5,h6,h7,h8,h9,h10,h11,h12,h13,h14,h15,h16,h17,h18,trivial⟩
theorem w_21 {p0 p1 p2 p3 p4 p5 p6 p7 p8 p9 p10 p11 p12 p13 p14 p15 p16 p17 p18 p19 p20:Prop} (h0:p0) (h1:p1) (h2:p2) (h3:p3) (h4:p4) (h5:p5) (h6:p6) (h7:p7) (h8:p8) (h9:p9) (h10:p10) (h11:p11) (h12:p12) (h13:p13) (h14:p14) (h15:p15) (h16:p16) (h17:p17) (h18:p18) (h19:p19) (h20:p20):p0∧p1∧p2∧p3∧p4∧p5∧p6∧p7∧p8∧p9∧p10∧p11∧p12∧p13∧p14∧p15∧p16∧p17∧p18∧p19∧p20∧True:=⟨h0,h1,h2,h3,h4,h5,h6,h7,h8,h9,h10,h11,h12,h13,h14,h15,h16,h17,h18,h19,h20,trivial⟩
theorem w_22 {p0 p1 p2 p3 p4 p5 p6 p7 p8 p9 p10 p11 p12 p13 p14 p15 p16 p17 p18 p19 p20 p21:Prop} (h0:p0) (h1:p1) (h2:p2) (h3:p3) (h4:p4) (h5:p5) (h6:p6) (h7:p7) (h8:p8) (h9:p9) (h10:p10) (h11:p11) (h12:p12) (h13:p13) (h14:p14) (h15:p15) (h16:p16) (h17:p17) (h18:p18) (h19:p19) (h20:p20) (h21:p21):p0∧p1∧p2∧p3∧p4∧p5∧p6∧p7∧p8∧p9∧p10∧p11∧p12∧p13∧p14∧p15∧p16∧p17∧p18∧p19∧p20∧p21∧True:=⟨h0,h1,h2,h3,h4,h5,h6,h7,h8,h9,h10,h11,h12,h13,h14,h15,h16,h17,h18,h19,h20,h21,trivial⟩
theorem w_24 {p0 p1 p2 p3 p4 p5 p6 p7 p8 p9 p10 p11 p12 p13 p14 p15 p16 p17 p18 p19 p20 p21 p22 p23:Prop} (h0:p0) (h1:p1) (h2:p2) (h3:p3) (h4:p4) (h5:p5) (h6:p6) (h7:p7) (h8:p8) (h9:p9) (h10:p10) (h11:p11) (h12:p12) (h13:p13) (h14:p14) (h15:p15) (h16:p16) (h17:p17) (h18:p18) (h19:p19) (h20:p20) (h21:p21) (h22:p22) (h23:p23):p0∧p1∧p2∧p3∧p4∧p5∧p6∧p7∧p8∧p9∧p10∧p11∧p12∧p13∧p14∧p15∧p16∧p17∧p18∧p19∧p20∧p21∧p22∧p23∧True:=⟨h0,h1,h2,h3,h4,h5,h6,h7,h8,h9,h10,h11,h12,h13,h14,h15,h16,h17,h18,h19,h20,h21,h22,h23,trivial⟩
structure Dw (id:Nat) (rs:Nat→AV) (bar cut:List Nat):Prop
theorem w_d (id:Nat) (l:List (Nat × AV)) (bar cut:List Nat):Dw id (Zbr l) bar cut:=⟨⟩
structure Rn (k:Nat):Prop
theorem w_r (k:Nat):Rn k:=⟨⟩
theorem Zgi {P:Program} {n id:Nat} {Q:AE→St→Prop} {st:St} {l:List Oper} {rs:Nat→AV} {bar cut:List Nat} (u:Dw id rs bar cut) (hm:P.follows .mixedOrders=true) (hf:l.all (Zdt n)=true)
 (hlex:Zna l.toArray bar l.length 0 (Array.replicate l.length false)=true) {N:Nat} (hN:l.length=N) (h:Zbh P 0 l rs bar (cutM cut st.mem) N 0 (Q .normal) st):Zav P 0 n (.region id l.toArray true) Q st:=Zas rs bar cut hm hf hlex hN h
structure Dft:Prop
theorem w_y:Dft:=⟨⟩
theorem r_drawE {P:Program} {n id:Nat} {Q:AE→St→Prop} {st:St} {l:List Oper} (u:Dft) (hm:P.follows .mixedOrders=true) (hf:l.all (Zdt n)=true)
 (hlex:Zna l.toArray [] l.length 0 (Array.replicate l.length false)=true) {N:Nat} (hN:l.length=N) (h:Zbh P 0 l (Zbr []) [] (cutM [] st.mem) N 0 (Q .normal) st):Zav P 0 n (.region id l.toArray true) Q st:=Zas (Zbr []) [] [] hm hf hlex hN h
theorem Zkg {P:Program} {n k:Nat} {Q:AE→St→Prop} {st:St} {body:Code} (u:Rn (k+1)) (hf:Zaw n body=true) (h:unr P n body Q (k+1) st):Zav P 0 n (.loop body) Q st:=r_rounds (k+1) hf h
structure Sl (r:Prop):Prop
theorem sl0:Sl True:=⟨⟩
theorem sl1 {r:Prop}:Sl r:=⟨⟩
theorem Zbm {α β:Type} {f:α→β} {l:List α}:(l.map f).length=l.length:=Zyn ..
theorem l_app {α:Type} {l k:List α}:(l++k).length=l.length+k.length:=Zza
theorem l_take {α:Type} {i:Nat} {l:List α}:(l.take i).length=min i l.length:=Zy1
theorem Zgo {α:Type} {l:List α}:l.drop 0=l:=rfl
theorem l_set {α:Type} {l:List α} {i:Nat} {a:α}:(l.set i a).length=l.length:=List.length_set ..
theorem wkap {F C p R0 R1 R2 R3 R4 R5 R6 R7 R8 R9 R10 R11:Prop} {nr:Nat} (hfx:F) (hcx:C) (hnx:Rn nr) (r:Lv R0 (Lv R1 (Lv R2 (Lv R3 (Lv R4 (Lv R5 (Lv R6 (Lv R7 (Lv R8 (Lv R9 (Lv R10 R11)))))))))))
 (h:Fx F→Fx C→Rn nr→Fx R0→Fx R1→Fx R2→Fx R3→Fx R4→Fx R5→Fx R6→Fx R7→Fx R8→Fx R9→Fx R10→Fx R11→Bdy→p∧Sl R0∧Sl R1∧Sl R2∧Sl R3∧Sl R4∧Sl R5∧Sl R6∧Sl R7∧Sl R8∧Sl R9∧Sl R10∧Sl R11:=by
  intro hF hC hN h0 h1 h2 h3 h4 h5 h6 h7 h8 h9 h10 h11 _;refine⟨?_,?_⟩
  focus
   (repeat' (first|(with_reducible first|refine stp ?_|apply gx1|apply gx2|apply gx3|apply gx4|apply gx5|apply gx6|apply gx7|refine gw0 hC.h.1 ?_ ?_|refine gw0 hC.h.2.1 ?_ ?_|refine gw0 hC.h.2.2.1 ?_ ?_|refine gw0 hC.h.2.2.2.1 ?_ ?_|refine gw0 hC.h.2.2.2.2.1 ?_ ?_)|(with_reducible refine Zcg ?_;intro _)|((with_reducible refine gE ?_);(try simp (disch:=omega) only [go_sem,hF.h,Zyo,Zyl,Zyk,Zyj,Int.reduceAdd,Int.reduceSub,Int.reduceToNat,Zyw])<;>first|rfl|omega)|with_reducible refine Zai zd ?_|((with_reducible first|apply Zcs|apply Zcv);all_goals (intro hc;(try simp only [bool_to_prop] at hc);first|done|(exfalso;omega)|(revert hc;intro _)))|((with_reducible apply Zkg hN);(focus rfl))))
   (all_goals repeat' (rename_i zz;first|(have zb:Bdy:=zz;first|exact h0.h|exact h1.h|exact h2.h|exact h3.h|exact h4.h|exact h5.h|exact h6.h|exact h7.h|exact h8.h|exact h9.h|exact h10.h|exact h11.h)|revert zz))
  (repeat' first|refine⟨?_,?_⟩|exact sl0|exact sl1)):p :=
 (h ⟨hfx⟩ ⟨hcx⟩ hnx ⟨r.x⟩ ⟨r.y.x⟩ ⟨r.y.y.x⟩ ⟨r.y.y.y.x⟩ ⟨r.y.y.y.y.x⟩ ⟨r.y.y.y.y.y.x⟩ ⟨r.y.y.y.y.y.y.x⟩ ⟨r.y.y.y.y.y.y.y.x⟩ ⟨r.y.y.y.y.y.y.y.y.x⟩ ⟨r.y.y.y.y.y.y.y.y.y.x⟩ ⟨r.y.y.y.y.y.y.y.y.y.y.x⟩ ⟨r.y.y.y.y.y.y.y.y.y.y.y⟩ ⟨⟩).1
theorem wkad {F C D p R0 R1 R2 R3 R4 R5 R6 R7 R8 R9 R10 R11:Prop} (hfx:F) (hcx:C) (hdx:D) (r:Lv R0 (Lv R1 (Lv R2 (Lv R3 (Lv R4 (Lv R5 (Lv R6 (Lv R7 (Lv R8 (Lv R9 (Lv R10 R11)))))))))))
 (h:Fx F→Fx C→Fx D→Fx R0→Fx R1→Fx R2→Fx R3→Fx R4→Fx R5→Fx R6→Fx R7→Fx R8→Fx R9→Fx R10→Fx R11→Bdy→p∧Sl R0∧Sl R1∧Sl R2∧Sl R3∧Sl R4∧Sl R5∧Sl R6∧Sl R7∧Sl R8∧Sl R9∧Sl R10∧Sl R11:=by
  intro hF hC hD h0 h1 h2 h3 h4 h5 h6 h7 h8 h9 h10 h11 _;refine⟨?_,?_⟩
  focus
   (repeat' (first|(with_reducible first|refine stp ?_|apply gx1|apply gx2|apply gx3|apply gx4|apply gx5|apply gx6|apply gx7|apply gy8|apply gz2|apply gz3|refine gw0 hC.h.1 ?_ ?_|refine gw3 hC.h.1 ?_ ?_ ?_|refine gw0 hC.h.2.1 ?_ ?_|refine gw3 hC.h.2.1 ?_ ?_ ?_|refine gw0 hC.h.2.2.1 ?_ ?_|refine gw3 hC.h.2.2.1 ?_ ?_ ?_|refine gw0 hC.h.2.2.2.1 ?_ ?_|refine gw3 hC.h.2.2.2.1 ?_ ?_ ?_|refine gw0 hC.h.2.2.2.2.1 ?_ ?_|refine gw3 hC.h.2.2.2.2.1 ?_ ?_ ?_|refine gw0 hC.h.2.2.2.2.2.1 ?_ ?_|refine gw3 hC.h.2.2.2.2.2.1 ?_ ?_ ?_|refine gw0 hC.h.2.2.2.2.2.2.1 ?_ ?_|refine gw3 hC.h.2.2.2.2.2.2.1 ?_ ?_ ?_|refine gw0 hC.h.2.2.2.2.2.2.2.1 ?_ ?_|refine gw3 hC.h.2.2.2.2.2.2.2.1 ?_ ?_ ?_|refine gw0 hC.h.2.2.2.2.2.2.2.2.1 ?_ ?_|refine gw3 hC.h.2.2.2.2.2.2.2.2.1 ?_ ?_ ?_)|(with_reducible refine Zcg ?_;intro _)|((with_reducible refine gE ?_);(try simp (disch:=omega) only [go_sem,hF.h,Zyo,Zyl,Zyk,Zyj,Int.reduceAdd,Int.reduceSub,Int.reduceToNat,Zyw])<;>first|rfl|omega)|with_reducible refine Zai zd ?_|((with_reducible apply gy1);iterate 3 focus rfl)|((with_reducible apply gy2);iterate 3 focus rfl)|((with_reducible apply gy3);iterate 2 focus rfl)|((with_reducible apply gy4);iterate 1 focus rfl)|((with_reducible apply gy5);iterate 4 focus rfl)|((with_reducible apply gy5c);iterate 4 focus rfl)|((with_reducible apply gy6);iterate 4 focus rfl)|((with_reducible apply Zfy);iterate 3 focus rfl)|((with_reducible apply Zfr);iterate 1 focus rfl)|((with_reducible apply gy7);iterate 1 focus rfl)|((with_reducible apply gy9);(focus ((with_reducible refine gE ?_);(try simp (disch:=omega) only [go_sem,hF.h,Zyo,Zyl,Zyk,Zyj,Int.reduceAdd,Int.reduceSub,Int.reduceToNat,Zyw])<;>rfl)))|((with_reducible apply gz1);(focus first|rfl|(simp (disch:=omega) only [go_sem,hF.h,Zyo,Zyl,Zyk,Zyj,Int.reduceAdd,Int.reduceSub,Int.reduceToNat,Zyw];done)))|((with_reducible apply Zgi hD.h.1);(focus kernel_rfl);(focus rfl);(focus kernel_rfl);(focus (simp only [Zyx,Zy0,Nat.reduceAdd];rfl)))|((with_reducible apply Zgi hD.h.2.1);(focus kernel_rfl);(focus rfl);(focus kernel_rfl);(focus (simp only [Zyx,Zy0,Nat.reduceAdd];rfl)))|((with_reducible apply Zas (Zbr []) [] []);(focus kernel_rfl);(focus rfl);(focus kernel_rfl);(focus (simp only [Zyx,Zy0,Nat.reduceAdd];rfl)))|((with_reducible first|apply Zcs|apply Zc8|apply Zcv);all_goals (intro hc;(try simp only [bool_to_prop] at hc);first|done|(exfalso;omega)|(revert hc;intro _)))))
   (all_goals repeat' (rename_i zz;first|(have zb:Bdy:=zz;first|exact h0.h|exact h1.h|exact h2.h|exact h3.h|exact h4.h|exact h5.h|exact h6.h|exact h7.h|exact h8.h|exact h9.h|exact h10.h|exact h11.h)|revert zz))
  (repeat' first|refine⟨?_,?_⟩|exact sl0|exact sl1)):p :=
 (h ⟨hfx⟩ ⟨hcx⟩ ⟨hdx⟩ ⟨r.x⟩ ⟨r.y.x⟩ ⟨r.y.y.x⟩ ⟨r.y.y.y.x⟩ ⟨r.y.y.y.y.x⟩ ⟨r.y.y.y.y.y.x⟩ ⟨r.y.y.y.y.y.y.x⟩ ⟨r.y.y.y.y.y.y.y.x⟩ ⟨r.y.y.y.y.y.y.y.y.x⟩ ⟨r.y.y.y.y.y.y.y.y.y.x⟩ ⟨r.y.y.y.y.y.y.y.y.y.y.x⟩ ⟨r.y.y.y.y.y.y.y.y.y.y.y⟩ ⟨⟩).1
theorem wkax {F C D B S Rd E p R0 R1 R2 R3 R4 R5 R6 R7 R8 R9 R10 R11:Prop} {nr:Nat} (hfx:F) (hcx:C) (hdx:D) (hbx:B) (hsx:S) (hrx:Rd) (hex:E) (hnx:Rn nr) (r:Lv R0 (Lv R1 (Lv R2 (Lv R3 (Lv R4 (Lv R5 (Lv R6 (Lv R7 (Lv R8 (Lv R9 (Lv R10 R11)))))))))))
 (h:Fx F→Fx C→Fx D→Fx B→Fx S→Fx Rd→Fx E→Rn nr→Fx R0→Fx R1→Fx R2→Fx R3→Fx R4→Fx R5→Fx R6→Fx R7→Fx R8→Fx R9→Fx R10→Fx R11→Bdy→p∧Sl R0∧Sl R1∧Sl R2∧Sl R3∧Sl R4∧Sl R5∧Sl R6∧Sl R7∧Sl R8∧Sl R9∧Sl R10∧Sl R11:=by
  intro hF hC hD hB hS hR hE hN h0 h1 h2 h3 h4 h5 h6 h7 h8 h9 h10 h11 _;refine⟨?_,?_⟩
  focus
   (repeat' (first|(with_reducible first|refine stp ?_|apply gx1|apply gx2|apply gx3|apply gx4|apply gx5|apply gx6|apply gx7|apply gy8|apply gz2|apply gz3|refine gw0 hC.h.1 ?_ ?_|refine gw3 hC.h.1 ?_ ?_ ?_|refine gw0 hC.h.2.1 ?_ ?_|refine gw3 hC.h.2.1 ?_ ?_ ?_|refine gw0 hC.h.2.2.1 ?_ ?_|refine gw3 hC.h.2.2.1 ?_ ?_ ?_|refine gw0 hC.h.2.2.2.1 ?_ ?_|refine gw3 hC.h.2.2.2.1 ?_ ?_ ?_|refine gw0 hC.h.2.2.2.2.1 ?_ ?_|refine gw3 hC.h.2.2.2.2.1 ?_ ?_ ?_|refine gw0 hC.h.2.2.2.2.2.1 ?_ ?_|refine gw3 hC.h.2.2.2.2.2.1 ?_ ?_ ?_|refine gw0 hC.h.2.2.2.2.2.2.1 ?_ ?_|refine gw3 hC.h.2.2.2.2.2.2.1 ?_ ?_ ?_|refine gw0 hC.h.2.2.2.2.2.2.2.1 ?_ ?_|refine gw3 hC.h.2.2.2.2.2.2.2.1 ?_ ?_ ?_|refine gw0 hC.h.2.2.2.2.2.2.2.2.1 ?_ ?_|refine gw3 hC.h.2.2.2.2.2.2.2.2.1 ?_ ?_ ?_|refine gw0 hC.h.2.2.2.2.2.2.2.2.2.1 ?_ ?_|refine gw3 hC.h.2.2.2.2.2.2.2.2.2.1 ?_ ?_ ?_|refine gw0 hC.h.2.2.2.2.2.2.2.2.2.2.1 ?_ ?_|refine gw3 hC.h.2.2.2.2.2.2.2.2.2.2.1 ?_ ?_ ?_|refine gw0 hC.h.2.2.2.2.2.2.2.2.2.2.2.1 ?_ ?_|refine gw3 hC.h.2.2.2.2.2.2.2.2.2.2.2.1 ?_ ?_ ?_|apply gw1 hB.h.1|apply gw1 hB.h.2.1|apply gw1 hB.h.2.2.1|refine gwr hR.h.1 ?_ ?_|refine gwr hR.h.2.1 ?_ ?_|refine gwr hR.h.2.2.1 ?_ ?_|refine gwr hR.h.2.2.2.1 ?_ ?_)|((with_reducible apply gw1 hS.h.2.2.2.2.2.2.2.1);iterate 4 focus ((with_reducible refine gE ?_);(try simp (disch:=omega) only [go_sem,hF.h,Zyo,Zyl,Zyk,Zyj,Int.reduceAdd,Int.reduceSub,Int.reduceToNat,Zyw])<;>first|rfl|done))|((with_reducible apply gw1 hS.h.2.2.2.2.2.2.1);iterate 4 focus ((with_reducible refine gE ?_);(try simp (disch:=omega) only [go_sem,hF.h,Zyo,Zyl,Zyk,Zyj,Int.reduceAdd,Int.reduceSub,Int.reduceToNat,Zyw])<;>first|rfl|done))|((with_reducible apply gw1 hS.h.2.2.2.2.2.1);iterate 4 focus ((with_reducible refine gE ?_);(try simp (disch:=omega) only [go_sem,hF.h,Zyo,Zyl,Zyk,Zyj,Int.reduceAdd,Int.reduceSub,Int.reduceToNat,Zyw])<;>first|rfl|done))|((with_reducible apply gw1 hS.h.2.2.2.2.1);iterate 4 focus ((with_reducible refine gE ?_);(try simp (disch:=omega) only [go_sem,hF.h,Zyo,Zyl,Zyk,Zyj,Int.reduceAdd,Int.reduceSub,Int.reduceToNat,Zyw])<;>first|rfl|done))|((with_reducible apply gw1 hS.h.2.2.2.1);iterate 4 focus ((with_reducible refine gE ?_);(try simp (disch:=omega) only [go_sem,hF.h,Zyo,Zyl,Zyk,Zyj,Int.reduceAdd,Int.reduceSub,Int.reduceToNat,Zyw])<;>first|rfl|done))|((with_reducible apply gw1 hS.h.2.2.1);iterate 4 focus ((with_reducible refine gE ?_);(try simp (disch:=omega) only [go_sem,hF.h,Zyo,Zyl,Zyk,Zyj,Int.reduceAdd,Int.reduceSub,Int.reduceToNat,Zyw])<;>first|rfl|done))|((with_reducible apply gw1 hS.h.2.1);iterate 4 focus ((with_reducible refine gE ?_);(try simp (disch:=omega) only [go_sem,hF.h,Zyo,Zyl,Zyk,Zyj,Int.reduceAdd,Int.reduceSub,Int.reduceToNat,Zyw])<;>first|rfl|done))|((with_reducible apply gw1 hS.h.1);iterate 4 focus ((with_reducible refine gE ?_);(try simp (disch:=omega) only [go_sem,hF.h,Zyo,Zyl,Zyk,Zyj,Int.reduceAdd,Int.reduceSub,Int.reduceToNat,Zyw])<;>first|rfl|done))|((with_reducible apply gyr hR.h.2.2.2.1);(focus rfl);(focus rfl);iterate 3 focus ((with_reducible refine gE ?_);(try simp (disch:=omega) only [go_sem,hF.h,Zyo,Zyl,Zyk,Zyj,Int.reduceAdd,Int.reduceSub,Int.reduceToNat,Zyw])<;>first|rfl|done))|((with_reducible apply gyr hR.h.2.2.1);(focus rfl);(focus rfl);iterate 3 focus ((with_reducible refine gE ?_);(try simp (disch:=omega) only [go_sem,hF.h,Zyo,Zyl,Zyk,Zyj,Int.reduceAdd,Int.reduceSub,Int.reduceToNat,Zyw])<;>first|rfl|done))|((with_reducible apply gyr hR.h.2.1);(focus rfl);(focus rfl);iterate 3 focus ((with_reducible refine gE ?_);(try simp (disch:=omega) only [go_sem,hF.h,Zyo,Zyl,Zyk,Zyj,Int.reduceAdd,Int.reduceSub,Int.reduceToNat,Zyw])<;>first|rfl|done))|((with_reducible apply gyr hR.h.1);(focus rfl);(focus rfl);iterate 3 focus ((with_reducible refine gE ?_);(try simp (disch:=omega) only [go_sem,hF.h,Zyo,Zyl,Zyk,Zyj,Int.reduceAdd,Int.reduceSub,Int.reduceToNat,Zyw])<;>first|rfl|done))|(with_reducible refine Zcg ?_;intro _)|((with_reducible refine gE ?_);(try simp (disch:=omega) only [go_sem,hF.h,Zyo,Zyl,Zyk,Zyj,Int.reduceAdd,Int.reduceSub,Int.reduceToNat,Zyw])<;>first|rfl|omega)|with_reducible refine Zai zd ?_|((with_reducible apply gy1);iterate 3 focus rfl)|((with_reducible apply gy2);iterate 3 focus rfl)|((with_reducible apply gy3);iterate 2 focus rfl)|((with_reducible apply gy4);iterate 1 focus rfl)|((with_reducible apply gy5);iterate 4 focus rfl)|((with_reducible apply gy5c);iterate 4 focus rfl)|((with_reducible apply gy6);iterate 4 focus rfl)|((with_reducible apply Zfy);iterate 3 focus rfl)|((with_reducible apply Zfr);iterate 1 focus rfl)|((with_reducible apply gy7);iterate 1 focus rfl)|((with_reducible apply gy9);(focus ((with_reducible refine gE ?_);(try simp (disch:=omega) only [go_sem,hF.h,Zyo,Zyl,Zyk,Zyj,Int.reduceAdd,Int.reduceSub,Int.reduceToNat,Zyw])<;>rfl)))|((with_reducible apply gz1);(focus first|rfl|(simp (disch:=omega) only [go_sem,hF.h,Zyo,Zyl,Zyk,Zyj,Int.reduceAdd,Int.reduceSub,Int.reduceToNat,Zyw];done)))|((with_reducible apply Zgi hD.h.1);(focus kernel_rfl);(focus rfl);(focus kernel_rfl);(focus (simp only [Zyx,Zy0,Nat.reduceAdd];rfl)))|((with_reducible apply Zgi hD.h.2.1);(focus kernel_rfl);(focus rfl);(focus kernel_rfl);(focus (simp only [Zyx,Zy0,Nat.reduceAdd];rfl)))|((with_reducible apply Zgi hD.h.2.2.1);(focus kernel_rfl);(focus rfl);(focus kernel_rfl);(focus (simp only [Zyx,Zy0,Nat.reduceAdd];rfl)))|((with_reducible apply Zgi hD.h.2.2.2.1);(focus kernel_rfl);(focus rfl);(focus kernel_rfl);(focus (simp only [Zyx,Zy0,Nat.reduceAdd];rfl)))|((with_reducible apply r_drawE hE.h);(focus kernel_rfl);(focus rfl);(focus kernel_rfl);(focus (simp only [Zyx,Zy0,Nat.reduceAdd];rfl)))|((with_reducible first|apply Zcs|apply Zc8|apply Zcv);all_goals (intro hc;(try simp only [bool_to_prop] at hc);first|done|(exfalso;omega)|(revert hc;intro _)))|((with_reducible apply Zkg hN);(focus rfl))|((with_reducible apply gy5d);iterate 4 focus rfl)))
   (all_goals repeat' (rename_i zz;first|(have zb:Bdy:=zz;first|exact h0.h|exact h1.h|exact h2.h|exact h3.h|exact h4.h|exact h5.h|exact h6.h|exact h7.h|exact h8.h|exact h9.h|exact h10.h|exact h11.h)|revert zz))
  (repeat' first|refine⟨?_,?_⟩|exact sl0|exact sl1)):p :=
 (h ⟨hfx⟩ ⟨hcx⟩ ⟨hdx⟩ ⟨hbx⟩ ⟨hsx⟩ ⟨hrx⟩ ⟨hex⟩ hnx ⟨r.x⟩ ⟨r.y.x⟩ ⟨r.y.y.x⟩ ⟨r.y.y.y.x⟩ ⟨r.y.y.y.y.x⟩ ⟨r.y.y.y.y.y.x⟩ ⟨r.y.y.y.y.y.y.x⟩ ⟨r.y.y.y.y.y.y.y.x⟩ ⟨r.y.y.y.y.y.y.y.y.x⟩ ⟨r.y.y.y.y.y.y.y.y.y.x⟩ ⟨r.y.y.y.y.y.y.y.y.y.y.x⟩ ⟨r.y.y.y.y.y.y.y.y.y.y.y⟩ ⟨⟩).1
theorem wklp {F C L p R0 R1 R2 R3 R4 R5 R6 R7 R8 R9 R10 R11:Prop} {nr:Nat} (hfx:F) (hcx:C) (hlx:L) (hnx:Rn nr) (r:Lv R0 (Lv R1 (Lv R2 (Lv R3 (Lv R4 (Lv R5 (Lv R6 (Lv R7 (Lv R8 (Lv R9 (Lv R10 R11)))))))))))
 (h:Fx F→Fx C→Fx L→Rn nr→Fx R0→Fx R1→Fx R2→Fx R3→Fx R4→Fx R5→Fx R6→Fx R7→Fx R8→Fx R9→Fx R10→Fx R11→Bdy→p∧Sl R0∧Sl R1∧Sl R2∧Sl R3∧Sl R4∧Sl R5∧Sl R6∧Sl R7∧Sl R8∧Sl R9∧Sl R10∧Sl R11:=by
  intro hF hC hL hN h0 h1 h2 h3 h4 h5 h6 h7 h8 h9 h10 h11 _;refine⟨?_,?_⟩
  focus
   (repeat' (first|(with_reducible first|refine stp ?_|apply gx1|apply gx2|apply gx3|apply gx4|apply gx5|apply gx6|apply gx7|refine gw0 hC.h.1 ?_ ?_|refine gw0 hC.h.2.1 ?_ ?_|refine gw0 hC.h.2.2.1 ?_ ?_|refine gw0 hC.h.2.2.2.1 ?_ ?_|refine gw0 hC.h.2.2.2.2.1 ?_ ?_)|(with_reducible refine Zcg ?_;intro _)|((with_reducible refine gE ?_);(try simp (disch:=omega) only [go_sem,hF.h,Zyo,Zyl,Zyk,Zyj,Int.reduceAdd,Int.reduceSub,Int.reduceToNat,Zyw])<;>first|rfl|omega)|with_reducible refine Zai zd ?_|((with_reducible first|apply Zcs|apply Zcv);all_goals (intro hc;(try simp only [bool_to_prop] at hc);first|done|(exfalso;omega)|(revert hc;intro _)))|((with_reducible apply Zkg hN);(focus rfl))))
   (all_goals (try simp (disch:=omega) only [go_sem,hL.h,Zyo,Zyl,Zyk,Zyj,Int.reduceAdd,Int.reduceSub,Int.reduceToNat,Zyw]));(all_goals first|done|rfl|(congr 2;first|done|omega|(rw [Zzg];simp only [bool_to_prop,Zyy,Zzn,Zzo,Zzp,Zzq];omega))|skip)
   (all_goals repeat' (rename_i zz;first|(have zb:Bdy:=zz;first|exact h0.h|exact h1.h|exact h2.h|exact h3.h|exact h4.h|exact h5.h|exact h6.h|exact h7.h|exact h8.h|exact h9.h|exact h10.h|exact h11.h)|revert zz))
  (repeat' first|refine⟨?_,?_⟩|exact sl0|exact sl1)):p :=
 (h ⟨hfx⟩ ⟨hcx⟩ ⟨hlx⟩ hnx ⟨r.x⟩ ⟨r.y.x⟩ ⟨r.y.y.x⟩ ⟨r.y.y.y.x⟩ ⟨r.y.y.y.y.x⟩ ⟨r.y.y.y.y.y.x⟩ ⟨r.y.y.y.y.y.y.x⟩ ⟨r.y.y.y.y.y.y.y.x⟩ ⟨r.y.y.y.y.y.y.y.y.x⟩ ⟨r.y.y.y.y.y.y.y.y.y.x⟩ ⟨r.y.y.y.y.y.y.y.y.y.y.x⟩ ⟨r.y.y.y.y.y.y.y.y.y.y.y⟩ ⟨⟩).1
theorem wkld {F C L D p R0 R1 R2 R3 R4 R5 R6 R7 R8 R9 R10 R11:Prop} (hfx:F) (hcx:C) (hlx:L) (hdx:D) (r:Lv R0 (Lv R1 (Lv R2 (Lv R3 (Lv R4 (Lv R5 (Lv R6 (Lv R7 (Lv R8 (Lv R9 (Lv R10 R11)))))))))))
 (h:Fx F→Fx C→Fx L→Fx D→Fx R0→Fx R1→Fx R2→Fx R3→Fx R4→Fx R5→Fx R6→Fx R7→Fx R8→Fx R9→Fx R10→Fx R11→Bdy→p∧Sl R0∧Sl R1∧Sl R2∧Sl R3∧Sl R4∧Sl R5∧Sl R6∧Sl R7∧Sl R8∧Sl R9∧Sl R10∧Sl R11:=by
  intro hF hC hL hD h0 h1 h2 h3 h4 h5 h6 h7 h8 h9 h10 h11 _;refine⟨?_,?_⟩
  focus
   (repeat' (first|(with_reducible first|refine stp ?_|apply gx1|apply gx2|apply gx3|apply gx4|apply gx5|apply gx6|apply gx7|apply gy8|apply gz2|apply gz3|refine gw0 hC.h.1 ?_ ?_|refine gw3 hC.h.1 ?_ ?_ ?_|refine gw0 hC.h.2.1 ?_ ?_|refine gw3 hC.h.2.1 ?_ ?_ ?_|refine gw0 hC.h.2.2.1 ?_ ?_|refine gw3 hC.h.2.2.1 ?_ ?_ ?_|refine gw0 hC.h.2.2.2.1 ?_ ?_|refine gw3 hC.h.2.2.2.1 ?_ ?_ ?_|refine gw0 hC.h.2.2.2.2.1 ?_ ?_|refine gw3 hC.h.2.2.2.2.1 ?_ ?_ ?_|refine gw0 hC.h.2.2.2.2.2.1 ?_ ?_|refine gw3 hC.h.2.2.2.2.2.1 ?_ ?_ ?_|refine gw0 hC.h.2.2.2.2.2.2.1 ?_ ?_|refine gw3 hC.h.2.2.2.2.2.2.1 ?_ ?_ ?_|refine gw0 hC.h.2.2.2.2.2.2.2.1 ?_ ?_|refine gw3 hC.h.2.2.2.2.2.2.2.1 ?_ ?_ ?_|refine gw0 hC.h.2.2.2.2.2.2.2.2.1 ?_ ?_|refine gw3 hC.h.2.2.2.2.2.2.2.2.1 ?_ ?_ ?_)|(with_reducible refine Zcg ?_;intro _)|((with_reducible refine gE ?_);(try simp (disch:=omega) only [go_sem,hF.h,Zyo,Zyl,Zyk,Zyj,Int.reduceAdd,Int.reduceSub,Int.reduceToNat,Zyw])<;>first|rfl|omega)|with_reducible refine Zai zd ?_|((with_reducible apply gy1);iterate 3 focus rfl)|((with_reducible apply gy2);iterate 3 focus rfl)|((with_reducible apply gy3);iterate 2 focus rfl)|((with_reducible apply gy4);iterate 1 focus rfl)|((with_reducible apply gy5);iterate 4 focus rfl)|((with_reducible apply gy5c);iterate 4 focus rfl)|((with_reducible apply gy6);iterate 4 focus rfl)|((with_reducible apply Zfy);iterate 3 focus rfl)|((with_reducible apply Zfr);iterate 1 focus rfl)|((with_reducible apply gy7);iterate 1 focus rfl)|((with_reducible apply gy9);(focus ((with_reducible refine gE ?_);(try simp (disch:=omega) only [go_sem,hF.h,Zyo,Zyl,Zyk,Zyj,Int.reduceAdd,Int.reduceSub,Int.reduceToNat,Zyw])<;>rfl)))|((with_reducible apply gz1);(focus first|rfl|(simp (disch:=omega) only [go_sem,hF.h,Zyo,Zyl,Zyk,Zyj,Int.reduceAdd,Int.reduceSub,Int.reduceToNat,Zyw];done)))|((with_reducible apply Zgi hD.h.1);(focus kernel_rfl);(focus rfl);(focus kernel_rfl);(focus (simp only [Zyx,Zy0,Nat.reduceAdd];rfl)))|((with_reducible apply Zgi hD.h.2.1);(focus kernel_rfl);(focus rfl);(focus kernel_rfl);(focus (simp only [Zyx,Zy0,Nat.reduceAdd];rfl)))|((with_reducible apply Zas (Zbr []) [] []);(focus kernel_rfl);(focus rfl);(focus kernel_rfl);(focus (simp only [Zyx,Zy0,Nat.reduceAdd];rfl)))|((with_reducible first|apply Zcs|apply Zc8|apply Zcv);all_goals (intro hc;(try simp only [bool_to_prop] at hc);first|done|(exfalso;omega)|(revert hc;intro _)))))
   (all_goals (try simp (disch:=omega) only [go_sem,hL.h,Zyo,Zyl,Zyk,Zyj,Int.reduceAdd,Int.reduceSub,Int.reduceToNat,Zyw]));(all_goals first|done|rfl|(congr 2;first|done|omega|(rw [Zzg];simp only [bool_to_prop,Zyy,Zzn,Zzo,Zzp,Zzq];omega))|skip)
   (all_goals repeat' (rename_i zz;first|(have zb:Bdy:=zz;first|exact h0.h|exact h1.h|exact h2.h|exact h3.h|exact h4.h|exact h5.h|exact h6.h|exact h7.h|exact h8.h|exact h9.h|exact h10.h|exact h11.h)|revert zz))
  (repeat' first|refine⟨?_,?_⟩|exact sl0|exact sl1)):p :=
 (h ⟨hfx⟩ ⟨hcx⟩ ⟨hlx⟩ ⟨hdx⟩ ⟨r.x⟩ ⟨r.y.x⟩ ⟨r.y.y.x⟩ ⟨r.y.y.y.x⟩ ⟨r.y.y.y.y.x⟩ ⟨r.y.y.y.y.y.x⟩ ⟨r.y.y.y.y.y.y.x⟩ ⟨r.y.y.y.y.y.y.y.x⟩ ⟨r.y.y.y.y.y.y.y.y.x⟩ ⟨r.y.y.y.y.y.y.y.y.y.x⟩ ⟨r.y.y.y.y.y.y.y.y.y.y.x⟩ ⟨r.y.y.y.y.y.y.y.y.y.y.y⟩ ⟨⟩).1
theorem wkvp {F C p R0 R1 R2 R3 R4 R5 R6 R7 R8 R9 R10 R11:Prop} (hfx:F) (hcx:C) (r:Lv R0 (Lv R1 (Lv R2 (Lv R3 (Lv R4 (Lv R5 (Lv R6 (Lv R7 (Lv R8 (Lv R9 (Lv R10 R11)))))))))))
 (h:Fx F→Fx C→Fx R0→Fx R1→Fx R2→Fx R3→Fx R4→Fx R5→Fx R6→Fx R7→Fx R8→Fx R9→Fx R10→Fx R11→Bdy→p∧Sl R0∧Sl R1∧Sl R2∧Sl R3∧Sl R4∧Sl R5∧Sl R6∧Sl R7∧Sl R8∧Sl R9∧Sl R10∧Sl R11:=by
  intro hF hC h0 h1 h2 h3 h4 h5 h6 h7 h8 h9 h10 h11 _;refine⟨?_,?_⟩
  focus
   (repeat' (first|(with_reducible first|refine stp ?_|apply gx1|apply gx2|apply gx3|apply gx4|apply gx5|apply gx6|apply gx7|refine gw0 hC.h.1 ?_ ?_|refine gw0 hC.h.2.1 ?_ ?_|refine gw0 hC.h.2.2.1 ?_ ?_|refine gw0 hC.h.2.2.2.1 ?_ ?_|refine gw0 hC.h.2.2.2.2.1 ?_ ?_)|(with_reducible refine Zcg ?_;intro _)|((with_reducible refine gE ?_);(try simp (disch:=omega) only [go_sem,hF.h])<;>first|rfl|omega)|with_reducible refine Zai zd ?_))
   (all_goals repeat' (rename_i zz;first|(have zb:Bdy:=zz;first|exact h0.h|exact h1.h|exact h2.h|exact h3.h|exact h4.h|exact h5.h|exact h6.h|exact h7.h|exact h8.h|exact h9.h|exact h10.h|exact h11.h)|revert zz))
  (repeat' first|refine⟨?_,?_⟩|exact sl0|exact sl1)):p :=
 (h ⟨hfx⟩ ⟨hcx⟩ ⟨r.x⟩ ⟨r.y.x⟩ ⟨r.y.y.x⟩ ⟨r.y.y.y.x⟩ ⟨r.y.y.y.y.x⟩ ⟨r.y.y.y.y.y.x⟩ ⟨r.y.y.y.y.y.y.x⟩ ⟨r.y.y.y.y.y.y.y.x⟩ ⟨r.y.y.y.y.y.y.y.y.x⟩ ⟨r.y.y.y.y.y.y.y.y.y.x⟩ ⟨r.y.y.y.y.y.y.y.y.y.y.x⟩ ⟨r.y.y.y.y.y.y.y.y.y.y.y⟩ ⟨⟩).1
theorem gM {F p:Prop} (f:F) (h:Fx F→p:=by
 intro hL
 (all_goals (try simp (disch:=omega) only [go_sem,hL.h,Zyo,Zyl,Zyk,Zyj,Int.reduceAdd,Int.reduceSub,Int.reduceToNat,Zyw]));(all_goals first|done|rfl|(congr 2;first|done|omega|(rw [Zzg];simp only [bool_to_prop,Zyy,Zzn,Zzo,Zzp,Zzq];omega)))):p:=h ⟨f⟩
theorem w_s {a:Prop} (x:a):Lv a (Lv True (Lv True (Lv True (Lv True (Lv True (Lv True (Lv True (Lv True (Lv True (Lv True (True))))))))))):=⟨x,⟨trivial,⟨trivial,⟨trivial,⟨trivial,⟨trivial,⟨trivial,⟨trivial,⟨trivial,⟨trivial,⟨trivial,trivial⟩⟩⟩⟩⟩⟩⟩⟩⟩⟩⟩
theorem w_z:Lv True (Lv True (Lv True (Lv True (Lv True (Lv True (Lv True (Lv True (Lv True (Lv True (Lv True (True))))))))))):=w_s trivial
end Go.Pg
namespace Go.Pg
open Go Go.RowKit
def nv:List Nat→Nat
 | []=>0
 | x :: l=>x+65536*nv l
def Lm (l:List Nat):Prop:=∀x∈l,x < 65536
def toL (n:Nat):List Nat:=if h:n=0 then [] else n%65536 :: toL (n/65536)
termination_by n
decreasing_by omega
def u16s (l:List Nat):List AV:=l.map λn:Nat=>.v (.int .u16 (n:Int))
abbrev lim (l:List Nat):AV:=.sl 1 (u16s l)
def gN (l:List Nat) (k:Nat):Nat:=l.getD k 0
theorem Zau:toL 0=[]:=by rw [toL];rfl
theorem Zeu {n:Nat} (h:n≠0):toL n=n%65536 :: toL (n/65536):=by rw [toL,dif_neg h]
theorem Zam (n:Nat):nv (toL n)=n:=by
 induction n using Nat.strongRecOn with
 | _ n ih =>
   by_cases h:n=0
   ·subst h;rw [Zau];rfl
   ·rw [Zeu h,nv,ih (n/65536) zo];omega
theorem Zan (n:Nat):Lm (toL n):=by
 induction n using Nat.strongRecOn with
 | _ n ih =>
   by_cases h:n=0
   ·subst h;rw [Zau];intro x hx;cases hx
   ·rw [Zeu h];intro x hx;rcases List.mem_cons.1 hx with rfl | hx
    ·omega
    ·exact ih (n/65536) zo x hx
theorem Lm.tail {x:Nat} {l:List Nat} (h:Lm (x :: l)):Lm l:=λy hy=>h y (ZAd _ hy)
theorem Lm.head {x:Nat} {l:List Nat} (h:Lm (x :: l)):x < 65536:=h x (Zzw ..)
theorem Lm.take {l:List Nat} (h:Lm l) (k:Nat):Lm (l.take k):=λy hy=>h y (Zzy hy)
theorem Lm.drop {l:List Nat} (h:Lm l) (k:Nat):Lm (l.drop k):=λy hy=>h y (ZA2 hy)
theorem Lm.append {a b:List Nat} (ha:Lm a) (hb:Lm b):Lm (a++b):=λy hy=>(List.mem_append.1 hy).elim (ha y) (hb y)
theorem Lm.nil:Lm []:=λx hx=>by cases hx
theorem Lm.one {x:Nat} (h:x < 65536):Lm [x]:=λy hy=>by simp at hy;omega
theorem Lm.zeros (n:Nat):Lm (List.replicate n 0):=λy hy=>by have:=ZBj hy;omega
theorem Zbn {l:List Nat} (h:Lm l) (k:Nat):gN l k < 65536:=by
 unfold gN;rw [Zyu];rcases Zy5 k l.length with hk | hk
 ·rw [Zym hk];exact h _ (Zy6 _)
 ·rw [Zz1 hk];simp
theorem gN_at {l:List Nat} {k:Nat} (h:k < l.length):gN l k=l[k]:=by unfold gN;rw [Zyu,Zym h];rfl
theorem Zei {l:List Nat} {k:Nat} (h:l.length≤k):gN l k=0:=by unfold gN;rw [Zyu,Zz1 h];rfl
theorem Za4 (l:List Nat):(u16s l).length=l.length:=by simp [u16s]
theorem u16s_get {l:List Nat} {k:Nat} (h:k < l.length):(u16s l).getD k .u=.v (.int .u16 (gN l k:Int)):=Zsk h
theorem Zuu (l:List Nat) (k:Nat):(u16s l).take k=u16s (l.take k):=by simp [u16s,List.map_take]
theorem Zuw (l:List Nat) (k:Nat):(u16s l).drop k=u16s (l.drop k):=by simp [u16s,List.map_drop]
theorem u16s_set (l:List Nat) (k x:Nat):(u16s l).set k (.v (.int .u16 (x:Int)))=u16s (l.set k x):=by simp [u16s,List.map_set]
theorem u16s_app (a b:List Nat):u16s a++u16s b=u16s (a++b):=by simp [u16s]
theorem Zuv (a:List Nat) (x:Nat):u16s a++[.v (.int .u16 (x:Int))]=u16s (a++[x]):=by simp [u16s]
theorem u16s_rep (n:Nat):List.replicate n (AV.v (.int .u16 0))=u16s (List.replicate n 0):=by simp [u16s,List.map_replicate]
theorem Zre:u16s []=[]:=rfl
theorem Zgp {x:Nat} {l:List Nat}:gN (x :: l) 0=x:=rfl
theorem Zfg {x k:Nat} {l:List Nat}:gN (x :: l) (k+1)=gN l k:=rfl
theorem Zdp (a b:List Nat):nv (a++b)=nv a+65536 ^ a.length*nv b:=by
 induction a with
 | nil=>simp [nv]
 | cons x a ih=>simp only [ZBl,nv,ih,Zyx,ZAh];grind
theorem Zhd {l:List Nat} (h:Lm l):nv l < 65536 ^ l.length:=by
 induction l with
 | nil=>simp [nv]
 | cons x l ih =>
   have h1:=ih h.tail;have h2:=h.head;simp only [nv,Zyx,ZAh];generalize 65536 ^ l.length=p at *;omega
theorem Zm2 (n:Nat):nv (List.replicate n 0)=0:=by
 induction n with
 | zero=>rfl
 | succ n ih=>simp [List.replicate_succ,nv,ih]
theorem Zbt (l:List Nat) (k:Nat):nv l=nv (l.take k)+65536 ^ k*nv (l.drop k):=by
 rcases Zy5 l.length k with h | h
 ·rw [ZAl zo,Zz6 zo];simp [nv]
 ·have:=Zdp (l.take k) (l.drop k);rw [ZAw,Zy1,ZAk h] at this;exact this
theorem Zar (l:List Nat) (k:Nat):nv (l.take (k+1))=nv (l.take k)+65536 ^ k*gN l k:=by
 rcases Zy5 k l.length with h | h
 ·rw [ZBx h,Zdp,Zy1,ZAk zo,gN_at h];simp [nv]
 ·rw [ZAl zo,ZAl zo,Zei h];simp
theorem Zbx (l:List Nat) (k:Nat):nv (l.drop k)=gN l k+65536*nv (l.drop (k+1)):=by
 rcases Zy5 k l.length with h | h
 ·rw [ZBm h,nv,gN_at h]
 ·rw [Zz6 h,Zz6 zo,Zei h];rfl
theorem nv_pos {l:List Nat} {k:Nat} (h:0 < gN l k):0 < nv l:=by
 induction l generalizing k with
 | nil=>simp [gN] at h
 | cons x l ih =>
   cases k with
   | zero=>simp only [Zgp] at h;simp only [nv];omega
   | succ k=>rw [Zfg] at h;have:=ih h;simp only [nv];omega
theorem canon {l:List Nat} (h:Lm l) (hc:l=[]∨0 < gN l (l.length - 1)):l=toL (nv l):=by
 induction l with
 | nil=>simp [nv,Zau]
 | cons x l ih =>
   have hx:=h.head
   have hl:l=[]∨0 < gN l (l.length - 1):=by
    cases l with
    | nil=>exact .inl rfl
    | cons y l =>
      refine .inr ?_;rcases hc with hc | hc
      ·cases hc
      ·simpa [Zfg] using hc
   have hi:=ih h.tail hl
   have hn:nv (x :: l)≠0:=by
    rcases hc with hc | hc
    ·cases hc
    ·have:=nv_pos hc;omega
   rw [Zeu hn];simp only [nv];have e1:(x+65536*nv l)%65536=x:=zo;have e2:(x+65536*nv l)/65536=nv l:=zo;rw [e1,e2,←hi]
theorem Zeb {n:Nat} (h:n≠0):(toL n).length≠0∧0 < gN (toL n) ((toL n).length - 1):=by
 induction n using Nat.strongRecOn with
 | _ n ih =>
   rw [Zeu h];refine⟨by simp,?_⟩;by_cases h2:n/65536=0
   ·rw [h2,Zau];simp only [Zyx,Zy0,Zzd,ZCp,Zgp];omega
   ·have:=ih (n/65536) zo h2;obtain⟨h3,h4⟩:=this;simp only [Zyx,ZCr];obtain⟨k,hk⟩:=Nat.exists_eq_succ_of_ne_zero h3;rw [hk] at h4 ⊢
    simpa [Zfg] using h4
theorem Zpo {a b:Nat} (h:toL a=toL b):a=b:=by rw [←Zam a,h,Zam]
theorem toL_nil {n:Nat}:toL n=[]↔n=0:=⟨λh=>Zpo (h.trans Zau.symm),λh=>by rw [h,Zau]⟩
theorem Zbf {n:Nat}:(toL n).length=0↔n=0:=by rw [List.length_eq_zero_iff];exact toL_nil
theorem Zkl {l:List Nat} {k:Nat} (h:Lm l) (hk:k≤l.length) (hz:∀j,k≤j→gN l j=0) (ht:k=0∨0 < gN l (k - 1)):l.take k=toL (nv l):=by
 have h0:nv (l.drop k)=0:=by
  have key:∀(m:List Nat),(∀j,gN m j=0)→nv m=0:=by
   intro m
   induction m with
   | nil=>intro _;rfl
   | cons x m ih =>
     intro hm;have h1:=hm 0;rw [Zgp] at h1;rw [nv,h1,ih λj=>by rw [←Zfg (x:=x)];exact hm (j+1)]
  refine key _ λj=>?_;have:=hz (k+j) zo;unfold gN at this ⊢
  rwa [Zyu,ZAx,←Zyu]
 have h1:=Zbt l k;rw [h0,ZA0,Zzm] at h1;rw [h1];refine canon (h.take k) ?_;by_cases hk0:k=0
 ·subst hk0;exact .inl rfl
 ·have ht:=ht.resolve_left hk0;refine .inr ?_;rw [Zy1,ZAk hk];unfold gN at ht ⊢;rw [Zyu] at ht ⊢;rw [ZAe,Zyk zo];exact ht
theorem Zmi {l:List Nat} (h:Lm l):∃k,k≤l.length∧l.take k=toL (nv l):=by
 induction hn:l.length generalizing l with
 | zero=>exact⟨0,zo,by rw [ZBq hn];simp [nv,Zau]⟩
 | succ n ih =>
   by_cases hz:gN l n=0
   ·obtain⟨k,h1,h2⟩:=ih (h.take n) (by simp;omega);refine⟨k,zo,?_⟩;rw [List.take_take,ZAk h1] at h2;rw [h2];congr 1;have h3:=Zar l n;rw [ZAl zo,hz] at h3;omega
   ·exact⟨l.length,zo,by rw [ZAl (Zyp _)];exact canon h (.inr (by rw [hn,ZCr];omega))⟩
theorem Zap {l:List Nat} (h:Lm l):(toL (nv l)).length≤l.length:=by
 obtain⟨k,h1,h2⟩:=Zmi h;rw [←h2,Zy1];omega
theorem Zaf {n k:Nat}:(toL n).length≤k↔n < 65536 ^ k:=by
 constructor
 ·intro h;have h1:=Zhd (Zan n);rw [Zam] at h1;exact ZAq h1 (ZA1 zo h)
 ·intro h;rcases Zy5 k (toL n).length with h1 | h1
  ·exfalso
   have hn:n≠0:=by
    rintro rfl
    rw [Zau] at h1;simp at h1
   obtain⟨h2,h3⟩:=Zeb hn;have h4:=Zbt (toL n) ((toL n).length - 1);rw [Zam] at h4
   have h5:0 < nv ((toL n).drop ((toL n).length - 1)):=by
    refine nv_pos (k:=0) ?_;unfold gN at h3 ⊢;rw [Zyu,ZAx,Zzm,←Zyu];exact h3
   have h6:65536 ^ k≤65536 ^ ((toL n).length - 1):=ZA1 zo zo;have h7:65536 ^ ((toL n).length - 1)≤65536 ^ ((toL n).length - 1)*nv ((toL n).drop ((toL n).length - 1)):=ZCf _ h5;omega
  ·exact h1
theorem Zat {a b:Nat} (h:a≤b):(toL a).length≤(toL b).length:=by
 rw [Zaf];exact ZC1 h (Zaf.1 (Zyp _))
theorem Zr6 {a b:List Nat} {k:Nat} (ha:Lm a) (hb:Lm b) (he:nv (a.drop (k+1))=nv (b.drop (k+1))) (h:gN a k < gN b k):nv a < nv b:=by
 have h1:=Zbt a k;have h2:=Zbt b k;rw [Zbx,he] at h1;rw [Zbx] at h2;have h3:=Zhd (ha.take k);have h4:nv (a.take k) < 65536 ^ k:=ZAq h3 (ZA1 zo (by rw [Zy1];omega));generalize nv (b.drop (k+1))=r at *;generalize 65536 ^ k=p at *
 have h5:p*(gN a k+65536*r)+p≤p*(gN b k+65536*r):=by
  have:gN a k+65536*r+1≤gN b k+65536*r:=zo;have:=ZBf p this
  rwa [Zzk p _ 1,ZBt] at this
 omega
theorem nv_eq_of {a b:List Nat} (hl:a.length=b.length) (he:nv a=nv b) (ha:Lm a) (hb:Lm b):a=b:=by
 induction a generalizing b with
 | nil=>cases b with
   | nil=>rfl
   | cons y b=>simp at hl
 | cons x a ih=>cases b with
   | nil=>simp at hl
   | cons y b =>
     have h1:=ha.head;have h2:=hb.head;simp only [nv] at he;have e1:x=y:=zo;have e2:nv a=nv b:=zo;rw [e1,ih (by simpa using hl) e2 ha.tail hb.tail]
theorem canon' {o:List Nat} (h:Lm o) (hl:o.length≤(toL (nv o)).length):o=toL (nv o) :=
 nv_eq_of (by have:=Zap h;omega) (Zam _).symm h (Zan _)
theorem Zda {o:List Nat} {k:Nat} (h:k < o.length) (x:Nat):nv ((o.set k x).take (k+1))=nv (o.take k)+65536 ^ k*x:=by
 have h1:(o.set k x).take (k+1)=o.take k++[x]:=by
  rw [ZBx (by simpa using h)];simp only [List.getElem_set_self,List.take_set];rw [List.set_eq_of_length_le (by rw [Zy1];omega)]
 rw [h1,Zdp,Zy1,ZAk zo];simp [nv]
theorem Lm.set {o:List Nat} (h:Lm o) (k:Nat) {x:Nat} (hx:x < 65536):Lm (o.set k x):=λy hy=>by
 rcases ZCl hy with h1 | rfl
 ·exact h y h1
 ·exact hx
theorem Zbd {α:Type} {l:List α} {k:Nat} (h:l.length≤k):l.take k=l:=ZAl h
theorem Zno {p o c a b x y:Nat} (h:o+p*c=a+b):(o+p*((c+x+y)%65536))+(p*65536)*((c+x+y)/65536)=(a+p*x)+(b+p*y):=by
 have h2:p*((c+x+y)%65536)+p*65536*((c+x+y)/65536)=p*(c+x+y):=by rw [Zz3,←Zzk,Nat.mod_add_div]
 rw [Zzk,Zzk] at h2;omega
theorem Zrh {p o c a b x y d c':Nat} (h:o+b=a+p*c) (hd:d+c+y=x+65536*c'):(o+p*d)+(b+p*y)=(a+p*x)+(p*65536)*c':=by
 have h2:p*d+p*c+p*y=p*x+p*65536*c':=by
  rw [←Zzk,←Zzk,hd,Zzk,Zz3]
 omega
theorem wrap_u8 {x:Int} (h1:0≤x) (h2:x≤255):IntKind.u8.wrap x=x:=IntWalk.u8_in x ⟨h1,h2⟩
theorem wrap_u16 {x:Int} (h1:0≤x) (h2:x≤65535):IntKind.u16.wrap x=x:=IntWalk.u16_in x ⟨h1,h2⟩
theorem Zjn {x:Int} (h1:0≤x) (h2:x≤4294967295):IntKind.u32.wrap x=x:=IntWalk.u32_in x ⟨h1,h2⟩
theorem Zf2 {x:Int} (h1:0≤x) (h2:x≤18446744073709551615):IntKind.u64.wrap x=x:=IntWalk.u64_in x ⟨h1,h2⟩
theorem wrap_i32 {x:Int} (h1:-2147483648≤x) (h2:x≤2147483647):IntKind.i32.wrap x=x:=IntWalk.i32_in x ⟨h1,h2⟩
theorem cut_u16 (x:Int):IntKind.u16.wrap x=x%65536:=by rw [IntKind.wrap_u16]
theorem Ze2 (a b:Nat):(a:Int).tdiv (b:Int)=((a/b:Nat):Int):=Int.ofNat_tdiv a b |>.symm
theorem Ze1 (a b:Nat):(a:Int).tmod (b:Int)=((a%b:Nat):Int):=(Int.ofNat_tmod a b).symm
theorem Zbc (x:Nat):IntKind.u16.wrap (x:Int)=((x%65536:Nat):Int):=by rw [cut_u16];omega
theorem Zu6 (a:Nat):shrI .u32 (a:Int) 16=((a/65536:Nat):Int):=by
 unfold shrI;rw [ZDc _ zd];rfl
theorem Zu5 (a:Nat):shrI .u64 (a:Int) 16=((a/65536:Nat):Int):=by
 unfold shrI;rw [ZDc _ zd];rfl
theorem Zax (a b:Nat):(a:Int)+(b:Int)=((a+b:Nat):Int):=(Int.natCast_add a b).symm
theorem Zhw (a b:Nat):(a:Int)*(b:Int)=((a*b:Nat):Int):=(Int.natCast_mul a b).symm
attribute [go_sem] wrap_u8 wrap_u16 Zjn Zf2 wrap_i32 Zu6 Zu5 Za4 u16s_get Zuu Zuw u16s_set u16s_app Zuv u16s_rep
theorem Zoo {o:List Nat} {j:Nat} (h:j < o.length) (v:Nat):nv (o.set j v)+65536 ^ j*gN o j=nv o+65536 ^ j*v:=by
 have h1:=Zbt (o.set j v) (j+1);have h2:=Zbt o (j+1);rw [Zda h] at h1;rw [Zar] at h2
 have h3:(o.set j v).drop (j+1)=o.drop (j+1):=by
  rw [List.drop_set_of_lt zo]
 rw [h3] at h1;omega
theorem Zfw {o:List Nat} {j i v:Nat} (h:j < o.length):gN (o.set j v) i=if i=j then v else gN o i:=by
 unfold gN;rw [Zyu,Zyu,List.getElem?_set];by_cases hij:j=i
 ·subst hij;simp [h]
 ·simp [hij,ZAu hij]
theorem Zr9 {o p c g s N x y T B:Nat} (hs:s=c+(g+x*y)) (hN:N+p*g=o+p*(s%65536)) (hv:o+p*c=B+T):N+(p*65536)*(s/65536)=B+(T+p*(x*y)):=by
 have h2:p*(s%65536)+p*65536*(s/65536)=p*s:=by rw [Zz3,←Zzk,Nat.mod_add_div]
 subst hs;rw [Zzk,Zzk] at h2;omega
theorem Zsa (i k x y t:Nat):65536 ^ i*(t+65536 ^ k*y)*x=65536 ^ i*t*x+65536 ^ (i+k)*(x*y):=by
 rw [Zzk,Zze,ZAp];congr 1;rw [Zzj x y];simp only [Zz3]
theorem Zg6 (n j:Nat):gN (List.replicate n 0) j=0:=by
 unfold gN;rw [Zyu,ZCz];split<;>rfl
theorem Zou {x y:Nat} (hx:x < 65536) (hy:y < 65536):x*y≤4294836225:=ZDd (show x≤65535 by omega) (show y≤65535 by omega)
theorem shl_32 {x s:Nat} (hs:s < 32) (h:x*2 ^ s < 4294967296):shlI .u32 (x:Int) (s:Int)=((x*2 ^ s:Nat):Int):=by
 unfold shlI
 have e1:min (s:Int).toNat (IntKind.bits .u32)=s:=by
  have:IntKind.bits .u32=32:=rfl;omega
 rw [e1];have e2:(x:Int)*2 ^ s=((x*2 ^ s:Nat):Int):=by rw [Int.natCast_mul,Int.natCast_pow];rfl
 rw [e2];exact Zjn zo zo
theorem shl_64 {x s:Nat} (hs:s < 64) (h:x*2 ^ s < 18446744073709551616):shlI .u64 (x:Int) (s:Int)=((x*2 ^ s:Nat):Int):=by
 unfold shlI
 have e1:min (s:Int).toNat (IntKind.bits .u64)=s:=by
  have:IntKind.bits .u64=64:=rfl;omega
 rw [e1];have e2:(x:Int)*2 ^ s=((x*2 ^ s:Nat):Int):=by rw [Int.natCast_mul,Int.natCast_pow];rfl
 rw [e2];exact Zf2 zo zo
theorem shl16_32 {x:Nat} (h:x < 65536):shlI .u32 (x:Int) 16=((x*65536:Nat):Int):=shl_32 (s:=16) zo zo
theorem shl16_64 {x:Nat} (h:x < 281474976710656):shlI .u64 (x:Int) 16=((x*65536:Nat):Int):=shl_64 (s:=16) zo zo
theorem shr_32 {x s:Nat} (hs:s < 32):shrI .u32 (x:Int) (s:Int)=((x/2 ^ s:Nat):Int):=by
 unfold shrI
 have e1:min (s:Int).toNat (IntKind.bits .u32)=s:=by
  have:IntKind.bits .u32=32:=rfl;omega
 rw [e1];have e2:((2:Int) ^ s)=((2 ^ s:Nat):Int):=by rw [Int.natCast_pow];rfl
 rw [e2,ZDc _ (ZBy _)];rfl
theorem Zol (k:IntKind) {a b:Nat} (ha:a < 2 ^ k.bits) (hb:b < 2 ^ k.bits):orI k (a:Int) (b:Int)=k.wrap ((a ||| b:Nat):Int):=by
 unfold orI
 have f:∀x:Nat,x < 2 ^ k.bits→(BitVec.ofInt k.bits (x:Int)).toNat=x:=by
  intro x hx;rw [BitVec.ofInt_natCast,BitVec.toNat_ofNat,ZAt hx]
 rw [BitVec.toNat_or,f a ha,f b hb]
theorem Zom {r x s:Nat} (h:x < 2 ^ s):(r*2 ^ s ||| x)=r*2 ^ s+x:=by
 rw [Zzj r,Nat.two_pow_add_eq_or_of_lt h]
theorem or16_32 {r x:Nat} (hr:r < 65536) (hx:x < 65536):orI .u32 ((r*65536:Nat):Int) (x:Int)=((r*65536+x:Nat):Int):=by
 rw [Zol .u32 (by show _ < 4294967296;omega) (by show _ < 4294967296;omega),Zom (s:=16) hx];exact Zjn zo zo
theorem or16_64 {r x:Nat} (hr:r < 281474976710656) (hx:x < 65536):orI .u64 ((r*65536:Nat):Int) (x:Int)=((r*65536+x:Nat):Int):=by
 rw [Zol .u64 (by show _ < 18446744073709551616;omega) (by show _ < 18446744073709551616;omega),Zom (s:=16) hx];exact Zf2 zo zo
theorem orS_64 {n x s:Nat} (hn:n < 2 ^ s) (hs:s≤48) (hx:x < 65536):orI .u64 (n:Int) ((x*2 ^ s:Nat):Int)=((n+2 ^ s*x:Nat):Int):=by
 have e:(2:Nat) ^ s*65536≤18446744073709551616:=by
  have:(2:Nat) ^ s≤2 ^ 48:=ZA1 zo hs;omega
 have h1:x*2 ^ s≤65535*2 ^ s:=Zzf _ zo;rw [Zol .u64 (by show _ < 18446744073709551616;omega) (by show _ < 18446744073709551616;omega),Nat.or_comm,Zom hn];rw [Zf2 zo zo,Zzj,ZBh]
theorem or_16 {a b s:Nat} (hs:s≤16) (hb:b < 2 ^ s) (ha:a*2 ^ s < 65536):orI .u16 (b:Int) ((a*2 ^ s:Nat):Int)=((b+a*2 ^ s:Nat):Int):=by
 have e:(2:Nat) ^ s≤2 ^ 16:=ZA1 zo hs
 have h3:a*2 ^ s+b < 65536:=by
  have h4:a < 2 ^ (16 - s):=by
   refine Nat.lt_of_mul_lt_mul_right (a:=2 ^ s) ?_;rw [←ZAp,ZCs hs];exact ha
  have h5:(a+1)*2 ^ s≤2 ^ (16 - s)*2 ^ s:=Zzf _ h4;rw [←ZAp,ZCs hs,Zze,ZAj] at h5;omega
 rw [Zol .u16 (by show _ < 65536;omega) (by show _ < 65536;omega),Nat.or_comm,Zom hb];rw [wrap_u16 zo zo,ZBh]
attribute [go_sem] shl16_32 shl16_64 or16_32 or16_64
theorem low_mul {x s:Nat} (hs:s≤16):(x*2 ^ s)%65536=(x%2 ^ (16 - s))*2 ^ s:=by
 have:65536=2 ^ (16 - s)*2 ^ s:=by rw [←ZAp,ZCs hs]
 rw [this,Nat.mul_mod_mul_right]
theorem Zoe (k:Nat):65536 ^ k=2 ^ (16*k):=by rw [Nat.pow_mul]
theorem div_step {a q r d x B:Nat} (hB:B=65536) (h:a=d*q+r):x+B*a=d*((r*B+x)/d+B*q)+(r*B+x)%d:=by
 have h2:=ZAy (r*B+x) d;subst h;have e1:B*(d*q+r)=d*(B*q)+r*B:=by rw [Zzk,ZBz,Zzj B r]
 have e2:d*((r*B+x)/d+B*q)=d*((r*B+x)/d)+d*(B*q):=Zzk _ _ _;omega
theorem shr_dig {x y r s:Nat} (hs:s≤16):((x+65536*(y+65536*r))/2 ^ s)%65536=((x+65536*y)/2 ^ s)%65536:=by
 have e0:(65536:Nat)=2 ^ (16 - s)*2 ^ s:=by rw [←ZAp,ZCs hs]
 have e1:x+65536*(y+65536*r)=(x+65536*y)+2 ^ s*(65536*(2 ^ (16 - s)*r)):=by
  have:65536*(65536*r)=2 ^ s*(65536*(2 ^ (16 - s)*r)):=by
   calc 65536*(65536*r)=65536*((2 ^ (16 - s)*2 ^ s)*r):=by rw [←e0]
    _=2 ^ s*(65536*(2 ^ (16 - s)*r)):=by rw [Zzj (2 ^ (16 - s)),Zz3,ZBz]
  rw [Zzk,this];omega
 rw [e1,Nat.add_mul_div_left _ _ (ZCt s),Nat.add_mul_mod_self_left]
theorem shr_step {N o k d s:Nat} (h:o=(N/2 ^ s)%65536 ^ k) (hd:d=(N/65536 ^ k/2 ^ s)%65536):o+65536 ^ k*d=(N/2 ^ s)%65536 ^ (k+1):=by
 rw [ZAh,Nat.mod_mul,h,hd,ZDk,ZDk,Zzj (2 ^ s)]
theorem Zww {l:List Nat} (h:Lm l) (k:Nat):nv l/65536 ^ k=nv (l.drop k):=by
 have h1:=Zbt l k;have h2:nv (l.take k) < 65536 ^ k:=ZAq (Zhd (h.take k)) (ZA1 zo (by rw [Zy1];omega));rw [h1,Nat.add_mul_div_left _ _ (Nat.pow_pos zo),ZC2 h2,Zzd]
theorem Zxm (l:List Nat) (i k:Nat):gN (l.drop i) k=gN l (i+k):=by
 unfold gN;rw [Zyu,ZAx,←Zyu]
theorem kn_init {W V q v1 v2 vl high u2 wl P:Nat} (hP:0 < P) (hV:V=(v1*65536+v2)*P+vl) (hW:W=(high*65536+u2)*P+wl) (hwl:wl < P) (hu2:u2 < 65536) (hv1:0 < v1) (hq:q*V≤W):q≤high/v1:=by
 rw [Nat.le_div_iff_mul_le hv1]
 have h1:q*(v1*65536*P)≤q*V:=by
  refine ZBf _ ?_;rw [hV,Zze];omega
 have h2:W < (high+1)*(65536*P):=by
  have h3:(high*65536+u2+1)*P≤((high+1)*65536)*P:=Zzf _ zo;rw [Zze _ 1 P] at h3;rw [hW,←Zz3];omega
 have h3:(q*v1)*(65536*P) < (high+1)*(65536*P):=by
  have e:(q*v1)*(65536*P)=q*(v1*65536*P):=by simp only [Zz3]
  omega
 have:=Nat.lt_of_mul_lt_mul_right h3;omega
theorem kn_step {W V v1 v2 vl high u2 wl P d r:Nat} (hV:V=(v1*65536+v2)*P+vl) (hW:W=(high*65536+u2)*P+wl) (hwl:wl < P) (hh:high=d*v1+r) (ht:r*65536+u2 < d*v2):W < d*V:=by
 have h1:d*((v1*65536+v2)*P)≤d*V:=ZBf _ zo
 have h2:high*65536+u2+1≤d*(v1*65536+v2):=by
  have e:d*(v1*65536+v2)=d*v1*65536+d*v2:=by rw [Zzk,Zz3]
  rw [e,hh,Zze];omega
 have h3:=Zzf P h2;rw [Zze _ 1 P,Zz3 d] at h3;omega
theorem kn_exit {W V v1 v2 vl high u2 wl P d r:Nat} (hV:V=(v1*65536+v2)*P+vl) (hvl:vl < P) (hW:W=(high*65536+u2)*P+wl) (hh:high=d*v1+r) (hv1:0 < v1) (hd:d < 65536) (ht:d*v2≤r*65536+u2):d*V < W+V:=by
 have h2:d*(v1*65536+v2)≤high*65536+u2:=by
  have e:d*(v1*65536+v2)=d*v1*65536+d*v2:=by rw [Zzk,Zz3]
  rw [e,hh,Zze];omega
 have h3:=Zzf P h2;have h4:d*vl≤d*P:=ZBf _ zo;have h5:d*P < 65536*P:=ZDe hd zo
 have h6:65536*P≤v1*65536*P:=by
  have:1*(65536*P)≤v1*(65536*P):=Zzf _ hv1;rw [ZAj,←Zz3] at this;exact this
 have h7:v1*65536*P≤V:=by rw [hV,Zze];omega
 have e:d*V=d*(v1*65536+v2)*P+d*vl:=by rw [hV,Zzk,Zz3]
 omega
theorem kn_near {W V d:Nat} (hV:0 < V) (h1:W/V≤d) (h2:d*V < W+V):d=W/V∨d=W/V+1:=by
 have h3:d≤W/V+1:=by
  rcases Zy5 (W/V+1) d with h | h
  ·exfalso;have h4:(W/V+2)*V≤d*V:=Zzf _ h;have h5:=Nat.lt_div_mul_add (a:=W) hV;rw [Zze] at h4;omega
  ·exact h
 omega
def len8 (i:Nat):Nat:=if i=0 then 0 else Nat.log2 i+1
def Ze8 (x:Nat):Nat:=if 256≤x then 8+len8 (x/256) else len8 x
theorem Ziv {i:Nat} (h:i < 256):len8 i≤8∧(0 < i→1≤len8 i):=by
 unfold len8;split
 ·omega
 ·rename_i h0;have:=(Nat.log2_lt h0 (k:=8)).2 h;omega
theorem Zii {x:Nat} (h:x < 65536):Ze8 x≤16∧(0 < x→1≤Ze8 x):=by
 unfold Ze8;split
 ·have:=Ziv (i:=x/256) zo;omega
 ·have:=Ziv (i:=x) zo;omega
theorem shr_8_16 (a:Nat):shrI .u16 (a:Int) 8=((a/256:Nat):Int):=by
 unfold shrI;rw [ZDc _ zd];rfl
attribute [go_sem] shr_8_16
theorem o_tab {P:Program} {K:St→Prop} {e:Nat→AV} {m:Mem} {t d x n:Nat} {L:List UInt8} {g:Nat→Nat} (hlen:L.length=n) (htab:((List.range n).all λi=>(L.getD i 0).toNat == g i)=true) (hx:x < n) (h:K ⟨upd e d (.v (.int .u8 (g x:Nat))),m⟩) :
 aRes P t (some d) (.need (0≤(x:Int)∧(x:Int) < (L.length:Int)) (.val (.v (.int .u8 (((L.getD x 0).toNat:Nat):Int))) [])) K ⟨e,m⟩:=by
 refine o_need ⟨zo,zo⟩ ?_;have:=List.all_eq_true.1 htab x (List.mem_range.2 hx);rw [ZAn] at this;rw [this];exact h
theorem Zhp {α:Type} (f:Nat→α) (k:Nat) (a b:α):upd (upd f k a) k b=upd f k b:=by
 funext j
 simp only [Zal];split<;>rfl
theorem Zrc {α:Type} {f:Nat→α} {k:Nat} {a:α} (h:f k=a):upd f k a=f:=by
 funext j
 simp only [Zal];split
 ·subst_vars;rfl
 ·rfl
theorem Zmu {P:Program} {f:FuncId} {args:List AV} {x:AV} {R:AV→Mem→Prop} (h:ACall P f args Zac R) (hR:∀r σ',R r σ'→Zfs (marks σ' r.toks) r∧pubV (marks σ' r.toks) r=x):Pure P f args x:=by
 refine⟨h.1,λw imm vs himm hl hr=>?_⟩;have hm:Mx ⟨w.heap.size,w,imm,himm.tb.here⟩ Zac w imm:=⟨⟨λk e hk=>by simp [Zac] at hk,λk k' e e' b hk=>by simp [Zac] at hk,λad h1=>(himm.at_ ad h1).1,λad h1=>(himm.at_ ad h1).2⟩,Blw.refl _ _,Zyp _,λ_ h1=>h1,λ_ h1=>.inl h1,λ_ _=>rfl⟩;refine(h.2 _ w imm vs hm hl λj a x h1 h2=>.pure (hr j a x h1 h2)).mono λe w' ⟨r,σ',imm',y,h1,h2,h3,h4,h5⟩=>?_;obtain⟨i2,hm2,hk2⟩:=Zc1 r.toks h4;obtain⟨h6,h7⟩:=hR r σ' h2;have h8:=Zgc hm2 (hk2.rs h3) h6;rw [h7] at h8;exact⟨y,i2,h1,h8,hm2.old,λad h9=>⟨hm2.new ad h9,hm2.ok.lt ad h9,hm2.ok.spot ad h9⟩,hm2.below⟩
theorem gN_mid {pre w post:List Nat} {k:Nat} (h:k < w.length):gN (pre++(w++post)) (pre.length+k)=gN w k:=by
 unfold gN;rw [Zyu,Zyu,Zzv zo,ZBs,Zzr h]
theorem Zva {pre w post:List Nat} {k:Nat} (h:k < w.length) (x:Nat):(pre++(w++post)).set (pre.length+k) x=pre++(w.set k x++post):=by
 rw [List.set_append_right _ _ zo,ZBs,List.set_append_left _ _ h]
theorem or16_32' {r x:Nat} (hr:r < 65536) (hx:x < 65536):orI .u32 (x:Int) ((r*65536:Nat):Int)=((x+65536*r:Nat):Int):=by
 rw [Zol .u32 (by show _ < 4294967296;omega) (by show _ < 4294967296;omega),Nat.or_comm,Zom (s:=16) hx,Zjn zo zo];omega
theorem Zpr {o N d v p c r w y x r' c1:Nat} (h:o+d*v=N+p*(c+r)) (h1:c1=c+d*y) (h2:x+c1%65536+r=w+65536*r'):(o+p*x)+d*(v+p*y)=(N+p*w)+(p*65536)*(c1/65536+r'):=by
 have e1:p*x+p*(c1%65536)+p*r=p*w+p*65536*r':=by
  rw [←Zzk,←Zzk,h2,Zzk,Zz3]
 have e2:p*(c1%65536)+p*65536*(c1/65536)=p*c1:=by rw [Zz3,←Zzk,Nat.mod_add_div]
 have e3:p*c1=p*c+d*(p*y):=by rw [h1,Zzk];congr 1;simp only [ZBz]
 rw [Zzk,Zzk (p*65536)];rw [Zzk] at h;omega
theorem Ztv {a l s:Nat}:a*2 ^ (16*l+s)=a*2 ^ s*65536 ^ l:=by
 rw [Zoe,ZAp,Zz3,Zzj (2 ^ (16*l))]
theorem Ztw {a l s:Nat}:a/2 ^ (16*l+s)=a/65536 ^ l/2 ^ s:=by
 rw [Zoe,ZAp,ZDk]
theorem nv_top2 {l:List Nat} {n:Nat} (h:l.length=n) (hn:2≤n):nv l=(gN l (n - 1)*65536+gN l (n - 2))*65536 ^ (n - 2)+nv (l.take (n - 2)):=by
 have h1:=Zbt l (n - 2);rw [Zbx,Zbx,show n - 2+1=n - 1 by omega,show n - 1+1=n by omega,Zz6 zo] at h1;simp only [nv,ZA0,Zzm] at h1;rw [h1,ZBh,Zzj];congr 2;omega
theorem nv_top3 {l:List Nat} {n:Nat} (h:l.length=n+1) (hn:2≤n):nv l=((gN l n*65536+gN l (n - 1))*65536+gN l (n - 2))*65536 ^ (n - 2)+nv (l.take (n - 2)):=by
 have h1:=Zbt l (n - 2);rw [Zbx,Zbx,Zbx,show n - 2+1=n - 1 by omega,show n - 1+1=n by omega,Zz6 zo] at h1;simp only [nv,ZA0,Zzm] at h1;rw [h1,ZBh,Zzj];congr 2;omega
theorem Zg3 {l:List Nat} (h:Lm l) (k:Nat):nv (l.take k) < 65536 ^ k:=ZAq (Zhd (h.take k)) (ZA1 zo (by rw [Zy1];omega))
theorem gN_take {l:List Nat} {k i:Nat} (h:i < k):gN (l.take k) i=gN l i:=by
 unfold gN;rw [Zyu,ZAe,Zyk h,←Zyu]
theorem Zq1 {a b:List Nat} {k:Nat} (h:k < a.length):gN (a++b) k=gN a k:=by
 unfold gN;rw [Zyu,Zzr h,←Zyu]
theorem top_le {u v:List Nat} {n:Nat} (hu:Lm u) (hv:Lm v) (hvn:v.length=n) (hn:2≤n) (h:nv u < nv v):gN u (n - 1)≤gN v (n - 1):=by
 rcases Zy5 (gN v (n - 1)) (gN u (n - 1)) with h1 | h1
 ·exfalso;have h2:=Zbt u (n - 1);rw [Zbx] at h2;have h3:=Zbt v (n - 1);rw [Zbx,show n - 1+1=n by omega,Zz6 zo] at h3;simp only [nv,ZA0,Zzm] at h3;have h4:=Zg3 hv (n - 1);have h5:65536 ^ (n - 1)*(gN v (n - 1)+1)≤65536 ^ (n - 1)*gN u (n - 1):=ZBf _ h1;rw [Zzk,ZBt] at h5;rw [Zzk] at h2;generalize 65536 ^ (n - 1)*(65536*nv (u.drop (n - 1+1)))=z at *;omega
 ·exact h1
theorem drop_zero {u v:List Nat} {n:Nat} (hv:Lm v) (hvn:v.length=n) (h:nv u < nv v):nv (u.drop n)=0:=by
 have h1:=Zbt u n;have h2:=Zhd hv;rw [hvn] at h2;rcases Zz0 (nv (u.drop n)) with h3 | h3
 ·exact h3
 ·have:=ZCf (65536 ^ n) h3;omega
theorem subDone {w d V W p b:Nat} (hV:0 < V) (hw:w < p) (hb:b≤1) (h:w+d*V=W+p*b) (hd:d=W/V∨d=W/V+1):(b=0∧d=W/V∧w=W%V)∨(b=1∧d=W/V+1):=by
 have h1:=ZAy W V;have h2:=Zzs W hV;rw [Zzj] at h1;rcases hd with hd | hd<;>subst hd
 ·have hb0:b=0:=by
   rcases Zz0 b with h3 | h3
   ·exact h3
   ·have:b=1:=zo;subst this;omega
  subst hb0;exact .inl ⟨rfl,rfl,zo⟩
 ·rw [Zze,ZAj] at h
  have hb1:b=1:=by
   rcases Zz0 b with h3 | h3
   ·subst h3;omega
   ·omega
  exact .inr ⟨hb1,rfl⟩
theorem resDone {w w' V W p c:Nat} (hV:0 < V) (hVp:V≤p) (hw:w' < p) (hc:c≤1) (h:w+(W/V+1)*V=W+p*1) (h':w'+p*c=w+V):w'=W%V:=by
 have h1:=ZAy W V;have h2:=Zzs W hV;rw [Zzj] at h1;rw [Zze,ZAj] at h;rcases Zz0 c with h3 | h3
 ·subst h3;omega
 ·have:c=1:=zo;subst this;omega
def Frz (n:Nat) (st st':St):Prop:=∀(c:Cx) (a:Act) (w:World) (imm:Imm),Rel c n st a w imm→∃imm',Rel c n st' a w imm'
theorem Frz.refl (n:Nat) (st:St):Frz n st st:=λc a w imm h=>⟨imm,h⟩
theorem Frz.trans {n:Nat} {s1 s2 s3:St} (h:Frz n s1 s2) (k:Frz n s2 s3):Frz n s1 s3:=λc a w imm h1=>by
 obtain⟨i,h2⟩:=h c a w imm h1;exact k c a w i h2
theorem Frz.own {n:Nat} {e:Nat→AV} {m:Mem} {d k mm pub:Nat} {sv:Value} {ty:TypeId} {es:List AV} (he:e d=.own k sv) (hm:m k=some (.row sv ty mm es pub)):Frz n ⟨e,m⟩ ⟨upd e d (.sl mm es),mark m k⟩:=by
 intro c a w imm h;obtain⟨i,h1,h2⟩:=Zw5 h.mem k;refine⟨i,λt=>?_,h.size,h.defers,h1⟩;have ht:=h2.rs (h.env t);show Rs w i (upd e d (.sl mm es) t) _;rw [Zal];split
 ·subst_vars
  rw [show(St.mk e m).env t=_ from he] at ht;rw [ht.own_inv];exact .pure (Zvp (k:=k) (e:=ty) h1 (es:=es) (pub:=es.length) (by simp only [mark,Zal,Zzb,hm,Zz7,Ent.mark]) rfl)
 ·exact ht
theorem Frz.nil {n:Nat} {e:Nat→AV} {m:Mem} {d:Nat} (mm:Nat) (he:e d=.v (.slice none 0 0)):Frz n ⟨e,m⟩ ⟨upd e d (.sl mm []),m⟩:=by
 intro c a w imm h;refine⟨imm,λt=>?_,h.size,h.defers,h.mem⟩;have ht:=h.env t;show Rs w imm (upd e d (.sl mm []) t) _;rw [Zal];split
 ·subst_vars
  rw [show(St.mk e m).env t=_ from he] at ht;rw [ht.v_inv];exact .pure ((Wk.nil mm).rd (.v _))
 ·exact ht
theorem Frz.nilOwn {n:Nat} {e:Nat→AV} {m:Mem} {d:Nat} (t mm:Nat) (ty:TypeId) (he:e d=.v (.slice none 0 0)):Frz n ⟨e,m⟩ ⟨upd e d (.own t (.slice none 0 0)),upd m t (some (.row (.slice none 0 0) ty mm [] 0))⟩:=by
 intro c a w imm h
 have hm:Mx c (upd m t (some (.row (.slice none 0 0) ty mm [] 0))) w imm:=by
  refine(Zdy h.mem (World.grownBy.refl w none) (Zyp _) zs (λ_ _=>rfl) t (.row (.slice none 0 0) ty mm [] 0) ⟨[],ZC8 w c.B ty mm,by simp,by simp,by simp [flat],by simp,λad _ h2=>by simp [Value.ownBlock] at h2,λg off h1 _=>by simp [Value.ownBlock] at h1⟩ λj e2 b _ _ _=>⟨by simp,by simp [Ent.blk,Value.ownBlock]⟩).1
 refine⟨imm,λx=>?_,h.size,h.defers,hm⟩;have ht:=h.env x;show Rs w imm (upd e d (.own t (.slice none 0 0)) x) _;rw [Zal];split
 ·subst_vars
  rw [show(St.mk e m).env x=_ from he] at ht;rw [ht.v_inv];exact .own _ _ rfl
 ·exact ht
section
variable {P:Program} {n:Nat} {Q:AE→St→Prop} {e:Nat→AV} {m:Mem}
theorem Zc4 {body:Code} {st st':St} (h:Frz n st st') (k:Zav P 0 n (.loop body) Q st'):Zav P 0 n (.loop body) Q st:=λc a w imm hr=>by
 obtain⟨i,h1⟩:=h c a w imm hr;exact k c a w i h1
theorem r_loopF {ι:Type} {body:Code} (I:ι→(Nat→AV)→Mem→Prop) (μ:ι→Nat) (i:ι) (hf:Zaw n body=true)
 (round:∀i e m,I i e m→Zav P 0 n body (AE.then (λst'=>∃i' st'',Frz n st' st''∧I i' st''.env st''.mem∧μ i' < μ i) Q) ⟨e,m⟩) (h0:I i e m):Zav P 0 n (.loop body) Q ⟨e,m⟩:=by
 intro c a w imm hr b k cs;have key:∀m i st a w imm,μ i=m→I i st.env st.mem→Rel c n st a w imm →
  ∃e a' w',post c n Q e a' w'∧Arrives P (lone (b.at a (.code body :: .inLoop body :: k)) cs w) b k cs e a' w':=by
  intro m
  induction m using Nat.strongRecOn with
  | _ m ih =>
    intro i st a w imm hm hI hr;obtain⟨e,a₁,w₁,hq,harr⟩:=Za1 body _ st hf (round i st.env st.mem hI) c a w imm hr b (.inLoop body :: k) cs;obtain⟨ae,st',imm',rfl,h2,h3⟩:=hq
    cases ae with
    | normal =>
      obtain⟨i',st'',hF,hI',hlt⟩:=h2;obtain⟨imm2,h4⟩:=hF c a₁ w₁ imm' h3;obtain⟨e₂,a₂,w₂,hq₂,harr₂⟩:=ih (μ i') (hm ▸ hlt) i' st'' a₁ w₁ imm2 rfl hI' h4;exact⟨e₂,a₂,w₂,hq₂,.of_steps (Steps.trans harr (.one step_inLoop)) harr₂⟩
    | exit id=>exact⟨_,a₁,w₁,⟨.exit id,st',imm',rfl,h2,h3⟩,.pass (x:=.inLoop body) rfl (λ_ _=>.inl (by simp [AE.to])) harr⟩
    | ret=>exact⟨_,a₁,w₁,⟨.ret,st',imm',rfl,h2,h3⟩,.pass (x:=.inLoop body) rfl (λ_ _=>.inl (by simp [AE.to])) harr⟩
 obtain⟨e₁,a',w',hq,harr⟩:=key _ i ⟨e,m⟩ a w imm rfl h0 hr;exact⟨e₁,a',w',hq,.of_steps (.one step_loop) harr⟩
end
attribute [go_sem] List.getElem?_toArray
section
def Zgt (P:Program) (t:TypeId):Bool:=match P.underlying t with
 | some (.struct _)=>true
 | _=>false
def Zdu (P:Program) (t:TypeId) (aS:List AV):AV:=if Zgt P t then .agg aS else aS.headD .u
def Zc5 (P:Program) (N:Nat):Nat→TypeId→List AV→Prop
 | 0,_,_=>False
 | n+1,t,aS=>match P.underlying t with
   | some .bool=>∃b,aS=[.v (.bool b)]
   | some (.int k)=>∃i,aS=[.v (.int k i)]∧(Lit.int k i).wf=true
   | some .string=>∃s:ByteArray,aS=[.v (.string s)]∧s.size≤N
   | some (.slice e)=>∃es:List (List AV),aS=[.sl (P.cellsOf e) (es.map (Zdu P e))]∧es.length≤N∧∀x∈es,Zc5 P N n e x
   | some (.struct fs)=>aS.length=P.cellsOf t∧∀f∈fs.toList,Zc5 P N n f.type ((aS.drop f.offset).take (P.cellsOf f.type))
   | _=>False
def Zge (P:Program) (total:Nat):Nat→List Field→Bool
 | off,[]=>off == total
 | off,f :: fs=>f.offset == off && Zge P total (off+P.cellsOf f.type) fs
def Zdn (P:Program):Nat→TypeId→Bool
 | 0,_=>false
 | n+1,t=>match P.underlying t with
   | some .bool | some (.int _) | some .string=>P.cellsOf t == 1
   | some (.slice e)=>P.cellsOf t == 1 && Zdn P n e
   | some (.struct fs)=>Zge P (P.cellsOf t) 0 fs.toList && fs.toList.all λf=>Zdn P n f.type
   | _=>false
mutual
def bulk {H:Type}:DataW H→Nat
 | .lit (.string bytes)=>bytes.length+1
 | .lit _=>1
 | .nil=>1
 | .ptr d=>bulk d+1
 | .slice elems spare=>bulkAll elems+bulkAll spare+1
 | .agg parts=>bulkAll parts+1
 | .iface _ d=>bulk d+1
 | .map entries=>bulkEntries entries+1
 | .held _=>1
def bulkAll {H:Type}:List (DataW H)→Nat
 | []=>0
 | d :: r=>bulk d+bulkAll r
def bulkEntries {H:Type}:List (Lit × DataW H)→Nat
 | []=>0
 | x :: r=>bulkEntry x+bulkEntries r
def bulkEntry {H:Type}:Lit × DataW H→Nat
 | (.string bytes,d)=>bytes.length+bulk d+1
 | (_,d)=>bulk d+1
end
theorem bulk_pos {H:Type} (d:DataW H):1≤bulk d:=by
 unfold bulk;split<;>omega
theorem Znm {H:Type} {d:DataW H}:∀{l:List (DataW H)},d∈l→bulk d≤bulkAll l
 | e :: r,h=>by
   unfold bulkAll;rcases List.mem_cons.1 h with rfl | h
   ·omega
   ·have:=Znm h;omega
theorem Zsx {H:Type}:∀(l:List (DataW H)),l.length≤bulkAll l
 | []=>Zyp _
 | e :: r=>by
   unfold bulkAll;have:=Zsx r;have:=bulk_pos e;simp only [Zyx];omega
def Zmc {H:Type} (N:Nat) (d:DataW H):Prop:=maxLen≤N∨bulk d≤N
def Cs (w:World) (aS:List AV) (cs:List Value):Prop:=aS.length=cs.length∧∀(j:Nat) (a:AV) (x:Value),aS[j]?=some a→cs[j]?=some x→Rd w (imm0 w) a x
theorem Cs.nil {w:World}:Cs w [] []:=⟨rfl,λj a x h=>by simp at h⟩
theorem Cs.one {w:World} {a:AV} {x:Value} (h:Rd w (imm0 w) a x):Cs w [a] [x]:=by
 refine⟨rfl,λj b y h1 h2=>?_⟩
 cases j with
 | zero=>simp at h1 h2;subst h1;subst h2;exact h
 | succ j=>simp at h1
theorem Cs.append {w:World} {aS bs:List AV} {cs ds:List Value} (h:Cs w aS cs) (k:Cs w bs ds):Cs w (aS++bs) (cs++ds):=by
 refine⟨by simp [h.1,k.1],λj a x h1 h2=>?_⟩;by_cases hj:j < aS.length
 ·rw [Zzr hj] at h1;rw [Zzr (by rw [←h.1];exact hj)] at h2;exact h.2 j a x h1 h2
 ·rw [Zzv zo] at h1;rw [Zzv (by rw [←h.1];omega),←h.1] at h2;exact k.2 _ a x h1 h2
theorem mapM_inv {α β:Type} {f:α→Option β}:∀{l:List α} {r:List β},l.mapM f=some r→∀x∈l,∃y,f x=some y:=by
 intro l r h x hx;obtain⟨i,hi,rfl⟩:=List.mem_iff_getElem.1 hx;have h1:=mapM_some_get h i l[i] (Zym hi);have h2:=mapM_some_length h;exact⟨r[i]'zo,by rw [h1,Zym zo]⟩
theorem Zk7 {α:Type} {Q:Nat→α→Prop}:∀{n:Nat},(∀i,i < n→∃a,Q i a)→∃l:List α,l.length=n∧∀(i:Nat) (h:i < l.length),Q i l[i]
 | 0,_=>⟨[],rfl,λi h=>by simp at h⟩
 | n+1,h=>by
   obtain⟨l,hl,hq⟩:=Zk7 (n:=n) λi hi=>h i zo;obtain⟨a,ha⟩:=h n zo;refine⟨l++[a],by simp [hl],λi hi=>?_⟩;rw [Zza,hl] at hi;by_cases hj:i < n
   ·rw [List.getElem_append_left zo];exact hq i zo
   ·have:i=n:=by simp at hi;omega
    subst this;rw [List.getElem_append_right zo]
    simpa [hl] using ha
theorem Zj7 (P:Program) (N:Nat):∀(n:Nat) (t:TypeId) (aS:List AV),Zdn P n t=true→Zc5 P N n t aS→aS.length=P.cellsOf t∧(Zdu P t aS).cells=aS∧(Zgt P t=false→∃a,aS=[a])
 | 0,_,_,h,_=>by simp [Zdn] at h
 | n+1,t,aS,hp,hs=>by
   unfold Zdn at hp;unfold Zc5 at hs
   have one:∀a:AV,aS=[a]→P.cellsOf t=1→Zgt P t=false→a.cells=[a]→aS.length=P.cellsOf t∧(Zdu P t aS).cells=aS∧(Zgt P t=false→∃a,aS=[a]):=by
    intro a ha h1 h2 h3;subst ha;refine⟨by simp [h1],?_,λ_=>⟨a,rfl⟩⟩;unfold Zdu;rw [h2];exact h3
   split at hs
   ·rename_i hu;rw [hu] at hp;obtain⟨b,rfl⟩:=hs;exact one _ rfl (by simpa using hp) (by simp [Zgt,hu]) rfl
   ·rename_i hu;rw [hu] at hp;obtain⟨b,rfl,_⟩:=hs;exact one _ rfl (by simpa using hp) (by simp [Zgt,hu]) rfl
   ·rename_i hu;rw [hu] at hp;obtain⟨b,rfl,_⟩:=hs;exact one _ rfl (by simpa using hp) (by simp [Zgt,hu]) rfl
   ·rename_i e hu;rw [hu] at hp;obtain⟨es,rfl,_⟩:=hs;simp only [Zy7,ZAn] at hp;exact one _ rfl hp.1 (by simp [Zgt,hu]) rfl
   ·rename_i fs hu;have ha:Zgt P t=true:=by simp [Zgt,hu]
    refine⟨hs.1,?_,λh=>by rw [ha] at h;cases h⟩;unfold Zdu;rw [Zyk ha];rfl
   ·exact hs.elim
section
variable {H:Type} {enc:TypeId × Value→H} {P:Program} {w:World} {spare:Nat→Bool} {held:Bool}
theorem Zjd {N n fuel total:Nat} {cs:List Value}
 (ih:∀(t:TypeId) (cs:List Value) (d:DataW H) (ps:List MemPlace),Zdn P n t=true→Zmc N d→DataW.trod enc P w 0 spare held fuel t cs=some (d,ps)→∃aS,Zc5 P N n t aS∧(∀x∈aS,x.one=true)∧Cs w aS cs) (hcs:cs.length=total) :
 ∀(fs:List Field) (off:Nat) (xs:List (DataW H × List MemPlace)),Zge P total off fs=true→off≤total→(fs.all λf=>Zdn P n f.type)=true →
  (fs.mapM λf=>DataW.trod enc P w 0 spare held fuel f.type ((cs.drop f.offset).take (P.cellsOf f.type)))=some xs→(∀x∈xs,Zmc N x.1) →
  ∃aS,(∀x∈aS,x.one=true)∧Cs w aS (cs.drop off)∧∀f∈fs,off≤f.offset∧Zc5 P N n f.type ((aS.drop (f.offset - off)).take (P.cellsOf f.type))
 | [],off,xs,hc,hle,hp,hm,hw=>by
   unfold Zge at hc;have:off=total:=by simpa using hc
   subst this;refine⟨[],by simp,?_,by simp⟩;rw [Zz6 zo];exact Cs.nil
 | f :: fs,off,xs,hc,hle,hp,hm,hw=>by
   unfold Zge at hc;simp only [Zy7,ZAn] at hc;simp only [ZB3,Zy7] at hp;obtain⟨ho,hc⟩:=hc;rw [List.mapM_cons] at hm
   cases h1:DataW.trod enc P w 0 spare held fuel f.type ((cs.drop f.offset).take (P.cellsOf f.type)) with
   | none=>rw [h1] at hm;cases hm
   | some x =>
     cases h2:(fs.mapM λf=>DataW.trod enc P w 0 spare held fuel f.type ((cs.drop f.offset).take (P.cellsOf f.type))) with
     | none=>rw [h1,h2] at hm;cases hm
     | some ys =>
       have hxs:xs=x :: ys:=by rw [h1,h2] at hm;simpa using hm.symm
       subst hxs;obtain⟨aS,hs,hone,hcs1⟩:=ih f.type _ x.1 x.2 hp.1 (hw x Zzw) h1;have hlen:=(Zj7 P N n f.type aS hp.1 hs).1;have hl2:=hcs1.1;rw [hlen,Zy1,ZA5,ho,hcs] at hl2;obtain⟨bs,bone,hcs2,hbs⟩:=Zjd ih hcs fs (off+P.cellsOf f.type) ys hc zo hp.2 h2 (λy hy=>hw y (ZAd _ hy));refine⟨aS++bs,λx hx=>(List.mem_append.1 hx).elim (hone x) (bone x),?_,λg hg=>?_⟩
       ·have:=hcs1.append hcs2
        rwa [ho,←ZBu,ZAw] at this
       ·rcases List.mem_cons.1 hg with rfl | hg
        ·refine⟨zo,?_⟩;rw [ho,ZCp,ZAg,←hlen,List.take_left];exact hs
        ·obtain⟨h3,h4⟩:=hbs g hg;refine⟨zo,?_⟩;rw [show g.offset - off=aS.length+(g.offset - (off+P.cellsOf f.type)) by omega,←ZBu,List.drop_left];exact h4
theorem Zio {N:Nat}:∀(n fuel:Nat) (t:TypeId) (cs:List Value) (d:DataW H) (ps:List MemPlace),Zdn P n t=true→Zmc N d→DataW.trod enc P w 0 spare held fuel t cs=some (d,ps) →
 ∃aS,Zc5 P N n t aS∧(∀x∈aS,x.one=true)∧Cs w aS cs
 | 0,_,_,_,_,_,h,_,_=>by simp [Zdn] at h
 | n+1,0,_,_,_,_,_,_,h=>by simp [DataW.trod] at h
 | n+1,fuel+1,t,cs,d,ps,hp,hN,ht=>by
   unfold Zdn at hp;unfold DataW.trod at ht;unfold Zc5
   cases hu:P.underlying t with
   | none=>rw [hu] at hp;cases hp
   | some td =>
     rw [hu] at hp ht
     cases td with
     | bool =>
       rcases cs with _ | ⟨x,_ | ⟨y,r⟩⟩<;>try (simp at ht;done)
       cases x<;>try (simp at ht;done)
       refine⟨_,⟨_,rfl⟩,?_,Cs.one (.v _)⟩;intro x hx;simp at hx;subst hx;rfl
     | int k =>
       rcases cs with _ | ⟨x,_ | ⟨y,r⟩⟩<;>try (simp at ht;done)
       cases x<;>try (simp at ht;done)
       rename_i k' i;simp only at ht;split at ht
       ·rename_i hk;obtain⟨rfl,hw⟩:=hk;refine⟨_,⟨i,rfl,hw⟩,?_,Cs.one (.v _)⟩;intro x hx;simp at hx;subst hx;rfl
       ·cases ht
     | string =>
       rcases cs with _ | ⟨x,_ | ⟨y,r⟩⟩<;>try (simp at ht;done)
       cases x<;>try (simp at ht;done)
       rename_i s;simp only at ht;split at ht
       ·rename_i hs
        have hz:s.size≤N:=by
         rcases hN with h | h
         ·omega
         ·cases ht;unfold bulk at h;have:s.data.toList.length=s.size:=by rw [ZBb];rfl
          omega
        refine⟨_,⟨s,rfl,hz⟩,?_,Cs.one (.v _)⟩;intro x hx;simp at hx;subst hx;rfl
       ·cases ht
     | slice e =>
       simp only [Zy7,ZAn] at hp;rcases cs with _ | ⟨x,_ | ⟨y,r⟩⟩<;>try (simp at ht;done)
       cases x<;>try (simp at ht;done)
       rename_i A len cap
       cases A with
       | none =>
         have h0:len=0∧cap=0:=by
          simp only at ht;split at ht<;>simp_all
         obtain⟨rfl,rfl⟩:=h0;refine⟨_,⟨[],rfl,by simp,by simp⟩,?_,Cs.one ?_⟩
         ·intro x hx;simp at hx;subst hx;rfl
         ·exact .sl _ [] none 0 (λ_=>undef) zs zs (Zyp _) zs zs (by simp [flat])
       | some a =>
         simp only at ht;split at ht
         ·rename_i hc;obtain⟨elems,he,ht⟩:=Option.bind_eq_some_iff.1 ht;have hel:elems.length=len:=by have:=mapM_some_length he;simpa using this
          have hd:∃rest:List (DataW H),d=.slice (elems.map (·.1)) rest:=by
           obtain⟨rest,_,hr⟩:=Option.map_eq_some_iff.1 ht;exact⟨rest.map (·.1),(congrArg Prod.fst hr).symm⟩
          obtain⟨rest,rfl⟩:=hd
          have hlN:len≤N:=by
           rcases hN with h | h
           ·omega
           ·unfold bulk at h;have:=Zsx (elems.map (·.1));rw [Zyn] at this;omega
          have hsub:∀y∈elems,Zmc N y.1:=by
           intro y hy;rcases hN with h | h
           ·exact .inl h
           ·unfold bulk at h;have:=Znm (List.mem_map_of_mem (f:=(·.1)) hy);exact .inr zo
          have key:∀i,i < len→∃aS:List AV,Zc5 P N n e aS∧(∀x∈aS,x.one=true)∧∃vals:List Value,Cs w aS vals∧vals.length=P.cellsOf e∧∀j,j < P.cellsOf e→w.cell? (a.add (i*P.cellsOf e+j))=vals[j]?:=by
           intro i hi;obtain⟨y,hy⟩:=mapM_inv he i (List.mem_range.2 hi);obtain⟨vals,hv,ht2⟩:=Option.bind_eq_some_iff.1 hy
           have hye:y∈elems:=by
            have h5:=mapM_some_get he i i (by rw [ZCk hi]);rw [hy] at h5;exact ZA6 h5.symm
           obtain⟨aS,h1,h2,h3⟩:=Zio n fuel e vals y.1 y.2 hp.2 (hsub y hye) ht2;unfold World.cells? at hv;rw [Zyk (Zyv _)] at hv;refine⟨aS,h1,h2,vals,h3,by have:=mapM_some_length hv;simpa using this,λj hj=>?_⟩;have:=mapM_some_get hv j j (by rw [ZCk hj])
           rwa [Addr.add_add] at this
          obtain⟨es,hes,hq⟩:=Zk7 key
          have hwrap:∀x∈es,(Zdu P e x).cells.length=P.cellsOf e∧(Zdu P e x).cells=x∧(Zdu P e x).ok=true:=by
           intro x hx;obtain⟨i,hi,rfl⟩:=List.mem_iff_getElem.1 hx;obtain⟨h1,h2,_⟩:=hq i hi;obtain⟨k1,k2,k3⟩:=Zj7 P N n e es[i] hp.2 h1;refine⟨by rw [k2];exact k1,k2,?_⟩;unfold Zdu;split
           ·show List.all es[i] AV.one=true;rw [ZA3];exact h2
           ·rename_i hag;obtain⟨b,hb⟩:=k3 (by simpa using hag);rw [hb];have h4:b.one=true:=h2 b (by rw [hb];simp);show b.ok=true;cases b<;>first|exact h4|cases h4
          have hm:∀x∈es.map (Zdu P e),x.cells.length=P.cellsOf e:=by
           intro x hx;obtain⟨y,hy,rfl⟩:=List.mem_map.1 hx;exact(hwrap y hy).1
          have hcell:∀i j,i < len→j < P.cellsOf e→∃v,w.cell? (a.add (i*P.cellsOf e+j))=some v∧∀b,(flat (es.map (Zdu P e)))[i*P.cellsOf e+j]?=some b→Rd w (imm0 w) b v:=by
           intro i j hi hj;obtain⟨h1,h2,vals,h3,h4,h5⟩:=hq i zo;refine⟨vals[j],by rw [h5 j hj,Zym zo],λb hb=>?_⟩;rw [Zdq hm i j hj (by rw [Zyn];omega),Zyu,Zzu,Zym (by omega:i < es.length),Zz7,Zz9,(hwrap _ (Zy6 _)).2.1] at hb;exact h3.2 j b _ hb (Zym zo)
          have hdm:∀j,j < len*P.cellsOf e→j/P.cellsOf e < len∧j%P.cellsOf e < P.cellsOf e∧j/P.cellsOf e*P.cellsOf e+j%P.cellsOf e=j:=by
           intro j hj
           have h0:0 < P.cellsOf e:=by
            rcases Zz0 (P.cellsOf e) with h | h
            ·rw [h] at hj;omega
            ·exact h
           refine⟨Nat.div_lt_of_lt_mul (by rw [Zzj];exact hj),Zzs _ h0,?_⟩;rw [Zzj];exact ZAy _ _
          have hlen:(es.map (Zdu P e)).length=len:=by rw [Zyn,hes]
          refine⟨_,⟨es,rfl,zo,λx hx=>?_⟩,?_,Cs.one ?_⟩
          ·obtain⟨i,hi,rfl⟩:=List.mem_iff_getElem.1 hx;exact(hq i hi).1
          ·intro x hx;simp at hx;subst hx;rfl
          ·have:=Rd.sl (w:=w) (imm:=imm0 w) (P.cellsOf e) (es.map (Zdu P e)) (some a) cap (λj=>(w.cell? (a.add j)).getD undef) hm (λx hx=>by
            obtain⟨y,hy,rfl⟩:=List.mem_map.1 hx;exact(hwrap y hy).2.2) (by rw [hlen];exact hc.2.1) zs (λj hj=>by
            rw [hlen] at hj;obtain⟨k1,k2,k3⟩:=hdm j hj;obtain⟨v,hv,_⟩:=hcell _ _ k1 k2;rw [k3] at hv;exact⟨a,rfl,Zxi hv,by rw [hv];rfl⟩) (λj b hb=>by
            have hj:j < len*P.cellsOf e:=by
             have:=Zbl hb
             rwa [Zaz hm,hlen] at this
            obtain⟨k1,k2,k3⟩:=hdm j hj;obtain⟨v,hv,hr⟩:=hcell _ _ k1 k2;rw [k3] at hv hr;rw [hv];exact hr b hb)
           rwa [hlen] at this
         ·cases ht
     | struct fs =>
       simp only [Zy7] at hp ⊢;simp only at ht;split at ht
       ·rename_i hlen;obtain⟨xs,hx,hxd⟩:=Option.map_eq_some_iff.1 ht;obtain⟨aS,h1,h2,h3⟩:=Zjd (N:=N) (λt cs d ps a b c=>Zio n fuel t cs d ps a b c) hlen fs.toList 0 xs hp.1 (Zyv _) hp.2 hx (λx hx=>by
         rcases hN with h | h
         ·exact .inl h
         ·have hd:DataW.agg (xs.map (·.1))=d:=congrArg Prod.fst hxd;subst hd;unfold bulk at h;have:=Znm (List.mem_map_of_mem (f:=(·.1)) hx);exact .inr zo)
        rw [ZAg] at h2;refine⟨aS,⟨by rw [h2.1,hlen],λf hf=>?_⟩,h1,h2⟩;have:=(h3 f hf).2
        rwa [ZBi] at this
       ·cases ht
     | _=>cases hp
def ShapeV (P:Program) (N n:Nat) (t:TypeId) (a:AV):Prop:=∃aS,a=Zdu P t aS∧Zc5 P N n t aS
inductive ShapeL (P:Program) (N n:Nat):List TypeId→List AV→Prop
 | nil:ShapeL P N n [] []
 | cons {t:TypeId} {a:AV} {ts:List TypeId} {aS:List AV} (h:ShapeV P N n t a) (r:ShapeL P N n ts aS):ShapeL P N n (t :: ts) (a :: aS)
theorem Zpn {N n:Nat} {t:TypeId} {v:Value} {d:DataW H} {ps:List MemPlace} (hp:Zdn P n t=true) (hN:Zmc N d) (h:DataW.Trod enc P w 0 spare held t v d ps) {base:Nat} (hok:Value.okWide P w .any base t v):∃a,ShapeV P N n t a∧Rd w (imm0 w) a v:=by
 obtain⟨fuel,hf⟩:=h;obtain⟨aS,h1,h2,h3⟩:=Zio n fuel t _ d ps hp hN hf;refine⟨Zdu P t aS,⟨aS,rfl,h1⟩,?_⟩
 cases hag:Zgt P t with
 | true =>
   unfold Zdu;rw [hag,Zyk rfl]
   obtain⟨cs,rfl⟩:∃cs,v=.agg cs:=by
    unfold Zgt at hag;split at hag
    ·rename_i fs hu;simp only [Value.okWide,hu] at hok;obtain⟨cs,rfl,_⟩:=hok;exact⟨cs,rfl⟩
    ·cases hag
   refine .agg aS cs ?_ λj a x k1 k2=>h3.2 j a x k1 ?_
   ·have:=h3.1;simpa [Value.cells] using this
   ·simpa [Value.cells] using k2
 | false =>
   obtain⟨a,rfl⟩:=(Zj7 P N n t aS hp h1).2.2 hag;unfold Zdu;rw [hag,Zyj zs];have hl:=h3.1
   have hva:v.cells.toList=[v]:=by
    cases v with
    | agg cs =>
      exfalso
      cases n with
      | zero=>simp [Zdn] at hp
      | succ n =>
        unfold Zdn at hp;unfold Zgt at hag;simp only [Value.okWide,Cell.okWide,Cell.ok] at hok;split at hp<;>simp_all
    | _=>rfl
   exact h3.2 0 a v rfl (by rw [hva];rfl)
theorem trodAll_shape {N n base:Nat}:∀{ts:List TypeId} {vs:List Value} {ds:List (DataW H)} {ps:List MemPlace},(ts.all λt=>Zdn P n t)=true→(maxLen≤N∨bulkAll ds≤N)→DataW.TrodAll enc P w 0 spare held ts vs ds ps →
 (∀(j:Nat) t v,ts[j]?=some t→vs[j]?=some v→Value.okWide P w .any base t v)→∃aS,ShapeL P N n ts aS∧Rds w aS vs
 | [],[],[],ps,_,_,_,_=>⟨[],.nil,.nil⟩
 | t :: ts,v :: vs,d :: ds,ps,hp,hN,h,hok=>by
   simp only [ZB3,Zy7] at hp
   have hN1:Zmc N d:=by
    rcases hN with h | h
    ·exact .inl h
    ·unfold bulkAll at h;exact .inr zo
   have hN2:maxLen≤N∨bulkAll ds≤N:=by
    rcases hN with h | h
    ·exact .inl h
    ·unfold bulkAll at h;exact .inr zo
   obtain⟨p,q,h1,h2,_⟩:=h;obtain⟨a,k1,k2⟩:=Zpn hp.1 hN1 h1 (hok 0 t v rfl rfl);obtain⟨aS,k3,k4⟩:=trodAll_shape hp.2 hN2 h2 λj t v e1 e2=>hok (j+1) t v (by simpa using e1) (by simpa using e2);exact⟨a :: aS,.cons k1 k3,.cons k2 k4⟩
 | [],[],_ :: _,_,_,_,h,_=>h.elim
 | [],_ :: _,_,_,_,_,h,_=>h.elim
 | _ :: _,[],_,_,_,_,h,_=>h.elim
 | _ :: _,_ :: _,[],_,_,_,h,_=>h.elim
theorem trodAll_below (hl:laidOutB P=true) {W':World}:∀{ts:List TypeId} {vs:List Value} {ds:List (DataW H)} {ps:List MemPlace},(ts.all λt=>P.readableRec t && decide (t < P.types.size))=true →
 DataW.TrodAll enc P w 0 (λ_=>true) true ts vs ds ps→Below w.heap.size w W'→DataW.TrodAll enc P W' 0 (λb=>decide (b < w.heap.size)) true ts vs ds ps
 | [],[],[],ps,_,h,_=>h
 | t :: ts,v :: vs,d :: ds,ps,hp,h,hb=>by
   simp only [ZB3,Zy7,Zzi] at hp;obtain⟨p,q,h1,h2,h3⟩:=h;have lt0:∀x∈p,x.block < w.heap.size:=by obtain⟨m,hm⟩:=h1;exact DataW.trod_lt m _ _ _ hm
   exact⟨p,q,Below.trod hl hp.1.1 hp.1.2 h1 hb lt0,trodAll_below hl hp.2 h2 hb,h3⟩
 | [],[],_ :: _,_,_,h,_=>h.elim
 | [],_ :: _,_,_,_,h,_=>h.elim
 | _ :: _,[],_,_,_,h,_=>h.elim
 | _ :: _,_ :: _,[],_,_,h,_=>h.elim
end
section
variable {P:Program} {N n:Nat} {t e:TypeId} {aS:List AV} {k:IntKind} {fs:Array Field}
theorem Ztg (hu:P.underlying t=some .bool) (h:Zc5 P N n t aS):∃b,aS=[.v (.bool b)]:=by
 cases n with
 | zero=>exact h.elim
 | succ n=>unfold Zc5 at h;rw [hu] at h;exact h
theorem Zu7 (hu:P.underlying t=some (.int k)) (h:Zc5 P N n t aS):∃i,aS=[.v (.int k i)]∧(Lit.int k i).wf=true:=by
 cases n with
 | zero=>exact h.elim
 | succ n=>unfold Zc5 at h;rw [hu] at h;exact h
theorem Zpu (hu:P.underlying t=some (.slice e)) (h:Zc5 P N n t aS):∃(m:Nat) (es:List (List AV)),n=m+1∧aS=[.sl (P.cellsOf e) (es.map (Zdu P e))]∧es.length≤N∧∀x∈es,Zc5 P N m e x:=by
 cases n with
 | zero=>exact h.elim
 | succ n=>unfold Zc5 at h;rw [hu] at h;obtain⟨es,h1,h2,h3⟩:=h;exact⟨n,es,rfl,h1,h2,h3⟩
inductive ShapeF (P:Program) (N m:Nat):List Field→List AV→Prop
 | nil:ShapeF P N m [] []
 | cons {f:Field} {fs:List Field} {x y:List AV} (h:Zc5 P N m f.type x) (r:ShapeF P N m fs y):ShapeF P N m (f :: fs) (x++y)
theorem ShapeF.inv {m:Nat} {f:Field} {fs:List Field} {aS:List AV} (h:ShapeF P N m (f :: fs) aS):∃x y,aS=x++y∧Zc5 P N m f.type x∧ShapeF P N m fs y:=by
 cases h with
 | cons h r=>exact⟨_,_,rfl,h,r⟩
theorem ShapeF.inv0 {m:Nat} {aS:List AV} (h:ShapeF P N m [] aS):aS=[]:=by cases h;rfl
theorem Zn0 {m total:Nat}:∀{fs:List Field} {off:Nat} {aS:List AV},Zge P total off fs=true→off≤total→aS.length=total→(∀f∈fs,Zc5 P N m f.type ((aS.drop f.offset).take (P.cellsOf f.type)))→ShapeF P N m fs (aS.drop off)
 | [],off,aS,hc,_,hl,_=>by
   unfold Zge at hc;have:off=total:=by simpa using hc
   rw [Zz6 zo];exact .nil
 | f :: fs,off,aS,hc,ho,hl,hf=>by
   unfold Zge at hc;simp only [Zy7,ZAn] at hc;have h1:=hf f Zzw;rw [hc.1] at h1;rw [←ZAw (P.cellsOf f.type) (aS.drop off),ZBu];refine .cons h1 ?_;by_cases hle:off+P.cellsOf f.type≤total
   ·exact Zn0 hc.2 hle hl λg hg=>hf g (ZAd _ hg)
   ·exfalso
    have key:∀(fs:List Field) (off:Nat),Zge P total off fs=true→off≤total:=by
     intro fs
     induction fs with
     | nil=>intro off h;unfold Zge at h;have:off=total:=by simpa using h
            omega
     | cons g gs ih=>intro off h;unfold Zge at h;simp only [Zy7,ZAn] at h;have:=ih _ h.2;omega
    exact hle (key fs _ hc.2)
theorem Zd8 (hu:P.underlying t=some (.struct fs)) (hc:Zge P (P.cellsOf t) 0 fs.toList=true) (h:Zc5 P N n t aS):∃m,n=m+1∧ShapeF P N m fs.toList aS:=by
 cases n with
 | zero=>exact h.elim
 | succ n =>
   unfold Zc5 at h;rw [hu] at h;refine⟨n,rfl,?_⟩;have:=Zn0 (N:=N) (m:=n) hc (Zyv _) h.1 h.2
   rwa [ZAg] at this
theorem map_of {α β:Type} {g:β→α} {Q:β→Prop}:∀{l:List α},(∀x∈l,∃b,x=g b∧Q b)→∃bs:List β,l=bs.map g∧∀b∈bs,Q b
 | [],_=>⟨[],rfl,by simp⟩
 | x :: l,h=>by
   obtain⟨b,hb,hq⟩:=h x Zzw;obtain⟨bs,hbs,hqs⟩:=map_of (l:=l) λy hy=>h y (ZAd _ hy);refine⟨b :: bs,by rw [hb,hbs];rfl,λc hc=>?_⟩;rcases List.mem_cons.1 hc with rfl | hc
   ·exact hq
   ·exact hqs c hc
theorem Znr (hu:P.underlying t=some (.struct fs)) (aS:List AV):Zdu P t aS=.agg aS:=by simp [Zdu,Zgt,hu]
theorem Znq (h:Zgt P t=false) (a:AV):Zdu P t [a]=a:=by simp [Zdu,h]
theorem Zh6 {β:Type} {g:β→List AV} {Q:β→Prop} (hu:P.underlying t=some (.slice e)) (h:Zc5 P N n t aS) (hx:∀m x,Zc5 P N m e x→∃b,x=g b∧Q b) :
 ∃bs:List β,aS=[.sl (P.cellsOf e) (bs.map λb=>Zdu P e (g b))]∧bs.length≤N∧∀b∈bs,Q b:=by
 obtain⟨m,es,rfl,rfl,hl,hs⟩:=Zpu hu h;obtain⟨bs,rfl,hq⟩:=map_of λx hx'=>hx m x (hs x hx');refine⟨bs,by rw [List.map_map];rfl,by simpa using hl,hq⟩
theorem ShapeL.inv {N n:Nat} {t:TypeId} {ts:List TypeId} {aS:List AV} (h:ShapeL P N n (t :: ts) aS):∃x bs,aS=Zdu P t x :: bs∧Zc5 P N n t x∧ShapeL P N n ts bs:=by
 cases h with
 | cons h r=>obtain⟨x,rfl,hx⟩:=h;exact⟨x,_,rfl,hx,r⟩
theorem ShapeL.inv0 {N n:Nat} {aS:List AV} (h:ShapeL P N n [] aS):aS=[]:=by cases h;rfl
theorem wf_u16 {i:Int} (h:(Lit.int .u16 i).wf=true):0≤i∧i < 65536:=by
 have h:(decide ((0:Int)≤i) && decide (i≤65535))=true:=h;simp only [Zy7,Zzi] at h;omega
end
end
mutual
def AV.sh:AV→AV
 | .agg cs=>.agg (AV.shL cs)
 | .tup cs=>.tup (AV.shL cs)
 | .fn f cs=>.fn f (AV.shL cs)
 | .ifc t x=>.ifc t (AV.sh x)
 | .own k sv=>.own (k+1000) sv
 | .prow k sv m i off=>.prow (k+1000) sv m i off
 | .pbox k g off=>.pbox (k+1000) g off
 | .view k sv m i len=>.view (k+1000) sv m i len
 | .mp k g=>.mp (k+1000) g
 | .v x=>.v x
 | .sl m es=>.sl m es
 | .pimm cs=>.pimm cs
 | .u=>.u
def AV.shL:List AV→List AV
 | []=>[]
 | a :: r=>AV.sh a :: AV.shL r
end
theorem AV.shL_len:∀(l:List AV),(AV.shL l).length=l.length
 | []=>rfl
 | a :: r=>by simp only [AV.shL,Zyx,AV.shL_len r]
theorem AV.shL_at:∀(l:List AV) (j:Nat),(AV.shL l)[j]?=(l[j]?).map AV.sh
 | [],j=>by simp [AV.shL]
 | a :: r,0=>by simp [AV.shL]
 | a :: r,j+1=>by simp only [AV.shL,ZCn];exact AV.shL_at r j
theorem AV.sh_one (a:AV):a.sh.one=a.one:=by cases a<;>simp only [AV.sh]<;>rfl
theorem Sub.agg (aS bs:List AV) (hl:aS.length=bs.length) (h:∀(j:Nat) (a b:AV),aS[j]?=some a→bs[j]?=some b→Sub a b):Sub (.agg aS) (.agg bs):=λw imm x hx=>by
 obtain⟨vs,rfl,h1,h2⟩:=hx.agg_inv;refine .agg _ _ zo λj b y hb hy=>?_;have hj:j < aS.length:=by rw [hl];exact(List.getElem?_eq_some_iff.1 hb).1
 exact h j aS[j] b (Zym hj) hb w imm y (h2 j aS[j] y (Zym hj) hy)
theorem Sub.fn (f:FuncId) (aS bs:List AV) (hl:aS.length=bs.length) (h:∀(j:Nat) (a b:AV),aS[j]?=some a→bs[j]?=some b→Sub a b):Sub (.fn f aS) (.fn f bs):=λw imm x hx=>by
 obtain⟨vs,rfl,h1,h2⟩:=hx.fn_inv;refine .fn _ _ _ zo λj b y hb hy=>?_;have hj:j < aS.length:=by rw [hl];exact(List.getElem?_eq_some_iff.1 hb).1
 exact h j aS[j] b (Zym hj) hb w imm y (h2 j aS[j] y (Zym hj) hy)
theorem Sub.ifc (t:TypeId) {a b:AV} (h:Sub a b):Sub (.ifc t a) (.ifc t b):=λw imm x hx=>by
 obtain⟨y,rfl,h1⟩:=hx.ifc_inv;exact .ifc _ _ _ (h w imm y h1)
mutual
theorem AV.sub_sh:∀(a:AV),Sub a a.sh∧Sub a.sh a
 | .agg cs=>by
   have h:=AV.subL_sh cs;refine⟨Sub.agg _ _ (AV.shL_len cs).symm λj a b h1 h2=>?_,Sub.agg _ _ (AV.shL_len cs) λj a b h1 h2=>?_⟩
   ·rw [AV.shL_at,h1] at h2;cases h2;exact(h a (ZA6 h1)).1
   ·rw [AV.shL_at,h2] at h1;cases h1;exact(h b (ZA6 h2)).2
 | .tup cs=>by
   have h:=AV.subL_sh cs;refine⟨Sub.tup _ _ (AV.shL_len cs).symm λj a b h1 h2=>?_,Sub.tup _ _ (AV.shL_len cs) λj a b h1 h2=>?_⟩
   ·rw [AV.shL_at,h1] at h2;cases h2;exact(h a (ZA6 h1)).1
   ·rw [AV.shL_at,h2] at h1;cases h1;exact(h b (ZA6 h2)).2
 | .fn f cs=>by
   have h:=AV.subL_sh cs;refine⟨Sub.fn _ _ _ (AV.shL_len cs).symm λj a b h1 h2=>?_,Sub.fn _ _ _ (AV.shL_len cs) λj a b h1 h2=>?_⟩
   ·rw [AV.shL_at,h1] at h2;cases h2;exact(h a (ZA6 h1)).1
   ·rw [AV.shL_at,h2] at h1;cases h1;exact(h b (ZA6 h2)).2
 | .ifc t x=>⟨Sub.ifc t (AV.sub_sh x).1,Sub.ifc t (AV.sub_sh x).2⟩
 | .own k sv=>⟨Sub.own _ _ _,Sub.own _ _ _⟩
 | .prow k sv m i off=>⟨Sub.prow _ _ _ _ _ _,Sub.prow _ _ _ _ _ _⟩
 | .pbox k g off=>⟨Sub.pbox _ _ _ _,Sub.pbox _ _ _ _⟩
 | .view k sv m i len=>⟨Sub.view _ _ _ _ _ _,Sub.view _ _ _ _ _ _⟩
 | .mp k g=>⟨Sub.mp _ _ _,Sub.mp _ _ _⟩
 | .v x=>⟨Sub.refl _,Sub.refl _⟩
 | .sl m es=>⟨Sub.refl _,Sub.refl _⟩
 | .pimm cs=>⟨Sub.refl _,Sub.refl _⟩
 | .u=>⟨Sub.refl _,Sub.refl _⟩
theorem AV.subL_sh:∀(l:List AV) (a:AV),a∈l→Sub a a.sh∧Sub a.sh a
 | [],a,h=>by simp at h
 | b :: r,a,h=>by
   by_cases e:a=b
   ·rw [e];exact AV.sub_sh b
   ·exact AV.subL_sh r a ((List.mem_cons.1 h).resolve_left e)
end
def Ent.sh:Ent→Ent
 | .row sv e m es pub=>.row sv e m es pub
 | .box g e cs pub=>.box g e (AV.shL cs) pub
 | .map g es=>.map g es
 | .obj g o=>.obj g o
theorem Ent.sh_blk (e:Ent):e.sh.blk=e.blk:=by cases e<;>rfl
theorem Ent.sh_ok {B:Nat} {w:World} {imm:Imm} {e:Ent} (h:EntOk B w imm e):EntOk B w imm e.sh:=by
 cases e with
 | row=>exact h
 | box g e cs pub =>
   obtain⟨cur,h1,h2,h3,h4,h5,h6,h7⟩:=h;refine⟨cur,h1,h2,by rw [AV.shL_len];exact h3,λx hx=>?_,λj a x ha hx=>?_,h6,λhp off ho=>h7 hp off (by rw [AV.shL_len] at ho;exact ho)⟩
   ·obtain⟨j,hj⟩:=List.mem_iff_getElem?.1 hx;rw [AV.shL_at] at hj;obtain⟨y,hy,rfl⟩:=Option.map_eq_some_iff.1 hj;rw [AV.sh_one];exact h4 y (ZA6 hy)
   ·rw [AV.shL_at] at ha;obtain⟨y,hy,rfl⟩:=Option.map_eq_some_iff.1 ha;exact(AV.sub_sh y).1 w imm x (h5 j y x hy hx)
 | map=>exact h
 | obj=>exact h
theorem Ent.of_sh {B:Nat} {w:World} {imm:Imm} {e:Ent} (h:EntOk B w imm e.sh):EntOk B w imm e:=by
 cases e with
 | row=>exact h
 | box g e cs pub =>
   obtain⟨cur,h1,h2,h3,h4,h5,h6,h7⟩:=h;refine⟨cur,h1,h2,by rw [AV.shL_len] at h3;exact h3,λx hx=>?_,λj a x ha hx=>?_,h6,λhp off ho=>h7 hp off (by rw [AV.shL_len];exact ho)⟩
   ·obtain⟨j,hj⟩:=List.mem_iff_getElem?.1 hx;have h8:=h4 x.sh (ZA6 (i:=j) (by rw [AV.shL_at,hj];rfl));rw [AV.sh_one] at h8;exact h8
   ·exact(AV.sub_sh a).2 w imm x (h5 j a.sh x (by rw [AV.shL_at,ha];rfl) hx)
 | map=>exact h
 | obj=>exact h
def lents (σ:Mem):Mem:=λk=>if k < 1000 then none else (σ (k - 1000)).map Ent.sh
theorem Za5 {σ:Mem} {k:Nat} {e:Ent} (h:σ k=some e):lents σ (k+1000)=some e.sh:=by
 unfold lents;rw [Zyj zo,ZCr,h];rfl
theorem Zaj {σ:Mem} {k:Nat} (h:k < 1000):lents σ k=none:=by unfold lents;rw [Zyk h]
def Agr (m σ:Mem):Prop:=∀k,m (k+1000)=(σ k).map Ent.sh
theorem Agr.start (σ:Mem):Agr (lents σ) σ:=λk=>by unfold lents;rw [Zyj zo,ZCr]
theorem Agr.own {m σ:Mem} (h:Agr m σ) {t:Nat} {x:Option Ent} (ht:t < 1000):Agr (upd m t x) σ:=λk=>by
 rw [Zal,Zyj zo];exact h k
theorem Agr.mark {m σ:Mem} (h:Agr m σ) {t:Nat} (ht:t < 1000):Agr (mark m t) σ:=h.own ht
theorem Agr.put {m σ:Mem} (h:Agr m σ) {t k:Nat} {e e':Ent} (ht:t=k+1000) (he:e'=e.sh):Agr (upd m t (some e')) (upd σ k (some e)):=λj=>by
 subst ht;subst he;rw [Zal,Zal];by_cases hj:j=k
 ·subst hj;rw [Zyk rfl,Zyk rfl];rfl
 ·rw [Zyj zo,Zyj hj];exact h j
theorem upd_over {α:Type} (f:Nat→α) (k:Nat) (a b:α):upd (upd f k a) k b=upd f k b:=by
 funext j
 simp only [Zal];split<;>rfl
theorem Agr.same {m σ:Mem} (h:Agr m σ) {t k:Nat} {e e':Ent} (ht:t=k+1000) (hk:σ k=some e) (he:e'=e.sh):Agr (upd m t (some e')) σ:=by
 have:=h.put (k:=k) (e:=e) ht he
 rwa [show upd σ k (some e)=σ from by funext j;rw [Zal];split;(subst_vars;exact hk.symm);rfl] at this
def Zyi (R:AV→Mem→Prop) (b:AV) (m:Mem):Prop:=∃(r:AV) (σ':Mem),Sub b r∧R r σ'∧Agr m σ'
theorem Zfn {R:AV→Mem→Prop} {b r:AV} {m σ':Mem} (h:Sub b r) (hR:R r σ') (ha:Agr m σ'):Zyi R b m:=⟨r,σ',h,hR,ha⟩
theorem Za2 {P:Program} {f n:Nat} {fn:Func} {code:Code} {rs:List ResultVar} {args:List AV} {σ:Mem} {R:AV→Mem→Prop} (hf:P.funcs[f]?=some fn) (hb:fn.body=some code) (hn:fn.ntmps=n) (hrs:fn.results=rs.toArray)
 (hc:∀(vs:Array Value) (w:World),(callFunc f vs).run P w=.ok (.enter f vs) w) (hfit:Zaw n code=true) (hal:args.length≤n)
 (h:Zav P 0 n code (Done P rs λst b=>Zyi R b st.mem) ⟨λt=>(AV.shL args).getD t .u,lents σ⟩):ACall P f args σ R:=by
 have key:=Zbg (σ:=lents σ) (R:=Zyi R) hf hb hn hrs hc hfit (by rw [AV.shL_len];exact hal) h;refine⟨hc,λc w imm vs hm hl hr=>?_⟩
 have hm':Mx c (lents σ) w imm:=by
  refine⟨⟨λk e hk=>?_,λk k' e e' b h1 h2 h3 h4=>?_,hm.ok.lt,hm.ok.spot⟩,hm.below,hm.lt,hm.old,hm.new,hm.cells⟩
  ·unfold lents at hk;split at hk
   ·cases hk
   ·obtain⟨e0,h0,rfl⟩:=Option.map_eq_some_iff.1 hk;exact Ent.sh_ok (hm.ok.ent _ _ h0)
  ·unfold lents at h1 h2;split at h1
   ·cases h1
   ·split at h2
    ·cases h2
    ·obtain⟨e0,k0,rfl⟩:=Option.map_eq_some_iff.1 h1;obtain⟨e1,k1,rfl⟩:=Option.map_eq_some_iff.1 h2;rw [Ent.sh_blk] at h3 h4;have:=hm.ok.apart _ _ _ _ b k0 k1 h3 h4;omega
 refine(key.2 c w imm vs hm' (by rw [AV.shL_len];exact hl) λj a x h1 h2=>?_).mono λe w' he=>?_
 ·rw [AV.shL_at] at h1;obtain⟨y,hy,rfl⟩:=Option.map_eq_some_iff.1 h1;exact(AV.sub_sh y).1 w imm x (hr j y x hy h2)
 ·obtain⟨b,m,imm',x,rfl,⟨r,σ',h1,h2,h3⟩,h5,h6,h7⟩:=he;refine⟨r,σ',imm',x,rfl,h2,h1 _ _ _ h5,⟨⟨λk e hk=>?_,λk k' e e' b h1 h2 k3 k4=>?_,h6.ok.lt,h6.ok.spot⟩,h6.below,h6.lt,h6.old,h6.new,h6.cells⟩,h7⟩
  ·have:=h3 k;rw [hk] at this;exact Ent.of_sh (h6.ok.ent _ _ this)
  ·have e1:=h3 k;have e2:=h3 k';rw [h1] at e1;rw [h2] at e2;have:=h6.ok.apart _ _ _ _ b e1 e2 (by rw [Ent.sh_blk];exact k3) (by rw [Ent.sh_blk];exact k4);omega
theorem Frz.nilBox {n:Nat} {e:Nat→AV} {m:Mem} {k g:Nat} {bt:TypeId} {cs:List AV} (j t mm:Nat) (ty:TypeId) (hm:m k=some (.box g bt cs false)) (hj:cs[j]?=some (.v (.slice none 0 0))) (ht:t≠k) :
 Frz n ⟨e,m⟩ ⟨e,upd (upd m k (some (.box g bt (cs.set j (.own t (.slice none 0 0))) false))) t (some (.row (.slice none 0 0) ty mm [] 0))⟩:=by
 intro c a w imm h
 have h1:Mx c (upd m k (some (.box g bt (cs.set j (.own t (.slice none 0 0))) false))) w imm:=by
  have hk:=h.mem.ok.ent k _ hm;obtain⟨cur,k1,k2,k3,k4,k5,k6,k7⟩:=hk;refine(Zdy h.mem (World.grownBy.refl w none) (Zyp _) zs (λ_ _=>rfl) k (.box g bt (cs.set j (.own t (.slice none 0 0))) false) ⟨cur,k1,k2,by simpa using k3,λx hx=>?_,λi a x ha hx=>?_,k6,λhp=>by cases hp⟩ λj2 e2 b h1 h2 h3=>⟨by simp,?_⟩).1
  ·rcases ZCl hx with h1 | h1
   ·exact k4 x h1
   ·subst h1;rfl
  ·rw [List.getElem?_set] at ha;split at ha
   ·rename_i hij;subst hij;split at ha
    ·simp only [Option.some.injEq] at ha;subst ha;have:=(k5 j _ x hj hx).v_inv;subst this;exact .own _ _ rfl
    ·cases ha
   ·exact k5 i a x ha hx
  ·show some g≠some b;intro hb;exact h1 (h.mem.ok.apart j2 k e2 _ b h2 hm h3 hb)
 refine⟨imm,h.env,h.size,h.defers,?_⟩;exact(Zdy h1 (World.grownBy.refl w none) (Zyp _) zs (λ_ _=>rfl) t (.row (.slice none 0 0) ty mm [] 0) ⟨[],ZC8 w c.B ty mm,by simp,by simp,by simp [flat],by simp,λad _ h2=>by simp [Value.ownBlock] at h2,λg off h1 _=>by simp [Value.ownBlock] at h1⟩ λj e2 b _ _ _=>⟨by simp,by simp [Ent.blk,Value.ownBlock]⟩).1
attribute [go_sem] AV.sh AV.shL Ent.sh
def EntSub (e e':Ent):Prop:=e'.blk=e.blk∧∀(B:Nat) (w:World) (imm:Imm),EntOk B w imm e→EntOk B w imm e'
theorem EntSub.refl (e:Ent):EntSub e e:=⟨rfl,λ_ _ _ h=>h⟩
theorem EntSub.box {g:Nat} {t:TypeId} {cs cs':List AV} {pub:Bool} (hl:cs'.length=cs.length) (h1:∀x∈cs',x.one=true) (h:∀(j:Nat) (a b:AV),cs[j]?=some a→cs'[j]?=some b→Sub a b):EntSub (.box g t cs pub) (.box g t cs' pub):=by
 refine⟨rfl,λB w imm h0=>?_⟩;obtain⟨cur,k1,k2,k3,k4,k5,k6,k7⟩:=h0;refine⟨cur,k1,k2,by rw [hl];exact k3,h1,λj a x ha hx=>?_,k6,λhp off ho=>k7 hp off (by rw [←hl];exact ho)⟩;have hj:j < cs.length:=by rw [←hl];exact(List.getElem?_eq_some_iff.1 ha).1
 exact h j cs[j] a (Zym hj) ha w imm x (k5 j cs[j] x (Zym hj) hx)
def BackG (R:AV→Mem→Prop) (b:AV) (m:Mem):Prop:=∃(r:AV) (σ':Mem) (ρ:Nat→Nat),Sub b r∧R r σ'∧(∀k e,σ' k=some e→∃e0,m (ρ k)=some e0∧EntSub e0 e)∧(∀k k',σ' k≠none→σ' k'≠none→ρ k=ρ k'→k=k')
theorem Mx.renameG {c:Cx} {m σ':Mem} {w:World} {imm:Imm} (h:Mx c m w imm) (ρ:Nat→Nat) (h3:∀k e,σ' k=some e→∃e0,m (ρ k)=some e0∧EntSub e0 e) (h4:∀k k',σ' k≠none→σ' k'≠none→ρ k=ρ k'→k=k'):Mx c σ' w imm:=by
 refine⟨⟨λk e hk=>?_,λk k' e e' b k1 k2 k3 k4=>?_,h.ok.lt,h.ok.spot⟩,h.below,h.lt,h.old,h.new,h.cells⟩
 ·obtain⟨e0,hm,hs⟩:=h3 k e hk;exact hs.2 _ _ _ (h.ok.ent _ _ hm)
 ·obtain⟨e0,hm,hs⟩:=h3 k e k1;obtain⟨e1,hm',hs'⟩:=h3 k' e' k2;refine h4 k k' (by rw [k1];simp) (by rw [k2];simp) (h.ok.apart _ _ _ _ b hm hm' ?_ ?_)
  ·rw [←hs.1];exact k3
  ·rw [←hs'.1];exact k4
theorem EntSub.of_sh (e:Ent):EntSub e.sh e:=⟨(Ent.sh_blk e).symm,λ_ _ _ h=>Ent.of_sh h⟩
theorem Zfh {P:Program} {f n:Nat} {fn:Func} {code:Code} {rs:List ResultVar} {args:List AV} {σ:Mem} {R:AV→Mem→Prop} (hf:P.funcs[f]?=some fn) (hb:fn.body=some code) (hn:fn.ntmps=n) (hrs:fn.results=rs.toArray)
 (hc:∀(vs:Array Value) (w:World),(callFunc f vs).run P w=.ok (.enter f vs) w) (hfit:Zaw n code=true) (hal:args.length≤n)
 (h:Zav P 0 n code (Done P rs λst b=>BackG R b st.mem) ⟨λt=>(AV.shL args).getD t .u,lents σ⟩):ACall P f args σ R:=by
 have key:=Zbg (σ:=lents σ) (R:=BackG R) hf hb hn hrs hc hfit (by rw [AV.shL_len];exact hal) h;refine⟨hc,λc w imm vs hm hl hr=>?_⟩
 have hm':Mx c (lents σ) w imm:=by
  refine⟨⟨λk e hk=>?_,λk k' e e' b h1 h2 h3 h4=>?_,hm.ok.lt,hm.ok.spot⟩,hm.below,hm.lt,hm.old,hm.new,hm.cells⟩
  ·unfold lents at hk;split at hk
   ·cases hk
   ·obtain⟨e0,h0,rfl⟩:=Option.map_eq_some_iff.1 hk;exact Ent.sh_ok (hm.ok.ent _ _ h0)
  ·unfold lents at h1 h2;split at h1
   ·cases h1
   ·split at h2
    ·cases h2
    ·obtain⟨e0,k0,rfl⟩:=Option.map_eq_some_iff.1 h1;obtain⟨e1,k1,rfl⟩:=Option.map_eq_some_iff.1 h2;rw [Ent.sh_blk] at h3 h4;have:=hm.ok.apart _ _ _ _ b k0 k1 h3 h4;omega
 refine(key.2 c w imm vs hm' (by rw [AV.shL_len];exact hl) λj a x h1 h2=>?_).mono λe w' he=>?_
 ·rw [AV.shL_at] at h1;obtain⟨y,hy,rfl⟩:=Option.map_eq_some_iff.1 h1;exact(AV.sub_sh y).1 w imm x (hr j y x hy h2)
 ·obtain⟨b,m,imm',x,rfl,⟨r,σ',ρ,h1,h2,h3,h4⟩,h5,h6,h7⟩:=he;exact⟨r,σ',imm',x,rfl,h2,h1 _ _ _ h5,h6.renameG ρ h3 h4,h7⟩
theorem Zim {R:AV→Mem→Prop} {b r:AV} {m σ σ':Mem} (d t:Nat) (hd:d < 1000) (hs:Sub b r) (hR:R r σ') (ht:m d=σ' t) (hm:∀k,k≠t→σ' k≠none→m (k+1000)=(σ' k).map Ent.sh):BackG R b m :=
 ⟨r,σ',λk=>if k=t then d else k+1000,hs,hR,λk e h=>by
  by_cases hk:k=t
  ·subst hk;simp only [Zzb];exact⟨e,by rw [ht,h],EntSub.refl _⟩
  ·simp only [Zyj hk];exact⟨e.sh,by rw [hm k hk (by rw [h];simp),h];rfl,EntSub.of_sh e⟩,λk k' _ _ h=>by
  by_cases hk:k=t<;>by_cases hk':k'=t
  ·rw [hk,hk']
  ·simp only [Zyk hk,Zyj hk'] at h;omega
  ·simp only [Zyj hk,Zyk hk'] at h;omega
  ·simp only [Zyj hk,Zyj hk'] at h;omega⟩
theorem Zhb {P:Program} {tok:Nat} {all:List Oper} {K K':St→Prop} (h:∀st,K st→K' st):∀(ops:List Oper) (st:St),Za3 P tok all ops K st→Za3 P tok all ops K' st
 | [],st,hk=>h st hk
 | ⟨d,op,t,pos,af,none⟩ :: r,st,hk=>Zf1 (Zhb h r) _ _ _ _ hk
 | ⟨d,op,t,pos,af,some (j,want)⟩ :: r,st,hk=>by
   rw [Zi3] at hk ⊢;refine⟨hk.1,?_⟩;have h2:=hk.2;split at h2
   ·rename_i hc;rw [Zyk hc];exact Zf1 (Zhb h r) _ _ _ _ h2
   ·rename_i hc;rw [Zyj hc];exact Zhb h r _ h2
theorem Zs2 {P:Program} {n:Nat} {code:Code} {Q Q':AE→St→Prop} {st:St} (h:∀ae st,Q ae st→Q' ae st) (k:AWP P n code Q st):AWP P n code Q' st :=
 λc a w imm hr=>ZBv (λ_ _ _ hp=>Zwf h hp) (k c a w imm hr)
theorem Zuy {next next':St→Prop} {Q Q':AE→St→Prop} (h1:∀st,next st→next' st) (h:∀ae st,Q ae st→Q' ae st):∀ae st,AE.then next Q ae st→AE.then next' Q' ae st
 | .normal,st,k=>h1 st k
 | .exit _,st,k=>h _ st k
 | .ret,st,k=>h _ st k
theorem Zo7 {id:Nat} {Q Q':AE→St→Prop} (h:∀ae st,Q ae st→Q' ae st):∀ae st,AE.inBlock id Q ae st→AE.inBlock id Q' ae st
 | .normal,st,k=>h _ st k
 | .exit i,st,k=>by
   simp only [AE.inBlock] at k ⊢;split at k
   ·rename_i e;rw [Zyk e];exact h _ st k
   ·rename_i e;rw [Zyj e];exact h _ st k
 | .ret,st,k=>h _ st k
theorem Zul {P:Program} {n:Nat}:∀(code:Code) {Q Q':AE→St→Prop} (st:St),(∀ae st,Q ae st→Q' ae st)→Zav P 0 n code Q st→Zav P 0 n code Q' st:=by
 intro code
 induction code with
 | skip=>exact λst h k=>h _ _ k
 | region id ops d=>cases d with
   | false=>exact λst h k=>Zhb (h _) _ _ k
   | true=>exact λst h k=>Zs2 h k
 | seq x y ihx ihy=>exact λst h k=>ihx st (Zuy (λst'=>ihy st' h) h) k
 | cond o x y ihx ihy =>
   intro Q Q' st h k;unfold Zav at k ⊢;split at k
   ·exact⟨λe=>ihx st h (k.1 e),λe=>ihy st h (k.2 e)⟩
   ·exact k.elim
 | block id x ih=>exact λst h k=>ih st (Zo7 h) k
 | exit id=>exact λst h k=>h _ _ k
 | ret=>exact λst h k=>h _ _ k
 | _=>exact λst h k=>Zs2 h k
section
variable {P:Program} {n:Nat} {Q:AE→St→Prop} {e:Nat→AV} {m:Mem}
end
section
variable {P:Program} {c:Cx} {n:Nat}
theorem at_lt {l s:List Oper} {j:Nat} (h:j < l.length):(l++s).toArray[j]?=l.toArray[j]?:=by
 rw [ZAm,ZAm,Zzr h]
theorem at_suf {l s:List Oper} (k:Nat):(l++s).toArray[l.length+k]?=s[k]?:=by
 rw [ZAm,Zzv (Nat.le_add_right _ _),ZBs]
def LastK (P:Program) (n:Nat) (o:Oper) (K:St→Prop) (st:St):Prop:=(∃c a w imm,Rel c n st a w imm)→∃st',Frz n st st'∧Za3 P 0 [o] [o] (λst1=>∃st2,Frz n st1 st2∧K st2) st'
def LastsK (P:Program) (n:Nat):List Oper→(St→Prop)→St→Prop
 | [],K=>K
 | o :: s,K=>LastK P n o (LastsK P n s K)
def Zxc (n:Nat) (l s:List Oper):Bool :=
 s.all (λo=>Zdt n o && o.guard.isNone) && l.all (λx=>x.guard.isNone) &&
 ((List.range (l.length+s.length)).all λj=>match (l++s).toArray[j]? with
   | some x=>x.after.toList.all λe=>!Region.binds .any e || decide (e.on < j)
   | none=>true) && (List.range s.length).all λk=>(List.range (l.length+k)).all λj=>Zlh (l++s).toArray (l.length+s.length) j (l.length+k)
structure LastOk (n:Nat) (l s:List Oper):Prop where
 fits:∀o∈s,Zdt n o=true
 g:∀o∈s,o.guard=none
 gl:∀x∈l,x.guard=none
 dj:∀j x,(l++s).toArray[j]?=some x→∀e∈x.after,Region.binds .any e=true→e.on < j
 r:∀k,k < s.length→∀j,j < l.length+k→Zlh (l++s).toArray (l.length+s.length) j (l.length+k)=true
theorem Zqy {l s:List Oper} (h:Zxc n l s=true):LastOk n l s:=by
 unfold Zxc at h;simp only [Zy7,ZA3,Option.isNone_iff_eq_none,List.mem_range] at h;obtain⟨⟨⟨h1,h3⟩,h5⟩,h6⟩:=h;refine⟨λo ho=>(h1 o ho).1,λo ho=>(h1 o ho).2,h3,λj x hx e he hb=>?_,h6⟩
 have hj:j < l.length+s.length:=by
  rw [ZAm] at hx;have:=(List.getElem?_eq_some_iff.1 hx).1
  rwa [Zza] at this
 have:=h5 j hj;rw [hx] at this;simp only [ZA3,ZAc,ZAs,Zzi,Array.mem_toList_iff] at this;exact(this e he).resolve_left (by simp [hb])
theorem wpOp_app {l s:List Oper} (ho:LastOk n l s) {Q:Exit→Act→World→Prop} {i:Nat} (hi:i < l.length) {K:Act→World→Prop} {a:Act} {w:World} (h:wpOp P l.toArray Q i K a w):wpOp P (l++s).toArray Q i K a w:=by
 unfold wpOp at h ⊢;rw [at_lt hi];have hx:l.toArray[i]?=some l[i]:=by rw [ZAm,Zym hi]
 rw [hx] at h ⊢;have hg:=ho.gl l[i] (Zy6 hi);simp only [Region.wanted,hg] at h ⊢;exact h
theorem Zg5 {listed:Array Bool} {j:Nat} (h:j < listed.size):listed.getD j false=listed.getD j true:=by
 simp [h]
theorem Zvu {l s:List Oper} {listed:Array Bool} {i:Nat} (hi:i∈Region.ready .any l.toArray listed):i∈Region.ready .any (l++s).toArray listed:=by
 obtain⟨h0,x,hx,hd⟩:=mem_ready.1 hi
 have hil:i < l.length:=by
  rw [ZAm] at hx;exact(List.getElem?_eq_some_iff.1 hx).1
 exact mem_ready.2 ⟨h0,x,by rw [at_lt hil];exact hx,hd⟩
theorem Zru {l s:List Oper} (ho:LastOk n l s) {listed:Array Bool} (hsz:listed.size=l.length+s.length):∀j,j < l.length→listed.getD j true=false→∃i,i∈Region.ready .any l.toArray listed:=by
 intro j
 induction j using Nat.strongRecOn with
 | _ j ih =>
   intro hj hb;have hx:l.toArray[j]?=some l[j]:=by rw [ZAm,Zym hj]
   by_cases hd:∀e∈l[j].after,Region.binds .any e=true→listed.getD e.on false=true
   ·exact⟨j,mem_ready.2 ⟨hb,l[j],hx,hd⟩⟩
   ·obtain⟨e,he⟩:=Classical.not_forall.1 hd;obtain⟨he,h1⟩:=Classical.not_imp.1 he;obtain⟨hbd,h1⟩:=Classical.not_imp.1 h1;have hlt:=ho.dj j l[j] (by rw [at_lt hj];exact hx) e he hbd;refine ih e.on hlt zo ?_;rw [←Zg5 zo];simpa using h1
end
section
variable {P:Program} {all rest:List Oper} {K:St→Prop} {e:Nat→AV} {m:Mem} {dst:Option Nat} {d t j:Nat} {op:Op} {ty:TypeId} {pos:String} {af:Array Edge} {r:Res} {rs:Nat→AV} {bar:List Nat} {fu k:Nat} {σs:Mem}
theorem gy5d (hb:bar.contains k=true) (hs:(bar.contains (k+1000) || bar.contains (k+3000))=false) (h2:bar.contains (k+2000)=true) (ho:all[k]?=some ⟨some d,op,ty,pos,af,none⟩) (h:Ev (Zag P ⟨e,m⟩ op=r)) (hkp:Ev (Zb9 Zac r)) (hk:aRes P d (some d) r (Zbh P 0 all rs bar Zac fu (k+1) K) ⟨e,m⟩):Zbh P 0 all rs bar σs (fu+1) k K ⟨e,m⟩:=by
 rw [Zck];unfold Zd6;rw [ho];simp only [ZBw] at hs;simp only [Zbz,hb,hs,h2,Zzb,Zyy,Zy8];have h:Zag P ⟨e,m⟩ op=r:=h;refine⟨?_,λ_=>⟨rfl,by rw [h];exact hkp,λh=>by cases h⟩⟩;unfold Zf9;rw [Zd2,h,Zz9,Zzd];exact hk
end
def FX (ro:Option Nat):Fence:={ fn:=λ_=>True,depth:=none,alive:=false,round:=ro }
theorem Zsu {ro:Option Nat} {n:Nat} {P:Program} {f:FuncId} {vs:Array Value} {w:World} {R:Ending→World→Prop} (h:Calls P f vs w R):CallsIn (FX ro) n P f vs w R :=
 (callsIn_wide (n:=n)).2 h
theorem Zvo {ro:Option Nat} {n:Nat} {P:Program} {row:String} {vs:Array Value} {w:World} {R:Value→World→Prop} (h:Rows P row vs w R):RowsIn (FX ro) n P row vs w R :=
 λc cs _=>let ⟨v,w',r,s⟩:=h c cs;⟨v,w',r,stepsIn_wide.2 s⟩
def nextX (ds:List Deferred) (K:Act→World→Prop):Act→World→Prop:=λa w=>a.defers=ds∧K { a with defers:=[] } w
section
variable {P:Program} {c:Cx} {n tok:Nat} {ro:Option Nat} {ds:List Deferred}
def Zqe (c:Cx) (n:Nat) (ds:List Deferred) (Q:AE→St→Prop):Exit→Act→World→Prop:=λe a w=>a.defers=ds∧post c n Q e { a with defers:=[] } w
theorem Zrx (a:Act) (d:Option Nat) (v:Value):({ a with defers:=[] }:Act).put d v={ a.put d v with defers:=[] }:=by cases d<;>rfl
theorem Zlx {Q:AE→St→Prop} {ch:List PanicEntry} {a:Act} {w:World} (h:post c n Q (.panic ch) a w):False:=by
 obtain⟨ae,st,imm,h1,_⟩:=h;cases ae<;>cases h1
theorem Zr1 {Q:AE→St→Prop} (h:LetsOut (post c n Q)):False:=by
 obtain⟨a,w,ae,st,imm,h1,_⟩:=h;cases ae<;>cases h1
theorem upon_X {o:Oper} {a:Act} {K:Act→World→Prop} {Q:AE→St→Prop} (ha:a.defers=ds) (hK:∀a w,K a w→a.defers=[]) {r:Result Next}
 (h:o.upon P { a with defers:=[] } K (post c n Q) r):o.uponIn (FX ro) 0 P a (nextX ds K) (Zqe c n ds Q) r:=by
 have fin:∀(v:Value) (w:World),K (({ a with defers:=[] }:Act).put o.dst v) w→nextX ds K (a.put o.dst v) w:=λv w hk=>⟨by rw [Act.put_defers'];exact ha,by rw [←Zrx];exact hk⟩
 cases r with
 | ok x w' =>
   cases x with
   | value v=>exact fin v w' h
   | skip=>exact fin undef w' h
   | defer d=>exact absurd (hK _ _ h) (by rw [Act.put_defers'];simp)
   | enter f vs =>
     refine⟨λh=>(by cases h),?_⟩;refine Zsu (Calls.mono h λe w'' he=>?_)
     cases e with
     | returned v=>exact fin v w'' he
     | panicked ch=>exact(Zlx he).elim
     | outgrown=>exact(Zr1 he).elim
   | row row vs =>
     refine⟨λh=>(by cases h),?_⟩;exact Zvo (Rows.mono h λv w'' he=>fin v w'' he)
   | _=>exact h.elim
 | halt x w' =>
   cases x with
   | panic v=>exact(Zlx h).elim
   | _=>exact h.elim
theorem Zwo {st:St} {o:Oper} {a:Act} {w:World} {imm:Imm} {K:St→Prop} {Q:AE→St→Prop} (ha:a.defers=ds) (h:Rel c n st { a with defers:=[] } w imm) (hd:∀d,o.dst=some d→d < n)
 (hK:aRes P tok o.dst (Zag P st o.op) K st):o.wpIn (FX ro) 0 P a w (nextX ds (Zbv c n K)) (Zqe c n ds Q):=by
 refine⟨λ_ _=>trivial,?_⟩
 have hs:o.semAt (FX ro).round a.eval=execOp a.eval o:=by
  cases ro with
  | none=>rfl
  | some l=>exact Oper.semAt_some l _ o λcc hcc=>by rw [hcc] at hK;exact hK
 rw [hs];refine upon_X ha (λa w hk=>?_) (Zc7 (Q:=post c n Q) h hd hK);obtain⟨st',imm',_,hr⟩:=hk;exact hr.defers
theorem Zgv (all:List Oper) {Q:AE→St→Prop}:∀(l:List Oper) (st:St) (a:Act) (w:World) (imm:Imm),a.defers=ds→Rel c n st { a with defers:=[] } w imm→l.all (Zdt n)=true→Za3 P tok all l (Q .normal) st→wpListIn (FX ro) 0 P all.toArray (Zqe c n ds Q) l a w
 | [],st,a,w,imm,ha,h,_,hK=>⟨ha,.normal,st,imm,rfl,hK,h⟩
 | o :: r,st,a,w,imm,ha,h,hf,hK=>by
   simp only [ZB3,Zy7] at hf
   have hd:∀d,o.dst=some d→d < n:=by
    intro d hdd;have:=hf.1;rw [Zdt,hdd] at this
    simpa using this
   have yes:aRes P (tok+o.dst.getD 0) o.dst (Zag P st o.op) (Za3 P tok all r (Q .normal)) st→o.wpIn (FX ro) 0 P a w (wpListIn (FX ro) 0 P all.toArray (Zqe c n ds Q) r) (Zqe c n ds Q):=λhy =>
    Oper.wpIn_mono (λa' w' hg=>by
     obtain⟨hda,st',imm',hk,hr⟩:=hg;exact Zgv all r st' a' w' imm' hda hr hf.2 hk) (Zwo ha h hd hy)
   have no:Za3 P tok all r (Q .normal) (st.put o.dst (.v (.tuple #[])))→(∀f,o.about P w a.eval=some f→(FX ro).fn f)∧wpListIn (FX ro) 0 P all.toArray (Zqe c n ds Q) r (a.put o.dst undef) w:=λhn =>
    ⟨λ_ _=>trivial,Zgv all r _ _ w imm (by rw [Act.put_defers'];exact ha) (by rw [←Zrx];exact h.step (Keeps.refl _ _) h.mem hd (.pure (.v _))) hf.2 hn⟩
   unfold wpListIn;unfold Za3 at hK
   cases hg:o.guard with
   | none =>
     rw [hg] at hK;rw [Zyk (by simp [Region.wanted,hg])];exact yes hK
   | some jw =>
     obtain⟨j,want⟩:=jw;rw [hg] at hK;simp only at hK;obtain⟨hB,hK⟩:=hK;unfold Zbe at hB hK;split at hB
     ·rename_i d hdj;rw [hdj] at hK;simp only at hK
      cases hb:st.env d with
      | v x =>
        have hv:=h.env d;rw [hb] at hv;have hv:a.tmps.getD d undef=x:=hv.v_inv;have hdj':((all.toArray[j]?).bind (·.dst))=some d:=by simpa using hdj
        by_cases hx:∃b,x=.bool b
        ·obtain⟨b,rfl⟩:=hx
         have hlt:d < a.tmps.size:=by
          rcases Zy5 d a.tmps.size with h1 | h1
          ·exact h1
          ·rw [ZAi,ZB1 h1] at hv;simp [undef] at hv
         have hget:a.tmps[d]?=some (.bool b):=by
          rw [Zzl hlt];rw [ZAi,Zzl hlt] at hv
          simpa using hv
         have hy:yielded all.toArray a.tmps j=some b:=by
          unfold yielded;rw [hdj'];simp [hget]
         have hbo:says (st.env d) want=(b == want):=by rw [hb];rfl
         by_cases hbw:b=want
         ·rw [Zyk (by simp [Region.wanted,hg,hy,hbw])];rw [Zyk (by rw [hbo,hbw];simp)] at hK;exact yes hK
         ·rw [Zyj (by simp [Region.wanted,hg,hy,hbw])];rw [Zyj (by rw [hbo];simpa using hbw)] at hK;exact no hK
        ·have hy:yielded all.toArray a.tmps j=none:=by
          unfold yielded;rw [hdj'];simp only [ZCj];rcases ht:a.tmps[d]? with _ | y
          ·rfl
          ·rw [ZAi,ht] at hv;simp only [Zz9] at hv;subst hv;split
           ·rename_i b heq;simp only [Option.some.injEq] at heq;exact absurd ⟨b,heq⟩ hx
           ·rfl
         have hbo:says (st.env d) want=false:=by
          rw [hb];cases x<;>first|rfl|exact absurd ⟨_,rfl⟩ hx
         rw [Zyj (by simp [Region.wanted,hg,hy])];rw [Zyj (by rw [hbo];simp)] at hK;exact no hK
      | _=>rw [hb] at hB;exact hB.elim
     ·exact hB.elim
def Zix:Code→Bool
 | .skip=>true
 | .region _ _ d=>!d
 | .seq x y=>Zix x && Zix y
 | .cond _ x y=>Zix x && Zix y
 | .block _ x=>Zix x
 | .exit _=>true
 | .ret=>true
 | _=>false
theorem Zch:∀(code:Code) (Q:AE→St→Prop) (st:St),Zaw n code=true→Zix code=true→Zav P tok n code Q st→∀(a:Act) (w:World) (imm:Imm),a.defers=ds→Rel c n st { a with defers:=[] } w imm→code.wpIn (FX ro) 0 P (Zqe c n ds Q) a w
 | .skip,Q,st,_,_,h=>λa w imm ha hr=>wpIn_skip ⟨ha,.normal,st,imm,rfl,h,hr⟩
 | .region id ops false,Q,st,hf,_,h=>λa w imm ha hr=>by
   have:=Zgv (c:=c) (ro:=ro) ops.toList ops.toList st a w imm ha hr hf h;simp only [ZC0] at this;exact wpIn_region_list this
 | .seq x y,Q,st,hf,hl,h=>λa w imm ha hr=>by
   simp only [Zaw,Zix,Zy7] at hf hl;refine wpIn_seq (Code.wpIn_mono (λe a' w' hp=>?_) (Zch x _ st hf.1 hl.1 h a w imm ha hr));obtain⟨ha',ae,st',imm',rfl,h2,h3⟩:=hp
   cases ae with
   | normal=>exact Zch y _ st' hf.2 hl.2 h2 a' w' imm' ha' h3
   | exit id=>exact⟨ha',.exit id,st',imm',rfl,h2,h3⟩
   | ret=>exact⟨ha',.ret,st',imm',rfl,h2,h3⟩
 | .cond o x y,Q,st,hf,hl,h=>λa w imm ha hr=>by
   simp only [Zaw,Zix,Zy7] at hf hl;simp only [Zav] at h;split at h
   ·rename_i t ht;have hv:=hr.ev o;rw [ht] at hv;have hv:a.eval o=.bool t:=hv.v_inv;exact wpIn_cond_split hv (λe=>Zch x _ st hf.1 hl.1 (h.1 e) a w imm ha hr) (λe=>Zch y _ st hf.2 hl.2 (h.2 e) a w imm ha hr)
   ·exact h.elim
 | .block id x,Q,st,hf,hl,h=>λa w imm ha hr=>by
   refine wpIn_block (Code.wpIn_mono (λe a' w' hp=>?_) (Zch x _ st hf hl h a w imm ha hr));obtain⟨ha',ae,st',imm',rfl,h2,h3⟩:=hp
   cases ae with
   | normal=>exact⟨ha',.normal,st',imm',rfl,h2,h3⟩
   | exit i =>
     simp only [AE.inBlock] at h2;by_cases hi:i=id
     ·rw [Zyk hi] at h2;simp only [AE.to,Exit.inBlock,hi,Zzb];exact⟨ha',.normal,st',imm',rfl,h2,h3⟩
     ·rw [Zyj hi] at h2;simp only [AE.to,Exit.inBlock,hi,Zy8];exact⟨ha',.exit i,st',imm',rfl,h2,h3⟩
   | ret=>exact⟨ha',.ret,st',imm',rfl,h2,h3⟩
 | .exit id,Q,st,_,_,h=>λa w imm ha hr=>wpIn_exit ⟨ha,.exit id,st,imm,rfl,h,hr⟩
 | .ret,Q,st,_,_,h=>λa w imm ha hr=>wpIn_ret ⟨ha,.ret,st,imm,rfl,h,hr⟩
 | .region id ops true,Q,st,_,hl,h=>by cases hl
 | .loop x,Q,st,_,hl,h=>by cases hl
 | .rangeFunc ..,Q,st,_,hl,h=>by cases hl
 | .scope x,Q,st,_,hl,h=>by cases hl
 | .label l,Q,st,_,hl,h=>by cases hl
 | .goto l,Q,st,_,hl,h=>by cases hl
 | .refuse y,Q,st,_,hl,h=>by cases hl
end
def YCall (P:Program) (l:Nat) (args:List AV) (σ:Mem) (R:AV→Mem→Prop):Prop :=
 ∀(c:Cx) (w:World) (imm:Imm) (vs:Array Value),Mx c σ w imm→args.length=vs.size→(∀(j:Nat) (a:AV) (x:Value),args[j]?=some a→vs[j]?=some x→Rs w imm a x) →
  ∃(f:FuncId) (tm:Array Value) (aS bd:Code),(Instr.yield l vs).run P w=.ok (.round l f tm aS bd) w ∧
   RoundIn Fence.wide 0 P l f tm aS bd w λe w'=>∃r σ' imm' x,e=.returned x∧R r σ'∧Rs w' imm' r x∧Mx c σ' w' imm'∧Keeps w imm w' imm'
theorem YCall.mono {P:Program} {l:Nat} {args:List AV} {σ:Mem} {R R':AV→Mem→Prop} (h:YCall P l args σ R) (hR:∀r σ',R r σ'→R' r σ'):YCall P l args σ R':=λc w imm vs hm hl hr=>by
 obtain⟨f,tm,aS,bd,h1,h2⟩:=h c w imm vs hm hl hr;exact⟨f,tm,aS,bd,h1,h2.mono λe w' ⟨r,σ',imm',x,k1,k2,k3⟩=>⟨r,σ',imm',x,k1,hR r σ' k2,k3⟩⟩
theorem Mx.lents {c:Cx} {σ:Mem} {w:World} {imm:Imm} (hm:Mx c σ w imm):Mx c (lents σ) w imm:=by
 refine⟨⟨λk e hk=>?_,λk k' e e' b h1 h2 h3 h4=>?_,hm.ok.lt,hm.ok.spot⟩,hm.below,hm.lt,hm.old,hm.new,hm.cells⟩
 ·unfold Pg.lents at hk;split at hk
  ·cases hk
  ·obtain⟨e0,h0,rfl⟩:=Option.map_eq_some_iff.1 hk;exact Ent.sh_ok (hm.ok.ent _ _ h0)
 ·unfold Pg.lents at h1 h2;split at h1
  ·cases h1
  ·split at h2
   ·cases h2
   ·obtain⟨e0,k0,rfl⟩:=Option.map_eq_some_iff.1 h1;obtain⟨e1,k1,rfl⟩:=Option.map_eq_some_iff.1 h2;rw [Ent.sh_blk] at h3 h4;have:=hm.ok.apart _ _ _ _ b k0 k1 h3 h4;omega
theorem Mx.unlents {c:Cx} {m σ':Mem} {w':World} {imm':Imm} (h6:Mx c m w' imm') (h3:Agr m σ'):Mx c σ' w' imm':=by
 refine⟨⟨λk e hk=>?_,λk k' e e' b h1 h2 k3 k4=>?_,h6.ok.lt,h6.ok.spot⟩,h6.below,h6.lt,h6.old,h6.new,h6.cells⟩
 ·have:=h3 k;rw [hk] at this;exact Ent.of_sh (h6.ok.ent _ _ this)
 ·have e1:=h3 k;have e2:=h3 k';rw [h1] at e1;rw [h2] at e2;have:=h6.ok.apart _ _ _ _ b e1 e2 (by rw [Ent.sh_blk];exact k3) (by rw [Ent.sh_blk];exact k4);omega
theorem Zmy {c:Cx} {σ:Mem} {w:World} {imm:Imm} (h:Mx c σ w imm) {k l:Nat} {o:Obj} (hk:σ k=some (.obj l o)) (o':Obj):Mx c (upd σ k (some (.obj l o'))) (w.putObj l o') imm∧Keeps w imm (w.putObj l o') imm:=by
 obtain⟨hh,hB,hn⟩:=h.ok.ent k _ hk;have hlt:l < w.heap.size:=(Array.getElem?_eq_some_iff.1 hh).1;have hg:w.grownBy (w.putObj l o') (some l):=⟨rfl,rfl,rfl,by rw [World.putObj_size];exact Zyp _,λi _ hne=>World.putObj_heap_other λe=>hne (by rw [e])⟩;refine Zdy h hg (Zyp _) (λg hg'=>by cases hg';exact hB) (λad ha=>Zd0 hg (h.ok.lt ad ha) λe=>hn ad ha (Option.some.inj e)) k _ ⟨World.putObj_heap_same hlt,hB,hn⟩ λj e2 b hj h2 hb=>?_;have:b≠l:=λe=>hj (h.ok.apart j k e2 _ b h2 hk hb (by rw [e];rfl));exact⟨λe=>this (Option.some.inj e),λe=>this (by simpa [Ent.blk] using e.symm)⟩
def recR (fn:FuncId) (rt:Array Value) (p:Nat) (aS bd:Code) (D:Nat):Loop:={ state:=.ready,pending:=none,fn:=fn,tmps:=rt,params:=#[p],assign:=aS,body:=bd,defers:=D }
def recB (fn:FuncId) (rt:Array Value) (p:Nat) (aS bd:Code) (D:Nat):Loop:={ recR fn rt p aS bd D with state:=.busy }
section
variable {P:Program} {n:Nat}
theorem Zpk {l kr:Nat} {σ:Mem} {rt:Array Value} {fn:FuncId} {p D:Nat} {aS bd:Code} {env:Nat→AV} {x:AV} {R:AV→Mem→Prop} (hσ:σ kr=some (.obj l (.loop (recR fn rt p aS bd D))))
 (henv:∀t w imm,Rs w imm (env t) (rt.getD t undef)) (hsz:rt.size=n) (hp:p < n) (ha:(Zaw n aS && Zix aS)=true) (hb:(Zaw n bd && Zix bd)=true)
 (h:Zav P 0 n aS (λae st=>ae=.normal∧st.mem (kr+1000)=some (.obj l (.loop (recR fn rt p aS bd D))) ∧
  Zav P 0 n bd (λae st2=>ae=.normal∧st2.mem (kr+1000)=some (.obj l (.loop (recB fn rt p aS bd D)))∧Zyi R (.v (.bool true)) (upd st2.mem (kr+1000) (some (.obj l (.loop (recR fn rt p aS bd D))))))
   ⟨st.env,upd st.mem (kr+1000) (some (.obj l (.loop (recB fn rt p aS bd D))))⟩) ⟨upd env p x.sh,lents σ⟩):YCall P l [x] σ R:=by
 simp only [Zy7] at ha hb;intro c w imm vs hm hl hr
 obtain⟨v,rfl⟩:∃v,vs=#[v]:=by
  have h2:vs.size=1:=by simpa using hl.symm
  exact⟨vs[0],by refine Array.ext (by simp [h2]) λi h3 h4=>?_;match i,(by omega:i < 1) with | 0,_=>rfl⟩
 have hx:=hr 0 x v rfl rfl;obtain⟨hh,hB,hn⟩:=hm.ok.ent kr _ hσ;refine⟨fn,rt.setIfInBounds p v,aS,bd,(run_yield hh rfl).trans (by simp [recR]),?_⟩
 let c':Cx:=⟨c.B,w,imm,hm.tbB⟩
 have hm1:=hm.lents
 have hrel:Rel c' n ⟨upd env p x.sh,lents σ⟩ { tmps:=rt.setIfInBounds p v,defers:=[] } w imm:=by
  refine⟨λt=>?_,by simpa using hsz,rfl,⟨hm1.ok,Blw.refl _ _,hm1.lt,λ_ h1=>h1,λ_ h1=>.inl h1,λ_ _=>rfl⟩⟩;show Rs w imm (upd env p x.sh t) ((rt.setIfInBounds p v).getD t undef);rw [Zal,ZAi,ZDg];by_cases ht:t=p
  ·subst ht;rw [Zyk rfl,Zyk rfl,Zyk (by rw [hsz];exact hp)];exact(AV.sub_sh x).1 w imm v hx
  ·rw [Zyj ht,Zyj (ZAu ht),←ZAi];exact henv t w imm
 refine roundIn_of_wpIn (F:=Fence.wide) trivial ?_;refine Code.wpIn_mono (λe a1 w1 hp1=>?_) (show aS.wpIn (Fence.wide.inRound l) 0 P _ _ _ from Zch (ro:=some l) (ds:=[]) (c:=c') aS _ _ ha.1 ha.2 h _ w imm rfl hrel);obtain⟨hd1,ae,st1,imm1,rfl,⟨rfl,hk1,h1⟩,hr1⟩:=hp1;obtain⟨g1,-,-⟩:=hr1.mem.ok.ent _ _ hk1;obtain⟨hmb,hkb⟩:=Zmy hr1.mem hk1 (.loop (recB fn rt p aS bd D));refine⟨_,run_beginRound g1 rfl,?_⟩;refine Code.wpIn_mono (λe a2 w2 hp2=>?_) (show bd.wpIn (Fence.wide.inRound l) 0 P _ _ _ from Zch (ro:=some l) (ds:=[]) (c:=c') bd _ _ hb.1 hb.2 h1 a1 (w1.putObj l (.loop (recB fn rt p aS bd D))) imm1 hd1 ⟨λt=>hkb.rs (hr1.env t),hr1.size,hr1.defers,hmb⟩)
 obtain⟨hd2,ae,st2,imm2,rfl,⟨rfl,hk2,r,σ',h2,h3,h4⟩,hr2⟩:=hp2;obtain⟨g2,-,-⟩:=hr2.mem.ok.ent _ _ hk2;obtain⟨hme,hke⟩:=Zmy hr2.mem hk2 (.loop (recR fn rt p aS bd D));refine⟨_,_,run_endRound none g2,r,σ',imm2,.bool true,rfl,h3,h2 _ _ _ (.pure (.v _)),?_,?_⟩
 ·exact Mx.unlents ⟨hme.ok,hm.below.trans hme.below,hme.lt,λad k1=>hme.old ad (hm.old ad k1),λad k1=>(hme.new ad k1).elim (hm.new ad) .inr,λad k1=>(hme.cells ad (hm.old ad k1)).trans (hm.cells ad k1)⟩ h4
 ·exact λad k1=>⟨hme.old ad k1,hme.cells ad k1⟩
def yAt (P:Program) (o:Oper) (K:St→Prop) (st:St):Prop :=
 ∃(g:Operand) (l:Nat) (args:Array Operand) (tys:Array TypeId),o.op=.call { callee:=.value g,args:=args,argTypes:=tys }∧st.ev g=.v (.func (.yield l) #[] #[])∧YCall P l (args.toList.map st.ev) st.mem λr σ'=>K (St.put ⟨st.env,σ'⟩ o.dst r)
theorem Zuo {c:Cx} {st:St} {o:Oper} {a:Act} {w:World} {imm:Imm} {K:St→Prop} {Q:Exit→Act→World→Prop} (h:Rel c n st a w imm) (hd:∀d,o.dst=some d→d < n) (hy:yAt P o K st):o.wpIn Fence.wide 0 P a w (Zbv c n K) Q:=by
 obtain⟨g,l,args,tys,ho,hg,hY⟩:=hy;have hv:=h.ev g;rw [hg] at hv;have hv:=hv.v_inv;obtain⟨e1,e2⟩:=Znh (xs:=args) h;obtain⟨f,tm,aS,bd,hrun,hround⟩:=hY c w imm (args.map a.eval) h.mem e1 e2;refine⟨λ_ _=>trivial,?_⟩
 have hex:(o.semAt Fence.wide.round a.eval).run P w=.ok (.round l f tm aS bd) w:=by
  rw [Fence.wide_round,Oper.semAt_none];simp only [execOp,ho,resolve,hv,Deferred.ofValue,Zy3,Zy9,Zy2,invoke,Array.empty_append,Array.append_empty]
  simpa using hrun
 rw [hex];refine⟨λh=>(by cases h),hround.mono λe w' he=>?_⟩;obtain⟨r,σ',imm',x,rfl,hR,hx,hm',hk⟩:=he;exact⟨_,imm',hR,h.step hk hm' hd hx⟩
end
section
variable {P:Program} {c:Cx} {n:Nat}
theorem upon_I {o:Oper} {a:Act} {K:Act→World→Prop} {Q:Exit→Act→World→Prop} {r:Result Next} (h:o.upon P a K Q r):o.uponIn Fence.wide 0 P a K Q r:=by
 cases r with
 | ok x w' =>
   cases x with
   | value v=>exact h
   | skip=>exact h
   | defer d=>exact h
   | enter f vs=>exact⟨λh=>(by cases h),(callsIn_wide (n:=0)).2 h⟩
   | row row vs=>exact⟨λh=>(by cases h),Zvo (ro:=none) h⟩
   | _=>exact h.elim
 | halt x w' =>
   cases x with
   | panic v=>exact h
   | _=>exact h.elim
theorem wp_I {o:Oper} {a:Act} {w:World} {K:Act→World→Prop} {Q:Exit→Act→World→Prop} (h:o.wp P a w K Q):o.wpIn Fence.wide 0 P a w K Q:=⟨λ_ _=>trivial,upon_I h⟩
theorem wpOp_I {ops:Array Oper} {Q:Exit→Act→World→Prop} {i:Nat} {K:Act→World→Prop} {a:Act} {w:World} (hQ:LetsOut Q→False) (h:wpOp P ops Q i K a w):wpOpIn Fence.wide 0 P ops Q i K a w:=by
 unfold wpOp at h;unfold wpOpIn;split
 ·rename_i ho;rw [ho] at h;exact h
 ·rename_i o ho;rw [ho] at h;simp only at h;split
  ·rename_i hw;rw [Zyk hw] at h;rcases h with h | h
   ·exact wp_I h
   ·exact(hQ h.2).elim
  ·rename_i hw;rw [Zyj hw] at h;exact⟨λ_ _=>trivial,h⟩
def LastY (P:Program) (n:Nat) (o:Oper) (K:St→Prop) (st:St):Prop:=(∃c a w imm,Rel c n st a w imm)→∃st',Frz n st st'∧(Za3 P 0 [o] [o] (λst1=>∃st2,Frz n st1 st2∧K st2) st'∨yAt P o (λst1=>∃st2,Frz n st1 st2∧K st2) st')
def Zji (P:Program) (n:Nat):List Oper→(St→Prop)→St→Prop
 | [],K=>K
 | o :: s,K=>LastY P n o (Zji P n s K)
theorem Zxd {l s:List Oper} (ho:LastOk n l s) {Q:AE→St→Prop}:∀(r:List Oper) (k:Nat),s.drop k=r→∀(f:Nat) (listed:Array Bool) (st:St) (a:Act) (w:World) (imm:Imm),Rel c n st a w imm→listed.size=l.length+s.length→(∀j,j < l.length+k→listed.getD j true=true)→(∀j,l.length+k≤j→j < l.length+s.length→listed.getD j true=false) →
 Zji P n r (Q .normal) st→wpAnyIn Fence.wide 0 P .any (l++s).toArray (post c n Q) (f+r.length) listed a w:=by
 intro r
 induction r with
 | nil =>
   intro k hk f listed st a w imm h hsz hall hno hK
   have hks:s.length≤k:=by
    rcases Zy5 k s.length with h1 | h1
    ·have:=congrArg List.length hk;rw [ZA5,Zy0] at this;omega
    ·exact h1
   refine wpAnyIn_done (List.eq_nil_iff_forall_not_mem.2 λi hi=>?_) ⟨.normal,st,imm,rfl,hK,h⟩ _;obtain⟨h0,x,hx,_⟩:=mem_ready.1 hi;rw [ZAm] at hx;have:=(List.getElem?_eq_some_iff.1 hx).1;rw [Zza] at this;rw [hall i zo] at h0;cases h0
 | cons o r ih =>
   intro k hk f listed st a w imm h hsz hall hno hK
   have hks:k < s.length:=by
    rcases Zy5 k s.length with h1 | h1
    ·exact h1
    ·rw [Zz6 h1] at hk;cases hk
   have hok:s[k]?=some o:=by
    have h1:=ZBm hks;rw [hk] at h1;rw [Zym hks,(List.cons.inj h1).1]
   have hr':s.drop (k+1)=r:=by
    have h1:=ZBm hks;rw [hk] at h1;exact(List.cons.inj h1).2.symm
   have hom:o∈s:=ZA6 hok;have hat:(l++s).toArray[l.length+k]?=some o:=by rw [at_suf];exact hok
   have hrdy:l.length+k∈Region.ready .any (l++s).toArray listed:=mem_ready.2 ⟨hno _ (Zyp _) zo,o,hat,λe he hb=>by
    have:=ho.dj _ _ hat e he hb;rw [Zg5 zo];exact hall _ this⟩
   refine⟨λh0=>(by rw [h0] at hrdy;cases hrdy),λi hi=>?_⟩;obtain⟨h0,x,hx,hd⟩:=mem_ready.1 hi
   have hil:i < l.length+s.length:=by
    rw [ZAm] at hx;have:=(List.getElem?_eq_some_iff.1 hx).1
    rwa [Zza] at this
   have hiL:i=l.length+k:=by
    rcases Nat.lt_trichotomy i (l.length+k) with h1 | h1 | h1
    ·rw [hall i h1] at h0;cases h0
    ·exact h1
    ·exfalso;obtain⟨m,rfl⟩:∃m,i=l.length+m:=⟨i - l.length,zo⟩;have hrm:=ho.r m zo (l.length+k) zo;have key:=fun(hc:Closed (l++s).toArray (Array.replicate (l.length+s.length) false))=>hc
     have hcl:Closed (l++s).toArray listed:=by
      intro j o' ho' hj e he hb
      have hj2:j < l.length+k:=by
       rcases Zy5 j (l.length+k) with h2 | h2
       ·exact h2
       ·have hjs:j < l.length+s.length:=by
         rw [ZAm] at ho';have:=(List.getElem?_eq_some_iff.1 ho').1
         rwa [Zza] at this
        have h3:=hno j h2 hjs;rw [Zg5 zo,h3] at hj;cases hj
      have h4:=ho.dj j o' ho' e he hb;rw [Zg5 zo];exact hall _ zo
     have:=Zfd hcl (l.length+s.length) (l.length+m) x hx hd hrm;rw [Zg5 zo,hno _ (Zyp _) zo] at this;cases this
   subst hiL;obtain⟨st',hF,hK⟩:=hK ⟨c,a,w,imm,h⟩;obtain⟨imm',hr⟩:=hF c a w imm h;have hg:=ho.g o hom;have hfit:=ho.fits o hom
   have hdst:∀d,o.dst=some d→d < n:=by
    intro d hdd;rw [Zdt,hdd] at hfit
    simpa using hfit
   have hK:o.wpIn Fence.wide 0 P a w (Zbv c n (λst1=>∃st2,Frz n st1 st2∧Zji P n r (Q .normal) st2)) (post c n Q):=by
    rcases hK with hK | hK
    ·have hK:aRes P (0+o.dst.getD 0) o.dst (Zag P st' o.op) (λst1=>∃st2,Frz n st1 st2∧Zji P n r (Q .normal) st2) st':=by
      obtain⟨d,op,t,pos,af,g⟩:=o;simp only at hg;subst hg;exact hK
     exact wp_I (Zc7 hr hdst hK)
    ·exact Zuo hr hdst hK
   unfold wpOpIn;rw [hat];simp only [Region.wanted,hg];refine Oper.wpIn_mono (λa1 w1 hg=>?_) hK;obtain⟨st1,imm1,⟨st2,hF2,hk2⟩,hr1⟩:=hg;obtain⟨imm2,hr2⟩:=hF2 c a1 w1 imm1 hr1;refine ih (k+1) hr' f _ st2 a1 w1 imm2 hr2 (by simpa using hsz) (λj hj=>?_) (λj h1 h2=>?_) hk2
   ·rcases Zy5 j (l.length+k) with h1 | h1
    ·rw [ZBo true zo];exact hall j h1
    ·have:j=l.length+k:=zo;subst this;have:l.length+k < listed.size:=zo;simp [this]
   ·rw [ZBo true zo];exact hno j zo h2
theorem Zpi {l s:List Oper} (ho:LastOk n l s) (hf:l.all (Zdt n)=true) {rs:Nat→AV} {bar:List Nat} {Q:AE→St→Prop} :
 ∀(f:Nat) (σs:Mem) (listed:Array Bool) (st:St) (a:Act) (w:World) (imm:Imm),Rel c n st a w imm→Part σs st.mem→listed.size=l.length+s.length→(∀j,l.length≤j→j < l.length+s.length→listed.getD j true=false)→Closed (l++s).toArray listed →
 aAny P 0 l rs bar σs f listed (Zji P n s (Q .normal)) st→wpAnyIn Fence.wide 0 P .any (l++s).toArray (post c n Q) (f+s.length) listed a w:=by
 intro f
 induction f with
 | zero =>
   intro σs listed st a w imm h hp hsz hL hc hK;exact Zxd ho s 0 rfl 0 _ st a w imm h hsz (λj hj=>by
    refine Classical.byContradiction λhb=>?_;obtain⟨i,hi⟩:=Zru ho hsz j zo (by simpa using hb);rw [hK.1] at hi;cases hi) hL hK.2
 | succ f ih =>
   intro σs listed st a w imm h hp hsz hL hc hK;by_cases hall:∀j,j < l.length→listed.getD j true=true
   ·refine Zxd ho s 0 rfl (f+1) _ st a w imm h hsz hall hL (hK.1 ?_);refine List.eq_nil_iff_forall_not_mem.2 λi hi=>?_;obtain⟨h0,x,hx,_⟩:=mem_ready.1 hi
    have hil:i < l.length:=by
     rw [ZAm] at hx;exact(List.getElem?_eq_some_iff.1 hx).1
    rw [hall i hil] at h0;cases h0
   ·obtain⟨j,hj⟩:=Classical.not_forall.1 hall;obtain⟨hj,hb⟩:=Classical.not_imp.1 hj;have hb:listed.getD j true=false:=by simpa using hb
    rw [Nat.add_right_comm];refine⟨λh0=>?_,λi hi=>?_⟩
    ·exfalso;obtain⟨i,hi⟩:=Zru ho hsz j hj hb;have:=Zvu (s:=s) hi;rw [h0] at this;cases this
    ·obtain⟨h0,x,hx,hd⟩:=mem_ready.1 hi
     have hil:i < l.length:=by
      rcases Zy5 i l.length with h1 | h1
      ·exact h1
      ·exfalso;obtain⟨m,rfl⟩:∃m,i=l.length+m:=⟨i - l.length,zo⟩
       have hms:m < s.length:=by
        rw [ZAm] at hx;have:=(List.getElem?_eq_some_iff.1 hx).1;rw [Zza] at this;omega
       have:=Zfd hc (l.length+s.length) (l.length+m) x hx hd (ho.r m hms j zo);rw [Zg5 zo] at this;rw [this] at hb;cases hb
     have hi':i∈Region.ready .any l.toArray listed:=mem_ready.2 ⟨h0,x,by rw [←at_lt hil];exact hx,hd⟩;refine wpOp_I Zr1 (wpOp_app ho hil (wpOp_mono (λa' w' hg=>?_) (Zjz hf h hp (hK.2 i hi'))));obtain⟨st',imm',⟨hk,hs'⟩,hr⟩:=hg;exact ih _ _ st' a' w' imm' hr hs' (by simpa using hsz) (λj h1 h2=>by rw [ZBo true zo];exact hL j h1 h2) (hc.set hi) hk
theorem Zv6 {id:Nat} {Q:AE→St→Prop} {st:St} {ops l s:List Oper} (j:Nat) (rs:Nat→AV) (bar cut:List Nat) (hs1:ops.take j=l) (hs2:ops.drop j=s) (hm:P.follows .mixedOrders=true) (hf:l.all (Zdt n)=true) (hok:Zxc n l s=true)
 (hlex:Zna l.toArray bar l.length 0 (Array.replicate (l.length+s.length) false)=true) {N:Nat} (hN:l.length=N) (h:Zbh P 0 l rs bar (cutM cut st.mem) N 0 (Zji P n s (Q .normal)) st):Zav P 0 n (.region id ops.toArray true) Q st:=by
 have hops:l++s=ops:=by rw [←hs1,←hs2];exact ZAw ..
 subst hN;rw [←hops];intro c a w imm hr;refine wpIn_wide.1 (wpIn_region_any (n:=0) hm ?_);have kd:Keeps w imm w.drew imm:=λad h=>⟨h,rfl⟩;have hgd:w.grownBy w.drew none:=⟨rfl,rfl,rfl,Zyp _,λ_ _ _=>rfl⟩;have hdr:Rel c n st a w.drew imm:=⟨λt=>kd.rs (hr.env t),hr.size,hr.defers,⟨⟨λk e hk=>(hr.mem.ok.ent k e hk).keep hgd (by cases e.blk<;>simp) (λ_ h=>h) (λ_ _=>rfl) (λ_ h=>.inl h),hr.mem.ok.apart,hr.mem.ok.lt,hr.mem.ok.spot⟩,hr.mem.below.drew,hr.mem.lt,hr.mem.old,hr.mem.new,hr.mem.cells⟩⟩
 have hcl:∀ops:Array Oper,Closed ops (Array.replicate (l.length+s.length) false):=by
  intro ops j o ho hj;exfalso;by_cases hjl:j < l.length+s.length<;>simp [Array.getElem?_replicate,hjl] at hj
 have h1:=Zqx (K:=Zji P n s (Q .normal)) l.length 0 (cutM cut st.mem) _ st (hcl _) hlex h;have h2:=Zpi (c:=c) (Q:=Q) (Zqy hok) hf l.length (cutM cut st.mem) _ st a w.drew imm hdr (λt e ht=>by unfold cutM at ht;split at ht;cases ht;exact ht) zs (λj h1 h2=>by simp [h2]) (hcl _) h1
 simpa using h2
end
def AV.bare:AV→AV
 | .v x=>.v x
 | .pbox k g off=>.pbox (k+1000) g off
 | _=>.u
theorem AV.bare_rs {w:World} {imm:Imm} {a:AV} {x:Value} (h:Rs w imm a x) (w':World) (imm':Imm):Rs w' imm' a.bare x:=by
 cases a with
 | v y=>rw [h.v_inv];exact .pure (.v _)
 | pbox k g off=>rw [h.pbox_inv];exact .pbox _ _ _
 | _=>exact .pure (.u _)
theorem Mx.drop {c:Cx} {σ:Mem} {w:World} {imm:Imm} (h:Mx c σ w imm) (k:Nat):Mx c (upd σ k none) w imm:=by
 have e:∀{j:Nat} {x:Ent},upd σ k none j=some x→σ j=some x:=λ{j x} hj=>by
  rw [Zal] at hj;split at hj
  ·cases hj
  ·exact hj
 exact⟨⟨λj x hj=>h.ok.ent j x (e hj),λj j' x x' b h1 h2=>h.ok.apart j j' x x' b (e h1) (e h2),h.ok.lt,h.ok.spot⟩,h.below,h.lt,h.old,h.new,h.cells⟩
theorem Zwv {c:Cx} {σ:Mem} {w:World} {imm:Imm} (h:Mx c σ w imm) (k:Nat) (o:Obj):Mx c (upd σ k (some (.obj w.heap.size o))) (w.alloc o) imm∧Keeps w imm (w.alloc o) imm :=
 Zdy h (ZCb w o none) (Zyp _) zs (λad h1=>ZCa w _ ad (h.ok.lt ad h1)) k (.obj w.heap.size o)
  ⟨heap_alloc_new w _,h.lt,λad h1 h2=>absurd (h.ok.lt ad h1) zo⟩
  (λj e2 b _ hj hb=>⟨by simp,by have:=(h.ok.ent j e2 hj).blk_lt hb;simp [Ent.blk];omega⟩)
def mkD (D:Nat):Deferred:={ target:=.collected D,args:=#[] }
def XW (P:Program) (n:Nat) (code:Code) (Q:AE→List Deferred→St→Prop) (ds:List Deferred) (st:St):Prop :=
 ∀(c:Cx) (a:Act) (w:World) (imm:Imm),a.defers=ds→Rel c n st { a with defers:=[] } w imm →
  code.wpIn Fence.wide 0 P (λe a' w'=>∃ae st' imm',e=AE.to ae∧Q ae a'.defers st'∧Rel c n st' { a' with defers:=[] } w' imm') a w
section
variable {P:Program} {n:Nat} {Q:AE→List Deferred→St→Prop} {ds:List Deferred} {st:St}
theorem xw_flat {code:Code} (hf:(Zaw n code && Zix code)=true) (h:Zav P 0 n code (λae st'=>Q ae ds st') st):XW P n code Q ds st:=λc a w imm ha hr=>by
 simp only [Zy7] at hf;refine Code.wpIn_mono (λe a' w' hp=>?_) (show code.wpIn Fence.wide 0 P _ a w from Zch (ro:=none) (ds:=ds) (c:=c) code _ st hf.1 hf.2 h a w imm ha hr);obtain⟨hd,ae,st',imm',rfl,h2,h3⟩:=hp;exact⟨ae,st',imm',rfl,by rw [hd];exact h2,h3⟩
theorem xw_pre {code:Code} (hf:Zaw n code=true) (h:Zav P 0 n code (λae st'=>Q ae [] st') st):XW P n code Q [] st:=λc a w imm ha hr=>by
 have e0:({ a with defers:=[] }:Act)=a:=by cases a;simp only at ha;subst ha;rfl
 rw [e0] at hr;refine Code.wpIn_mono (λe a' w' hp=>?_) (wpIn_wide.2 (Za1 code _ st hf h c a w imm hr));obtain⟨ae,st',imm',rfl,h2,h3⟩:=hp;have hd:=h3.defers;have e1:({ a' with defers:=[] }:Act)=a':=by cases a';simp only at hd;subst hd;rfl
 exact⟨ae,st',imm',rfl,by rw [hd];exact h2,by rw [e1];exact h3⟩
theorem xw_seq {x y:Code} (h:XW P n x (λae ds' st'=>match ae with | .normal=>XW P n y Q ds' st' | .exit i=>Q (.exit i) ds' st' | .ret=>Q .ret ds' st') ds st):XW P n (.seq x y) Q ds st:=λc a w imm ha hr=>by
 refine wpIn_seq (Code.wpIn_mono (λe a' w' hp=>?_) (h c a w imm ha hr));obtain⟨ae,st',imm',rfl,h2,h3⟩:=hp
 cases ae with
 | normal=>exact h2 c a' w' imm' rfl h3
 | exit i=>exact⟨.exit i,st',imm',rfl,h2,h3⟩
 | ret=>exact⟨.ret,st',imm',rfl,h2,h3⟩
theorem xw_block {id:Nat} {x:Code} (h:XW P n x (λae ds' st'=>match ae with | .normal=>Q .normal ds' st' | .exit i=>if i=id then Q .normal ds' st' else Q (.exit i) ds' st' | .ret=>Q .ret ds' st') ds st):XW P n (.block id x) Q ds st:=λc a w imm ha hr=>by
 refine wpIn_block (Code.wpIn_mono (λe a' w' hp=>?_) (h c a w imm ha hr));obtain⟨ae,st',imm',rfl,h2,h3⟩:=hp
 cases ae with
 | normal=>exact⟨.normal,st',imm',rfl,h2,h3⟩
 | exit i =>
   simp only at h2;by_cases hi:i=id
   ·rw [Zyk hi] at h2;simp only [AE.to,Exit.inBlock,hi,Zzb];exact⟨.normal,st',imm',rfl,h2,h3⟩
   ·rw [Zyj hi] at h2;simp only [AE.to,Exit.inBlock,hi,Zy8];exact⟨.exit i,st',imm',rfl,h2,h3⟩
 | ret=>exact⟨.ret,st',imm',rfl,h2,h3⟩
theorem xw_range {g p:Nat} {aS bd:Code} {f:FuncId} {caps:List AV} (kD kL:Nat) (hkk:kD≠kL) (hg:st.env g=.fn f caps)
 (h:∀(D l:Nat) (rt:Array Value) (fn:FuncId),(∀t w imm,Rs w imm (st.env t).bare (rt.getD t undef))→rt.size=n →
  ACall P f (.v (.func (.yield l) #[] #[]) :: caps) (upd (upd st.mem kD (some (.obj D (.deferred (some []))))) kL (some (.obj l (.loop (recR fn rt p aS bd D))))) λr σ' =>
   σ' kL=some (.obj l (.loop (recR fn rt p aS bd D)))∧Q .normal (mkD D :: ds) ⟨st.env,upd σ' kL none⟩):XW P n (.rangeFunc (.tmp g) #[p] aS bd) Q ds st:=λc a w imm ha hr=>by
 obtain⟨D,hD⟩:∃D,D=w.heap.size:=⟨_,rfl⟩;have hgv:=hr.env g;rw [hg] at hgv;obtain⟨vs,hv,hvl,hvr⟩:=hgv.fn_inv;have hv:a.tmps.getD g undef=.func (.func f) #[] vs:=hv;have hh:=λfn=>h D (D+1) a.tmps fn (λt w' imm'=>AV.bare_rs (hr.env t) w' imm') hr.size;refine wpIn_rangeFunc λfn _=>?_;obtain⟨m1,k1⟩:=Zwv hr.mem kD (.deferred (some []));obtain⟨m2,k2⟩:=Zwv m1 kL (.loop (recR fn a.tmps p aS bd D));have hsz:(w.alloc (.deferred (some []))).heap.size=D+1:=by rw [World.size_alloc,hD]
 rw [←hD] at m1;rw [hsz,←hD] at m2;have k12:=k1.trans k2;have hcall:=(hh fn).2 c ((w.alloc (.deferred (some []))).alloc (.loop (recR fn a.tmps p aS bd D))) imm (#[.func (.yield (D+1)) #[] #[]]++vs) m2 (by simp [hvl];omega) (λj b x hb hx=>by
  cases j with
  | zero =>
    simp only [ZB6,Option.some.injEq] at hb;subst hb
    have:x=.func (.yield (D+1)) #[] #[]:=by
     rw [ZB5 zs] at hx
     simpa using hx.symm
    rw [this];exact .pure (.v _)
  | succ j =>
    rw [ZCn] at hb;rw [Array.getElem?_append_right zs] at hx;exact k12.rs (hvr j b x hb (by simpa using hx)))
 obtain⟨W,hW⟩:∃W,W=(w.alloc (.deferred (some []))).alloc (.loop (recR fn a.tmps p aS bd D)):=⟨_,rfl⟩;rw [←hW] at hcall m2 k12 k2;refine⟨D+1,[mkD D],W,{ target:=.fn (.func f) vs,args:=#[.func (.yield (D+1)) #[] #[]] },W,f,#[.func (.yield (D+1)) #[] #[]]++vs,W,?_,?_,λ_ _=>trivial,?_,λh=>(by cases h),?_⟩
 ·rw [hW,hD];exact run_enterLoop_outer fn a.tmps #[p] aS bd
 ·show(resolve a.eval (rangeCall (.tmp g) (D+1)) 0).run P _=_;simp [resolve,rangeCall,Act.eval,hv,Deferred.ofValue]
 ·show(callFunc f (#[.func (.yield (D+1)) #[] #[]]++vs)).run P _=_;exact(hh fn).1 _ _
 ·refine(Zsu (ro:=none) hcall).mono λe w3 he=>?_;obtain⟨r,σ',imm',x,rfl,⟨hk,hQ⟩,hx,hm3,hk3⟩:=he;obtain⟨g3,-,-⟩:=hm3.ok.ent _ _ hk;obtain⟨m4,k4⟩:=Zmy hm3 hk (.loop { recR fn a.tmps p aS bd D with state:=.exhausted });refine⟨_,_,run_endLoop g3 (by simp [recR]),?_⟩;have m5:=m4.drop kL
  have eu:upd (upd σ' kL (some (.obj (D+1) (.loop { recR fn a.tmps p aS bd D with state:=.exhausted })))) kL none=upd σ' kL none:=by
   funext j
   simp only [Zal];split<;>rfl
  rw [eu] at m5;have kk:=(k12.trans hk3).trans k4;exact⟨.normal,⟨st.env,upd σ' kL none⟩,imm',rfl,by show Q .normal (mkD D :: a.defers) _;rw [ha];exact hQ,λt=>kk.rs (hr.env t),hr.size,rfl,m5⟩
end
def DoneX (P:Program) (kD:Nat) (rs:List ResultVar) (K:St→AV→Prop):AE→List Deferred→St→Prop
 | .exit _,_,_=>False
 | _,ds,st=>(ds=[]∧Zia P st rs (K st))∨∃D,ds=[mkD D]∧st.mem kD=some (.obj D (.deferred (some [])))∧Zia P ⟨st.env,upd st.mem kD none⟩ rs (K ⟨st.env,upd st.mem kD none⟩)
theorem Zxt {P:Program} {kD:Nat} {rs:List ResultVar} {K:St→AV→Prop} {ae:AE} {ds:List Deferred} {st:St} (h:DoneX P kD rs K ae ds st) :
 (∀id,ae≠.exit id)∧((ds=[]∧Zia P st rs (K st))∨∃D,ds=[mkD D]∧st.mem kD=some (.obj D (.deferred (some [])))∧Zia P ⟨st.env,upd st.mem kD none⟩ rs (K ⟨st.env,upd st.mem kD none⟩)):=by
 cases ae with
 | exit=>exact h.elim
 | normal=>exact⟨λid e=>(by cases e),h⟩
 | ret=>exact⟨λid e=>(by cases e),h⟩
theorem Zto {P:Program} {f n:Nat} {fn:Func} {code:Code} {rs:List ResultVar} {args:List AV} {r:AV} (kD:Nat) (hf:P.funcs[f]?=some fn) (hb:fn.body=some code) (hn:fn.ntmps=n) (hrs:fn.results=rs.toArray)
 (hc:∀(vs:Array Value) (w:World),(callFunc f vs).run P w=.ok (.enter f vs) w) (hal:args.length≤n)
 (h:XW P n code (DoneX P kD rs λst=>Zlv st r) [] ⟨λt=>args.getD t .u,Zac⟩):Pure P f args r:=by
 refine⟨hc,λw imm vs himm hl hr=>?_⟩;refine(callsIn_wide (n:=0)).1 (callsIn_of_wp_marks hf hb trivial ?_)
 let c:Cx:=⟨w.heap.size,w,imm,himm.tb.here⟩
 have hrel:Rel c n ⟨λt=>args.getD t .u,Zac⟩ { tmps:=vs++Array.replicate (fn.ntmps - vs.size) undef,defers:=[] } w imm:=by
  refine⟨λt=>?_,by simp [hn];omega,rfl,⟨⟨λk e hk=>by simp [Zac] at hk,λk k' e e' b hk=>by simp [Zac] at hk,λad h1=>(himm.at_ ad h1).1,λad h1=>(himm.at_ ad h1).2⟩,Blw.refl _ _,Zyp _,λ_ h1=>h1,λ_ h1=>.inl h1,λ_ _=>rfl⟩⟩;simp only [Zyu];rcases Zy5 t args.length with ht | ht
  ·have ht2:t < vs.size:=zo;rw [Zym ht,ZAi,ZB5 ht2,Zzl ht2];exact .pure (hr t _ _ (Zym ht) (Zzl ht2))
  ·rw [Zz1 ht];exact .pure (.u _)
 refine Code.wpIn_mono (λe a' w' hp=>?_) (h c _ w imm rfl hrel);obtain⟨ae,st',imm',rfl,hdone,hrel'⟩:=hp;obtain⟨hae,hret⟩:=Zxt hdone
 have fin:∀{st:St} {a:Act} {w':World} {imm':Imm},Rel c n st a w' imm'→Zia P st rs (λb=>Zlv st r b)→∃v,(results fn a.tmps).run P w'=.ok v w'∧(λe w'=>∃x imm',e=Ending.returned x∧Rd w' imm' r x∧(∀ad,imm ad→imm' ad)∧(∀ad,imm' ad→(imm ad∨w.heap.size≤ad.block)∧ad.block < w'.heap.size∧ad.spot=none)∧Blw w.heap.size w w') (Ending.returned v) w':=by
  intro st a w' imm' hrel' hret;obtain⟨y,b,hrun,⟨hpo,hpv⟩,hrs'⟩:=Zmo hrs hrel' hret;obtain⟨i2,hm2,hk2⟩:=Zc1 b.toks hrel'.mem;have hrd:=Zgc hm2 (hk2.rs hrs') hpo;rw [hpv] at hrd;exact⟨y,hrun,y,i2,rfl,hrd,hm2.old,λad h1=>⟨hm2.new ad h1,hm2.ok.lt ad h1,hm2.ok.spot ad h1⟩,hm2.below⟩
 have goal:LeavesInM Fence.wide 0 P fn a'.tmps (λe w'=>∃x imm',e=Ending.returned x∧Rd w' imm' r x∧(∀ad,imm ad→imm' ad)∧(∀ad,imm' ad→(imm ad∨w.heap.size≤ad.block)∧ad.block < w'.heap.size∧ad.spot=none)∧Blw w.heap.size w w') a'.defers .returning w':=by
  rcases hret with⟨hd,hret⟩ | ⟨D,hd,hk,hret⟩
  ·rw [hd];exact fin (a:={ a' with defers:=[] }) hrel' hret
  ·rw [hd];obtain⟨g1,-,-⟩:=hrel'.mem.ok.ent _ _ hk;obtain⟨m4,k4⟩:=Zmy hrel'.mem hk (.deferred none);have m5:=m4.drop kD
   have eu:upd (upd st'.mem kD (some (.obj D (.deferred none)))) kD none=upd st'.mem kD none:=by
    funext j
    simp only [Zal];split<;>rfl
   rw [eu] at m5;refine⟨by simp,.inl ⟨D,_,rfl,run_takeDeferred g1,?_⟩⟩;exact fin (st:=⟨st'.env,upd st'.mem kD none⟩) (a:={ a' with defers:=[] }) (imm':=imm') ⟨λt=>k4.rs (hrel'.env t),hrel'.size,rfl,m5⟩ hret
 cases ae with
 | normal=>exact goal
 | ret=>exact goal
 | exit id=>exact absurd rfl (hae id)
end Go.Pg
