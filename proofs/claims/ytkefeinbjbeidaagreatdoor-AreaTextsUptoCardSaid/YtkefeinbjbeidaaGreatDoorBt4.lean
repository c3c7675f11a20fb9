/- Contracts of the functions that the law reaches, and the rules by which they are walked. They say what a call hands back for every input within the bounds that each names; no other condition. -/
import Derived.Test.YtkefeinbjbeidaaGreatDoorBt3
import Derived.DataElems
import Derived.DataReads
import Derived.Shelf.SlSortCmp.PdqK
set_option linter.unusedSimpArgs false
set_option linter.unusedVariables false
set_option maxRecDepth 20000
set_option maxHeartbeats 16000000
namespace Go.Pg
open Go Go.RowKit
section
variable {P:Program} {n:Nat} {Q:AE→St→Prop} {st:St} {body:Code}
def unr (P:Program) (n:Nat) (body:Code) (Q:AE→St→Prop):Nat→St→Prop
 | 0,_=>False
 | k+1,st=>Za4 P 0 n body (AE.then (unr P n body Q k) Q) st
theorem Ztu (k:Nat) (hf:Zbj n body=true) (h:unr P n body Q k st):Za4 P 0 n (.loop body) Q st:=by
 intro c a w imm hr b k' cs;have key:∀k st a w imm,unr P n body Q k st→Rel c n st a w imm →
  ∃e a' w',post c n Q e a' w'∧Arrives P (lone (b.at a (.code body :: .inLoop body :: k')) cs w) b k' cs e a' w':=by
  intro k
  induction k with
  | zero=>exact λst a w imm h _=>h.elim
  | succ k ih =>
    intro st a w imm hI hr;obtain⟨e,a₁,w₁,hq,harr⟩:=Zbd body _ st hf hI c a w imm hr b (.inLoop body :: k') cs;obtain⟨ae,st',imm',rfl,h2,h3⟩:=hq
    cases ae with
    | normal =>
      obtain⟨e₂,a₂,w₂,hq₂,harr₂⟩:=ih st' a₁ w₁ imm' h2 h3;exact⟨e₂,a₂,w₂,hq₂,.of_steps (Steps.trans harr (.one step_inLoop)) harr₂⟩
    | exit id=>exact⟨_,a₁,w₁,⟨.exit id,st',imm',rfl,h2,h3⟩,.pass (x:=.inLoop body) rfl (λ_ _=>.inl (by simp [AE.to])) harr⟩
    | ret=>exact⟨_,a₁,w₁,⟨.ret,st',imm',rfl,h2,h3⟩,.pass (x:=.inLoop body) rfl (λ_ _=>.inl (by simp [AE.to])) harr⟩
 obtain⟨e₁,a',w',hq,harr⟩:=key k st a w imm h hr;exact⟨e₁,a',w',hq,.of_steps (.one step_loop) harr⟩
instance {k:Nat}:Stp (unr P n body Q (k+1) st) (Za4 P 0 n body (AE.then (unr P n body Q k) Q) st):=⟨λh=>h⟩
end
section
variable {P:Program} {all rest:List Oper} {K:St→Prop} {e:Nat→AV} {m:Mem} {dst:Option Nat} {d t j n:Nat} {op:Op} {ty:TypeId} {pos:String} {af:Array Edge} {want:Bool} {Q:AE→St→Prop} {x y:Code} {rs:Nat→AV} {bar:List Nat} {fu k:Nat} {σs:Mem} {b:Bool} {st:St}
theorem Zev (h1:b=true→OG P all rest dst op ty pos af (.bool true) want K st) (h2:b=false→OG P all rest dst op ty pos af (.bool false) want K st):OG P all rest dst op ty pos af (.bool b) want K st:=by
 cases b
 ·exact h2 rfl
 ·exact h1 rfl
theorem Zi4 (h1:b=true→DG P all rs bar σs fu k d op (.bool true) want K e m) (h2:b=false→DG P all rs bar σs fu k d op (.bool false) want K e m):DG P all rs bar σs fu k d op (.bool b) want K e m:=by
 cases b
 ·exact h2 rfl
 ·exact h1 rfl
theorem Zex (h1:b=true→CG P n true x y Q st) (h2:b=false→CG P n false x y Q st):CG P n b x y Q st:=by
 cases b
 ·exact h2 rfl
 ·exact h1 rfl
end
end Go.Pg
namespace Go.Pg
open Go Go.RowKit
attribute [-bool_to_prop] Bool.and_eq_decide Bool.or_eq_decide Bool.decide_beq_decide decide_eq_decide
structure Fx (p:Prop):Prop where
 h:p
structure Bdy:Prop
structure Lv (a b:Prop):Prop where
 x:a
 y:b
theorem w_l {a b:Prop} (x:a) (y:b):Lv a b:=⟨x,y⟩
theorem w_a {a b:Prop} (x:a) (y:b):a∧b:=⟨x,y⟩
theorem w_t:True:=trivial
theorem w_1 {p0:Prop} (h0:p0):p0∧True:=⟨h0,trivial⟩
theorem w_2 {p0 p1:Prop} (h0:p0) (h1:p1):p0∧p1∧True:=⟨h0,h1,trivial⟩
theorem w_3 {p0 p1 p2:Prop} (h0:p0) (h1:p1) (h2:p2):p0∧p1∧p2∧True:=⟨h0,h1,h2,trivial⟩
theorem w_4 {p0 p1 p2 p3:Prop} (h0:p0) (h1:p1) (h2:p2) (h3:p3):p0∧p1∧p2∧p3∧True:=⟨h0,h1,h2,h3,trivial⟩
theorem w_5 {p0 p1 p2 p3 p4:Prop} (h0:p0) (h1:p1) (h2:p2) (h3:p3) (h4:p4):p0∧p1∧p2∧p3∧p4∧True:=⟨h0,h1,h2,h3,h4,trivial⟩
theorem w_6 {p0 p1 p2 p3 p4 p5:Prop} (h0:p0) (h1:p1) (h2:p2) (h3:p3) (h4:p4) (h5:p5):p0∧p1∧p2∧p3∧p4∧p5∧True:=⟨h0,h1,h2,h3,h4,h5,trivial⟩
theorem w_7 {p0 p1 p2 p3 p4 p5 p6:Prop} (h0:p0) (h1:p1) (h2:p2) (h3:p3) (h4:p4) (h5:p5) (h6:p6):p0∧p1∧p2∧p3∧p4∧p5∧p6∧True:=⟨h0,h1,h2,h3,h4,h5,h6,trivial⟩
theorem w_8 {p0 p1 p2 p3 p4 p5 p6 p7:Prop} (h0:p0) (h1:p1) (h2:p2) (h3:p3) (h4:p4) (h5:p5) (h6:p6) (h7:p7):p0∧p1∧p2∧p3∧p4∧p5∧p6∧p7∧True:=⟨h0,h1,h2,h3,h4,h5,h6,h7,trivial⟩
theorem w_9 {p0 p1 p2 p3 p4 p5 p6 p7 p8:Prop} (h0:p0) (h1:p1) (h2:p2) (h3:p3) (h4:p4) (h5:p5) (h6:p6) (h7:p7) (h8:p8):p0∧p1∧p2∧p3∧p4∧p5∧p6∧p7∧p8∧True:=⟨h0,h1,h2,h3,h4,h5,h6,h7,h8,trivial⟩
theorem w_10 {p0 p1 p2 p3 p4 p5 p6 p7 p8 p9:Prop} (h0:p0) (h1:p1) (h2:p2) (h3:p3) (h4:p4) (h5:p5) (h6:p6) (h7:p7) (h8:p8) (h9:p9):p0∧p1∧p2∧p3∧p4∧p5∧p6∧p7∧p8∧p9∧True:=⟨h0,h1,h2,h3,h4,h5,h6,h7,h8,h9,trivial⟩
theorem w_11 {p0 p1 p2 p3 p4 p5 p6 p7 p8 p9 p10:Prop} (h0:p0) (h1:p1) (h2:p2) (h3:p3) (h4:p4) (h5:p5) (h6:p6) (h7:p7) (h8:p8) (h9:p9) (h10:p10):p0∧p1∧p2∧p3∧p4∧p5∧p6∧p7∧p8∧p9∧p10∧True:=⟨h0,h1,h2,h3,h4,h5,h6,h7,h8,h9,h10,trivial⟩
theorem w_12 {p0 p1 p2 p3 p4 p5 p6 p7 p8 p9 p10 p11:Prop} (h0:p0) (h1:p1) (h2:p2) (h3:p3) (h4:p4) (h5:p5) (h6:p6) (h7:p7) (h8:p8) (h9:p9) (h10:p10) (h11:p11):p0∧p1∧p2∧p3∧p4∧p5∧p6∧p7∧p8∧p9∧p10∧p11∧True:=⟨h0,h1,h2,h3,h4,h5,h6,h7,h8,h9,h10,h11,trivial⟩
theorem w_13 {p0 p1 p2 p3 p4 p5 p6 p7 p8 p9 p10 p11 p12:Prop} (h0:p0) (h1:p1) (h2:p2) (h3:p3) (h4:p4) (h5:p5) (h6:p6) (h7:p7) (h8:p8) (h9:p9) (h10:p10) (h11:p11) (h12:p12):p0∧p1∧p2∧p3∧p4∧p5∧p6∧p7∧p8∧p9∧p10∧p11∧p12∧True:=⟨h0,h1,h2,h3,h4,h5,h6,h7,h8,h9,h10,h11,h12,trivial⟩
theorem w_14 {p0 p1 p2 p3 p4 p5 p6 p7 p8 p9 p10 p11 p12 p13:Prop} (h0:p0) (h1:p1) (h2:p2) (h3:p3) (h4:p4) (h5:p5) (h6:p6) (h7:p7) (h8:p8) (h9:p9) (h10:p10) (h11:p11) (h12:p12) (h13:p13):p0∧p1∧p2∧p3∧p4∧p5∧p6∧p7∧p8∧p9∧p10∧p11∧p12∧p13∧True:=⟨h0,h1,h2,h3,h4,h5,h6,h7,h8,h9,h10,h11,h12,h13,trivial⟩
theorem w_15 {p0 p1 p2 p3 p4 p5 p6 p7 p8 p9 p10 p11 p12 p13 p14:Prop} (h0:p0) (h1:p1) (h2:p2) (h3:p3) (h4:p4) (h5:p5) (h6:p6) (h7:p7) (h8:p8) (h9:p9) (h10:p10) (h11:p11) (h12:p12) (h13:p13) (h14:p14):p0∧p1∧p2∧p3∧p4∧p5∧p6∧p7∧p8∧p9∧p10∧p11∧p12∧p13∧p14∧True:=⟨h0,h1,h2,h3,h4,h5,h6,h7,h8,h9,h10,h11,h12,h13,h14,trivial⟩
theorem w_16 {p0 p1 p2 p3 p4 p5 p6 p7 p8 p9 p10 p11 p12 p13 p14 p15:Prop} (h0:p0) (h1:p1) (h2:p2) (h3:p3) (h4:p4) (h5:p5) (h6:p6) (h7:p7) (h8:p8) (h9:p9) (h10:p10) (h11:p11) (h12:p12) (h13:p13) (h14:p14) (h15:p15):p0∧p1∧p2∧p3∧p4∧p5∧p6∧p7∧p8∧p9∧p10∧p11∧p12∧p13∧p14∧p15∧True:=⟨h0,h1,h2,h3,h4,h5,h6,h7,h8,h9,h10,h11,h12,h13,h14,h15,trivial⟩
theorem w_17 {p0 p1 p2 p3 p4 p5 p6 p7 p8 p9 p10 p11 p12 p13 p14 p15 p16:Prop} (h0:p0) (h1:p1) (h2:p2) (h3:p3) (h4:p4) (h5:p5) (h6:p6) (h7:p7) (h8:p8) (h9:p9) (h10:p10) (h11:p11) (h12:p12) (h13:p13) (h14:p14) (h15:p15) (h16:p16):p0∧p1∧p2∧p3∧p4∧p5∧p6∧p7∧p8∧p9∧p10∧p11∧p12∧p13∧p14∧p15∧p16∧True:=⟨h0,h1,h2,h3,h4,h5,h6,h7,h8,h9,h10,h11,h12,h13,h14,h15,h16,trivial⟩
theorem w_18 {p0 p1 p2 p3 p4 p5 p6 p7 p8 p9 p10 p11 p12 p13 p14 p15 p16 p17:Prop} (h0:p0) (h1:p1) (h2:p2) (h3:p3) (h4:p4) (h5:p5) (h6:p6) (h7:p7) (h8:p8) (h9:p9) (h10:p10) (h11:p11) (h12:p12) (h13:p13) (h14:p14) (h15:p15) (h16:p16) (h17:p17):p0∧p1∧p2∧p3∧p4∧p5∧p6∧p7∧p8∧p9∧p10∧p11∧p12∧p13∧p14∧p15∧p16∧p17∧True:=⟨h0,h1,h2,h3,h4,h5,h6,h7,h8,h9,h10,h11,h12,h13,h14,h15,h16,h17,trivial⟩
theorem w_19 {p0 p1 p2 p3 p4 p5 p6 p7 p8 p9 p10 p11 p12 p13 p14 p15 p16 p17 p18:Prop} (h0:p0) (h1:p1) (h2:p2) (h3:p3) (h4:p4) (h5:p5) (h6:p6) (h7:p7) (h8:p8) (h9:p9) (h10:p10) (h11:p11) (h12:p12) (h13:p13) (h14:p14) (h15:p15) (h16:p16) (h17:p17) (h18:p18):p0∧p1∧p2∧p3∧p4∧p5∧p6∧p7∧p8∧p9∧p10∧p11∧p12∧p13∧p14∧p15∧p16∧p17∧p18∧True:=⟨h0,h1,h2,h3,h4,h5,h6,h7,h8,h9,h10,h11,h12,h13,h14,h15,h16,h17,h18,trivial⟩
theorem w_20 {p0 p1 p2 p3 p4 p5 p6 p7 p8 p9 p10 p11 p12 p13 p14 p15 p16 p17 p18 p19:Prop} (h0:p0) (h1:p1) (h2:p2) (h3:p3) (h4:p4) (h5:p5) (h6:p6) (h7:p7) (h8:p8) (h9:p9) (h10:p10) (h11:p11) (h12:p12) (h13:p13) (h14:p14) (h15:p15) (h16:p16) (h17:p17) (h18:p18) (h19:p19):p0∧p1∧p2∧p3∧p4∧p5∧p6∧p7∧p8∧p9∧p10∧p11∧p12∧p13∧p14∧p15∧p16∧p17∧p18∧p19∧True:=⟨h0,h1,h2,h3,h4,h5,h6,h7,h8,h9,h10,h11,h12,h13,h14,h15,h16,h17,h18,h19,trivial⟩
theorem w_22 {p0 p1 p2 p3 p4 p5 p6 p7 p8 p9 p10 p11 p12 p13 p14 p15 p16 p17 p18 p19 p20 p21:Prop} (h0:p0) (h1:p1) (h2:p2) (h3:p3) (h4:p4) (h5:p5) (h6:p6) (h7:p7) (h8:p8) (h9:p9) (h10:p10) (h11:p11) (h12:p12) (h13:p13) (h14:p14) (h15:p15) (h16:p16) (h17:p17) (h18:p18) (h19:p19) (h20:p20) (h21:p21):p0∧p1∧p2∧p3∧p4∧p5∧p6∧p7∧p8∧p9∧p10∧p11∧p12∧p13∧p14∧p15∧p16∧p17∧p18∧p19∧p20∧p21∧True:=⟨h0,h1,h2,h3,h4,h5,h6,h7,h8,h9,h10,h11,h12,h13,h14,h15,h16,h17,h18,h19,h20,h21,trivial⟩
theorem w_23 {p0 p1 p2 p3 p4 p5 p6 p7 p8 p9 p10 p11 p12 p13 p14 p15 p16 p17 p18 p19 p20 p21 p22:Prop} (h0:p0) (h1:p1) (h2:p2) (h3:p3) (h4:p4) (h5:p5) (h6:p6) (h7:p7) (h8:p8) (h9:p9) (h10:p10) (h11:p11) (h12:p12) (h13:p13) (h14:p14) (h15:p15) (h16:p16) (h17:p17) (h18:p18) (h19:p19) (h20:p20) (h21:p21) (h22:p22):p0∧p1∧p2∧p3∧p4∧p5∧p6∧p7∧p8∧p9∧p10∧p11∧p12∧p13∧p14∧p15∧p16∧p17∧p18∧p19∧p20∧p21∧p22∧True:=⟨h0,h1,h2,h3,h4,h5,h6,h7,h8,h9,h10,h11,h12,h13,h14,h15,h16,h17,h18,h19,h20,h21,h22,trivial⟩
theorem w_24 {p0 p1 p2 p3 p4 p5 p6 p7 p8 p9 p10 p11 p12 p13 p14 p15 p16 p17 p18 p19 p20 p21 p22 p23:Prop} (h0:p0) (h1:p1) (h2:p2) (h3:p3) (h4:p4) (h5:p5) (h6:p6) (h7:p7) (h8:p8) (h9:p9) (h10:p10) (h11:p11) (h12:p12) (h13:p13) (h14:p14) (h15:p15) (h16:p16) (h17:p17) (h18:p18) (h19:p19) (h20:p20) (h21:p21) (h22:p22) (h23:p23):p0∧p1∧p2∧p3∧p4∧p5∧p6∧p7∧p8∧p9∧p10∧p11∧p12∧p13∧p14∧p15∧p16∧p17∧p18∧p19∧p20∧p21∧p22∧p23∧True:=⟨h0,h1,h2,h3,h4,h5,h6,h7,h8,h9,h10,h11,h12,h13,h14,h15,h16,h17,h18,h19,h20,h21,h22,h23,trivial⟩
structure Dw (id:Nat) (rs:Nat→AV) (bar cut:List Nat):Prop
theorem w_d (id:Nat) (l:List (Nat × AV)) (bar cut:List Nat):Dw id (Zfc l) bar cut:=⟨⟩
structure Rn (k:Nat):Prop
theorem w_r (k:Nat):Rn k:=⟨⟩
theorem Zgv {P:Program} {n id:Nat} {Q:AE→St→Prop} {st:St} {l:List Oper} {rs:Nat→AV} {bar cut:List Nat} (u:Dw id rs bar cut) (hm:P.follows .mixedOrders=true) (hf:l.all (Zeo n)=true)
 (hlex:Zn2 l.toArray bar l.length 0 (Array.replicate l.length false)=true) {N:Nat} (hN:l.length=N) (h:Zbq P 0 l rs bar (cutM cut st.mem) N 0 (Q .normal) st):Za4 P 0 n (.region id l.toArray true) Q st:=Zcp rs bar cut hm hf hlex hN h
structure Dft:Prop
theorem w_y:Dft:=⟨⟩
theorem r_drawE {P:Program} {n id:Nat} {Q:AE→St→Prop} {st:St} {l:List Oper} (u:Dft) (hm:P.follows .mixedOrders=true) (hf:l.all (Zeo n)=true)
 (hlex:Zn2 l.toArray [] l.length 0 (Array.replicate l.length false)=true) {N:Nat} (hN:l.length=N) (h:Zbq P 0 l (Zfc []) [] (cutM [] st.mem) N 0 (Q .normal) st):Za4 P 0 n (.region id l.toArray true) Q st:=Zcp (Zfc []) [] [] hm hf hlex hN h
theorem Zlb {P:Program} {n k:Nat} {Q:AE→St→Prop} {st:St} {body:Code} (u:Rn (k+1)) (hf:Zbj n body=true) (h:unr P n body Q (k+1) st):Za4 P 0 n (.loop body) Q st:=Ztu (k+1) hf h
structure Sl (r:Prop):Prop
theorem sl0:Sl True:=⟨⟩
theorem sl1 {r:Prop}:Sl r:=⟨⟩
theorem Zc6 {α β:Type} {f:α→β} {l:List α}:(l.map f).length=l.length:=ZB2 ..
theorem l_app {α:Type} {l k:List α}:(l++k).length=l.length+k.length:=ZCr
theorem Zui {α:Type} {i:Nat} {l:List α}:(l.take i).length=min i l.length:=ZCh
theorem l_drop {α:Type} {i:Nat} {l:List α}:(l.drop i).length=l.length - i:=ZD7
theorem Zg3 {α:Type} {l:List α}:l.drop 0=l:=rfl
theorem l_set {α:Type} {l:List α} {i:Nat} {a:α}:(l.set i a).length=l.length:=List.length_set ..
theorem wkap {F C p R0 R1 R2 R3 R4 R5 R6 R7 R8 R9 R10 R11:Prop} {nr:Nat} (hfx:F) (hcx:C) (hnx:Rn nr) (r:Lv R0 (Lv R1 (Lv R2 (Lv R3 (Lv R4 (Lv R5 (Lv R6 (Lv R7 (Lv R8 (Lv R9 (Lv R10 R11)))))))))))
 (h:Fx F→Fx C→Rn nr→Fx R0→Fx R1→Fx R2→Fx R3→Fx R4→Fx R5→Fx R6→Fx R7→Fx R8→Fx R9→Fx R10→Fx R11→Bdy→p∧Sl R0∧Sl R1∧Sl R2∧Sl R3∧Sl R4∧Sl R5∧Sl R6∧Sl R7∧Sl R8∧Sl R9∧Sl R10∧Sl R11:=by
  intro hF hC hN h0 h1 h2 h3 h4 h5 h6 h7 h8 h9 h10 h11 _;refine⟨?_,?_⟩
  focus
   (repeat' (first|(with_reducible first|refine stp ?_|apply gx1|apply gx2|apply gx3|apply gx4|apply gx5|apply gx6|apply gx7|refine gw0 hC.h.1 ?_ ?_|refine gw0 hC.h.2.1 ?_ ?_|refine gw0 hC.h.2.2.1 ?_ ?_|refine gw0 hC.h.2.2.2.1 ?_ ?_|refine gw0 hC.h.2.2.2.2.1 ?_ ?_)|(with_reducible refine Zcm ?_;intro _)|((with_reducible refine gE ?_);(try simp (disch:=omega) only [go_sem,hF.h,ZB4,ZB3,ZBv,ZBu,Int.reduceAdd,Int.reduceSub,Int.reduceToNat,ZB9])<;>first|rfl|omega)|with_reducible refine Zak zd ?_|((with_reducible first|apply Zev|apply Zex);all_goals (intro hc;(try simp only [bool_to_prop] at hc);first|done|(exfalso;omega)|(revert hc;intro _)))|((with_reducible apply Zlb hN);(focus rfl))))
   (all_goals repeat' (rename_i zz;first|(have zb:Bdy:=zz;first|exact h0.h|exact h1.h|exact h2.h|exact h3.h|exact h4.h|exact h5.h|exact h6.h|exact h7.h|exact h8.h|exact h9.h|exact h10.h|exact h11.h)|revert zz))
  (repeat' first|refine⟨?_,?_⟩|exact sl0|exact sl1)):p :=
 (h ⟨hfx⟩ ⟨hcx⟩ hnx ⟨r.x⟩ ⟨r.y.x⟩ ⟨r.y.y.x⟩ ⟨r.y.y.y.x⟩ ⟨r.y.y.y.y.x⟩ ⟨r.y.y.y.y.y.x⟩ ⟨r.y.y.y.y.y.y.x⟩ ⟨r.y.y.y.y.y.y.y.x⟩ ⟨r.y.y.y.y.y.y.y.y.x⟩ ⟨r.y.y.y.y.y.y.y.y.y.x⟩ ⟨r.y.y.y.y.y.y.y.y.y.y.x⟩ ⟨r.y.y.y.y.y.y.y.y.y.y.y⟩ ⟨⟩).1
theorem wkad {F C D p R0 R1 R2 R3 R4 R5 R6 R7 R8 R9 R10 R11:Prop} (hfx:F) (hcx:C) (hdx:D) (r:Lv R0 (Lv R1 (Lv R2 (Lv R3 (Lv R4 (Lv R5 (Lv R6 (Lv R7 (Lv R8 (Lv R9 (Lv R10 R11)))))))))))
 (h:Fx F→Fx C→Fx D→Fx R0→Fx R1→Fx R2→Fx R3→Fx R4→Fx R5→Fx R6→Fx R7→Fx R8→Fx R9→Fx R10→Fx R11→Bdy→p∧Sl R0∧Sl R1∧Sl R2∧Sl R3∧Sl R4∧Sl R5∧Sl R6∧Sl R7∧Sl R8∧Sl R9∧Sl R10∧Sl R11:=by
  intro hF hC hD h0 h1 h2 h3 h4 h5 h6 h7 h8 h9 h10 h11 _;refine⟨?_,?_⟩
  focus
   (repeat' (first|(with_reducible first|refine stp ?_|apply gx1|apply gx2|apply gx3|apply gx4|apply gx5|apply gx6|apply gx7|apply gy8|apply gz2|apply gz3|refine gw0 hC.h.1 ?_ ?_|refine gw3 hC.h.1 ?_ ?_ ?_|refine gw0 hC.h.2.1 ?_ ?_|refine gw3 hC.h.2.1 ?_ ?_ ?_|refine gw0 hC.h.2.2.1 ?_ ?_|refine gw3 hC.h.2.2.1 ?_ ?_ ?_|refine gw0 hC.h.2.2.2.1 ?_ ?_|refine gw3 hC.h.2.2.2.1 ?_ ?_ ?_|refine gw0 hC.h.2.2.2.2.1 ?_ ?_|refine gw3 hC.h.2.2.2.2.1 ?_ ?_ ?_|refine gw0 hC.h.2.2.2.2.2.1 ?_ ?_|refine gw3 hC.h.2.2.2.2.2.1 ?_ ?_ ?_|refine gw0 hC.h.2.2.2.2.2.2.1 ?_ ?_|refine gw3 hC.h.2.2.2.2.2.2.1 ?_ ?_ ?_|refine gw0 hC.h.2.2.2.2.2.2.2.1 ?_ ?_|refine gw3 hC.h.2.2.2.2.2.2.2.1 ?_ ?_ ?_|refine gw0 hC.h.2.2.2.2.2.2.2.2.1 ?_ ?_|refine gw3 hC.h.2.2.2.2.2.2.2.2.1 ?_ ?_ ?_)|(with_reducible refine Zcm ?_;intro _)|((with_reducible refine gE ?_);(try simp (disch:=omega) only [go_sem,hF.h,ZB4,ZB3,ZBv,ZBu,Int.reduceAdd,Int.reduceSub,Int.reduceToNat,ZB9])<;>first|rfl|omega)|with_reducible refine Zak zd ?_|((with_reducible apply gy1);iterate 3 focus rfl)|((with_reducible apply gy2);iterate 3 focus rfl)|((with_reducible apply gy3);iterate 2 focus rfl)|((with_reducible apply gy4);iterate 1 focus rfl)|((with_reducible apply gy5);iterate 4 focus rfl)|((with_reducible apply gy5c);iterate 4 focus rfl)|((with_reducible apply gy6);iterate 4 focus rfl)|((with_reducible apply Zjm);iterate 3 focus rfl)|((with_reducible apply Zjd);iterate 1 focus rfl)|((with_reducible apply gy7);iterate 1 focus rfl)|((with_reducible apply gy9);(focus ((with_reducible refine gE ?_);(try simp (disch:=omega) only [go_sem,hF.h,ZB4,ZB3,ZBv,ZBu,Int.reduceAdd,Int.reduceSub,Int.reduceToNat,ZB9])<;>rfl)))|((with_reducible apply gz1);(focus first|rfl|(simp (disch:=omega) only [go_sem,hF.h,ZB4,ZB3,ZBv,ZBu,Int.reduceAdd,Int.reduceSub,Int.reduceToNat,ZB9];done)))|((with_reducible apply Zgv hD.h.1);(focus kernel_rfl);(focus rfl);(focus kernel_rfl);(focus (simp only [ZCd,ZCq,Nat.reduceAdd];rfl)))|((with_reducible apply Zgv hD.h.2.1);(focus kernel_rfl);(focus rfl);(focus kernel_rfl);(focus (simp only [ZCd,ZCq,Nat.reduceAdd];rfl)))|((with_reducible apply Zcp (Zfc []) [] []);(focus kernel_rfl);(focus rfl);(focus kernel_rfl);(focus (simp only [ZCd,ZCq,Nat.reduceAdd];rfl)))|((with_reducible first|apply Zev|apply Zi4|apply Zex);all_goals (intro hc;(try simp only [bool_to_prop] at hc);first|done|(exfalso;omega)|(revert hc;intro _)))))
   (all_goals repeat' (rename_i zz;first|(have zb:Bdy:=zz;first|exact h0.h|exact h1.h|exact h2.h|exact h3.h|exact h4.h|exact h5.h|exact h6.h|exact h7.h|exact h8.h|exact h9.h|exact h10.h|exact h11.h)|revert zz))
  (repeat' first|refine⟨?_,?_⟩|exact sl0|exact sl1)):p :=
 (h ⟨hfx⟩ ⟨hcx⟩ ⟨hdx⟩ ⟨r.x⟩ ⟨r.y.x⟩ ⟨r.y.y.x⟩ ⟨r.y.y.y.x⟩ ⟨r.y.y.y.y.x⟩ ⟨r.y.y.y.y.y.x⟩ ⟨r.y.y.y.y.y.y.x⟩ ⟨r.y.y.y.y.y.y.y.x⟩ ⟨r.y.y.y.y.y.y.y.y.x⟩ ⟨r.y.y.y.y.y.y.y.y.y.x⟩ ⟨r.y.y.y.y.y.y.y.y.y.y.x⟩ ⟨r.y.y.y.y.y.y.y.y.y.y.y⟩ ⟨⟩).1
theorem wkax {F C D B S Rd E p R0 R1 R2 R3 R4 R5 R6 R7 R8 R9 R10 R11:Prop} {nr:Nat} (hfx:F) (hcx:C) (hdx:D) (hbx:B) (hsx:S) (hrx:Rd) (hex:E) (hnx:Rn nr) (r:Lv R0 (Lv R1 (Lv R2 (Lv R3 (Lv R4 (Lv R5 (Lv R6 (Lv R7 (Lv R8 (Lv R9 (Lv R10 R11)))))))))))
 (h:Fx F→Fx C→Fx D→Fx B→Fx S→Fx Rd→Fx E→Rn nr→Fx R0→Fx R1→Fx R2→Fx R3→Fx R4→Fx R5→Fx R6→Fx R7→Fx R8→Fx R9→Fx R10→Fx R11→Bdy→p∧Sl R0∧Sl R1∧Sl R2∧Sl R3∧Sl R4∧Sl R5∧Sl R6∧Sl R7∧Sl R8∧Sl R9∧Sl R10∧Sl R11:=by
  intro hF hC hD hB hS hR hE hN h0 h1 h2 h3 h4 h5 h6 h7 h8 h9 h10 h11 _;refine⟨?_,?_⟩
  focus
   (repeat' (first|(with_reducible first|refine stp ?_|apply gx1|apply gx2|apply gx3|apply gx4|apply gx5|apply gx6|apply gx7|apply gy8|apply gz2|apply gz3|refine gw0 hC.h.1 ?_ ?_|refine gw3 hC.h.1 ?_ ?_ ?_|refine gw0 hC.h.2.1 ?_ ?_|refine gw3 hC.h.2.1 ?_ ?_ ?_|refine gw0 hC.h.2.2.1 ?_ ?_|refine gw3 hC.h.2.2.1 ?_ ?_ ?_|refine gw0 hC.h.2.2.2.1 ?_ ?_|refine gw3 hC.h.2.2.2.1 ?_ ?_ ?_|refine gw0 hC.h.2.2.2.2.1 ?_ ?_|refine gw3 hC.h.2.2.2.2.1 ?_ ?_ ?_|refine gw0 hC.h.2.2.2.2.2.1 ?_ ?_|refine gw3 hC.h.2.2.2.2.2.1 ?_ ?_ ?_|refine gw0 hC.h.2.2.2.2.2.2.1 ?_ ?_|refine gw3 hC.h.2.2.2.2.2.2.1 ?_ ?_ ?_|refine gw0 hC.h.2.2.2.2.2.2.2.1 ?_ ?_|refine gw3 hC.h.2.2.2.2.2.2.2.1 ?_ ?_ ?_|refine gw0 hC.h.2.2.2.2.2.2.2.2.1 ?_ ?_|refine gw3 hC.h.2.2.2.2.2.2.2.2.1 ?_ ?_ ?_|refine gw0 hC.h.2.2.2.2.2.2.2.2.2.1 ?_ ?_|refine gw3 hC.h.2.2.2.2.2.2.2.2.2.1 ?_ ?_ ?_|refine gw0 hC.h.2.2.2.2.2.2.2.2.2.2.1 ?_ ?_|refine gw3 hC.h.2.2.2.2.2.2.2.2.2.2.1 ?_ ?_ ?_|refine gw0 hC.h.2.2.2.2.2.2.2.2.2.2.2.1 ?_ ?_|refine gw3 hC.h.2.2.2.2.2.2.2.2.2.2.2.1 ?_ ?_ ?_|apply gw1 hB.h.1|apply gw1 hB.h.2.1|apply gw1 hB.h.2.2.1|refine gwr hR.h.1 ?_ ?_|refine gwr hR.h.2.1 ?_ ?_|refine gwr hR.h.2.2.1 ?_ ?_|refine gwr hR.h.2.2.2.1 ?_ ?_)|((with_reducible apply gw1 hS.h.2.2.2.2.2.2.2.1);iterate 4 focus ((with_reducible refine gE ?_);(try simp (disch:=omega) only [go_sem,hF.h,ZB4,ZB3,ZBv,ZBu,Int.reduceAdd,Int.reduceSub,Int.reduceToNat,ZB9])<;>first|rfl|done))|((with_reducible apply gw1 hS.h.2.2.2.2.2.2.1);iterate 4 focus ((with_reducible refine gE ?_);(try simp (disch:=omega) only [go_sem,hF.h,ZB4,ZB3,ZBv,ZBu,Int.reduceAdd,Int.reduceSub,Int.reduceToNat,ZB9])<;>first|rfl|done))|((with_reducible apply gw1 hS.h.2.2.2.2.2.1);iterate 4 focus ((with_reducible refine gE ?_);(try simp (disch:=omega) only [go_sem,hF.h,ZB4,ZB3,ZBv,ZBu,Int.reduceAdd,Int.reduceSub,Int.reduceToNat,ZB9])<;>first|rfl|done))|((with_reducible apply gw1 hS.h.2.2.2.2.1);iterate 4 focus ((with_reducible refine gE ?_);(try simp (disch:=omega) only [go_sem,hF.h,ZB4,ZB3,ZBv,ZBu,Int.reduceAdd,Int.reduceSub,Int.reduceToNat,ZB9])<;>first|rfl|done))|((with_reducible apply gw1 hS.h.2.2.2.1);iterate 4 focus ((with_reducible refine gE ?_);(try simp (disch:=omega) only [go_sem,hF.h,ZB4,ZB3,ZBv,ZBu,Int.reduceAdd,Int.reduceSub,Int.reduceToNat,ZB9])<;>first|rfl|done))|((with_reducible apply gw1 hS.h.2.2.1);iterate 4 focus ((with_reducible refine gE ?_);(try simp (disch:=omega) only [go_sem,hF.h,ZB4,ZB3,ZBv,ZBu,Int.reduceAdd,Int.reduceSub,Int.reduceToNat,ZB9])<;>first|rfl|done))|((with_reducible apply gw1 hS.h.2.1);iterate 4 focus ((with_reducible refine gE ?_);(try simp (disch:=omega) only [go_sem,hF.h,ZB4,ZB3,ZBv,ZBu,Int.reduceAdd,Int.reduceSub,Int.reduceToNat,ZB9])<;>first|rfl|done))|((with_reducible apply gw1 hS.h.1);iterate 4 focus ((with_reducible refine gE ?_);(try simp (disch:=omega) only [go_sem,hF.h,ZB4,ZB3,ZBv,ZBu,Int.reduceAdd,Int.reduceSub,Int.reduceToNat,ZB9])<;>first|rfl|done))|((with_reducible apply gyr hR.h.2.2.2.1);(focus rfl);(focus rfl);iterate 3 focus ((with_reducible refine gE ?_);(try simp (disch:=omega) only [go_sem,hF.h,ZB4,ZB3,ZBv,ZBu,Int.reduceAdd,Int.reduceSub,Int.reduceToNat,ZB9])<;>first|rfl|done))|((with_reducible apply gyr hR.h.2.2.1);(focus rfl);(focus rfl);iterate 3 focus ((with_reducible refine gE ?_);(try simp (disch:=omega) only [go_sem,hF.h,ZB4,ZB3,ZBv,ZBu,Int.reduceAdd,Int.reduceSub,Int.reduceToNat,ZB9])<;>first|rfl|done))|((with_reducible apply gyr hR.h.2.1);(focus rfl);(focus rfl);iterate 3 focus ((with_reducible refine gE ?_);(try simp (disch:=omega) only [go_sem,hF.h,ZB4,ZB3,ZBv,ZBu,Int.reduceAdd,Int.reduceSub,Int.reduceToNat,ZB9])<;>first|rfl|done))|((with_reducible apply gyr hR.h.1);(focus rfl);(focus rfl);iterate 3 focus ((with_reducible refine gE ?_);(try simp (disch:=omega) only [go_sem,hF.h,ZB4,ZB3,ZBv,ZBu,Int.reduceAdd,Int.reduceSub,Int.reduceToNat,ZB9])<;>first|rfl|done))|(with_reducible refine Zcm ?_;intro _)|((with_reducible refine gE ?_);(try simp (disch:=omega) only [go_sem,hF.h,ZB4,ZB3,ZBv,ZBu,Int.reduceAdd,Int.reduceSub,Int.reduceToNat,ZB9])<;>first|rfl|omega)|with_reducible refine Zak zd ?_|((with_reducible apply gy1);iterate 3 focus rfl)|((with_reducible apply gy2);iterate 3 focus rfl)|((with_reducible apply gy3);iterate 2 focus rfl)|((with_reducible apply gy4);iterate 1 focus rfl)|((with_reducible apply gy5);iterate 4 focus rfl)|((with_reducible apply gy5c);iterate 4 focus rfl)|((with_reducible apply gy6);iterate 4 focus rfl)|((with_reducible apply Zjm);iterate 3 focus rfl)|((with_reducible apply Zjd);iterate 1 focus rfl)|((with_reducible apply gy7);iterate 1 focus rfl)|((with_reducible apply gy9);(focus ((with_reducible refine gE ?_);(try simp (disch:=omega) only [go_sem,hF.h,ZB4,ZB3,ZBv,ZBu,Int.reduceAdd,Int.reduceSub,Int.reduceToNat,ZB9])<;>rfl)))|((with_reducible apply gz1);(focus first|rfl|(simp (disch:=omega) only [go_sem,hF.h,ZB4,ZB3,ZBv,ZBu,Int.reduceAdd,Int.reduceSub,Int.reduceToNat,ZB9];done)))|((with_reducible apply Zgv hD.h.1);(focus kernel_rfl);(focus rfl);(focus kernel_rfl);(focus (simp only [ZCd,ZCq,Nat.reduceAdd];rfl)))|((with_reducible apply Zgv hD.h.2.1);(focus kernel_rfl);(focus rfl);(focus kernel_rfl);(focus (simp only [ZCd,ZCq,Nat.reduceAdd];rfl)))|((with_reducible apply Zgv hD.h.2.2.1);(focus kernel_rfl);(focus rfl);(focus kernel_rfl);(focus (simp only [ZCd,ZCq,Nat.reduceAdd];rfl)))|((with_reducible apply Zgv hD.h.2.2.2.1);(focus kernel_rfl);(focus rfl);(focus kernel_rfl);(focus (simp only [ZCd,ZCq,Nat.reduceAdd];rfl)))|((with_reducible apply r_drawE hE.h);(focus kernel_rfl);(focus rfl);(focus kernel_rfl);(focus (simp only [ZCd,ZCq,Nat.reduceAdd];rfl)))|((with_reducible first|apply Zev|apply Zi4|apply Zex);all_goals (intro hc;(try simp only [bool_to_prop] at hc);first|done|(exfalso;omega)|(revert hc;intro _)))|((with_reducible apply Zlb hN);(focus rfl))|((with_reducible apply gy5d);iterate 4 focus rfl)))
   (all_goals repeat' (rename_i zz;first|(have zb:Bdy:=zz;first|exact h0.h|exact h1.h|exact h2.h|exact h3.h|exact h4.h|exact h5.h|exact h6.h|exact h7.h|exact h8.h|exact h9.h|exact h10.h|exact h11.h)|revert zz))
  (repeat' first|refine⟨?_,?_⟩|exact sl0|exact sl1)):p :=
 (h ⟨hfx⟩ ⟨hcx⟩ ⟨hdx⟩ ⟨hbx⟩ ⟨hsx⟩ ⟨hrx⟩ ⟨hex⟩ hnx ⟨r.x⟩ ⟨r.y.x⟩ ⟨r.y.y.x⟩ ⟨r.y.y.y.x⟩ ⟨r.y.y.y.y.x⟩ ⟨r.y.y.y.y.y.x⟩ ⟨r.y.y.y.y.y.y.x⟩ ⟨r.y.y.y.y.y.y.y.x⟩ ⟨r.y.y.y.y.y.y.y.y.x⟩ ⟨r.y.y.y.y.y.y.y.y.y.x⟩ ⟨r.y.y.y.y.y.y.y.y.y.y.x⟩ ⟨r.y.y.y.y.y.y.y.y.y.y.y⟩ ⟨⟩).1
theorem wklp {F C L p R0 R1 R2 R3 R4 R5 R6 R7 R8 R9 R10 R11:Prop} {nr:Nat} (hfx:F) (hcx:C) (hlx:L) (hnx:Rn nr) (r:Lv R0 (Lv R1 (Lv R2 (Lv R3 (Lv R4 (Lv R5 (Lv R6 (Lv R7 (Lv R8 (Lv R9 (Lv R10 R11)))))))))))
 (h:Fx F→Fx C→Fx L→Rn nr→Fx R0→Fx R1→Fx R2→Fx R3→Fx R4→Fx R5→Fx R6→Fx R7→Fx R8→Fx R9→Fx R10→Fx R11→Bdy→p∧Sl R0∧Sl R1∧Sl R2∧Sl R3∧Sl R4∧Sl R5∧Sl R6∧Sl R7∧Sl R8∧Sl R9∧Sl R10∧Sl R11:=by
  intro hF hC hL hN h0 h1 h2 h3 h4 h5 h6 h7 h8 h9 h10 h11 _;refine⟨?_,?_⟩
  focus
   (repeat' (first|(with_reducible first|refine stp ?_|apply gx1|apply gx2|apply gx3|apply gx4|apply gx5|apply gx6|apply gx7|refine gw0 hC.h.1 ?_ ?_|refine gw0 hC.h.2.1 ?_ ?_|refine gw0 hC.h.2.2.1 ?_ ?_|refine gw0 hC.h.2.2.2.1 ?_ ?_|refine gw0 hC.h.2.2.2.2.1 ?_ ?_)|(with_reducible refine Zcm ?_;intro _)|((with_reducible refine gE ?_);(try simp (disch:=omega) only [go_sem,hF.h,ZB4,ZB3,ZBv,ZBu,Int.reduceAdd,Int.reduceSub,Int.reduceToNat,ZB9])<;>first|rfl|omega)|with_reducible refine Zak zd ?_|((with_reducible first|apply Zev|apply Zex);all_goals (intro hc;(try simp only [bool_to_prop] at hc);first|done|(exfalso;omega)|(revert hc;intro _)))|((with_reducible apply Zlb hN);(focus rfl))))
   (all_goals (try simp (disch:=omega) only [go_sem,hL.h,ZB4,ZB3,ZBv,ZBu,Int.reduceAdd,Int.reduceSub,Int.reduceToNat,ZB9]));(all_goals first|done|rfl|(congr 2;first|done|omega|(rw [ZCk];simp only [bool_to_prop,ZB8,ZCt,ZCu,ZCv,ZCw];omega))|skip)
   (all_goals repeat' (rename_i zz;first|(have zb:Bdy:=zz;first|exact h0.h|exact h1.h|exact h2.h|exact h3.h|exact h4.h|exact h5.h|exact h6.h|exact h7.h|exact h8.h|exact h9.h|exact h10.h|exact h11.h)|revert zz))
  (repeat' first|refine⟨?_,?_⟩|exact sl0|exact sl1)):p :=
 (h ⟨hfx⟩ ⟨hcx⟩ ⟨hlx⟩ hnx ⟨r.x⟩ ⟨r.y.x⟩ ⟨r.y.y.x⟩ ⟨r.y.y.y.x⟩ ⟨r.y.y.y.y.x⟩ ⟨r.y.y.y.y.y.x⟩ ⟨r.y.y.y.y.y.y.x⟩ ⟨r.y.y.y.y.y.y.y.x⟩ ⟨r.y.y.y.y.y.y.y.y.x⟩ ⟨r.y.y.y.y.y.y.y.y.y.x⟩ ⟨r.y.y.y.y.y.y.y.y.y.y.x⟩ ⟨r.y.y.y.y.y.y.y.y.y.y.y⟩ ⟨⟩).1
theorem wkld {F C L D p R0 R1 R2 R3 R4 R5 R6 R7 R8 R9 R10 R11:Prop} (hfx:F) (hcx:C) (hlx:L) (hdx:D) (r:Lv R0 (Lv R1 (Lv R2 (Lv R3 (Lv R4 (Lv R5 (Lv R6 (Lv R7 (Lv R8 (Lv R9 (Lv R10 R11)))))))))))
 (h:Fx F→Fx C→Fx L→Fx D→Fx R0→Fx R1→Fx R2→Fx R3→Fx R4→Fx R5→Fx R6→Fx R7→Fx R8→Fx R9→Fx R10→Fx R11→Bdy→p∧Sl R0∧Sl R1∧Sl R2∧Sl R3∧Sl R4∧Sl R5∧Sl R6∧Sl R7∧Sl R8∧Sl R9∧Sl R10∧Sl R11:=by
  intro hF hC hL hD h0 h1 h2 h3 h4 h5 h6 h7 h8 h9 h10 h11 _;refine⟨?_,?_⟩
  focus
   (repeat' (first|(with_reducible first|refine stp ?_|apply gx1|apply gx2|apply gx3|apply gx4|apply gx5|apply gx6|apply gx7|apply gy8|apply gz2|apply gz3|refine gw0 hC.h.1 ?_ ?_|refine gw3 hC.h.1 ?_ ?_ ?_|refine gw0 hC.h.2.1 ?_ ?_|refine gw3 hC.h.2.1 ?_ ?_ ?_|refine gw0 hC.h.2.2.1 ?_ ?_|refine gw3 hC.h.2.2.1 ?_ ?_ ?_|refine gw0 hC.h.2.2.2.1 ?_ ?_|refine gw3 hC.h.2.2.2.1 ?_ ?_ ?_|refine gw0 hC.h.2.2.2.2.1 ?_ ?_|refine gw3 hC.h.2.2.2.2.1 ?_ ?_ ?_|refine gw0 hC.h.2.2.2.2.2.1 ?_ ?_|refine gw3 hC.h.2.2.2.2.2.1 ?_ ?_ ?_|refine gw0 hC.h.2.2.2.2.2.2.1 ?_ ?_|refine gw3 hC.h.2.2.2.2.2.2.1 ?_ ?_ ?_|refine gw0 hC.h.2.2.2.2.2.2.2.1 ?_ ?_|refine gw3 hC.h.2.2.2.2.2.2.2.1 ?_ ?_ ?_|refine gw0 hC.h.2.2.2.2.2.2.2.2.1 ?_ ?_|refine gw3 hC.h.2.2.2.2.2.2.2.2.1 ?_ ?_ ?_)|(with_reducible refine Zcm ?_;intro _)|((with_reducible refine gE ?_);(try simp (disch:=omega) only [go_sem,hF.h,ZB4,ZB3,ZBv,ZBu,Int.reduceAdd,Int.reduceSub,Int.reduceToNat,ZB9])<;>first|rfl|omega)|with_reducible refine Zak zd ?_|((with_reducible apply gy1);iterate 3 focus rfl)|((with_reducible apply gy2);iterate 3 focus rfl)|((with_reducible apply gy3);iterate 2 focus rfl)|((with_reducible apply gy4);iterate 1 focus rfl)|((with_reducible apply gy5);iterate 4 focus rfl)|((with_reducible apply gy5c);iterate 4 focus rfl)|((with_reducible apply gy6);iterate 4 focus rfl)|((with_reducible apply Zjm);iterate 3 focus rfl)|((with_reducible apply Zjd);iterate 1 focus rfl)|((with_reducible apply gy7);iterate 1 focus rfl)|((with_reducible apply gy9);(focus ((with_reducible refine gE ?_);(try simp (disch:=omega) only [go_sem,hF.h,ZB4,ZB3,ZBv,ZBu,Int.reduceAdd,Int.reduceSub,Int.reduceToNat,ZB9])<;>rfl)))|((with_reducible apply gz1);(focus first|rfl|(simp (disch:=omega) only [go_sem,hF.h,ZB4,ZB3,ZBv,ZBu,Int.reduceAdd,Int.reduceSub,Int.reduceToNat,ZB9];done)))|((with_reducible apply Zgv hD.h.1);(focus kernel_rfl);(focus rfl);(focus kernel_rfl);(focus (simp only [ZCd,ZCq,Nat.reduceAdd];rfl)))|((with_reducible apply Zgv hD.h.2.1);(focus kernel_rfl);(focus rfl);(focus kernel_rfl);(focus (simp only [ZCd,ZCq,Nat.reduceAdd];rfl)))|((with_reducible apply Zcp (Zfc []) [] []);(focus kernel_rfl);(focus rfl);(focus kernel_rfl);(focus (simp only [ZCd,ZCq,Nat.reduceAdd];rfl)))|((with_reducible first|apply Zev|apply Zi4|apply Zex);all_goals (intro hc;(try simp only [bool_to_prop] at hc);first|done|(exfalso;omega)|(revert hc;intro _)))))
   (all_goals (try simp (disch:=omega) only [go_sem,hL.h,ZB4,ZB3,ZBv,ZBu,Int.reduceAdd,Int.reduceSub,Int.reduceToNat,ZB9]));(all_goals first|done|rfl|(congr 2;first|done|omega|(rw [ZCk];simp only [bool_to_prop,ZB8,ZCt,ZCu,ZCv,ZCw];omega))|skip)
   (all_goals repeat' (rename_i zz;first|(have zb:Bdy:=zz;first|exact h0.h|exact h1.h|exact h2.h|exact h3.h|exact h4.h|exact h5.h|exact h6.h|exact h7.h|exact h8.h|exact h9.h|exact h10.h|exact h11.h)|revert zz))
  (repeat' first|refine⟨?_,?_⟩|exact sl0|exact sl1)):p :=
 (h ⟨hfx⟩ ⟨hcx⟩ ⟨hlx⟩ ⟨hdx⟩ ⟨r.x⟩ ⟨r.y.x⟩ ⟨r.y.y.x⟩ ⟨r.y.y.y.x⟩ ⟨r.y.y.y.y.x⟩ ⟨r.y.y.y.y.y.x⟩ ⟨r.y.y.y.y.y.y.x⟩ ⟨r.y.y.y.y.y.y.y.x⟩ ⟨r.y.y.y.y.y.y.y.y.x⟩ ⟨r.y.y.y.y.y.y.y.y.y.x⟩ ⟨r.y.y.y.y.y.y.y.y.y.y.x⟩ ⟨r.y.y.y.y.y.y.y.y.y.y.y⟩ ⟨⟩).1
theorem wkvp {F C p R0 R1 R2 R3 R4 R5 R6 R7 R8 R9 R10 R11:Prop} (hfx:F) (hcx:C) (r:Lv R0 (Lv R1 (Lv R2 (Lv R3 (Lv R4 (Lv R5 (Lv R6 (Lv R7 (Lv R8 (Lv R9 (Lv R10 R11)))))))))))
 (h:Fx F→Fx C→Fx R0→Fx R1→Fx R2→Fx R3→Fx R4→Fx R5→Fx R6→Fx R7→Fx R8→Fx R9→Fx R10→Fx R11→Bdy→p∧Sl R0∧Sl R1∧Sl R2∧Sl R3∧Sl R4∧Sl R5∧Sl R6∧Sl R7∧Sl R8∧Sl R9∧Sl R10∧Sl R11:=by
  intro hF hC h0 h1 h2 h3 h4 h5 h6 h7 h8 h9 h10 h11 _;refine⟨?_,?_⟩
  focus
   (repeat' (first|(with_reducible first|refine stp ?_|apply gx1|apply gx2|apply gx3|apply gx4|apply gx5|apply gx6|apply gx7|refine gw0 hC.h.1 ?_ ?_|refine gw0 hC.h.2.1 ?_ ?_|refine gw0 hC.h.2.2.1 ?_ ?_|refine gw0 hC.h.2.2.2.1 ?_ ?_|refine gw0 hC.h.2.2.2.2.1 ?_ ?_)|(with_reducible refine Zcm ?_;intro _)|((with_reducible refine gE ?_);(try simp (disch:=omega) only [go_sem,hF.h])<;>first|rfl|omega)|with_reducible refine Zak zd ?_))
   (all_goals repeat' (rename_i zz;first|(have zb:Bdy:=zz;first|exact h0.h|exact h1.h|exact h2.h|exact h3.h|exact h4.h|exact h5.h|exact h6.h|exact h7.h|exact h8.h|exact h9.h|exact h10.h|exact h11.h)|revert zz))
  (repeat' first|refine⟨?_,?_⟩|exact sl0|exact sl1)):p :=
 (h ⟨hfx⟩ ⟨hcx⟩ ⟨r.x⟩ ⟨r.y.x⟩ ⟨r.y.y.x⟩ ⟨r.y.y.y.x⟩ ⟨r.y.y.y.y.x⟩ ⟨r.y.y.y.y.y.x⟩ ⟨r.y.y.y.y.y.y.x⟩ ⟨r.y.y.y.y.y.y.y.x⟩ ⟨r.y.y.y.y.y.y.y.y.x⟩ ⟨r.y.y.y.y.y.y.y.y.y.x⟩ ⟨r.y.y.y.y.y.y.y.y.y.y.x⟩ ⟨r.y.y.y.y.y.y.y.y.y.y.y⟩ ⟨⟩).1
theorem gM {F p:Prop} (f:F) (h:Fx F→p:=by
 intro hL
 (all_goals (try simp (disch:=omega) only [go_sem,hL.h,ZB4,ZB3,ZBv,ZBu,Int.reduceAdd,Int.reduceSub,Int.reduceToNat,ZB9]));(all_goals first|done|rfl|(congr 2;first|done|omega|(rw [ZCk];simp only [bool_to_prop,ZB8,ZCt,ZCu,ZCv,ZCw];omega)))):p:=h ⟨f⟩
theorem w_s {a:Prop} (x:a):Lv a (Lv True (Lv True (Lv True (Lv True (Lv True (Lv True (Lv True (Lv True (Lv True (Lv True (True))))))))))):=⟨x,⟨trivial,⟨trivial,⟨trivial,⟨trivial,⟨trivial,⟨trivial,⟨trivial,⟨trivial,⟨trivial,⟨trivial,trivial⟩⟩⟩⟩⟩⟩⟩⟩⟩⟩⟩
theorem w_z:Lv True (Lv True (Lv True (Lv True (Lv True (Lv True (Lv True (Lv True (Lv True (Lv True (Lv True (True))))))))))):=w_s trivial
end Go.Pg
namespace Go.Pg
open Go Go.RowKit
def nv:List Nat→Nat
 | []=>0
 | x :: l=>x+65536*nv l
def Lm (l:List Nat):Prop:=∀x∈l,x < 65536
def toL (n:Nat):List Nat:=if h:n=0 then [] else n%65536 :: toL (n/65536)
termination_by n
decreasing_by omega
def u16s (l:List Nat):List AV:=l.map λn:Nat=>.v (.int .u16 (n:Int))
abbrev lim (l:List Nat):AV:=.sl 1 (u16s l)
def gN (l:List Nat) (k:Nat):Nat:=l.getD k 0
theorem Zax:toL 0=[]:=by rw [toL];rfl
theorem Ze3 {n:Nat} (h:n≠0):toL n=n%65536 :: toL (n/65536):=by rw [toL,dif_neg h]
theorem Zap (n:Nat):nv (toL n)=n:=by
 induction n using Nat.strongRecOn with
 | _ n ih =>
   by_cases h:n=0
   ·subst h;rw [Zax];rfl
   ·rw [Ze3 h,nv,ih (n/65536) zo];omega
theorem Zar (n:Nat):Lm (toL n):=by
 induction n using Nat.strongRecOn with
 | _ n ih =>
   by_cases h:n=0
   ·subst h;rw [Zax];intro x hx;cases hx
   ·rw [Ze3 h];intro x hx;rcases List.mem_cons.1 hx with rfl | hx
    ·omega
    ·exact ih (n/65536) zo x hx
theorem Lm.tail {x:Nat} {l:List Nat} (h:Lm (x :: l)):Lm l:=λy hy=>h y (ZE5 _ hy)
theorem Lm.head {x:Nat} {l:List Nat} (h:Lm (x :: l)):x < 65536:=h x (ZEr ..)
theorem Lm.take {l:List Nat} (h:Lm l) (k:Nat):Lm (l.take k):=λy hy=>h y (ZDc hy)
theorem Lm.drop {l:List Nat} (h:Lm l) (k:Nat):Lm (l.drop k):=λy hy=>h y (ZEc hy)
theorem Lm.append {a b:List Nat} (ha:Lm a) (hb:Lm b):Lm (a++b):=λy hy=>(List.mem_append.1 hy).elim (ha y) (hb y)
theorem Lm.nil:Lm []:=λx hx=>by cases hx
theorem Lm.one {x:Nat} (h:x < 65536):Lm [x]:=λy hy=>by simp at hy;omega
theorem Lm.zeros (n:Nat):Lm (List.replicate n 0):=λy hy=>by have:=ZFj hy;omega
theorem Zb2 {l:List Nat} (h:Lm l) (k:Nat):gN l k < 65536:=by
 unfold gN;rw [ZCb];rcases ZCg k l.length with hk | hk
 ·rw [ZB6 hk];exact h _ (ZB7 _)
 ·rw [ZDh hk];simp
theorem gN_at {l:List Nat} {k:Nat} (h:k < l.length):gN l k=l[k]:=by unfold gN;rw [ZCb,ZB6 h];rfl
theorem Zfk {l:List Nat} {k:Nat} (h:l.length≤k):gN l k=0:=by unfold gN;rw [ZCb,ZDh h];rfl
theorem Za5 (l:List Nat):(u16s l).length=l.length:=by simp [u16s]
theorem u16s_get {l:List Nat} {k:Nat} (h:k < l.length):(u16s l).getD k .u=.v (.int .u16 (gN l k:Int)):=Zur h
theorem Zw0 (l:List Nat) (k:Nat):(u16s l).take k=u16s (l.take k):=by simp [u16s,List.map_take]
theorem Zw2 (l:List Nat) (k:Nat):(u16s l).drop k=u16s (l.drop k):=by simp [u16s,List.map_drop]
theorem u16s_set (l:List Nat) (k x:Nat):(u16s l).set k (.v (.int .u16 (x:Int)))=u16s (l.set k x):=by simp [u16s,List.map_set]
theorem u16s_app (a b:List Nat):u16s a++u16s b=u16s (a++b):=by simp [u16s]
theorem Zw1 (a:List Nat) (x:Nat):u16s a++[.v (.int .u16 (x:Int))]=u16s (a++[x]):=by simp [u16s]
theorem u16s_rep (n:Nat):List.replicate n (AV.v (.int .u16 0))=u16s (List.replicate n 0):=by simp [u16s,List.map_replicate]
theorem Ztd:u16s []=[]:=rfl
theorem Zg5 {x:Nat} {l:List Nat}:gN (x :: l) 0=x:=rfl
theorem Zfl {x k:Nat} {l:List Nat}:gN (x :: l) (k+1)=gN l k:=rfl
theorem Zec (a b:List Nat):nv (a++b)=nv a+65536 ^ a.length*nv b:=by
 induction a with
 | nil=>simp [nv]
 | cons x a ih=>simp only [ZF1,nv,ih,ZCd,ZC5];grind
theorem Zh0 {l:List Nat} (h:Lm l):nv l < 65536 ^ l.length:=by
 induction l with
 | nil=>simp [nv]
 | cons x l ih =>
   have h1:=ih h.tail;have h2:=h.head;simp only [nv,ZCd,ZC5];generalize 65536 ^ l.length=p at *;omega
theorem Znw (n:Nat):nv (List.replicate n 0)=0:=by
 induction n with
 | zero=>rfl
 | succ n ih=>simp [List.replicate_succ,nv,ih]
theorem Zbz (l:List Nat) (k:Nat):nv l=nv (l.take k)+65536 ^ k*nv (l.drop k):=by
 rcases ZCg l.length k with h | h
 ·rw [ZD3 zo,ZDo zo];simp [nv]
 ·have:=Zec (l.take k) (l.drop k);rw [ZD2,ZCh,ZEb h] at this;exact this
theorem Zaz (l:List Nat) (k:Nat):nv (l.take (k+1))=nv (l.take k)+65536 ^ k*gN l k:=by
 rcases ZCg k l.length with h | h
 ·rw [ZEe h,Zec,ZCh,ZEb zo,gN_at h];simp [nv]
 ·rw [ZD3 zo,ZD3 zo,Zfk h];simp
theorem Zb3 (l:List Nat) (k:Nat):nv (l.drop k)=gN l k+65536*nv (l.drop (k+1)):=by
 rcases ZCg k l.length with h | h
 ·rw [ZEi h,nv,gN_at h]
 ·rw [ZDo h,ZDo zo,Zfk h];rfl
theorem nv_pos {l:List Nat} {k:Nat} (h:0 < gN l k):0 < nv l:=by
 induction l generalizing k with
 | nil=>simp [gN] at h
 | cons x l ih =>
   cases k with
   | zero=>simp only [Zg5] at h;simp only [nv];omega
   | succ k=>rw [Zfl] at h;have:=ih h;simp only [nv];omega
theorem canon {l:List Nat} (h:Lm l) (hc:l=[]∨0 < gN l (l.length - 1)):l=toL (nv l):=by
 induction l with
 | nil=>simp [nv,Zax]
 | cons x l ih =>
   have hx:=h.head
   have hl:l=[]∨0 < gN l (l.length - 1):=by
    cases l with
    | nil=>exact .inl rfl
    | cons y l =>
      refine .inr ?_;rcases hc with hc | hc
      ·cases hc
      ·simpa [Zfl] using hc
   have hi:=ih h.tail hl
   have hn:nv (x :: l)≠0:=by
    rcases hc with hc | hc
    ·cases hc
    ·have:=nv_pos hc;omega
   rw [Ze3 hn];simp only [nv];have e1:(x+65536*nv l)%65536=x:=zo;have e2:(x+65536*nv l)/65536=nv l:=zo;rw [e1,e2,←hi]
theorem Zef {n:Nat} (h:n≠0):(toL n).length≠0∧0 < gN (toL n) ((toL n).length - 1):=by
 induction n using Nat.strongRecOn with
 | _ n ih =>
   rw [Ze3 h];refine⟨by simp,?_⟩;by_cases h2:n/65536=0
   ·rw [h2,Zax];simp only [ZCd,ZCq,ZCl,ZE8,Zg5];omega
   ·have:=ih (n/65536) zo h2;obtain⟨h3,h4⟩:=this;simp only [ZCd,ZFb];obtain⟨k,hk⟩:=Nat.exists_eq_succ_of_ne_zero h3;rw [hk] at h4 ⊢
    simpa [Zfl] using h4
theorem Zq0 {a b:Nat} (h:toL a=toL b):a=b:=by rw [←Zap a,h,Zap]
theorem toL_nil {n:Nat}:toL n=[]↔n=0:=⟨λh=>Zq0 (h.trans Zax.symm),λh=>by rw [h,Zax]⟩
theorem Zbn {n:Nat}:(toL n).length=0↔n=0:=by rw [List.length_eq_zero_iff];exact toL_nil
theorem Zlk {l:List Nat} {k:Nat} (h:Lm l) (hk:k≤l.length) (hz:∀j,k≤j→gN l j=0) (ht:k=0∨0 < gN l (k - 1)):l.take k=toL (nv l):=by
 have h0:nv (l.drop k)=0:=by
  have key:∀(m:List Nat),(∀j,gN m j=0)→nv m=0:=by
   intro m
   induction m with
   | nil=>intro _;rfl
   | cons x m ih =>
     intro hm;have h1:=hm 0;rw [Zg5] at h1;rw [nv,h1,ih λj=>by rw [←Zfl (x:=x)];exact hm (j+1)]
  refine key _ λj=>?_;have:=hz (k+j) zo;unfold gN at this ⊢
  rwa [ZCb,ZEf,←ZCb]
 have h1:=Zbz l k;rw [h0,ZEm,ZDe] at h1;rw [h1];refine canon (h.take k) ?_;by_cases hk0:k=0
 ·subst hk0;exact .inl rfl
 ·have ht:=ht.resolve_left hk0;refine .inr ?_;rw [ZCh,ZEb hk];unfold gN at ht ⊢;rw [ZCb] at ht ⊢;rw [ZDy,ZBv zo];exact ht
theorem Znc {l:List Nat} (h:Lm l):∃k,k≤l.length∧l.take k=toL (nv l):=by
 induction hn:l.length generalizing l with
 | zero=>exact⟨0,zo,by rw [ZFf hn];simp [nv,Zax]⟩
 | succ n ih =>
   by_cases hz:gN l n=0
   ·obtain⟨k,h1,h2⟩:=ih (h.take n) (by simp;omega);refine⟨k,zo,?_⟩;rw [List.take_take,ZEb h1] at h2;rw [h2];congr 1;have h3:=Zaz l n;rw [ZD3 zo,hz] at h3;omega
   ·exact⟨l.length,zo,by rw [ZD3 (ZBw _)];exact canon h (.inr (by rw [hn,ZFb];omega))⟩
theorem Zau {l:List Nat} (h:Lm l):(toL (nv l)).length≤l.length:=by
 obtain⟨k,h1,h2⟩:=Znc h;rw [←h2,ZCh];omega
theorem Zae {n k:Nat}:(toL n).length≤k↔n < 65536 ^ k:=by
 constructor
 ·intro h;have h1:=Zh0 (Zar n);rw [Zap] at h1;exact ZDx h1 (ZDk zo h)
 ·intro h;rcases ZCg k (toL n).length with h1 | h1
  ·exfalso
   have hn:n≠0:=by
    rintro rfl
    rw [Zax] at h1;simp at h1
   obtain⟨h2,h3⟩:=Zef hn;have h4:=Zbz (toL n) ((toL n).length - 1);rw [Zap] at h4
   have h5:0 < nv ((toL n).drop ((toL n).length - 1)):=by
    refine nv_pos (k:=0) ?_;unfold gN at h3 ⊢;rw [ZCb,ZEf,ZDe,←ZCb];exact h3
   have h6:65536 ^ k≤65536 ^ ((toL n).length - 1):=ZDk zo zo;have h7:65536 ^ ((toL n).length - 1)≤65536 ^ ((toL n).length - 1)*nv ((toL n).drop ((toL n).length - 1)):=ZE2 _ h5;omega
  ·exact h1
theorem Za7 {a b:Nat} (h:a≤b):(toL a).length≤(toL b).length:=by
 rw [Zae];exact ZGl h (Zae.1 (ZBw _))
theorem Zt5 {a b:List Nat} {k:Nat} (ha:Lm a) (hb:Lm b) (he:nv (a.drop (k+1))=nv (b.drop (k+1))) (h:gN a k < gN b k):nv a < nv b:=by
 have h1:=Zbz a k;have h2:=Zbz b k;rw [Zb3,he] at h1;rw [Zb3] at h2;have h3:=Zh0 (ha.take k);have h4:nv (a.take k) < 65536 ^ k:=ZDx h3 (ZDk zo (by rw [ZCh];omega));generalize nv (b.drop (k+1))=r at *;generalize 65536 ^ k=p at *
 have h5:p*(gN a k+65536*r)+p≤p*(gN b k+65536*r):=by
  have:gN a k+65536*r+1≤gN b k+65536*r:=zo;have:=ZD0 p this
  rwa [ZC2 p _ 1,ZEl] at this
 omega
theorem nv_eq_of {a b:List Nat} (hl:a.length=b.length) (he:nv a=nv b) (ha:Lm a) (hb:Lm b):a=b:=by
 induction a generalizing b with
 | nil=>cases b with
   | nil=>rfl
   | cons y b=>simp at hl
 | cons x a ih=>cases b with
   | nil=>simp at hl
   | cons y b =>
     have h1:=ha.head;have h2:=hb.head;simp only [nv] at he;have e1:x=y:=zo;have e2:nv a=nv b:=zo;rw [e1,ih (by simpa using hl) e2 ha.tail hb.tail]
theorem canon' {o:List Nat} (h:Lm o) (hl:o.length≤(toL (nv o)).length):o=toL (nv o) :=
 nv_eq_of (by have:=Zau h;omega) (Zap _).symm h (Zar _)
theorem Zde {o:List Nat} {k:Nat} (h:k < o.length) (x:Nat):nv ((o.set k x).take (k+1))=nv (o.take k)+65536 ^ k*x:=by
 have h1:(o.set k x).take (k+1)=o.take k++[x]:=by
  rw [ZEe (by simpa using h)];simp only [List.getElem_set_self,List.take_set];rw [List.set_eq_of_length_le (by rw [ZCh];omega)]
 rw [h1,Zec,ZCh,ZEb zo];simp [nv]
theorem Lm.set {o:List Nat} (h:Lm o) (k:Nat) {x:Nat} (hx:x < 65536):Lm (o.set k x):=λy hy=>by
 rcases ZFx hy with h1 | rfl
 ·exact h y h1
 ·exact hx
theorem Zbr {α:Type} {l:List α} {k:Nat} (h:l.length≤k):l.take k=l:=ZD3 h
theorem Zvb {p o c a b x y:Nat} (h:o+p*c=a+b):(o+p*((c+x+y)%65536))+(p*65536)*((c+x+y)/65536)=(a+p*x)+(b+p*y):=by
 have h2:p*((c+x+y)%65536)+p*65536*((c+x+y)/65536)=p*(c+x+y):=by rw [ZC6,←ZC2,Nat.mod_add_div]
 rw [ZC2,ZC2] at h2;omega
theorem Ztj {p o c a b x y d c':Nat} (h:o+b=a+p*c) (hd:d+c+y=x+65536*c'):(o+p*d)+(b+p*y)=(a+p*x)+(p*65536)*c':=by
 have h2:p*d+p*c+p*y=p*x+p*65536*c':=by
  rw [←ZC2,←ZC2,hd,ZC2,ZC6]
 omega
theorem wrap_u8 {x:Int} (h1:0≤x) (h2:x≤255):IntKind.u8.wrap x=x:=IntWalk.u8_in x ⟨h1,h2⟩
theorem wrap_u16 {x:Int} (h1:0≤x) (h2:x≤65535):IntKind.u16.wrap x=x:=IntWalk.u16_in x ⟨h1,h2⟩
theorem Zkb {x:Int} (h1:0≤x) (h2:x≤4294967295):IntKind.u32.wrap x=x:=IntWalk.u32_in x ⟨h1,h2⟩
theorem Zff {x:Int} (h1:0≤x) (h2:x≤18446744073709551615):IntKind.u64.wrap x=x:=IntWalk.u64_in x ⟨h1,h2⟩
theorem wrap_i32 {x:Int} (h1:-2147483648≤x) (h2:x≤2147483647):IntKind.i32.wrap x=x:=IntWalk.i32_in x ⟨h1,h2⟩
theorem cut_u16 (x:Int):IntKind.u16.wrap x=x%65536:=by rw [IntKind.wrap_u16]
theorem Zd0 (a b:Nat):(a:Int).tdiv (b:Int)=((a/b:Nat):Int):=Int.ofNat_tdiv a b |>.symm
theorem Zfn (a b:Nat):(a:Int).tmod (b:Int)=((a%b:Nat):Int):=(Int.ofNat_tmod a b).symm
theorem Zbv (x:Nat):IntKind.u16.wrap (x:Int)=((x%65536:Nat):Int):=by rw [cut_u16];omega
theorem Zxp (a:Nat):shrI .u32 (a:Int) 16=((a/65536:Nat):Int):=by
 unfold shrI;rw [ZG8 _ zd];rfl
theorem Zxo (a:Nat):shrI .u64 (a:Int) 16=((a/65536:Nat):Int):=by
 unfold shrI;rw [ZG8 _ zd];rfl
theorem Za3 (a b:Nat):(a:Int)+(b:Int)=((a+b:Nat):Int):=(Int.natCast_add a b).symm
theorem Zic (a b:Nat):(a:Int)*(b:Int)=((a*b:Nat):Int):=(Int.natCast_mul a b).symm
attribute [go_sem] wrap_u8 wrap_u16 Zkb Zff wrap_i32 Zxp Zxo Za5 u16s_get Zw0 Zw2 u16s_set u16s_app Zw1 u16s_rep
theorem Zps {o:List Nat} {j:Nat} (h:j < o.length) (v:Nat):nv (o.set j v)+65536 ^ j*gN o j=nv o+65536 ^ j*v:=by
 have h1:=Zbz (o.set j v) (j+1);have h2:=Zbz o (j+1);rw [Zde h] at h1;rw [Zaz] at h2
 have h3:(o.set j v).drop (j+1)=o.drop (j+1):=by
  rw [List.drop_set_of_lt zo]
 rw [h3] at h1;omega
theorem Zf4 {o:List Nat} {j i v:Nat} (h:j < o.length):gN (o.set j v) i=if i=j then v else gN o i:=by
 unfold gN;rw [ZCb,ZCb,List.getElem?_set];by_cases hij:j=i
 ·subst hij;simp [h]
 ·simp [hij,ZDu hij]
theorem Zt9 {o p c g s N x y T B:Nat} (hs:s=c+(g+x*y)) (hN:N+p*g=o+p*(s%65536)) (hv:o+p*c=B+T):N+(p*65536)*(s/65536)=B+(T+p*(x*y)):=by
 have h2:p*(s%65536)+p*65536*(s/65536)=p*s:=by rw [ZC6,←ZC2,Nat.mod_add_div]
 subst hs;rw [ZC2,ZC2] at h2;omega
theorem Zua (i k x y t:Nat):65536 ^ i*(t+65536 ^ k*y)*x=65536 ^ i*t*x+65536 ^ (i+k)*(x*y):=by
 rw [ZC2,ZCo,ZDb];congr 1;rw [ZCy x y];simp only [ZC6]
theorem Zhq (n j:Nat):gN (List.replicate n 0) j=0:=by
 unfold gN;rw [ZCb,ZHf];split<;>rfl
theorem Zpy {x y:Nat} (hx:x < 65536) (hy:y < 65536):x*y≤4294836225:=ZC7 (show x≤65535 by omega) (show y≤65535 by omega)
theorem shl_32 {x s:Nat} (hs:s < 32) (h:x*2 ^ s < 4294967296):shlI .u32 (x:Int) (s:Int)=((x*2 ^ s:Nat):Int):=by
 unfold shlI
 have e1:min (s:Int).toNat (IntKind.bits .u32)=s:=by
  have:IntKind.bits .u32=32:=rfl;omega
 rw [e1];have e2:(x:Int)*2 ^ s=((x*2 ^ s:Nat):Int):=by rw [Int.natCast_mul,Int.natCast_pow];rfl
 rw [e2];exact Zkb zo zo
theorem shl_64 {x s:Nat} (hs:s < 64) (h:x*2 ^ s < 18446744073709551616):shlI .u64 (x:Int) (s:Int)=((x*2 ^ s:Nat):Int):=by
 unfold shlI
 have e1:min (s:Int).toNat (IntKind.bits .u64)=s:=by
  have:IntKind.bits .u64=64:=rfl;omega
 rw [e1];have e2:(x:Int)*2 ^ s=((x*2 ^ s:Nat):Int):=by rw [Int.natCast_mul,Int.natCast_pow];rfl
 rw [e2];exact Zff zo zo
theorem shl16_32 {x:Nat} (h:x < 65536):shlI .u32 (x:Int) 16=((x*65536:Nat):Int):=shl_32 (s:=16) zo zo
theorem shl16_64 {x:Nat} (h:x < 281474976710656):shlI .u64 (x:Int) 16=((x*65536:Nat):Int):=shl_64 (s:=16) zo zo
theorem shr_32 {x s:Nat} (hs:s < 32):shrI .u32 (x:Int) (s:Int)=((x/2 ^ s:Nat):Int):=by
 unfold shrI
 have e1:min (s:Int).toNat (IntKind.bits .u32)=s:=by
  have:IntKind.bits .u32=32:=rfl;omega
 rw [e1];have e2:((2:Int) ^ s)=((2 ^ s:Nat):Int):=by rw [Int.natCast_pow];rfl
 rw [e2,ZG8 _ (ZFo _)];rfl
theorem Zpp (k:IntKind) {a b:Nat} (ha:a < 2 ^ k.bits) (hb:b < 2 ^ k.bits):orI k (a:Int) (b:Int)=k.wrap ((a ||| b:Nat):Int):=by
 unfold orI
 have f:∀x:Nat,x < 2 ^ k.bits→(BitVec.ofInt k.bits (x:Int)).toNat=x:=by
  intro x hx;rw [BitVec.ofInt_natCast,BitVec.toNat_ofNat,ZEa hx]
 rw [BitVec.toNat_or,f a ha,f b hb]
theorem Zpq {r x s:Nat} (h:x < 2 ^ s):(r*2 ^ s ||| x)=r*2 ^ s+x:=by
 rw [ZCy r,Nat.two_pow_add_eq_or_of_lt h]
theorem or16_32 {r x:Nat} (hr:r < 65536) (hx:x < 65536):orI .u32 ((r*65536:Nat):Int) (x:Int)=((r*65536+x:Nat):Int):=by
 rw [Zpp .u32 (by show _ < 4294967296;omega) (by show _ < 4294967296;omega),Zpq (s:=16) hx];exact Zkb zo zo
theorem or16_64 {r x:Nat} (hr:r < 281474976710656) (hx:x < 65536):orI .u64 ((r*65536:Nat):Int) (x:Int)=((r*65536+x:Nat):Int):=by
 rw [Zpp .u64 (by show _ < 18446744073709551616;omega) (by show _ < 18446744073709551616;omega),Zpq (s:=16) hx];exact Zff zo zo
theorem orS_64 {n x s:Nat} (hn:n < 2 ^ s) (hs:s≤48) (hx:x < 65536):orI .u64 (n:Int) ((x*2 ^ s:Nat):Int)=((n+2 ^ s*x:Nat):Int):=by
 have e:(2:Nat) ^ s*65536≤18446744073709551616:=by
  have:(2:Nat) ^ s≤2 ^ 48:=ZDk zo hs;omega
 have h1:x*2 ^ s≤65535*2 ^ s:=ZCf _ zo;rw [Zpp .u64 (by show _ < 18446744073709551616;omega) (by show _ < 18446744073709551616;omega),Nat.or_comm,Zpq hn];rw [Zff zo zo,ZCy,ZEn]
theorem or_16 {a b s:Nat} (hs:s≤16) (hb:b < 2 ^ s) (ha:a*2 ^ s < 65536):orI .u16 (b:Int) ((a*2 ^ s:Nat):Int)=((b+a*2 ^ s:Nat):Int):=by
 have e:(2:Nat) ^ s≤2 ^ 16:=ZDk zo hs
 have h3:a*2 ^ s+b < 65536:=by
  have h4:a < 2 ^ (16 - s):=by
   refine Nat.lt_of_mul_lt_mul_right (a:=2 ^ s) ?_;rw [←ZDb,ZG9 hs];exact ha
  have h5:(a+1)*2 ^ s≤2 ^ (16 - s)*2 ^ s:=ZCf _ h4;rw [←ZDb,ZG9 hs,ZCo,ZD1] at h5;omega
 rw [Zpp .u16 (by show _ < 65536;omega) (by show _ < 65536;omega),Nat.or_comm,Zpq hb];rw [wrap_u16 zo zo,ZEn]
attribute [go_sem] shl16_32 shl16_64 or16_32 or16_64
theorem low_mul {x s:Nat} (hs:s≤16):(x*2 ^ s)%65536=(x%2 ^ (16 - s))*2 ^ s:=by
 have:65536=2 ^ (16 - s)*2 ^ s:=by rw [←ZDb,ZG9 hs]
 rw [this,Nat.mul_mod_mul_right]
theorem Zpk (k:Nat):65536 ^ k=2 ^ (16*k):=by rw [Nat.pow_mul]
theorem div_step {a q r d x B:Nat} (hB:B=65536) (h:a=d*q+r):x+B*a=d*((r*B+x)/d+B*q)+(r*B+x)%d:=by
 have h2:=ZEt (r*B+x) d;subst h;have e1:B*(d*q+r)=d*(B*q)+r*B:=by rw [ZC2,ZFp,ZCy B r]
 have e2:d*((r*B+x)/d+B*q)=d*((r*B+x)/d)+d*(B*q):=ZC2 _ _ _;omega
theorem shr_dig {x y r s:Nat} (hs:s≤16):((x+65536*(y+65536*r))/2 ^ s)%65536=((x+65536*y)/2 ^ s)%65536:=by
 have e0:(65536:Nat)=2 ^ (16 - s)*2 ^ s:=by rw [←ZDb,ZG9 hs]
 have e1:x+65536*(y+65536*r)=(x+65536*y)+2 ^ s*(65536*(2 ^ (16 - s)*r)):=by
  have:65536*(65536*r)=2 ^ s*(65536*(2 ^ (16 - s)*r)):=by
   calc 65536*(65536*r)=65536*((2 ^ (16 - s)*2 ^ s)*r):=by rw [←e0]
    _=2 ^ s*(65536*(2 ^ (16 - s)*r)):=by rw [ZCy (2 ^ (16 - s)),ZC6,ZFp]
  rw [ZC2,this];omega
 rw [e1,Nat.add_mul_div_left _ _ (ZGw s),Nat.add_mul_mod_self_left]
theorem shr_step {N o k d s:Nat} (h:o=(N/2 ^ s)%65536 ^ k) (hd:d=(N/65536 ^ k/2 ^ s)%65536):o+65536 ^ k*d=(N/2 ^ s)%65536 ^ (k+1):=by
 rw [ZC5,Nat.mod_mul,h,hd,ZGx,ZGx,ZCy (2 ^ s)]
theorem Zy2 {l:List Nat} (h:Lm l) (k:Nat):nv l/65536 ^ k=nv (l.drop k):=by
 have h1:=Zbz l k;have h2:nv (l.take k) < 65536 ^ k:=ZDx (Zh0 (h.take k)) (ZDk zo (by rw [ZCh];omega));rw [h1,Nat.add_mul_div_left _ _ (ZF4 zo),ZGy h2,ZCl]
theorem Zz7 (l:List Nat) (i k:Nat):gN (l.drop i) k=gN l (i+k):=by
 unfold gN;rw [ZCb,ZEf,←ZCb]
theorem kn_init {W V q v1 v2 vl high u2 wl P:Nat} (hP:0 < P) (hV:V=(v1*65536+v2)*P+vl) (hW:W=(high*65536+u2)*P+wl) (hwl:wl < P) (hu2:u2 < 65536) (hv1:0 < v1) (hq:q*V≤W):q≤high/v1:=by
 rw [Nat.le_div_iff_mul_le hv1]
 have h1:q*(v1*65536*P)≤q*V:=by
  refine ZD0 _ ?_;rw [hV,ZCo];omega
 have h2:W < (high+1)*(65536*P):=by
  have h3:(high*65536+u2+1)*P≤((high+1)*65536)*P:=ZCf _ zo;rw [ZCo _ 1 P] at h3;rw [hW,←ZC6];omega
 have h3:(q*v1)*(65536*P) < (high+1)*(65536*P):=by
  have e:(q*v1)*(65536*P)=q*(v1*65536*P):=by simp only [ZC6]
  omega
 have:=Nat.lt_of_mul_lt_mul_right h3;omega
theorem kn_step {W V v1 v2 vl high u2 wl P d r:Nat} (hV:V=(v1*65536+v2)*P+vl) (hW:W=(high*65536+u2)*P+wl) (hwl:wl < P) (hh:high=d*v1+r) (ht:r*65536+u2 < d*v2):W < d*V:=by
 have h1:d*((v1*65536+v2)*P)≤d*V:=ZD0 _ zo
 have h2:high*65536+u2+1≤d*(v1*65536+v2):=by
  have e:d*(v1*65536+v2)=d*v1*65536+d*v2:=by rw [ZC2,ZC6]
  rw [e,hh,ZCo];omega
 have h3:=ZCf P h2;rw [ZCo _ 1 P,ZC6 d] at h3;omega
theorem kn_exit {W V v1 v2 vl high u2 wl P d r:Nat} (hV:V=(v1*65536+v2)*P+vl) (hvl:vl < P) (hW:W=(high*65536+u2)*P+wl) (hh:high=d*v1+r) (hv1:0 < v1) (hd:d < 65536) (ht:d*v2≤r*65536+u2):d*V < W+V:=by
 have h2:d*(v1*65536+v2)≤high*65536+u2:=by
  have e:d*(v1*65536+v2)=d*v1*65536+d*v2:=by rw [ZC2,ZC6]
  rw [e,hh,ZCo];omega
 have h3:=ZCf P h2;have h4:d*vl≤d*P:=ZD0 _ zo;have h5:d*P < 65536*P:=ZGz hd zo
 have h6:65536*P≤v1*65536*P:=by
  have:1*(65536*P)≤v1*(65536*P):=ZCf _ hv1;rw [ZD1,←ZC6] at this;exact this
 have h7:v1*65536*P≤V:=by rw [hV,ZCo];omega
 have e:d*V=d*(v1*65536+v2)*P+d*vl:=by rw [hV,ZC2,ZC6]
 omega
theorem kn_near {W V d:Nat} (hV:0 < V) (h1:W/V≤d) (h2:d*V < W+V):d=W/V∨d=W/V+1:=by
 have h3:d≤W/V+1:=by
  rcases ZCg (W/V+1) d with h | h
  ·exfalso;have h4:(W/V+2)*V≤d*V:=ZCf _ h;have h5:=Nat.lt_div_mul_add (a:=W) hV;rw [ZCo] at h4;omega
  ·exact h
 omega
def len8 (i:Nat):Nat:=if i=0 then 0 else Nat.log2 i+1
def Zfd (x:Nat):Nat:=if 256≤x then 8+len8 (x/256) else len8 x
theorem Zgg {i:Nat} (h:i < 256):len8 i≤8∧(0 < i→1≤len8 i):=by
 unfold len8;split
 ·omega
 ·rename_i h0;have:=(Nat.log2_lt h0 (k:=8)).2 h;omega
theorem Ziy {x:Nat} (h:x < 65536):Zfd x≤16∧(0 < x→1≤Zfd x):=by
 unfold Zfd;split
 ·have:=Zgg (i:=x/256) zo;omega
 ·have:=Zgg (i:=x) zo;omega
theorem shr_8_16 (a:Nat):shrI .u16 (a:Int) 8=((a/256:Nat):Int):=by
 unfold shrI;rw [ZG8 _ zd];rfl
attribute [go_sem] shr_8_16
theorem Zrz {P:Program} {K:St→Prop} {e:Nat→AV} {m:Mem} {t d x n:Nat} {L:List UInt8} {g:Nat→Nat} (hlen:L.length=n) (htab:((List.range n).all λi=>(L.getD i 0).toNat == g i)=true) (hx:x < n) (h:K ⟨upd e d (.v (.int .u8 (g x:Nat))),m⟩) :
 aRes P t (some d) (.need (0≤(x:Int)∧(x:Int) < (L.length:Int)) (.val (.v (.int .u8 (((L.getD x 0).toNat:Nat):Int))) [])) K ⟨e,m⟩:=by
 refine o_need ⟨zo,zo⟩ ?_;have:=List.all_eq_true.1 htab x (List.mem_range.2 hx);rw [ZDw] at this;rw [this];exact h
theorem Zh5 {α:Type} (f:Nat→α) (k:Nat) (a b:α):upd (upd f k a) k b=upd f k b:=by
 funext j
 simp only [Zan];split<;>rfl
theorem Ztb {α:Type} {f:Nat→α} {k:Nat} {a:α} (h:f k=a):upd f k a=f:=by
 funext j
 simp only [Zan];split
 ·subst_vars;rfl
 ·rfl
theorem Znr {P:Program} {f:FuncId} {args:List AV} {x:AV} {R:AV→Mem→Prop} (h:ACall P f args Zag R) (hR:∀r σ',R r σ'→Zgd (marks σ' r.toks) r∧pubV (marks σ' r.toks) r=x):Pure P f args x:=by
 refine⟨h.1,λw imm vs himm hl hr=>?_⟩;have hm:Mx ⟨w.heap.size,w,imm⟩ Zag w imm:=⟨⟨λk e hk=>by simp [Zag] at hk,λk k' e e' b hk=>by simp [Zag] at hk,λad h1=>(himm ad h1).1,λad h1=>(himm ad h1).2⟩,Blw.refl _ _,ZBw _,λ_ h1=>h1,λ_ h1=>.inl h1,λ_ _=>rfl⟩;refine(h.2 _ w imm vs hm hl λj a x h1 h2=>.pure (hr j a x h1 h2)).mono λe w' ⟨r,σ',imm',y,h1,h2,h3,h4,h5⟩=>?_;obtain⟨i2,hm2,hk2⟩:=Zdb r.toks h4;obtain⟨h6,h7⟩:=hR r σ' h2;have h8:=Zgw hm2 (hk2.rs h3) h6;rw [h7] at h8;exact⟨y,i2,h1,h8,hm2.old,λad h9=>⟨hm2.new ad h9,hm2.ok.lt ad h9,hm2.ok.spot ad h9⟩,hm2.below⟩
theorem gN_mid {pre w post:List Nat} {k:Nat} (h:k < w.length):gN (pre++(w++post)) (pre.length+k)=gN w k:=by
 unfold gN;rw [ZCb,ZCb,ZDr zo,ZGp,ZDq h]
theorem Zxr {pre w post:List Nat} {k:Nat} (h:k < w.length) (x:Nat):(pre++(w++post)).set (pre.length+k) x=pre++(w.set k x++post):=by
 rw [List.set_append_right _ _ zo,ZGp,List.set_append_left _ _ h]
theorem or16_32' {r x:Nat} (hr:r < 65536) (hx:x < 65536):orI .u32 (x:Int) ((r*65536:Nat):Int)=((x+65536*r:Nat):Int):=by
 rw [Zpp .u32 (by show _ < 4294967296;omega) (by show _ < 4294967296;omega),Nat.or_comm,Zpq (s:=16) hx,Zkb zo zo];omega
theorem Zq8 {o N d v p c r w y x r' c1:Nat} (h:o+d*v=N+p*(c+r)) (h1:c1=c+d*y) (h2:x+c1%65536+r=w+65536*r'):(o+p*x)+d*(v+p*y)=(N+p*w)+(p*65536)*(c1/65536+r'):=by
 have e1:p*x+p*(c1%65536)+p*r=p*w+p*65536*r':=by
  rw [←ZC2,←ZC2,h2,ZC2,ZC6]
 have e2:p*(c1%65536)+p*65536*(c1/65536)=p*c1:=by rw [ZC6,←ZC2,Nat.mod_add_div]
 have e3:p*c1=p*c+d*(p*y):=by rw [h1,ZC2];congr 1;simp only [ZFp]
 rw [ZC2,ZC2 (p*65536)];rw [ZC2] at h;omega
theorem Zv3 {a l s:Nat}:a*2 ^ (16*l+s)=a*2 ^ s*65536 ^ l:=by
 rw [Zpk,ZDb,ZC6,ZCy (2 ^ (16*l))]
theorem Zv4 {a l s:Nat}:a/2 ^ (16*l+s)=a/65536 ^ l/2 ^ s:=by
 rw [Zpk,ZDb,ZGx]
theorem nv_top2 {l:List Nat} {n:Nat} (h:l.length=n) (hn:2≤n):nv l=(gN l (n - 1)*65536+gN l (n - 2))*65536 ^ (n - 2)+nv (l.take (n - 2)):=by
 have h1:=Zbz l (n - 2);rw [Zb3,Zb3,show n - 2+1=n - 1 by omega,show n - 1+1=n by omega,ZDo zo] at h1;simp only [nv,ZEm,ZDe] at h1;rw [h1,ZEn,ZCy];congr 2;omega
theorem nv_top3 {l:List Nat} {n:Nat} (h:l.length=n+1) (hn:2≤n):nv l=((gN l n*65536+gN l (n - 1))*65536+gN l (n - 2))*65536 ^ (n - 2)+nv (l.take (n - 2)):=by
 have h1:=Zbz l (n - 2);rw [Zb3,Zb3,Zb3,show n - 2+1=n - 1 by omega,show n - 1+1=n by omega,ZDo zo] at h1;simp only [nv,ZEm,ZDe] at h1;rw [h1,ZEn,ZCy];congr 2;omega
theorem Zhm {l:List Nat} (h:Lm l) (k:Nat):nv (l.take k) < 65536 ^ k:=ZDx (Zh0 (h.take k)) (ZDk zo (by rw [ZCh];omega))
theorem gN_take {l:List Nat} {k i:Nat} (h:i < k):gN (l.take k) i=gN l i:=by
 unfold gN;rw [ZCb,ZDy,ZBv h,←ZCb]
theorem Zsn {a b:List Nat} {k:Nat} (h:k < a.length):gN (a++b) k=gN a k:=by
 unfold gN;rw [ZCb,ZDq h,←ZCb]
theorem top_le {u v:List Nat} {n:Nat} (hu:Lm u) (hv:Lm v) (hvn:v.length=n) (hn:2≤n) (h:nv u < nv v):gN u (n - 1)≤gN v (n - 1):=by
 rcases ZCg (gN v (n - 1)) (gN u (n - 1)) with h1 | h1
 ·exfalso;have h2:=Zbz u (n - 1);rw [Zb3] at h2;have h3:=Zbz v (n - 1);rw [Zb3,show n - 1+1=n by omega,ZDo zo] at h3;simp only [nv,ZEm,ZDe] at h3;have h4:=Zhm hv (n - 1);have h5:65536 ^ (n - 1)*(gN v (n - 1)+1)≤65536 ^ (n - 1)*gN u (n - 1):=ZD0 _ h1;rw [ZC2,ZEl] at h5;rw [ZC2] at h2;generalize 65536 ^ (n - 1)*(65536*nv (u.drop (n - 1+1)))=z at *;omega
 ·exact h1
theorem drop_zero {u v:List Nat} {n:Nat} (hv:Lm v) (hvn:v.length=n) (h:nv u < nv v):nv (u.drop n)=0:=by
 have h1:=Zbz u n;have h2:=Zh0 hv;rw [hvn] at h2;rcases ZC3 (nv (u.drop n)) with h3 | h3
 ·exact h3
 ·have:=ZE2 (65536 ^ n) h3;omega
theorem subDone {w d V W p b:Nat} (hV:0 < V) (hw:w < p) (hb:b≤1) (h:w+d*V=W+p*b) (hd:d=W/V∨d=W/V+1):(b=0∧d=W/V∧w=W%V)∨(b=1∧d=W/V+1):=by
 have h1:=ZEt W V;have h2:=ZDj W hV;rw [ZCy] at h1;rcases hd with hd | hd<;>subst hd
 ·have hb0:b=0:=by
   rcases ZC3 b with h3 | h3
   ·exact h3
   ·have:b=1:=zo;subst this;omega
  subst hb0;exact .inl ⟨rfl,rfl,zo⟩
 ·rw [ZCo,ZD1] at h
  have hb1:b=1:=by
   rcases ZC3 b with h3 | h3
   ·subst h3;omega
   ·omega
  exact .inr ⟨hb1,rfl⟩
theorem resDone {w w' V W p c:Nat} (hV:0 < V) (hVp:V≤p) (hw:w' < p) (hc:c≤1) (h:w+(W/V+1)*V=W+p*1) (h':w'+p*c=w+V):w'=W%V:=by
 have h1:=ZEt W V;have h2:=ZDj W hV;rw [ZCy] at h1;rw [ZCo,ZD1] at h;rcases ZC3 c with h3 | h3
 ·subst h3;omega
 ·have:c=1:=zo;subst this;omega
def Frz (n:Nat) (st st':St):Prop:=∀(c:Cx) (a:Act) (w:World) (imm:Imm),Rel c n st a w imm→∃imm',Rel c n st' a w imm'
theorem Frz.refl (n:Nat) (st:St):Frz n st st:=λc a w imm h=>⟨imm,h⟩
theorem Frz.trans {n:Nat} {s1 s2 s3:St} (h:Frz n s1 s2) (k:Frz n s2 s3):Frz n s1 s3:=λc a w imm h1=>by
 obtain⟨i,h2⟩:=h c a w imm h1;exact k c a w i h2
theorem Frz.own {n:Nat} {e:Nat→AV} {m:Mem} {d k mm pub:Nat} {sv:Value} {ty:TypeId} {es:List AV} (he:e d=.own k sv) (hm:m k=some (.row sv ty mm es pub)):Frz n ⟨e,m⟩ ⟨upd e d (.sl mm es),mark m k⟩:=by
 intro c a w imm h;obtain⟨i,h1,h2⟩:=Zse h.mem k;refine⟨i,λt=>?_,h.size,h.defers,h1⟩;have ht:=h2.rs (h.env t);show Rs w i (upd e d (.sl mm es) t) _;rw [Zan];split
 ·subst_vars
  rw [show(St.mk e m).env t=_ from he] at ht;rw [ht.own_inv];exact .pure (Ztm (k:=k) (e:=ty) h1 (es:=es) (pub:=es.length) (by simp only [mark,Zan,ZC0,hm,ZC9,Ent.mark]) rfl)
 ·exact ht
theorem Frz.nil {n:Nat} {e:Nat→AV} {m:Mem} {d:Nat} (mm:Nat) (he:e d=.v (.slice none 0 0)):Frz n ⟨e,m⟩ ⟨upd e d (.sl mm []),m⟩:=by
 intro c a w imm h;refine⟨imm,λt=>?_,h.size,h.defers,h.mem⟩;have ht:=h.env t;show Rs w imm (upd e d (.sl mm []) t) _;rw [Zan];split
 ·subst_vars
  rw [show(St.mk e m).env t=_ from he] at ht;rw [ht.v_inv];exact .pure ((Wk.nil mm).rd (.v _))
 ·exact ht
theorem Frz.nilOwn {n:Nat} {e:Nat→AV} {m:Mem} {d:Nat} (t mm:Nat) (ty:TypeId) (he:e d=.v (.slice none 0 0)):Frz n ⟨e,m⟩ ⟨upd e d (.own t (.slice none 0 0)),upd m t (some (.row (.slice none 0 0) ty mm [] 0))⟩:=by
 intro c a w imm h
 have hm:Mx c (upd m t (some (.row (.slice none 0 0) ty mm [] 0))) w imm:=by
  refine(Zdt h.mem (World.grownBy.refl w none) (ZBw _) zs (λ_ _=>rfl) t (.row (.slice none 0 0) ty mm [] 0) ⟨[],ZG6 w c.B ty mm,by simp,by simp,by simp [flat],by simp,λad _ h2=>by simp [Value.ownBlock] at h2,λg off h1 _=>by simp [Value.ownBlock] at h1⟩ λj e2 b _ _ _=>⟨by simp,by simp [Ent.blk,Value.ownBlock]⟩).1
 refine⟨imm,λx=>?_,h.size,h.defers,hm⟩;have ht:=h.env x;show Rs w imm (upd e d (.own t (.slice none 0 0)) x) _;rw [Zan];split
 ·subst_vars
  rw [show(St.mk e m).env x=_ from he] at ht;rw [ht.v_inv];exact .own _ _ rfl
 ·exact ht
section
variable {P:Program} {n:Nat} {Q:AE→St→Prop} {e:Nat→AV} {m:Mem}
theorem Zfb {body:Code} {st st':St} (h:Frz n st st') (k:Za4 P 0 n (.loop body) Q st'):Za4 P 0 n (.loop body) Q st:=λc a w imm hr=>by
 obtain⟨i,h1⟩:=h c a w imm hr;exact k c a w i h1
theorem Zyf {ι:Type} {body:Code} (I:ι→(Nat→AV)→Mem→Prop) (μ:ι→Nat) (i:ι) (hf:Zbj n body=true)
 (round:∀i e m,I i e m→Za4 P 0 n body (AE.then (λst'=>∃i' st'',Frz n st' st''∧I i' st''.env st''.mem∧μ i' < μ i) Q) ⟨e,m⟩) (h0:I i e m):Za4 P 0 n (.loop body) Q ⟨e,m⟩:=by
 intro c a w imm hr b k cs;have key:∀m i st a w imm,μ i=m→I i st.env st.mem→Rel c n st a w imm →
  ∃e a' w',post c n Q e a' w'∧Arrives P (lone (b.at a (.code body :: .inLoop body :: k)) cs w) b k cs e a' w':=by
  intro m
  induction m using Nat.strongRecOn with
  | _ m ih =>
    intro i st a w imm hm hI hr;obtain⟨e,a₁,w₁,hq,harr⟩:=Zbd body _ st hf (round i st.env st.mem hI) c a w imm hr b (.inLoop body :: k) cs;obtain⟨ae,st',imm',rfl,h2,h3⟩:=hq
    cases ae with
    | normal =>
      obtain⟨i',st'',hF,hI',hlt⟩:=h2;obtain⟨imm2,h4⟩:=hF c a₁ w₁ imm' h3;obtain⟨e₂,a₂,w₂,hq₂,harr₂⟩:=ih (μ i') (hm ▸ hlt) i' st'' a₁ w₁ imm2 rfl hI' h4;exact⟨e₂,a₂,w₂,hq₂,.of_steps (Steps.trans harr (.one step_inLoop)) harr₂⟩
    | exit id=>exact⟨_,a₁,w₁,⟨.exit id,st',imm',rfl,h2,h3⟩,.pass (x:=.inLoop body) rfl (λ_ _=>.inl (by simp [AE.to])) harr⟩
    | ret=>exact⟨_,a₁,w₁,⟨.ret,st',imm',rfl,h2,h3⟩,.pass (x:=.inLoop body) rfl (λ_ _=>.inl (by simp [AE.to])) harr⟩
 obtain⟨e₁,a',w',hq,harr⟩:=key _ i ⟨e,m⟩ a w imm rfl h0 hr;exact⟨e₁,a',w',hq,.of_steps (.one step_loop) harr⟩
end
attribute [go_sem] List.getElem?_toArray
section
def Zhb (P:Program) (t:TypeId):Bool:=match P.underlying t with
 | some (.struct _)=>true
 | _=>false
def Zc4 (P:Program) (t:TypeId) (aS:List AV):AV:=if Zhb P t then .agg aS else aS.headD .u
def Zcc (P:Program) (N:Nat):Nat→TypeId→List AV→Prop
 | 0,_,_=>False
 | n+1,t,aS=>match P.underlying t with
   | some .bool=>∃b,aS=[.v (.bool b)]
   | some (.int k)=>∃i,aS=[.v (.int k i)]∧(Lit.int k i).wf=true
   | some .string=>∃s:ByteArray,aS=[.v (.string s)]∧s.size≤N
   | some (.slice e)=>∃es:List (List AV),aS=[.sl (P.cellsOf e) (es.map (Zc4 P e))]∧es.length≤N∧∀x∈es,Zcc P N n e x
   | some (.struct fs)=>aS.length=P.cellsOf t∧∀f∈fs.toList,Zcc P N n f.type ((aS.drop f.offset).take (P.cellsOf f.type))
   | _=>False
def Zgo (P:Program) (total:Nat):Nat→List Field→Bool
 | off,[]=>off == total
 | off,f :: fs=>f.offset == off && Zgo P total (off+P.cellsOf f.type) fs
def Zdp (P:Program):Nat→TypeId→Bool
 | 0,_=>false
 | n+1,t=>match P.underlying t with
   | some .bool | some (.int _) | some .string=>P.cellsOf t == 1
   | some (.slice e)=>P.cellsOf t == 1 && Zdp P n e
   | some (.struct fs)=>Zgo P (P.cellsOf t) 0 fs.toList && fs.toList.all λf=>Zdp P n f.type
   | _=>false
mutual
def bulk {H:Type}:DataW H→Nat
 | .lit (.string bytes)=>bytes.length+1
 | .lit _=>1
 | .nil=>1
 | .ptr d=>bulk d+1
 | .slice elems spare=>bulkAll elems+bulkAll spare+1
 | .agg parts=>bulkAll parts+1
 | .iface _ d=>bulk d+1
 | .map entries=>bulkEntries entries+1
 | .held _=>1
def bulkAll {H:Type}:List (DataW H)→Nat
 | []=>0
 | d :: r=>bulk d+bulkAll r
def bulkEntries {H:Type}:List (Lit × DataW H)→Nat
 | []=>0
 | x :: r=>bulkEntry x+bulkEntries r
def bulkEntry {H:Type}:Lit × DataW H→Nat
 | (.string bytes,d)=>bytes.length+bulk d+1
 | (_,d)=>bulk d+1
end
theorem bulk_pos {H:Type} (d:DataW H):1≤bulk d:=by
 unfold bulk;split<;>omega
theorem Zop {H:Type} {d:DataW H}:∀{l:List (DataW H)},d∈l→bulk d≤bulkAll l
 | e :: r,h=>by
   unfold bulkAll;rcases List.mem_cons.1 h with rfl | h
   ·omega
   ·have:=Zop h;omega
theorem Zu8 {H:Type}:∀(l:List (DataW H)),l.length≤bulkAll l
 | []=>ZBw _
 | e :: r=>by
   unfold bulkAll;have:=Zu8 r;have:=bulk_pos e;simp only [ZCd];omega
def Zm9 {H:Type} (N:Nat) (d:DataW H):Prop:=maxLen≤N∨bulk d≤N
def Cs (w:World) (aS:List AV) (cs:List Value):Prop:=aS.length=cs.length∧∀(j:Nat) (a:AV) (x:Value),aS[j]?=some a→cs[j]?=some x→Rd w (imm0 w) a x
theorem Cs.nil {w:World}:Cs w [] []:=⟨rfl,λj a x h=>by simp at h⟩
theorem Cs.one {w:World} {a:AV} {x:Value} (h:Rd w (imm0 w) a x):Cs w [a] [x]:=by
 refine⟨rfl,λj b y h1 h2=>?_⟩
 cases j with
 | zero=>simp at h1 h2;subst h1;subst h2;exact h
 | succ j=>simp at h1
theorem Cs.append {w:World} {aS bs:List AV} {cs ds:List Value} (h:Cs w aS cs) (k:Cs w bs ds):Cs w (aS++bs) (cs++ds):=by
 refine⟨by simp [h.1,k.1],λj a x h1 h2=>?_⟩;by_cases hj:j < aS.length
 ·rw [ZDq hj] at h1;rw [ZDq (by rw [←h.1];exact hj)] at h2;exact h.2 j a x h1 h2
 ·rw [ZDr zo] at h1;rw [ZDr (by rw [←h.1];omega),←h.1] at h2;exact k.2 _ a x h1 h2
theorem mapM_inv {α β:Type} {f:α→Option β}:∀{l:List α} {r:List β},l.mapM f=some r→∀x∈l,∃y,f x=some y:=by
 intro l r h x hx;obtain⟨i,hi,rfl⟩:=List.mem_iff_getElem.1 hx;have h1:=mapM_some_get h i l[i] (ZB6 hi);have h2:=mapM_some_length h;exact⟨r[i]'zo,by rw [h1,ZB6 zo]⟩
theorem Zlz {α:Type} {Q:Nat→α→Prop}:∀{n:Nat},(∀i,i < n→∃a,Q i a)→∃l:List α,l.length=n∧∀(i:Nat) (h:i < l.length),Q i l[i]
 | 0,_=>⟨[],rfl,λi h=>by simp at h⟩
 | n+1,h=>by
   obtain⟨l,hl,hq⟩:=Zlz (n:=n) λi hi=>h i zo;obtain⟨a,ha⟩:=h n zo;refine⟨l++[a],by simp [hl],λi hi=>?_⟩;rw [ZCr,hl] at hi;by_cases hj:i < n
   ·rw [List.getElem_append_left zo];exact hq i zo
   ·have:i=n:=by simp at hi;omega
    subst this;rw [List.getElem_append_right zo]
    simpa [hl] using ha
theorem Zk1 (P:Program) (N:Nat):∀(n:Nat) (t:TypeId) (aS:List AV),Zdp P n t=true→Zcc P N n t aS→aS.length=P.cellsOf t∧(Zc4 P t aS).cells=aS∧(Zhb P t=false→∃a,aS=[a])
 | 0,_,_,h,_=>by simp [Zdp] at h
 | n+1,t,aS,hp,hs=>by
   unfold Zdp at hp;unfold Zcc at hs
   have one:∀a:AV,aS=[a]→P.cellsOf t=1→Zhb P t=false→a.cells=[a]→aS.length=P.cellsOf t∧(Zc4 P t aS).cells=aS∧(Zhb P t=false→∃a,aS=[a]):=by
    intro a ha h1 h2 h3;subst ha;refine⟨by simp [h1],?_,λ_=>⟨a,rfl⟩⟩;unfold Zc4;rw [h2];exact h3
   split at hs
   ·rename_i hu;rw [hu] at hp;obtain⟨b,rfl⟩:=hs;exact one _ rfl (by simpa using hp) (by simp [Zhb,hu]) rfl
   ·rename_i hu;rw [hu] at hp;obtain⟨b,rfl,_⟩:=hs;exact one _ rfl (by simpa using hp) (by simp [Zhb,hu]) rfl
   ·rename_i hu;rw [hu] at hp;obtain⟨b,rfl,_⟩:=hs;exact one _ rfl (by simpa using hp) (by simp [Zhb,hu]) rfl
   ·rename_i e hu;rw [hu] at hp;obtain⟨es,rfl,_⟩:=hs;simp only [ZCm,ZDw] at hp;exact one _ rfl hp.1 (by simp [Zhb,hu]) rfl
   ·rename_i fs hu;have ha:Zhb P t=true:=by simp [Zhb,hu]
    refine⟨hs.1,?_,λh=>by rw [ha] at h;cases h⟩;unfold Zc4;rw [ZBv ha];rfl
   ·exact hs.elim
section
variable {H:Type} {enc:TypeId × Value→H} {P:Program} {w:World} {spare:Nat→Bool} {held:Bool}
theorem Zj3 {N n fuel total:Nat} {cs:List Value}
 (ih:∀(t:TypeId) (cs:List Value) (d:DataW H) (ps:List MemPlace),Zdp P n t=true→Zm9 N d→DataW.trod enc P w 0 spare held fuel t cs=some (d,ps)→∃aS,Zcc P N n t aS∧(∀x∈aS,x.one=true)∧Cs w aS cs) (hcs:cs.length=total) :
 ∀(fs:List Field) (off:Nat) (xs:List (DataW H × List MemPlace)),Zgo P total off fs=true→off≤total→(fs.all λf=>Zdp P n f.type)=true →
  (fs.mapM λf=>DataW.trod enc P w 0 spare held fuel f.type ((cs.drop f.offset).take (P.cellsOf f.type)))=some xs→(∀x∈xs,Zm9 N x.1) →
  ∃aS,(∀x∈aS,x.one=true)∧Cs w aS (cs.drop off)∧∀f∈fs,off≤f.offset∧Zcc P N n f.type ((aS.drop (f.offset - off)).take (P.cellsOf f.type))
 | [],off,xs,hc,hle,hp,hm,hw=>by
   unfold Zgo at hc;have:off=total:=by simpa using hc
   subst this;refine⟨[],by simp,?_,by simp⟩;rw [ZDo zo];exact Cs.nil
 | f :: fs,off,xs,hc,hle,hp,hm,hw=>by
   unfold Zgo at hc;simp only [ZCm,ZDw] at hc;simp only [ZFl,ZCm] at hp;obtain⟨ho,hc⟩:=hc;rw [List.mapM_cons] at hm
   cases h1:DataW.trod enc P w 0 spare held fuel f.type ((cs.drop f.offset).take (P.cellsOf f.type)) with
   | none=>rw [h1] at hm;cases hm
   | some x =>
     cases h2:(fs.mapM λf=>DataW.trod enc P w 0 spare held fuel f.type ((cs.drop f.offset).take (P.cellsOf f.type))) with
     | none=>rw [h1,h2] at hm;cases hm
     | some ys =>
       have hxs:xs=x :: ys:=by rw [h1,h2] at hm;simpa using hm.symm
       subst hxs;obtain⟨aS,hs,hone,hcs1⟩:=ih f.type _ x.1 x.2 hp.1 (hw x ZEr) h1;have hlen:=(Zk1 P N n f.type aS hp.1 hs).1;have hl2:=hcs1.1;rw [hlen,ZCh,ZD7,ho,hcs] at hl2;obtain⟨bs,bone,hcs2,hbs⟩:=Zj3 ih hcs fs (off+P.cellsOf f.type) ys hc zo hp.2 h2 (λy hy=>hw y (ZE5 _ hy));refine⟨aS++bs,λx hx=>(List.mem_append.1 hx).elim (hone x) (bone x),?_,λg hg=>?_⟩
       ·have:=hcs1.append hcs2
        rwa [ho,←ZF5,ZD2] at this
       ·rcases List.mem_cons.1 hg with rfl | hg
        ·refine⟨zo,?_⟩;rw [ho,ZE8,ZD9,←hlen,List.take_left];exact hs
        ·obtain⟨h3,h4⟩:=hbs g hg;refine⟨zo,?_⟩;rw [show g.offset - off=aS.length+(g.offset - (off+P.cellsOf f.type)) by omega,←ZF5,List.drop_left];exact h4
theorem Zi9 {N:Nat}:∀(n fuel:Nat) (t:TypeId) (cs:List Value) (d:DataW H) (ps:List MemPlace),Zdp P n t=true→Zm9 N d→DataW.trod enc P w 0 spare held fuel t cs=some (d,ps) →
 ∃aS,Zcc P N n t aS∧(∀x∈aS,x.one=true)∧Cs w aS cs
 | 0,_,_,_,_,_,h,_,_=>by simp [Zdp] at h
 | n+1,0,_,_,_,_,_,_,h=>by simp [DataW.trod] at h
 | n+1,fuel+1,t,cs,d,ps,hp,hN,ht=>by
   unfold Zdp at hp;unfold DataW.trod at ht;unfold Zcc
   cases hu:P.underlying t with
   | none=>rw [hu] at hp;cases hp
   | some td =>
     rw [hu] at hp ht
     cases td with
     | bool =>
       rcases cs with _ | ⟨x,_ | ⟨y,r⟩⟩<;>try (simp at ht;done)
       cases x<;>try (simp at ht;done)
       refine⟨_,⟨_,rfl⟩,?_,Cs.one (.v _)⟩;intro x hx;simp at hx;subst hx;rfl
     | int k =>
       rcases cs with _ | ⟨x,_ | ⟨y,r⟩⟩<;>try (simp at ht;done)
       cases x<;>try (simp at ht;done)
       rename_i k' i;simp only at ht;split at ht
       ·rename_i hk;obtain⟨rfl,hw⟩:=hk;refine⟨_,⟨i,rfl,hw⟩,?_,Cs.one (.v _)⟩;intro x hx;simp at hx;subst hx;rfl
       ·cases ht
     | string =>
       rcases cs with _ | ⟨x,_ | ⟨y,r⟩⟩<;>try (simp at ht;done)
       cases x<;>try (simp at ht;done)
       rename_i s;simp only at ht;split at ht
       ·rename_i hs
        have hz:s.size≤N:=by
         rcases hN with h | h
         ·omega
         ·cases ht;unfold bulk at h;have:s.data.toList.length=s.size:=by rw [ZE6];rfl
          omega
        refine⟨_,⟨s,rfl,hz⟩,?_,Cs.one (.v _)⟩;intro x hx;simp at hx;subst hx;rfl
       ·cases ht
     | slice e =>
       simp only [ZCm,ZDw] at hp;rcases cs with _ | ⟨x,_ | ⟨y,r⟩⟩<;>try (simp at ht;done)
       cases x<;>try (simp at ht;done)
       rename_i A len cap
       cases A with
       | none =>
         have h0:len=0∧cap=0:=by
          simp only at ht;split at ht<;>simp_all
         obtain⟨rfl,rfl⟩:=h0;refine⟨_,⟨[],rfl,by simp,by simp⟩,?_,Cs.one ?_⟩
         ·intro x hx;simp at hx;subst hx;rfl
         ·exact .sl _ [] none 0 (λ_=>undef) zs zs (ZBw _) zs zs (by simp [flat])
       | some a =>
         simp only at ht;split at ht
         ·rename_i hc;obtain⟨elems,he,ht⟩:=Option.bind_eq_some_iff.1 ht;have hel:elems.length=len:=by have:=mapM_some_length he;simpa using this
          have hd:∃rest:List (DataW H),d=.slice (elems.map (·.1)) rest:=by
           obtain⟨rest,_,hr⟩:=Option.map_eq_some_iff.1 ht;exact⟨rest.map (·.1),(ZDi Prod.fst hr).symm⟩
          obtain⟨rest,rfl⟩:=hd
          have hlN:len≤N:=by
           rcases hN with h | h
           ·omega
           ·unfold bulk at h;have:=Zu8 (elems.map (·.1));rw [ZB2] at this;omega
          have hsub:∀y∈elems,Zm9 N y.1:=by
           intro y hy;rcases hN with h | h
           ·exact .inl h
           ·unfold bulk at h;have:=Zop (List.mem_map_of_mem (f:=(·.1)) hy);exact .inr zo
          have key:∀i,i < len→∃aS:List AV,Zcc P N n e aS∧(∀x∈aS,x.one=true)∧∃vals:List Value,Cs w aS vals∧vals.length=P.cellsOf e∧∀j,j < P.cellsOf e→w.cell? (a.add (i*P.cellsOf e+j))=vals[j]?:=by
           intro i hi;obtain⟨y,hy⟩:=mapM_inv he i (List.mem_range.2 hi);obtain⟨vals,hv,ht2⟩:=Option.bind_eq_some_iff.1 hy
           have hye:y∈elems:=by
            have h5:=mapM_some_get he i i (by rw [ZEo hi]);rw [hy] at h5;exact ZEw h5.symm
           obtain⟨aS,h1,h2,h3⟩:=Zi9 n fuel e vals y.1 y.2 hp.2 (hsub y hye) ht2;unfold World.cells? at hv;rw [ZBv (ZB5 _)] at hv;refine⟨aS,h1,h2,vals,h3,by have:=mapM_some_length hv;simpa using this,λj hj=>?_⟩;have:=mapM_some_get hv j j (by rw [ZEo hj])
           rwa [Addr.add_add] at this
          obtain⟨es,hes,hq⟩:=Zlz key
          have hwrap:∀x∈es,(Zc4 P e x).cells.length=P.cellsOf e∧(Zc4 P e x).cells=x∧(Zc4 P e x).ok=true:=by
           intro x hx;obtain⟨i,hi,rfl⟩:=List.mem_iff_getElem.1 hx;obtain⟨h1,h2,_⟩:=hq i hi;obtain⟨k1,k2,k3⟩:=Zk1 P N n e es[i] hp.2 h1;refine⟨by rw [k2];exact k1,k2,?_⟩;unfold Zc4;split
           ·show List.all es[i] AV.one=true;rw [ZEu];exact h2
           ·rename_i hag;obtain⟨b,hb⟩:=k3 (by simpa using hag);rw [hb];have h4:b.one=true:=h2 b (by rw [hb];simp);show b.ok=true;cases b<;>first|exact h4|cases h4
          have hm:∀x∈es.map (Zc4 P e),x.cells.length=P.cellsOf e:=by
           intro x hx;obtain⟨y,hy,rfl⟩:=List.mem_map.1 hx;exact(hwrap y hy).1
          have hcell:∀i j,i < len→j < P.cellsOf e→∃v,w.cell? (a.add (i*P.cellsOf e+j))=some v∧∀b,(flat (es.map (Zc4 P e)))[i*P.cellsOf e+j]?=some b→Rd w (imm0 w) b v:=by
           intro i j hi hj;obtain⟨h1,h2,vals,h3,h4,h5⟩:=hq i zo;refine⟨vals[j],by rw [h5 j hj,ZB6 zo],λb hb=>?_⟩;rw [Zd6 hm i j hj (by rw [ZB2];omega),ZCb,ZC4,ZB6 (by omega:i < es.length),ZC9,ZDz,(hwrap _ (ZB7 _)).2.1] at hb;exact h3.2 j b _ hb (ZB6 zo)
          have hdm:∀j,j < len*P.cellsOf e→j/P.cellsOf e < len∧j%P.cellsOf e < P.cellsOf e∧j/P.cellsOf e*P.cellsOf e+j%P.cellsOf e=j:=by
           intro j hj
           have h0:0 < P.cellsOf e:=by
            rcases ZC3 (P.cellsOf e) with h | h
            ·rw [h] at hj;omega
            ·exact h
           refine⟨Nat.div_lt_of_lt_mul (by rw [ZCy];exact hj),ZDj _ h0,?_⟩;rw [ZCy];exact ZEt _ _
          have hlen:(es.map (Zc4 P e)).length=len:=by rw [ZB2,hes]
          refine⟨_,⟨es,rfl,zo,λx hx=>?_⟩,?_,Cs.one ?_⟩
          ·obtain⟨i,hi,rfl⟩:=List.mem_iff_getElem.1 hx;exact(hq i hi).1
          ·intro x hx;simp at hx;subst hx;rfl
          ·have:=Rd.sl (w:=w) (imm:=imm0 w) (P.cellsOf e) (es.map (Zc4 P e)) (some a) cap (λj=>(w.cell? (a.add j)).getD undef) hm (λx hx=>by
            obtain⟨y,hy,rfl⟩:=List.mem_map.1 hx;exact(hwrap y hy).2.2) (by rw [hlen];exact hc.2.1) zs (λj hj=>by
            rw [hlen] at hj;obtain⟨k1,k2,k3⟩:=hdm j hj;obtain⟨v,hv,_⟩:=hcell _ _ k1 k2;rw [k3] at hv;exact⟨a,rfl,Zz2 hv,by rw [hv];rfl⟩) (λj b hb=>by
            have hj:j < len*P.cellsOf e:=by
             have:=Zbw hb
             rwa [Zbb hm,hlen] at this
            obtain⟨k1,k2,k3⟩:=hdm j hj;obtain⟨v,hv,hr⟩:=hcell _ _ k1 k2;rw [k3] at hv hr;rw [hv];exact hr b hb)
           rwa [hlen] at this
         ·cases ht
     | struct fs =>
       simp only [ZCm] at hp ⊢;simp only at ht;split at ht
       ·rename_i hlen;obtain⟨xs,hx,hxd⟩:=Option.map_eq_some_iff.1 ht;obtain⟨aS,h1,h2,h3⟩:=Zj3 (N:=N) (λt cs d ps a b c=>Zi9 n fuel t cs d ps a b c) hlen fs.toList 0 xs hp.1 (ZB5 _) hp.2 hx (λx hx=>by
         rcases hN with h | h
         ·exact .inl h
         ·have hd:DataW.agg (xs.map (·.1))=d:=ZDi Prod.fst hxd;subst hd;unfold bulk at h;have:=Zop (List.mem_map_of_mem (f:=(·.1)) hx);exact .inr zo)
        rw [ZD9] at h2;refine⟨aS,⟨by rw [h2.1,hlen],λf hf=>?_⟩,h1,h2⟩;have:=(h3 f hf).2
        rwa [ZEs] at this
       ·cases ht
     | _=>cases hp
def ShapeV (P:Program) (N n:Nat) (t:TypeId) (a:AV):Prop:=∃aS,a=Zc4 P t aS∧Zcc P N n t aS
inductive ShapeL (P:Program) (N n:Nat):List TypeId→List AV→Prop
 | nil:ShapeL P N n [] []
 | cons {t:TypeId} {a:AV} {ts:List TypeId} {aS:List AV} (h:ShapeV P N n t a) (r:ShapeL P N n ts aS):ShapeL P N n (t :: ts) (a :: aS)
theorem Zqy {N n:Nat} {t:TypeId} {v:Value} {d:DataW H} {ps:List MemPlace} (hp:Zdp P n t=true) (hN:Zm9 N d) (h:DataW.Trod enc P w 0 spare held t v d ps) {base:Nat} (hok:Value.okWide P w .any base t v):∃a,ShapeV P N n t a∧Rd w (imm0 w) a v:=by
 obtain⟨fuel,hf⟩:=h;obtain⟨aS,h1,h2,h3⟩:=Zi9 n fuel t _ d ps hp hN hf;refine⟨Zc4 P t aS,⟨aS,rfl,h1⟩,?_⟩
 cases hag:Zhb P t with
 | true =>
   unfold Zc4;rw [hag,ZBv rfl]
   obtain⟨cs,rfl⟩:∃cs,v=.agg cs:=by
    unfold Zhb at hag;split at hag
    ·rename_i fs hu;simp only [Value.okWide,hu] at hok;obtain⟨cs,rfl,_⟩:=hok;exact⟨cs,rfl⟩
    ·cases hag
   refine .agg aS cs ?_ λj a x k1 k2=>h3.2 j a x k1 ?_
   ·have:=h3.1;simpa [Value.cells] using this
   ·simpa [Value.cells] using k2
 | false =>
   obtain⟨a,rfl⟩:=(Zk1 P N n t aS hp h1).2.2 hag;unfold Zc4;rw [hag,ZBu zs];have hl:=h3.1
   have hva:v.cells.toList=[v]:=by
    cases v with
    | agg cs =>
      exfalso
      cases n with
      | zero=>simp [Zdp] at hp
      | succ n =>
        unfold Zdp at hp;unfold Zhb at hag;simp only [Value.okWide,Cell.okWide,Cell.ok] at hok;split at hp<;>simp_all
    | _=>rfl
   exact h3.2 0 a v rfl (by rw [hva];rfl)
theorem trodAll_shape {N n base:Nat}:∀{ts:List TypeId} {vs:List Value} {ds:List (DataW H)} {ps:List MemPlace},(ts.all λt=>Zdp P n t)=true→(maxLen≤N∨bulkAll ds≤N)→DataW.TrodAll enc P w 0 spare held ts vs ds ps →
 (∀(j:Nat) t v,ts[j]?=some t→vs[j]?=some v→Value.okWide P w .any base t v)→∃aS,ShapeL P N n ts aS∧Rds w aS vs
 | [],[],[],ps,_,_,_,_=>⟨[],.nil,.nil⟩
 | t :: ts,v :: vs,d :: ds,ps,hp,hN,h,hok=>by
   simp only [ZFl,ZCm] at hp
   have hN1:Zm9 N d:=by
    rcases hN with h | h
    ·exact .inl h
    ·unfold bulkAll at h;exact .inr zo
   have hN2:maxLen≤N∨bulkAll ds≤N:=by
    rcases hN with h | h
    ·exact .inl h
    ·unfold bulkAll at h;exact .inr zo
   obtain⟨p,q,h1,h2,_⟩:=h;obtain⟨a,k1,k2⟩:=Zqy hp.1 hN1 h1 (hok 0 t v rfl rfl);obtain⟨aS,k3,k4⟩:=trodAll_shape hp.2 hN2 h2 λj t v e1 e2=>hok (j+1) t v (by simpa using e1) (by simpa using e2);exact⟨a :: aS,.cons k1 k3,.cons k2 k4⟩
 | [],[],_ :: _,_,_,_,h,_=>h.elim
 | [],_ :: _,_,_,_,_,h,_=>h.elim
 | _ :: _,[],_,_,_,_,h,_=>h.elim
 | _ :: _,_ :: _,[],_,_,_,h,_=>h.elim
theorem trodAll_below (hl:laidOutB P=true) {W':World}:∀{ts:List TypeId} {vs:List Value} {ds:List (DataW H)} {ps:List MemPlace},(ts.all λt=>P.readableRec t && decide (t < P.types.size))=true →
 DataW.TrodAll enc P w 0 (λ_=>true) true ts vs ds ps→Below w.heap.size w W'→DataW.TrodAll enc P W' 0 (λb=>decide (b < w.heap.size)) true ts vs ds ps
 | [],[],[],ps,_,h,_=>h
 | t :: ts,v :: vs,d :: ds,ps,hp,h,hb=>by
   simp only [ZFl,ZCm,ZCs] at hp;obtain⟨p,q,h1,h2,h3⟩:=h;have lt0:∀x∈p,x.block < w.heap.size:=by obtain⟨m,hm⟩:=h1;exact DataW.trod_lt m _ _ _ hm
   exact⟨p,q,Below.trod hl hp.1.1 hp.1.2 h1 hb lt0,trodAll_below hl hp.2 h2 hb,h3⟩
 | [],[],_ :: _,_,_,h,_=>h.elim
 | [],_ :: _,_,_,_,h,_=>h.elim
 | _ :: _,[],_,_,_,h,_=>h.elim
 | _ :: _,_ :: _,[],_,_,h,_=>h.elim
end
section
variable {P:Program} {N n:Nat} {t e:TypeId} {aS:List AV} {k:IntKind} {fs:Array Field}
theorem Zvq (hu:P.underlying t=some .bool) (h:Zcc P N n t aS):∃b,aS=[.v (.bool b)]:=by
 cases n with
 | zero=>exact h.elim
 | succ n=>unfold Zcc at h;rw [hu] at h;exact h
theorem Zdm (hu:P.underlying t=some (.int k)) (h:Zcc P N n t aS):∃i,aS=[.v (.int k i)]∧(Lit.int k i).wf=true:=by
 cases n with
 | zero=>exact h.elim
 | succ n=>unfold Zcc at h;rw [hu] at h;exact h
theorem Zo9 (hu:P.underlying t=some .string) (h:Zcc P N n t aS):∃s:ByteArray,aS=[.v (.string s)]∧s.size≤N:=by
 cases n with
 | zero=>exact h.elim
 | succ n=>unfold Zcc at h;rw [hu] at h;exact h
theorem Zrc (hu:P.underlying t=some (.slice e)) (h:Zcc P N n t aS):∃(m:Nat) (es:List (List AV)),n=m+1∧aS=[.sl (P.cellsOf e) (es.map (Zc4 P e))]∧es.length≤N∧∀x∈es,Zcc P N m e x:=by
 cases n with
 | zero=>exact h.elim
 | succ n=>unfold Zcc at h;rw [hu] at h;obtain⟨es,h1,h2,h3⟩:=h;exact⟨n,es,rfl,h1,h2,h3⟩
inductive ShapeF (P:Program) (N m:Nat):List Field→List AV→Prop
 | nil:ShapeF P N m [] []
 | cons {f:Field} {fs:List Field} {x y:List AV} (h:Zcc P N m f.type x) (r:ShapeF P N m fs y):ShapeF P N m (f :: fs) (x++y)
theorem ShapeF.inv {m:Nat} {f:Field} {fs:List Field} {aS:List AV} (h:ShapeF P N m (f :: fs) aS):∃x y,aS=x++y∧Zcc P N m f.type x∧ShapeF P N m fs y:=by
 cases h with
 | cons h r=>exact⟨_,_,rfl,h,r⟩
theorem ShapeF.inv0 {m:Nat} {aS:List AV} (h:ShapeF P N m [] aS):aS=[]:=by cases h;rfl
theorem Zpa {m total:Nat}:∀{fs:List Field} {off:Nat} {aS:List AV},Zgo P total off fs=true→off≤total→aS.length=total→(∀f∈fs,Zcc P N m f.type ((aS.drop f.offset).take (P.cellsOf f.type)))→ShapeF P N m fs (aS.drop off)
 | [],off,aS,hc,_,hl,_=>by
   unfold Zgo at hc;have:off=total:=by simpa using hc
   rw [ZDo zo];exact .nil
 | f :: fs,off,aS,hc,ho,hl,hf=>by
   unfold Zgo at hc;simp only [ZCm,ZDw] at hc;have h1:=hf f ZEr;rw [hc.1] at h1;rw [←ZD2 (P.cellsOf f.type) (aS.drop off),ZF5];refine .cons h1 ?_;by_cases hle:off+P.cellsOf f.type≤total
   ·exact Zpa hc.2 hle hl λg hg=>hf g (ZE5 _ hg)
   ·exfalso
    have key:∀(fs:List Field) (off:Nat),Zgo P total off fs=true→off≤total:=by
     intro fs
     induction fs with
     | nil=>intro off h;unfold Zgo at h;have:off=total:=by simpa using h
            omega
     | cons g gs ih=>intro off h;unfold Zgo at h;simp only [ZCm,ZDw] at h;have:=ih _ h.2;omega
    exact hle (key fs _ hc.2)
theorem Zb7 (hu:P.underlying t=some (.struct fs)) (hc:Zgo P (P.cellsOf t) 0 fs.toList=true) (h:Zcc P N n t aS):∃m,n=m+1∧ShapeF P N m fs.toList aS:=by
 cases n with
 | zero=>exact h.elim
 | succ n =>
   unfold Zcc at h;rw [hu] at h;refine⟨n,rfl,?_⟩;have:=Zpa (N:=N) (m:=n) hc (ZB5 _) h.1 h.2
   rwa [ZD9] at this
theorem map_of {α β:Type} {g:β→α} {Q:β→Prop}:∀{l:List α},(∀x∈l,∃b,x=g b∧Q b)→∃bs:List β,l=bs.map g∧∀b∈bs,Q b
 | [],_=>⟨[],rfl,by simp⟩
 | x :: l,h=>by
   obtain⟨b,hb,hq⟩:=h x ZEr;obtain⟨bs,hbs,hqs⟩:=map_of (l:=l) λy hy=>h y (ZE5 _ hy);refine⟨b :: bs,by rw [hb,hbs];rfl,λc hc=>?_⟩;rcases List.mem_cons.1 hc with rfl | hc
   ·exact hq
   ·exact hqs c hc
theorem Zfv (hu:P.underlying t=some (.struct fs)) (aS:List AV):Zc4 P t aS=.agg aS:=by simp [Zc4,Zhb,hu]
theorem Zku (h:Zhb P t=false) (a:AV):Zc4 P t [a]=a:=by simp [Zc4,h]
theorem Zcl {β:Type} {g:β→List AV} {Q:β→Prop} (hu:P.underlying t=some (.slice e)) (h:Zcc P N n t aS) (hx:∀m x,Zcc P N m e x→∃b,x=g b∧Q b) :
 ∃bs:List β,aS=[.sl (P.cellsOf e) (bs.map λb=>Zc4 P e (g b))]∧bs.length≤N∧∀b∈bs,Q b:=by
 obtain⟨m,es,rfl,rfl,hl,hs⟩:=Zrc hu h;obtain⟨bs,rfl,hq⟩:=map_of λx hx'=>hx m x (hs x hx');refine⟨bs,by rw [List.map_map];rfl,by simpa using hl,hq⟩
theorem ShapeL.inv {N n:Nat} {t:TypeId} {ts:List TypeId} {aS:List AV} (h:ShapeL P N n (t :: ts) aS):∃x bs,aS=Zc4 P t x :: bs∧Zcc P N n t x∧ShapeL P N n ts bs:=by
 cases h with
 | cons h r=>obtain⟨x,rfl,hx⟩:=h;exact⟨x,_,rfl,hx,r⟩
theorem ShapeL.inv0 {N n:Nat} {aS:List AV} (h:ShapeL P N n [] aS):aS=[]:=by cases h;rfl
theorem wf_u16 {i:Int} (h:(Lit.int .u16 i).wf=true):0≤i∧i < 65536:=by
 have h:(decide ((0:Int)≤i) && decide (i≤65535))=true:=h;simp only [ZCm,ZCs] at h;omega
end
end
mutual
def AV.sh:AV→AV
 | .agg cs=>.agg (AV.shL cs)
 | .tup cs=>.tup (AV.shL cs)
 | .fn f cs=>.fn f (AV.shL cs)
 | .ifc t x=>.ifc t (AV.sh x)
 | .own k sv=>.own (k+1000) sv
 | .prow k sv m i off=>.prow (k+1000) sv m i off
 | .pbox k g off=>.pbox (k+1000) g off
 | .view k sv m i len=>.view (k+1000) sv m i len
 | .mp k g=>.mp (k+1000) g
 | .v x=>.v x
 | .sl m es=>.sl m es
 | .pimm cs=>.pimm cs
 | .u=>.u
def AV.shL:List AV→List AV
 | []=>[]
 | a :: r=>AV.sh a :: AV.shL r
end
theorem AV.shL_len:∀(l:List AV),(AV.shL l).length=l.length
 | []=>rfl
 | a :: r=>by simp only [AV.shL,ZCd,AV.shL_len r]
theorem AV.shL_at:∀(l:List AV) (j:Nat),(AV.shL l)[j]?=(l[j]?).map AV.sh
 | [],j=>by simp [AV.shL]
 | a :: r,0=>by simp [AV.shL]
 | a :: r,j+1=>by simp only [AV.shL,ZF0];exact AV.shL_at r j
theorem AV.sh_one (a:AV):a.sh.one=a.one:=by cases a<;>simp only [AV.sh]<;>rfl
theorem Sub.agg (aS bs:List AV) (hl:aS.length=bs.length) (h:∀(j:Nat) (a b:AV),aS[j]?=some a→bs[j]?=some b→Sub a b):Sub (.agg aS) (.agg bs):=λw imm x hx=>by
 obtain⟨vs,rfl,h1,h2⟩:=hx.agg_inv;refine .agg _ _ zo λj b y hb hy=>?_;have hj:j < aS.length:=by rw [hl];exact(List.getElem?_eq_some_iff.1 hb).1
 exact h j aS[j] b (ZB6 hj) hb w imm y (h2 j aS[j] y (ZB6 hj) hy)
theorem Sub.fn (f:FuncId) (aS bs:List AV) (hl:aS.length=bs.length) (h:∀(j:Nat) (a b:AV),aS[j]?=some a→bs[j]?=some b→Sub a b):Sub (.fn f aS) (.fn f bs):=λw imm x hx=>by
 obtain⟨vs,rfl,h1,h2⟩:=hx.fn_inv;refine .fn _ _ _ zo λj b y hb hy=>?_;have hj:j < aS.length:=by rw [hl];exact(List.getElem?_eq_some_iff.1 hb).1
 exact h j aS[j] b (ZB6 hj) hb w imm y (h2 j aS[j] y (ZB6 hj) hy)
theorem Sub.ifc (t:TypeId) {a b:AV} (h:Sub a b):Sub (.ifc t a) (.ifc t b):=λw imm x hx=>by
 obtain⟨y,rfl,h1⟩:=hx.ifc_inv;exact .ifc _ _ _ (h w imm y h1)
mutual
theorem AV.sub_sh:∀(a:AV),Sub a a.sh∧Sub a.sh a
 | .agg cs=>by
   have h:=AV.subL_sh cs;refine⟨Sub.agg _ _ (AV.shL_len cs).symm λj a b h1 h2=>?_,Sub.agg _ _ (AV.shL_len cs) λj a b h1 h2=>?_⟩
   ·rw [AV.shL_at,h1] at h2;cases h2;exact(h a (ZEw h1)).1
   ·rw [AV.shL_at,h2] at h1;cases h1;exact(h b (ZEw h2)).2
 | .tup cs=>by
   have h:=AV.subL_sh cs;refine⟨Sub.tup _ _ (AV.shL_len cs).symm λj a b h1 h2=>?_,Sub.tup _ _ (AV.shL_len cs) λj a b h1 h2=>?_⟩
   ·rw [AV.shL_at,h1] at h2;cases h2;exact(h a (ZEw h1)).1
   ·rw [AV.shL_at,h2] at h1;cases h1;exact(h b (ZEw h2)).2
 | .fn f cs=>by
   have h:=AV.subL_sh cs;refine⟨Sub.fn _ _ _ (AV.shL_len cs).symm λj a b h1 h2=>?_,Sub.fn _ _ _ (AV.shL_len cs) λj a b h1 h2=>?_⟩
   ·rw [AV.shL_at,h1] at h2;cases h2;exact(h a (ZEw h1)).1
   ·rw [AV.shL_at,h2] at h1;cases h1;exact(h b (ZEw h2)).2
 | .ifc t x=>⟨Sub.ifc t (AV.sub_sh x).1,Sub.ifc t (AV.sub_sh x).2⟩
 | .own k sv=>⟨Sub.own _ _ _,Sub.own _ _ _⟩
 | .prow k sv m i off=>⟨Sub.prow _ _ _ _ _ _,Sub.prow _ _ _ _ _ _⟩
 | .pbox k g off=>⟨Sub.pbox _ _ _ _,Sub.pbox _ _ _ _⟩
 | .view k sv m i len=>⟨Sub.view _ _ _ _ _ _,Sub.view _ _ _ _ _ _⟩
 | .mp k g=>⟨Sub.mp _ _ _,Sub.mp _ _ _⟩
 | .v x=>⟨Sub.refl _,Sub.refl _⟩
 | .sl m es=>⟨Sub.refl _,Sub.refl _⟩
 | .pimm cs=>⟨Sub.refl _,Sub.refl _⟩
 | .u=>⟨Sub.refl _,Sub.refl _⟩
theorem AV.subL_sh:∀(l:List AV) (a:AV),a∈l→Sub a a.sh∧Sub a.sh a
 | [],a,h=>by simp at h
 | b :: r,a,h=>by
   by_cases e:a=b
   ·rw [e];exact AV.sub_sh b
   ·exact AV.subL_sh r a ((List.mem_cons.1 h).resolve_left e)
end
def Ent.sh:Ent→Ent
 | .row sv e m es pub=>.row sv e m es pub
 | .box g e cs pub=>.box g e (AV.shL cs) pub
 | .map g es=>.map g es
theorem Ent.sh_blk (e:Ent):e.sh.blk=e.blk:=by cases e<;>rfl
theorem Ent.sh_ok {B:Nat} {w:World} {imm:Imm} {e:Ent} (h:EntOk B w imm e):EntOk B w imm e.sh:=by
 cases e with
 | row=>exact h
 | box g e cs pub =>
   obtain⟨cur,h1,h2,h3,h4,h5,h6,h7⟩:=h;refine⟨cur,h1,h2,by rw [AV.shL_len];exact h3,λx hx=>?_,λj a x ha hx=>?_,h6,λhp off ho=>h7 hp off (by rw [AV.shL_len] at ho;exact ho)⟩
   ·obtain⟨j,hj⟩:=List.mem_iff_getElem?.1 hx;rw [AV.shL_at] at hj;obtain⟨y,hy,rfl⟩:=Option.map_eq_some_iff.1 hj;rw [AV.sh_one];exact h4 y (ZEw hy)
   ·rw [AV.shL_at] at ha;obtain⟨y,hy,rfl⟩:=Option.map_eq_some_iff.1 ha;exact(AV.sub_sh y).1 w imm x (h5 j y x hy hx)
 | map=>exact h
theorem Ent.of_sh {B:Nat} {w:World} {imm:Imm} {e:Ent} (h:EntOk B w imm e.sh):EntOk B w imm e:=by
 cases e with
 | row=>exact h
 | box g e cs pub =>
   obtain⟨cur,h1,h2,h3,h4,h5,h6,h7⟩:=h;refine⟨cur,h1,h2,by rw [AV.shL_len] at h3;exact h3,λx hx=>?_,λj a x ha hx=>?_,h6,λhp off ho=>h7 hp off (by rw [AV.shL_len];exact ho)⟩
   ·obtain⟨j,hj⟩:=List.mem_iff_getElem?.1 hx;have h8:=h4 x.sh (ZEw (i:=j) (by rw [AV.shL_at,hj];rfl));rw [AV.sh_one] at h8;exact h8
   ·exact(AV.sub_sh a).2 w imm x (h5 j a.sh x (by rw [AV.shL_at,ha];rfl) hx)
 | map=>exact h
def Zee (σ:Mem):Mem:=λk=>if k < 1000 then none else (σ (k - 1000)).map Ent.sh
theorem Zay {σ:Mem} {k:Nat} {e:Ent} (h:σ k=some e):Zee σ (k+1000)=some e.sh:=by
 unfold Zee;rw [ZBu zo,ZFb,h];rfl
theorem Zcd {σ:Mem} {k:Nat} (h:k < 1000):Zee σ k=none:=by unfold Zee;rw [ZBv h]
def Agr (m σ:Mem):Prop:=∀k,m (k+1000)=(σ k).map Ent.sh
theorem Agr.start (σ:Mem):Agr (Zee σ) σ:=λk=>by unfold Zee;rw [ZBu zo,ZFb]
theorem Agr.own {m σ:Mem} (h:Agr m σ) {t:Nat} {x:Option Ent} (ht:t < 1000):Agr (upd m t x) σ:=λk=>by
 rw [Zan,ZBu zo];exact h k
theorem Agr.mark {m σ:Mem} (h:Agr m σ) {t:Nat} (ht:t < 1000):Agr (mark m t) σ:=h.own ht
theorem Agr.put {m σ:Mem} (h:Agr m σ) {t k:Nat} {e e':Ent} (ht:t=k+1000) (he:e'=e.sh):Agr (upd m t (some e')) (upd σ k (some e)):=λj=>by
 subst ht;subst he;rw [Zan,Zan];by_cases hj:j=k
 ·subst hj;rw [ZBv rfl,ZBv rfl];rfl
 ·rw [ZBu zo,ZBu hj];exact h j
theorem Agr.same {m σ:Mem} (h:Agr m σ) {t k:Nat} {e e':Ent} (ht:t=k+1000) (hk:σ k=some e) (he:e'=e.sh):Agr (upd m t (some e')) σ:=by
 have:=h.put (k:=k) (e:=e) ht he
 rwa [show upd σ k (some e)=σ from by funext j;rw [Zan];split;(subst_vars;exact hk.symm);rfl] at this
def BackS (R:AV→Mem→Prop) (b:AV) (m:Mem):Prop:=∃(r:AV) (σ':Mem),Sub b r∧R r σ'∧Agr m σ'
theorem Zik {R:AV→Mem→Prop} {b r:AV} {m σ':Mem} (h:Sub b r) (hR:R r σ') (ha:Agr m σ'):BackS R b m:=⟨r,σ',h,hR,ha⟩
theorem Zbc {P:Program} {f n:Nat} {fn:Func} {code:Code} {rs:List ResultVar} {args:List AV} {σ:Mem} {R:AV→Mem→Prop} (hf:P.funcs[f]?=some fn) (hb:fn.body=some code) (hn:fn.ntmps=n) (hrs:fn.results=rs.toArray)
 (hc:∀(vs:Array Value) (w:World),(callFunc f vs).run P w=.ok (.enter f vs) w) (hfit:Zbj n code=true) (hal:args.length≤n)
 (h:Za4 P 0 n code (Done P rs λst b=>BackS R b st.mem) ⟨λt=>(AV.shL args).getD t .u,Zee σ⟩):ACall P f args σ R:=by
 have key:=Zb1 (σ:=Zee σ) (R:=BackS R) hf hb hn hrs hc hfit (by rw [AV.shL_len];exact hal) h;refine⟨hc,λc w imm vs hm hl hr=>?_⟩
 have hm':Mx c (Zee σ) w imm:=by
  refine⟨⟨λk e hk=>?_,λk k' e e' b h1 h2 h3 h4=>?_,hm.ok.lt,hm.ok.spot⟩,hm.below,hm.lt,hm.old,hm.new,hm.cells⟩
  ·unfold Zee at hk;split at hk
   ·cases hk
   ·obtain⟨e0,h0,rfl⟩:=Option.map_eq_some_iff.1 hk;exact Ent.sh_ok (hm.ok.ent _ _ h0)
  ·unfold Zee at h1 h2;split at h1
   ·cases h1
   ·split at h2
    ·cases h2
    ·obtain⟨e0,k0,rfl⟩:=Option.map_eq_some_iff.1 h1;obtain⟨e1,k1,rfl⟩:=Option.map_eq_some_iff.1 h2;rw [Ent.sh_blk] at h3 h4;have:=hm.ok.apart _ _ _ _ b k0 k1 h3 h4;omega
 refine(key.2 c w imm vs hm' (by rw [AV.shL_len];exact hl) λj a x h1 h2=>?_).mono λe w' he=>?_
 ·rw [AV.shL_at] at h1;obtain⟨y,hy,rfl⟩:=Option.map_eq_some_iff.1 h1;exact(AV.sub_sh y).1 w imm x (hr j y x hy h2)
 ·obtain⟨b,m,imm',x,rfl,⟨r,σ',h1,h2,h3⟩,h5,h6,h7⟩:=he;refine⟨r,σ',imm',x,rfl,h2,h1 _ _ _ h5,⟨⟨λk e hk=>?_,λk k' e e' b h1 h2 k3 k4=>?_,h6.ok.lt,h6.ok.spot⟩,h6.below,h6.lt,h6.old,h6.new,h6.cells⟩,h7⟩
  ·have:=h3 k;rw [hk] at this;exact Ent.of_sh (h6.ok.ent _ _ this)
  ·have e1:=h3 k;have e2:=h3 k';rw [h1] at e1;rw [h2] at e2;have:=h6.ok.apart _ _ _ _ b e1 e2 (by rw [Ent.sh_blk];exact k3) (by rw [Ent.sh_blk];exact k4);omega
theorem Frz.nilBox {n:Nat} {e:Nat→AV} {m:Mem} {k g:Nat} {bt:TypeId} {cs:List AV} (j t mm:Nat) (ty:TypeId) (hm:m k=some (.box g bt cs false)) (hj:cs[j]?=some (.v (.slice none 0 0))) (ht:t≠k) :
 Frz n ⟨e,m⟩ ⟨e,upd (upd m k (some (.box g bt (cs.set j (.own t (.slice none 0 0))) false))) t (some (.row (.slice none 0 0) ty mm [] 0))⟩:=by
 intro c a w imm h
 have h1:Mx c (upd m k (some (.box g bt (cs.set j (.own t (.slice none 0 0))) false))) w imm:=by
  have hk:=h.mem.ok.ent k _ hm;obtain⟨cur,k1,k2,k3,k4,k5,k6,k7⟩:=hk;refine(Zdt h.mem (World.grownBy.refl w none) (ZBw _) zs (λ_ _=>rfl) k (.box g bt (cs.set j (.own t (.slice none 0 0))) false) ⟨cur,k1,k2,by simpa using k3,λx hx=>?_,λi a x ha hx=>?_,k6,λhp=>by cases hp⟩ λj2 e2 b h1 h2 h3=>⟨by simp,?_⟩).1
  ·rcases ZFx hx with h1 | h1
   ·exact k4 x h1
   ·subst h1;rfl
  ·rw [List.getElem?_set] at ha;split at ha
   ·rename_i hij;subst hij;split at ha
    ·simp only [Option.some.injEq] at ha;subst ha;have:=(k5 j _ x hj hx).v_inv;subst this;exact .own _ _ rfl
    ·cases ha
   ·exact k5 i a x ha hx
  ·show some g≠some b;intro hb;exact h1 (h.mem.ok.apart j2 k e2 _ b h2 hm h3 hb)
 refine⟨imm,h.env,h.size,h.defers,?_⟩;exact(Zdt h1 (World.grownBy.refl w none) (ZBw _) zs (λ_ _=>rfl) t (.row (.slice none 0 0) ty mm [] 0) ⟨[],ZG6 w c.B ty mm,by simp,by simp,by simp [flat],by simp,λad _ h2=>by simp [Value.ownBlock] at h2,λg off h1 _=>by simp [Value.ownBlock] at h1⟩ λj e2 b _ _ _=>⟨by simp,by simp [Ent.blk,Value.ownBlock]⟩).1
attribute [go_sem] AV.sh AV.shL Ent.sh
def EntSub (e e':Ent):Prop:=e'.blk=e.blk∧∀(B:Nat) (w:World) (imm:Imm),EntOk B w imm e→EntOk B w imm e'
theorem EntSub.refl (e:Ent):EntSub e e:=⟨rfl,λ_ _ _ h=>h⟩
theorem EntSub.box {g:Nat} {t:TypeId} {cs cs':List AV} {pub:Bool} (hl:cs'.length=cs.length) (h1:∀x∈cs',x.one=true) (h:∀(j:Nat) (a b:AV),cs[j]?=some a→cs'[j]?=some b→Sub a b):EntSub (.box g t cs pub) (.box g t cs' pub):=by
 refine⟨rfl,λB w imm h0=>?_⟩;obtain⟨cur,k1,k2,k3,k4,k5,k6,k7⟩:=h0;refine⟨cur,k1,k2,by rw [hl];exact k3,h1,λj a x ha hx=>?_,k6,λhp off ho=>k7 hp off (by rw [←hl];exact ho)⟩;have hj:j < cs.length:=by rw [←hl];exact(List.getElem?_eq_some_iff.1 ha).1
 exact h j cs[j] a (ZB6 hj) ha w imm x (k5 j cs[j] x (ZB6 hj) hx)
def ZBt (R:AV→Mem→Prop) (b:AV) (m:Mem):Prop:=∃(r:AV) (σ':Mem) (ρ:Nat→Nat),Sub b r∧R r σ'∧(∀k e,σ' k=some e→∃e0,m (ρ k)=some e0∧EntSub e0 e)∧(∀k k',σ' k≠none→σ' k'≠none→ρ k=ρ k'→k=k')
theorem Mx.renameG {c:Cx} {m σ':Mem} {w:World} {imm:Imm} (h:Mx c m w imm) (ρ:Nat→Nat) (h3:∀k e,σ' k=some e→∃e0,m (ρ k)=some e0∧EntSub e0 e) (h4:∀k k',σ' k≠none→σ' k'≠none→ρ k=ρ k'→k=k'):Mx c σ' w imm:=by
 refine⟨⟨λk e hk=>?_,λk k' e e' b k1 k2 k3 k4=>?_,h.ok.lt,h.ok.spot⟩,h.below,h.lt,h.old,h.new,h.cells⟩
 ·obtain⟨e0,hm,hs⟩:=h3 k e hk;exact hs.2 _ _ _ (h.ok.ent _ _ hm)
 ·obtain⟨e0,hm,hs⟩:=h3 k e k1;obtain⟨e1,hm',hs'⟩:=h3 k' e' k2;refine h4 k k' (by rw [k1];simp) (by rw [k2];simp) (h.ok.apart _ _ _ _ b hm hm' ?_ ?_)
  ·rw [←hs.1];exact k3
  ·rw [←hs'.1];exact k4
theorem Zs4 {P:Program} {f n:Nat} {fn:Func} {code:Code} {rs:List ResultVar} {args args':List AV} {σ:Mem} {R:AV→Mem→Prop} (hf:P.funcs[f]?=some fn) (hb:fn.body=some code) (hn:fn.ntmps=n) (hrs:fn.results=rs.toArray)
 (hc:∀(vs:Array Value) (w:World),(callFunc f vs).run P w=.ok (.enter f vs) w) (hfit:Zbj n code=true) (hal:args'.length≤n) (hsub:Subs args args')
 (h:Za4 P 0 n code (Done P rs λst b=>ZBt R b st.mem) ⟨λt=>args'.getD t .u,lent σ⟩):ACall P f args σ R:=by
 have key:=Zb1 (σ:=lent σ) (R:=ZBt R) hf hb hn hrs hc hfit hal h;refine⟨hc,λc w imm vs hm hl hr=>?_⟩;have hm':Mx c (lent σ) w imm:=hm.rename (λk=>k - 1000) (λk e hk=>by
  unfold lent at hk;split at hk
  ·cases hk
  ·exact hk) λk k' h1 h2 h3=>by
  unfold lent at h1 h2;split at h1<;>split at h2<;>first|omega|exact absurd rfl h1|exact absurd rfl h2
 refine(key.2 c w imm vs hm' (by rw [←hsub.len];exact hl) λj a x h1 h2=>?_).mono λe w' he=>?_
 ·have hj:j < args.length:=by rw [hsub.len];exact(List.getElem?_eq_some_iff.1 h1).1
  exact hsub.get j args[j] a (ZB6 hj) h1 w imm x (hr j args[j] x (ZB6 hj) h2)
 ·obtain⟨b,m,imm',x,rfl,⟨r,σ',ρ,h1,h2,h3,h4⟩,h5,h6,h7⟩:=he;exact⟨r,σ',imm',x,rfl,h2,h1 _ _ _ h5,h6.renameG ρ h3 h4,h7⟩
theorem EntSub.of_sh (e:Ent):EntSub e.sh e:=⟨(Ent.sh_blk e).symm,λ_ _ _ h=>Ent.of_sh h⟩
theorem Zhc {P:Program} {f n:Nat} {fn:Func} {code:Code} {rs:List ResultVar} {args:List AV} {σ:Mem} {R:AV→Mem→Prop} (hf:P.funcs[f]?=some fn) (hb:fn.body=some code) (hn:fn.ntmps=n) (hrs:fn.results=rs.toArray)
 (hc:∀(vs:Array Value) (w:World),(callFunc f vs).run P w=.ok (.enter f vs) w) (hfit:Zbj n code=true) (hal:args.length≤n)
 (h:Za4 P 0 n code (Done P rs λst b=>ZBt R b st.mem) ⟨λt=>(AV.shL args).getD t .u,Zee σ⟩):ACall P f args σ R:=by
 have key:=Zb1 (σ:=Zee σ) (R:=ZBt R) hf hb hn hrs hc hfit (by rw [AV.shL_len];exact hal) h;refine⟨hc,λc w imm vs hm hl hr=>?_⟩
 have hm':Mx c (Zee σ) w imm:=by
  refine⟨⟨λk e hk=>?_,λk k' e e' b h1 h2 h3 h4=>?_,hm.ok.lt,hm.ok.spot⟩,hm.below,hm.lt,hm.old,hm.new,hm.cells⟩
  ·unfold Zee at hk;split at hk
   ·cases hk
   ·obtain⟨e0,h0,rfl⟩:=Option.map_eq_some_iff.1 hk;exact Ent.sh_ok (hm.ok.ent _ _ h0)
  ·unfold Zee at h1 h2;split at h1
   ·cases h1
   ·split at h2
    ·cases h2
    ·obtain⟨e0,k0,rfl⟩:=Option.map_eq_some_iff.1 h1;obtain⟨e1,k1,rfl⟩:=Option.map_eq_some_iff.1 h2;rw [Ent.sh_blk] at h3 h4;have:=hm.ok.apart _ _ _ _ b k0 k1 h3 h4;omega
 refine(key.2 c w imm vs hm' (by rw [AV.shL_len];exact hl) λj a x h1 h2=>?_).mono λe w' he=>?_
 ·rw [AV.shL_at] at h1;obtain⟨y,hy,rfl⟩:=Option.map_eq_some_iff.1 h1;exact(AV.sub_sh y).1 w imm x (hr j y x hy h2)
 ·obtain⟨b,m,imm',x,rfl,⟨r,σ',ρ,h1,h2,h3,h4⟩,h5,h6,h7⟩:=he;exact⟨r,σ',imm',x,rfl,h2,h1 _ _ _ h5,h6.renameG ρ h3 h4,h7⟩
theorem Zi6 {R:AV→Mem→Prop} {b r:AV} {m σ σ':Mem} (d t:Nat) (hd:d < 1000) (hs:Sub b r) (hR:R r σ') (ht:m d=σ' t) (hm:∀k,k≠t→σ' k≠none→m (k+1000)=(σ' k).map Ent.sh):ZBt R b m :=
 ⟨r,σ',λk=>if k=t then d else k+1000,hs,hR,λk e h=>by
  by_cases hk:k=t
  ·subst hk;simp only [ZC0];exact⟨e,by rw [ht,h],EntSub.refl _⟩
  ·simp only [ZBu hk];exact⟨e.sh,by rw [hm k hk (by rw [h];simp),h];rfl,EntSub.of_sh e⟩,λk k' _ _ h=>by
  by_cases hk:k=t<;>by_cases hk':k'=t
  ·rw [hk,hk']
  ·simp only [ZBv hk,ZBu hk'] at h;omega
  ·simp only [ZBu hk,ZBv hk'] at h;omega
  ·simp only [ZBu hk,ZBu hk'] at h;omega⟩
theorem Zhv {P:Program} {tok:Nat} {all:List Oper} {K K':St→Prop} (h:∀st,K st→K' st):∀(ops:List Oper) (st:St),Zbl P tok all ops K st→Zbl P tok all ops K' st
 | [],st,hk=>h st hk
 | ⟨d,op,t,pos,af,none⟩ :: r,st,hk=>Zga (Zhv h r) _ _ _ _ hk
 | ⟨d,op,t,pos,af,some (j,want)⟩ :: r,st,hk=>by
   rw [Zjt] at hk ⊢;refine⟨hk.1,?_⟩;have h2:=hk.2;split at h2
   ·rename_i hc;rw [ZBv hc];exact Zga (Zhv h r) _ _ _ _ h2
   ·rename_i hc;rw [ZBu hc];exact Zhv h r _ h2
theorem Zve {P:Program} {n:Nat} {code:Code} {Q Q':AE→St→Prop} {st:St} (h:∀ae st,Q ae st→Q' ae st) (k:AWP P n code Q st):AWP P n code Q' st :=
 λc a w imm hr=>ZE9 (λ_ _ _ hp=>Zyn h hp) (k c a w imm hr)
theorem Zw8 {next next':St→Prop} {Q Q':AE→St→Prop} (h1:∀st,next st→next' st) (h:∀ae st,Q ae st→Q' ae st):∀ae st,AE.then next Q ae st→AE.then next' Q' ae st
 | .normal,st,k=>h1 st k
 | .exit _,st,k=>h _ st k
 | .ret,st,k=>h _ st k
theorem Zqa {id:Nat} {Q Q':AE→St→Prop} (h:∀ae st,Q ae st→Q' ae st):∀ae st,AE.inBlock id Q ae st→AE.inBlock id Q' ae st
 | .normal,st,k=>h _ st k
 | .exit i,st,k=>by
   simp only [AE.inBlock] at k ⊢;split at k
   ·rename_i e;rw [ZBv e];exact h _ st k
   ·rename_i e;rw [ZBu e];exact h _ st k
 | .ret,st,k=>h _ st k
theorem Zm7 {P:Program} {n:Nat}:∀(code:Code) {Q Q':AE→St→Prop} (st:St),(∀ae st,Q ae st→Q' ae st)→Za4 P 0 n code Q st→Za4 P 0 n code Q' st:=by
 intro code
 induction code with
 | skip=>exact λst h k=>h _ _ k
 | region id ops d=>cases d with
   | false=>exact λst h k=>Zhv (h _) _ _ k
   | true=>exact λst h k=>Zve h k
 | seq x y ihx ihy=>exact λst h k=>ihx st (Zw8 (λst'=>ihy st' h) h) k
 | cond o x y ihx ihy =>
   intro Q Q' st h k;unfold Za4 at k ⊢;split at k
   ·exact⟨λe=>ihx st h (k.1 e),λe=>ihy st h (k.2 e)⟩
   ·exact k.elim
 | block id x ih=>exact λst h k=>ih st (Zqa h) k
 | exit id=>exact λst h k=>h _ _ k
 | ret=>exact λst h k=>h _ _ k
 | _=>exact λst h k=>Zve h k
section
variable {P:Program} {n:Nat} {Q:AE→St→Prop} {e:Nat→AV} {m:Mem}
theorem r_cgX {t:Bool} {x y:Code} (J:(Nat→AV)→Mem→Prop)
 (h1:CG P n t x y (λae st=>ae=.normal∧J st.env st.mem) ⟨e,m⟩) (h2:∀e m,J e m→Q .normal ⟨e,m⟩):CG P n t x y Q ⟨e,m⟩:=by
 cases t with
 | true=>exact Zm7 x _ (λ_ _ ⟨h,j⟩=>by subst h;exact h2 _ _ j) h1
 | false=>exact Zm7 y _ (λ_ _ ⟨h,j⟩=>by subst h;exact h2 _ _ j) h1
end
theorem blw_grow {w w':World} (h:Blw w.heap.size w w'):∃q os,w'=Go.Sort.grow (w.drewN q) os:=by
 refine⟨w'.drawn - w.drawn,w'.heap.extract w.heap.size w'.heap.size,?_⟩;obtain⟨⟨h1,h2,h3,h4,h5⟩,h6⟩:=h;obtain⟨hp,tp,dr,os,op⟩:=w;obtain⟨hp',tp',dr',os',op'⟩:=w';simp only at h1 h2 h3 h4 h5 h6;subst h1;subst h2;subst h3;unfold Go.Sort.grow World.drewN;simp only [World.mk.injEq,and_true,true_and];refine⟨?_,zo⟩;apply Array.ext_getElem?;intro i;rw [Array.getElem?_append];by_cases hi:i < hp.size
 ·rw [ZBv hi];exact h5 i hi
 ·rw [ZBu hi,Array.getElem?_extract];by_cases hj:i < hp'.size
  ·rw [ZBv zo];congr 1;omega
  ·rw [ZBu zo,ZGf zo]
section
variable {α:Type} [Inhabited α] {enc:α→List Value} {k:Nat} {w:World} {b m:Nat} {d:Array α} {os:Array Obj}
theorem Zxe:(Go.Proofs.sortWorldK enc k w b 0 m d os).heap.size=w.heap.size+os.size:=by
 simp [Go.Proofs.sortWorldK,Go.Sort.grow,Go.Sort.putRowK,Go.Sort.putRow,Go.Sort.mapBlock,Go.Sort.ahead]
theorem Zti {i:Nat} (hi:i < w.heap.size) (hb:i≠b):(Go.Proofs.sortWorldK enc k w b 0 m d os).heap[i]?=w.heap[i]?:=by
 simp only [Go.Proofs.sortWorldK,Go.Sort.grow,Go.Sort.putRowK,Go.Sort.putRow,Go.Sort.mapBlock,Go.Sort.ahead];rw [Array.getElem?_append,ZBv (by simpa using hi),ZFn,ZBu (ZDu hb)]
theorem sw_row {cur:Array Value} {e:TypeId} (hh:w.heap[b]?=some (.cells cur e (0,0))):(Go.Proofs.sortWorldK enc k w b 0 m d os).heap[b]?=some (.cells (Go.Sort.putCells id 0 (Go.Sort.flatK enc k d) cur) e (0,0)):=by
 have hb:b < w.heap.size:=(Array.getElem?_eq_some_iff.1 hh).1;simp only [Go.Proofs.sortWorldK,Go.Sort.grow,Go.Sort.putRowK,Go.Sort.putRow,Go.Sort.mapBlock,Go.Sort.ahead];rw [Array.getElem?_append,ZBv (by simpa using hb),ZFn,ZBv rfl,hh];rfl
theorem sw_grown (hb:b < w.heap.size):w.grownBy (Go.Proofs.sortWorldK enc k w b 0 m d os) (some b) :=
 ⟨rfl,rfl,rfl,by rw [Zxe];omega,λi hi hne=>Zti hi λe=>hne (by rw [e])⟩
theorem sw_drawn:w.drawn≤(Go.Proofs.sortWorldK enc k w b 0 m d os).drawn:=ZG2 _ _
end
def Zc7 (xs:List Value) (k n i:Nat):List Value:=(xs.drop ((if i < n then i else 0)*k)).take k
theorem Zsz {xs:List Value} {k n:Nat} (hl:xs.length=n*k) (hn:0 < n) (i:Nat):(Zc7 xs k n i).length=k:=by
 unfold Zc7;rw [ZCh,ZD7,hl];have h:(if i < n then i else 0)+1≤n:=by split<;>omega
 have:=ZCf k h;rw [ZCo,ZD1] at this;omega
theorem Zii {xs:List Value} {k n:Nat} {i j:Nat} (hj:j < k):(Zc7 xs k n i)[j]?=xs[(if i < n then i else 0)*k+j]?:=by
 unfold Zc7;rw [ZDy,ZBv hj,ZEf]
theorem Zmj {P:Program} {ρ:Go.Shelf.Ren} (L:Go.Proofs.SlLaysF0.n14 P ρ) {k:Nat} (aE:∀w,(isAgg (ρ.t 24)).run P w=.ok true w) (zE:∀w,(Go.sizeOf (ρ.t 24)).run P w=.ok k w) (hk0:0 < k)
 {β:Type} (f:β→List AV) (cmp:β→β→Int) {ty:TypeId} {g:FuncId} {σ:Mem} {K:Nat} {sv:Value} (l:List β) (hf:∀x,(f x).length=k) (hK:σ K=some (.row sv ty k (l.map λx=>.agg (f x)) 0)) (hl:l.length < 4611686018427387904)
 (h1:∀x y,cmp x x=0∧(cmp x y < 0↔0 < cmp y x)) (h2:∀x y z,cmp x y≤0→cmp y z≤0→cmp x z≤0)
 (hc:∀x∈l,∀y∈l,Pure P g [.agg (f x),.agg (f y)] (.v (.int .i64 (cmp x y)))) (he:∀(vs:Array Value) (w:World),(callFunc (ρ.f 14) vs).run P w=.ok (.enter (ρ.f 14) vs) w) (lim:Nat) (hlim:lim < 4611686018427387904)
 (hnil:∀(p:Option Addr) (cap:Nat) (w:World),Calls P (ρ.f 14) #[.slice p 0 cap,.int .i64 0,.int .i64 0,.int .i64 lim,.func (.func g) #[] #[]] w λe w'=>e=.returned (.tuple #[])∧w'=w) :
 ACall P (ρ.f 14) [.own K sv,.v (.int .i64 0),.v (.int .i64 l.length),.v (.int .i64 lim),.fn g []] σ λr σ'=>∃l':List β,l'.Perm l∧l'.Pairwise (λx y=>cmp x y≤0)∧r=.tup []∧σ'=upd σ K (some (.row sv ty k (l'.map λx=>.agg (f x)) 0)):=by
 refine⟨he,λc w imm vs hm hlen hr=>?_⟩
 obtain⟨v0,v2,v3,v4,v1,rfl⟩:∃v0 v2 v3 v4 v1,vs=#[v0,v2,v3,v4,v1]:=by
  have h2:vs.size=5:=by simpa using hlen.symm
  exact⟨vs[0],vs[1],vs[2],vs[3],vs[4],by
   refine Array.ext (by simp [h2]) λi h3 h4=>?_
   match i,(by omega:i < 5) with
   | 0,_=>rfl
   | 1,_=>rfl
   | 2,_=>rfl
   | 3,_=>rfl
   | 4,_=>rfl⟩
 have r0:=hr 0 _ v0 rfl rfl;have r1:=hr 4 _ v1 rfl rfl;obtain rfl:=r0.own_inv;obtain rfl:=(hr 1 _ v2 rfl rfl).v_inv;obtain rfl:=(hr 2 _ v3 rfl rfl).v_inv;obtain rfl:=(hr 3 _ v4 rfl rfl).v_inv;obtain⟨cv,rfl,hcl,-⟩:=r1.fn_inv;obtain rfl:cv=#[]:=Array.eq_empty_of_size_eq_zero (by simpa using hcl.symm);obtain⟨xs,hown,hmm,hok,hrd,hpl,hp,hq⟩:=hm.ok.ent K _ hK;rw [ZB2] at hown;have nop:∀ad,imm ad→v0.ownBlock≠some ad.block:=λad ha h=>by have:=hp ad ha h;omega
 by_cases hn:l.length=0
 ·obtain⟨p,cap,rfl⟩:∃p cap,v0=.slice p 0 cap:=by
   rcases hown.2 with⟨h,-⟩ | ⟨b,cap,cur,h,-⟩
   ·exact⟨_,_,h⟩
   ·rw [hn] at h;exact⟨_,_,h⟩
  obtain rfl:=List.length_eq_zero_iff.1 hn;refine(hnil p cap w).mono λe w' h=>?_;obtain⟨rfl,rfl⟩:=h;have e1:upd σ K (some (.row (.slice p 0 cap) ty k (([]:List β).map λx=>.agg (f x)) 0))=σ:=funext λj=>by
   rw [Zan];split
   ·rename_i hj;rw [hj,hK]
   ·rfl
  exact⟨.tup [],_,imm,_,rfl,⟨[],.nil,.nil,rfl,rfl⟩,.pure (.tup [] #[] rfl λj a x h1 _=>by simp at h1),by rw [e1];exact hm,Keeps.refl _ _⟩
 have hn:0 < l.length:=ZDl hn;rcases hown.2 with⟨-,h⟩ | ⟨b,cap,cur,rfl,hB,hh,hnc,hcm,hcs,htake⟩
 ·omega
 obtain⟨n,hnd⟩:∃n,n=l.length:=⟨_,rfl⟩;rw [←hnd] at hn hown hnc htake hl;have ixl:∀i,(if i < n then i else 0) < l.length:=λi=>by split<;>omega
 obtain⟨el,hel⟩:∃el:Nat→β,el=λi=>l[if i < n then i else 0]'(ixl i):=⟨_,rfl⟩;have el_mem:∀i,el i∈l:=λi=>by rw [hel];exact ZB7 _
 have hk:=λi=>Zsz (xs:=xs) (k:=k) hown.1 hn i;have hfl:∀i j,j < k→(flat (l.map λx=>AV.agg (f x)))[(if i < n then i else 0)*k+j]?=(f (el i))[j]?:=λi j hj=>by
  rw [Zd6 hmm _ _ hj (by rw [ZB2];exact ixl i),ZCb,ZC4,ZB6 (ixl i),hel];rfl
 have rdx:∀i,Rd w imm (.agg (f (el i))) (.agg (Zc7 xs k n i).toArray):=λi=>by
  refine .agg _ _ (by rw [hf,ZGo,hk]) λj a x g1 g2=>?_;have hj:j < k:=by rw [←hf (el i)];exact(List.getElem?_eq_some_iff.1 g1).1
  rw [ZD4,Zii hj] at g2;exact hrd _ a x (by rw [hfl i j hj];exact g1) g2
 have h1':∀x,∀v∈Zc7 xs k n x,v.oneCell'=true:=λi v hv=>by
  obtain⟨j,hj,rfl⟩:=List.mem_iff_getElem.1 hv;rw [hk] at hj;have g2:(Zc7 xs k n i)[j]?=some _:=ZB6 (by rw [hk];exact hj);rw [Zii hj] at g2;have hlt:j < (f (el i)).length:=by rw [hf];exact hj
  have g1:=hfl i j hj;rw [ZB6 hlt] at g1;exact(hrd _ _ _ g1 g2).one_of (Zod hok _ (ZEw g1))
 have hcell:∀(m:Nat) (dk:Array Nat) (os:Array Obj) (ad:Addr),imm ad→(Go.Proofs.sortWorldK (Zc7 xs k n) k w b 0 m dk os).cell? ad=w.cell? ad:=λm dk os ad ha=>World.cell?_of_block (Zti (hm.ok.lt ad ha) λe=>nop ad ha (by rw [←e];rfl))
 have hO:Go.Sort.SWO (Go.Proofs.ltOf λi j=>cmp (el i) (el j)):=by
  refine⟨λx=>?_,λx y z g1 g2=>?_,λx y z g1 g2=>?_⟩
  ·simp [Go.Proofs.ltOf,(h1 (el x) (el x)).1]
  ·simp only [Go.Proofs.ltOf,ZCs] at g1 g2 ⊢;rcases ZFs (cmp (el x) (el z)) 0 with h | h | h
   ·exact h
   ·have a1:=(h1 (el x) (el y)).2.1 g1;have a2:=h2 (el y) (el z) (el x) zo (by have:=(h1 (el z) (el x)).2;have:=(h1 (el x) (el z)).2;omega);omega
   ·have a1:=(h1 (el x) (el y)).2.1 g1;have a2:=h2 (el y) (el z) (el x) zo (by have:=(h1 (el z) (el x)).2.2 h;omega);omega
  ·simp only [Go.Proofs.ltOf,ZEx,Int.not_lt] at g1 g2 ⊢;have a1:cmp (el y) (el x)≤0:=by have:=(h1 (el x) (el y)).2;have:=(h1 (el y) (el x)).2;omega
   have a2:cmp (el z) (el y)≤0:=by have:=(h1 (el y) (el z)).2;have:=(h1 (el z) (el y)).2;omega
   have a3:=h2 (el z) (el y) (el x) a2 a1;have:=(h1 (el x) (el z)).2;have:=(h1 (el z) (el x)).2;omega
 have hcmp:Go.Proofs.CmpLays P g #[] (Zc7 xs k n) k (λi j=>cmp (el i) (el j)) b 0 (Array.range n).size w:=λm os dk hs x y=>by
  refine((hc _ (el_mem x) _ (el_mem y)).2 (Go.Proofs.sortWorldK (Zc7 xs k n) k w b 0 m dk os) imm _ (λad ha=>⟨by rw [Zxe];have:=hm.ok.lt ad ha;omega,hm.ok.spot ad ha⟩) rfl λj a z g1 g2=>?_).mono λe w' h=>?_
  ·match j with
   | 0=>simp at g1 g2;subst g1;subst g2;exact(rdx x).keep (λ_ h=>h) (hcell m dk os)
   | 1=>simp at g1 g2;subst g1;subst g2;exact(rdx y).keep (λ_ h=>h) (hcell m dk os)
   | j+2=>simp at g1
  ·obtain⟨x,i2,rfl,hx,-,-,hb⟩:=h;cases hx;exact⟨rfl,blw_grow hb⟩
 have hxl:xs.length=n*k:=hown.1;have hcl:n*k≤cur.size:=by rw [hcs];exact ZCf _ hnc
 have curx:∀j,j < n*k→cur[j]?=xs[j]?:=λj hj=>by rw [←htake,ZDy,ZBv hj,ZE4]
 have dk:∀(d:Array Nat),d.size=n→∀j,j < n*k→d[j/k]! < n→(Go.Sort.flatK (Zc7 xs k n) k d)[j]! = (xs[d[j/k]!*k+j%k]?).getD default:=λd hd j hj hlt=>by
  rw [Go.Sort.get_flatK _ _ _ _ (by rw [hd];exact hj),List.getElem!_eq_getElem?_getD,Zii (ZDj _ hk0),ZBv hlt]
 have rng:∀i,i < n→(Array.range n)[i]! = i:=λi hi=>by rw [getElem!_pos _ i (by simpa using hi)];simp
 have dvl:∀j,j < n*k→j/k < n:=λj hj=>(ZE0 hk0).2 hj
 have hH:Go.Sort.HoldsK (Zc7 xs k n) k w b 0 (Array.range n):=by
  intro j hj;rw [Go.Sort.size_flatK,Array.size_range] at hj;have hj2:=dvl j hj;have e1:=dk (Array.range n) zs j hj (by rw [rng _ hj2];exact hj2);rw [rng _ hj2,ZCy (j/k) k,ZEt] at e1;refine⟨?_,by simp [World.frozen?,hh]⟩;rw [ZCl];have:w.cell? ⟨b,j,none⟩=cur[j]?:=by simp [World.cell?,hh]
  rw [this,curx j hj,e1,ZB6 zo];rfl
 have hblk:b < w.heap.size:=(Array.getElem?_eq_some_iff.1 hh).1;have hcall:=Go.Proofs.AnyQ.pdqsortCmpFunc_all L k aE zE (Zc7 xs k n) (λi j=>cmp (el i) (el j)) g #[] hO b 0 cap (Array.range n) w (hc _ (el_mem 0) _ (el_mem 0)).1 hcmp ⟨hk,h1',hH,hblk⟩ (n+1) 0 n lim (Array.range n) w zo rfl (Go.Proofs.SWK.start hH) (ZB5 _) zs (by rw [Array.size_range];exact hl) hlim (.inl rfl);rw [Array.size_range] at hcall;rw [←hnd];refine hcall.mono λe w' h=>?_;obtain⟨rfl,n1,os,rfl⟩:=h;have hps:=Go.Sort.pdq_sorts (Go.Proofs.ltOf λi j=>cmp (el i) (el j)) hO (Array.range n) 0 n lim true true (ZB5 _) zs (.inl rfl)
 obtain⟨hpm,hsd⟩:=hps;generalize Go.Sort.pdq (Go.Proofs.ltOf λi j=>cmp (el i) (el j)) (Array.range n) 0 n lim true true=d' at hpm hsd;have hds:d'.size=n:=by rw [hpm.1,Array.size_range]
 have hperm:d'.toList.Perm (List.range n):=by
  have h3:=hpm.2.2;rw [show d'.extract 0 n=d' from by rw [←hds];simp,show(Array.range n).extract 0 n=Array.range n from by simp] at h3
  simpa using h3
 have hmap:(List.range n).map el=l:=by
  refine List.ext_getElem (by simp [hnd]) λi g1 g2=>?_;rw [ZF9,List.getElem_range,hel];simp only [hnd];congr 1;rw [ZBv g2]
 have hdl:∀i,i < n→d'[i]! < n:=λi hi=>by
  rw [getElem!_pos _ i zo];have:d'[i]∈d'.toList:=by rw [Array.mem_toList_iff];exact Array.getElem_mem _
  exact List.mem_range.1 (hperm.mem_iff.1 this)
 obtain⟨l',hl'⟩:∃l',l'=d'.toList.map el:=⟨_,rfl⟩;have hll:l'.length=n:=by rw [hl',ZB2,ZE6,hds]
 obtain⟨cur',hcur'⟩:∃c',c'=Go.Sort.putCells id 0 (Go.Sort.flatK (Zc7 xs k n) k d') cur:=⟨_,rfl⟩;have hcs':cur'.size=cap*k:=by rw [hcur',Go.Sort.putCells,Array.size_mapIdx,hcs]
 have hmm':∀x∈l'.map (λx=>AV.agg (f x)),x.cells.length=k:=λx hx=>by
  obtain⟨y,-,rfl⟩:=List.mem_map.1 hx;exact hf y
 have hok':∀x∈l'.map (λx=>AV.agg (f x)),x.ok=true:=λx hx=>by
  obtain⟨y,hy,rfl⟩:=List.mem_map.1 hx;rw [hl'] at hy;obtain⟨i,-,rfl⟩:=List.mem_map.1 hy;exact hok _ (List.mem_map.2 ⟨_,el_mem i,rfl⟩)
 have hsw:=sw_row (enc:=Zc7 xs k n) (k:=k) (m:=n1) (d:=d') (os:=os) hh;rw [←hcur'] at hsw;obtain⟨mx,kp⟩:=Zdt hm (sw_grown (enc:=Zc7 xs k n) (k:=k) (m:=n1) (d:=d') (os:=os) hblk) sw_drawn (λg' hg'=>by cases hg';exact hB) (hcell n1 d' os) K (.row (.slice (some ⟨b,0,none⟩) n cap) ty k (l'.map λx=>.agg (f x)) 0)
  ⟨cur'.toList.take (n*k),⟨by rw [ZCh,ZE6,hcs',ZB2,hll];exact ZEb (ZCf _ hnc),.inr ⟨b,cap,cur',by rw [ZB2,hll],hB,hsw,by rw [ZB2,hll];exact hnc,hcm,hcs',by rw [ZB2,hll]⟩⟩,hmm',hok',λj a x g1 g2=>by
   have hj:j < n*k:=by
    have:=(List.getElem?_eq_some_iff.1 g2).1;rw [ZCh] at this;omega
   rw [ZDy,ZBv hj,ZE4,hcur',Go.Sort.putCells,Array.getElem?_mapIdx,curx j hj,ZB6 (by rw [hxl];exact hj)] at g2;simp only [ZC9,Option.some.injEq,ZB5,true_and,ZCl,ZEs,Go.Sort.size_flatK,hds,hj,ZC0,id] at g2;have hj2:=dvl j hj;rw [dk d' hds j hj (hdl _ hj2)] at g2;have hjm:=ZDj j hk0
   have hdt:d'.toList[j/k]?=some d'[j/k]!:=by
    have hjd:j/k < d'.size:=by rw [hds];exact hj2
    rw [ZE4,ZDa hjd,getElem!_pos d' (j/k) hjd]
   have hfg:=Zd6 hmm' (j/k) (j%k) hjm (by rw [ZB2,hll];exact hj2);rw [ZCy (j/k) k,ZEt,g1,ZCb,ZC4,hl',ZC4,hdt] at hfg;have g3:=hfl (d'[j/k]!) (j%k) hjm;rw [ZBv (hdl _ hj2)] at g3;have g4:(f (el d'[j/k]!))[j%k]?=some a:=hfg.symm
   have hxj:d'[j/k]!*k+j%k < xs.length:=by
    rw [hxl];have:=ZCf k (show d'[j/k]!+1≤n from hdl _ hj2);rw [ZCo,ZD1] at this;omega
   rw [ZB6 hxj] at g2;refine(hrd (d'[j/k]!*k+j%k) a x (by rw [g3];exact g4) (by rw [ZB6 hxj,←g2];rfl)).keep (λ_ h=>h) (hcell n1 d' os),ZB5 _,λad ha h=>absurd h (nop ad ha),λg off _ h=>absurd h zo⟩
  (λj e2 bb hj hje hb=>⟨λe=>hj (hm.ok.apart j K e2 _ bb hje hK hb (by rw [e];rfl)),λe=>hj (hm.ok.apart j K e2 _ bb hje hK hb e)⟩)
 refine⟨.tup [],_,imm,_,rfl,⟨l',?_,?_,rfl,rfl⟩,.pure (.tup [] #[] rfl λj a x h1 _=>by simp at h1),mx,kp⟩
 ·rw [hl'];have:=hperm.map el
  rwa [hmap] at this
 ·rw [hl',List.pairwise_map];refine List.pairwise_iff_getElem.2 λi j g1 g2 hij=>?_;have:=hsd i j (ZB5 _) hij (by simpa [hds] using g2);rw [ZE6] at g1 g2;rw [getElem!_pos d' i g1,getElem!_pos d' j g2] at this;simp only [Go.Proofs.ltOf,ZEx,Int.not_lt] at this;simp only [Array.getElem_toList];have h3:=(h1 (el d'[i]) (el d'[j])).2;have h4:=(h1 (el d'[j]) (el d'[i])).2;omega
section
variable {P:Program} {all rest:List Oper} {K:St→Prop} {e:Nat→AV} {m:Mem} {dst:Option Nat} {d t j:Nat} {op:Op} {ty:TypeId} {pos:String} {af:Array Edge} {r:Res} {rs:Nat→AV} {bar:List Nat} {fu k:Nat} {σs:Mem}
theorem gy5d (hb:bar.contains k=true) (hs:(bar.contains (k+1000) || bar.contains (k+3000))=false) (h2:bar.contains (k+2000)=true) (ho:all[k]?=some ⟨some d,op,ty,pos,af,none⟩) (h:Ev (Zaj P ⟨e,m⟩ op=r)) (hkp:Ev (Za0 Zag r)) (hk:aRes P d (some d) r (Zbq P 0 all rs bar Zag fu (k+1) K) ⟨e,m⟩):Zbq P 0 all rs bar σs (fu+1) k K ⟨e,m⟩:=by
 rw [Zcn];unfold Zd8;rw [ho];simp only [ZF3] at hs;simp only [Zb4,hb,hs,h2,ZC0,ZB8,ZCx];have h:Zaj P ⟨e,m⟩ op=r:=h;refine⟨?_,λ_=>⟨rfl,by rw [h];exact hkp,λh=>by cases h⟩⟩;unfold Zf6;rw [Zdj,h,ZDz,ZCl];exact hk
end
section
variable {P:Program} {c:Cx} {n:Nat}
theorem at_lt {l s:List Oper} {j:Nat} (h:j < l.length):(l++s).toArray[j]?=l.toArray[j]?:=by
 rw [ZD4,ZD4,ZDq h]
theorem at_suf {l s:List Oper} (k:Nat):(l++s).toArray[l.length+k]?=s[k]?:=by
 rw [ZD4,ZDr (ZG2 _ _),ZGp]
def LastK (P:Program) (n:Nat) (o:Oper) (K:St→Prop) (st:St):Prop:=(∃c a w imm,Rel c n st a w imm)→∃st',Frz n st st'∧Zbl P 0 [o] [o] (λst1=>∃st2,Frz n st1 st2∧K st2) st'
def Zl7 (P:Program) (n:Nat):List Oper→(St→Prop)→St→Prop
 | [],K=>K
 | o :: s,K=>LastK P n o (Zl7 P n s K)
def Zzv (n:Nat) (l s:List Oper):Bool :=
 s.all (λo=>Zeo n o && o.guard.isNone) && l.all (λx=>x.guard.isNone) &&
 ((List.range (l.length+s.length)).all λj=>match (l++s).toArray[j]? with
   | some x=>x.after.toList.all λe=>!Region.binds .any e || decide (e.on < j)
   | none=>true) && (List.range s.length).all λk=>(List.range (l.length+k)).all λj=>Ziq (l++s).toArray (l.length+s.length) j (l.length+k)
structure LastOk (n:Nat) (l s:List Oper):Prop where
 fits:∀o∈s,Zeo n o=true
 g:∀o∈s,o.guard=none
 gl:∀x∈l,x.guard=none
 dj:∀j x,(l++s).toArray[j]?=some x→∀e∈x.after,Region.binds .any e=true→e.on < j
 r:∀k,k < s.length→∀j,j < l.length+k→Ziq (l++s).toArray (l.length+s.length) j (l.length+k)=true
theorem Zsi {l s:List Oper} (h:Zzv n l s=true):LastOk n l s:=by
 unfold Zzv at h;simp only [ZCm,ZEu,Option.isNone_iff_eq_none,List.mem_range] at h;obtain⟨⟨⟨h1,h3⟩,h5⟩,h6⟩:=h;refine⟨λo ho=>(h1 o ho).1,λo ho=>(h1 o ho).2,h3,λj x hx e he hb=>?_,h6⟩
 have hj:j < l.length+s.length:=by
  rw [ZD4] at hx;have:=(List.getElem?_eq_some_iff.1 hx).1
  rwa [ZCr] at this
 have:=h5 j hj;rw [hx] at this;simp only [ZEu,ZEh,ZEd,ZCs,Array.mem_toList_iff] at this;exact(this e he).resolve_left (by simp [hb])
theorem wpOp_app {l s:List Oper} (ho:LastOk n l s) {Q:Exit→Act→World→Prop} {i:Nat} (hi:i < l.length) {K:Act→World→Prop} {a:Act} {w:World} (h:wpOp P l.toArray Q i K a w):wpOp P (l++s).toArray Q i K a w:=by
 unfold wpOp at h ⊢;rw [at_lt hi];have hx:l.toArray[i]?=some l[i]:=by rw [ZD4,ZB6 hi]
 rw [hx] at h ⊢;have hg:=ho.gl l[i] (ZB7 hi);simp only [Region.wanted,hg] at h ⊢;exact h
theorem Zwu {ops:Array Oper} {Q:Exit→Act→World→Prop} {listed:Array Bool} {a:Act} {w:World} (h:Region.ready .any ops listed=[]) (hq:Q .normal a w):∀f,wpAny P .any ops Q f listed a w
 | 0=>⟨h,hq⟩
 | f+1=>⟨λ_=>hq,λi hi=>by rw [h] at hi;cases hi⟩
theorem Zhp {listed:Array Bool} {j:Nat} (h:j < listed.size):listed.getD j false=listed.getD j true:=by
 simp [h]
theorem Zx7 {l s:List Oper} {listed:Array Bool} {i:Nat} (hi:i∈Region.ready .any l.toArray listed):i∈Region.ready .any (l++s).toArray listed:=by
 obtain⟨h0,x,hx,hd⟩:=mem_ready.1 hi
 have hil:i < l.length:=by
  rw [ZD4] at hx;exact(List.getElem?_eq_some_iff.1 hx).1
 exact mem_ready.2 ⟨h0,x,by rw [at_lt hil];exact hx,hd⟩
theorem Zts {l s:List Oper} (ho:LastOk n l s) {listed:Array Bool} (hsz:listed.size=l.length+s.length):∀j,j < l.length→listed.getD j true=false→∃i,i∈Region.ready .any l.toArray listed:=by
 intro j
 induction j using Nat.strongRecOn with
 | _ j ih =>
   intro hj hb;have hx:l.toArray[j]?=some l[j]:=by rw [ZD4,ZB6 hj]
   by_cases hd:∀e∈l[j].after,Region.binds .any e=true→listed.getD e.on false=true
   ·exact⟨j,mem_ready.2 ⟨hb,l[j],hx,hd⟩⟩
   ·obtain⟨e,he⟩:=Classical.not_forall.1 hd;obtain⟨he,h1⟩:=Classical.not_imp.1 he;obtain⟨hbd,h1⟩:=Classical.not_imp.1 h1;have hlt:=ho.dj j l[j] (by rw [at_lt hj];exact hx) e he hbd;refine ih e.on hlt zo ?_;rw [←Zhp zo];simpa using h1
theorem lastGo {l s:List Oper} (ho:LastOk n l s) {Q:AE→St→Prop}:∀(r:List Oper) (k:Nat),s.drop k=r→∀(f:Nat) (listed:Array Bool) (st:St) (a:Act) (w:World) (imm:Imm),Rel c n st a w imm→listed.size=l.length+s.length→(∀j,j < l.length+k→listed.getD j true=true)→(∀j,l.length+k≤j→j < l.length+s.length→listed.getD j true=false) →
 Zl7 P n r (Q .normal) st→wpAny P .any (l++s).toArray (post c n Q) (f+r.length) listed a w:=by
 intro r
 induction r with
 | nil =>
   intro k hk f listed st a w imm h hsz hall hno hK
   have hks:s.length≤k:=by
    rcases ZCg k s.length with h1 | h1
    ·have:=ZDi List.length hk;rw [ZD7,ZCq] at this;omega
    ·exact h1
   refine Zwu (List.eq_nil_iff_forall_not_mem.2 λi hi=>?_) ⟨.normal,st,imm,rfl,hK,h⟩ _;obtain⟨h0,x,hx,_⟩:=mem_ready.1 hi;rw [ZD4] at hx;have:=(List.getElem?_eq_some_iff.1 hx).1;rw [ZCr] at this;rw [hall i zo] at h0;cases h0
 | cons o r ih =>
   intro k hk f listed st a w imm h hsz hall hno hK
   have hks:k < s.length:=by
    rcases ZCg k s.length with h1 | h1
    ·exact h1
    ·rw [ZDo h1] at hk;cases hk
   have hok:s[k]?=some o:=by
    have h1:=ZEi hks;rw [hk] at h1;rw [ZB6 hks,(List.cons.inj h1).1]
   have hr':s.drop (k+1)=r:=by
    have h1:=ZEi hks;rw [hk] at h1;exact(List.cons.inj h1).2.symm
   have hom:o∈s:=ZEw hok;have hat:(l++s).toArray[l.length+k]?=some o:=by rw [at_suf];exact hok
   have hrdy:l.length+k∈Region.ready .any (l++s).toArray listed:=mem_ready.2 ⟨hno _ (ZBw _) zo,o,hat,λe he hb=>by
    have:=ho.dj _ _ hat e he hb;rw [Zhp zo];exact hall _ this⟩
   refine⟨λh0=>(by rw [h0] at hrdy;cases hrdy),λi hi=>?_⟩;obtain⟨h0,x,hx,hd⟩:=mem_ready.1 hi
   have hil:i < l.length+s.length:=by
    rw [ZD4] at hx;have:=(List.getElem?_eq_some_iff.1 hx).1
    rwa [ZCr] at this
   have hiL:i=l.length+k:=by
    rcases Nat.lt_trichotomy i (l.length+k) with h1 | h1 | h1
    ·rw [hall i h1] at h0;cases h0
    ·exact h1
    ·exfalso;obtain⟨m,rfl⟩:∃m,i=l.length+m:=⟨i - l.length,zo⟩;have hrm:=ho.r m zo (l.length+k) zo;have key:=fun(hc:Closed (l++s).toArray (Array.replicate (l.length+s.length) false))=>hc
     have hcl:Closed (l++s).toArray listed:=by
      intro j o' ho' hj e he hb
      have hj2:j < l.length+k:=by
       rcases ZCg j (l.length+k) with h2 | h2
       ·exact h2
       ·have hjs:j < l.length+s.length:=by
         rw [ZD4] at ho';have:=(List.getElem?_eq_some_iff.1 ho').1
         rwa [ZCr] at this
        have h3:=hno j h2 hjs;rw [Zhp zo,h3] at hj;cases hj
      have h4:=ho.dj j o' ho' e he hb;rw [Zhp zo];exact hall _ zo
     have:=Zdg hcl (l.length+s.length) (l.length+m) x hx hd hrm;rw [Zhp zo,hno _ (ZBw _) zo] at this;cases this
   subst hiL;obtain⟨st',hF,hK⟩:=hK ⟨c,a,w,imm,h⟩;obtain⟨imm',hr⟩:=hF c a w imm h;have hg:=ho.g o hom;have hfit:=ho.fits o hom
   have hK:aRes P (0+o.dst.getD 0) o.dst (Zaj P st' o.op) (λst1=>∃st2,Frz n st1 st2∧Zl7 P n r (Q .normal) st2) st':=by
    obtain⟨d,op,t,pos,af,g⟩:=o;simp only at hg;subst hg;exact hK
   have hdst:∀d,o.dst=some d→d < n:=by
    intro d hdd;rw [Zeo,hdd] at hfit
    simpa using hfit
   unfold wpOp;rw [hat];simp only [Region.wanted,hg];refine .inl (Oper.wp_mono (λa1 w1 hg=>?_) (Zdq hr hdst hK));obtain⟨st1,imm1,⟨st2,hF2,hk2⟩,hr1⟩:=hg;obtain⟨imm2,hr2⟩:=hF2 c a1 w1 imm1 hr1;refine ih (k+1) hr' f _ st2 a1 w1 imm2 hr2 (by simpa using hsz) (λj hj=>?_) (λj h1 h2=>?_) hk2
   ·rcases ZCg j (l.length+k) with h1 | h1
    ·rw [ZFa true zo];exact hall j h1
    ·have:j=l.length+k:=zo;subst this;have:l.length+k < listed.size:=zo;simp [this]
   ·rw [ZFa true zo];exact hno j zo h2
theorem Zs6 {l s:List Oper} (ho:LastOk n l s) (hf:l.all (Zeo n)=true) {rs:Nat→AV} {bar:List Nat} {Q:AE→St→Prop} :
 ∀(f:Nat) (σs:Mem) (listed:Array Bool) (st:St) (a:Act) (w:World) (imm:Imm),Rel c n st a w imm→Part σs st.mem→listed.size=l.length+s.length→(∀j,l.length≤j→j < l.length+s.length→listed.getD j true=false)→Closed (l++s).toArray listed →
 aAny P 0 l rs bar σs f listed (Zl7 P n s (Q .normal)) st→wpAny P .any (l++s).toArray (post c n Q) (f+s.length) listed a w:=by
 intro f
 induction f with
 | zero =>
   intro σs listed st a w imm h hp hsz hL hc hK;exact lastGo ho s 0 rfl 0 _ st a w imm h hsz (λj hj=>by
    refine Classical.byContradiction λhb=>?_;obtain⟨i,hi⟩:=Zts ho hsz j zo (by simpa using hb);rw [hK.1] at hi;cases hi) hL hK.2
 | succ f ih =>
   intro σs listed st a w imm h hp hsz hL hc hK;by_cases hall:∀j,j < l.length→listed.getD j true=true
   ·refine lastGo ho s 0 rfl (f+1) _ st a w imm h hsz hall hL (hK.1 ?_);refine List.eq_nil_iff_forall_not_mem.2 λi hi=>?_;obtain⟨h0,x,hx,_⟩:=mem_ready.1 hi
    have hil:i < l.length:=by
     rw [ZD4] at hx;exact(List.getElem?_eq_some_iff.1 hx).1
    rw [hall i hil] at h0;cases h0
   ·obtain⟨j,hj⟩:=Classical.not_forall.1 hall;obtain⟨hj,hb⟩:=Classical.not_imp.1 hj;have hb:listed.getD j true=false:=by simpa using hb
    rw [Nat.add_right_comm];refine⟨λh0=>?_,λi hi=>?_⟩
    ·exfalso;obtain⟨i,hi⟩:=Zts ho hsz j hj hb;have:=Zx7 (s:=s) hi;rw [h0] at this;cases this
    ·obtain⟨h0,x,hx,hd⟩:=mem_ready.1 hi
     have hil:i < l.length:=by
      rcases ZCg i l.length with h1 | h1
      ·exact h1
      ·exfalso;obtain⟨m,rfl⟩:∃m,i=l.length+m:=⟨i - l.length,zo⟩
       have hms:m < s.length:=by
        rw [ZD4] at hx;have:=(List.getElem?_eq_some_iff.1 hx).1;rw [ZCr] at this;omega
       have:=Zdg hc (l.length+s.length) (l.length+m) x hx hd (ho.r m hms j zo);rw [Zhp zo] at this;rw [this] at hb;cases hb
     have hi':i∈Region.ready .any l.toArray listed:=mem_ready.2 ⟨h0,x,by rw [←at_lt hil];exact hx,hd⟩;refine wpOp_app ho hil (wpOp_mono (λa' w' hg=>?_) (Zks hf h hp (hK.2 i hi')));obtain⟨st',imm',⟨hk,hs'⟩,hr⟩:=hg;exact ih _ _ st' a' w' imm' hr hs' (by simpa using hsz) (λj h1 h2=>by rw [ZFa true zo];exact hL j h1 h2) (hc.set hi) hk
theorem r_drawS {id:Nat} {Q:AE→St→Prop} {st:St} {ops l s:List Oper} (j:Nat) (rs:Nat→AV) (bar cut:List Nat) (hs1:ops.take j=l) (hs2:ops.drop j=s) (hm:P.follows .mixedOrders=true) (hf:l.all (Zeo n)=true) (hok:Zzv n l s=true)
 (hlex:Zn2 l.toArray bar l.length 0 (Array.replicate (l.length+s.length) false)=true) {N:Nat} (hN:l.length=N) (h:Zbq P 0 l rs bar (cutM cut st.mem) N 0 (Zl7 P n s (Q .normal)) st):Za4 P 0 n (.region id ops.toArray true) Q st:=by
 have hops:l++s=ops:=by rw [←hs1,←hs2];exact ZD2 ..
 subst hN;rw [←hops];intro c a w imm hr;refine wp_region_any hm ?_;have kd:Keeps w imm w.drew imm:=λad h=>⟨h,rfl⟩;have hgd:w.grownBy w.drew none:=⟨rfl,rfl,rfl,ZBw _,λ_ _ _=>rfl⟩;have hdr:Rel c n st a w.drew imm:=⟨λt=>kd.rs (hr.env t),hr.size,hr.defers,⟨⟨λk e hk=>(hr.mem.ok.ent k e hk).keep hgd (by cases e.blk<;>simp) (λ_ h=>h) (λ_ _=>rfl) (λ_ h=>.inl h),hr.mem.ok.apart,hr.mem.ok.lt,hr.mem.ok.spot⟩,hr.mem.below.drew,hr.mem.lt,hr.mem.old,hr.mem.new,hr.mem.cells⟩⟩
 have hcl:∀ops:Array Oper,Closed ops (Array.replicate (l.length+s.length) false):=by
  intro ops j o ho hj;exfalso;by_cases hjl:j < l.length+s.length<;>simp [Array.getElem?_replicate,hjl] at hj
 have h1:=Zsh (K:=Zl7 P n s (Q .normal)) l.length 0 (cutM cut st.mem) _ st (hcl _) hlex h;have h2:=Zs6 (c:=c) (Q:=Q) (Zsi hok) hf l.length (cutM cut st.mem) _ st a w.drew imm hdr (λt e ht=>by unfold cutM at ht;split at ht;cases ht;exact ht) zs (λj h1 h2=>by simp [h2]) (hcl _) h1
 simpa using h2
theorem r_loopZ {body:Code} {st:St} {Q:AE→St→Prop} (h:Za4 P 0 n (.loop body) (λae st'=>∃st'',Frz n st' st''∧Q ae st'') st):Za4 P 0 n (.loop body) Q st:=λc a w imm hr =>
 ZE9 (λe a' w' hp=>by
  obtain⟨ae,st',imm',rfl,⟨st'',hF,hq⟩,hr'⟩:=hp;obtain⟨imm2,h2⟩:=hF c a' w' imm' hr';exact⟨ae,st'',imm2,rfl,hq,h2⟩) (h c a w imm hr)
end
theorem Zfw {α:Type} {f:Nat→α} {k n:Nat} {v:α} (h:n≠k):upd f k v n=f n:=by rw [Zan,ZBu h]
theorem Zjv {α:Type} {f:Nat→α} {k:Nat} {v:α}:upd f k v k=v:=by rw [Zan,ZBv rfl]
section
variable {n:Nat} {e:Nat→AV} {m:Mem}
theorem Zru {w:World} {B:Nat} {ty:TypeId} {mm len:Nat} {sv:Value} {xs:List Value} (h:w.ownsRow B ty mm sv len xs):sv.oneCell'=true:=by
 rcases h.2 with h1 | ⟨g,cap,cur,h1,_⟩
 ·rw [h1.1];rfl
 ·rw [h1];rfl
theorem Frz.slotV {d k:Nat} {sv:Value} (he:e d=.own k sv):Frz n ⟨e,m⟩ ⟨upd e d (.v sv),m⟩:=by
 intro c a w imm h;refine⟨imm,λt=>?_,h.size,h.defers,h.mem⟩;have ht:=h.env t;show Rs w imm (upd e d (.v sv) t) _;rw [Zan];split
 ·subst_vars
  rw [show(St.mk e m).env t=_ from he] at ht;rw [ht.own_inv];exact .pure (.v _)
 ·exact ht
theorem own_one {d k:Nat} {sv:Value} (he:e d=.own k sv) (h:∃c a w imm,Rel c n ⟨e,m⟩ a w imm):sv.oneCell'=true:=by
 obtain⟨c,a,w,imm,h⟩:=h;have ht:=h.env d;rw [show(St.mk e m).env d=_ from he] at ht;exact ht.own_one
theorem el_ent {c:Cx} {w:World} {imm:Imm} {sv:Value} {ty:TypeId} {pub j:Nat} {es:List AV} {x y:AV} (h:EntOk c.B w imm (.row sv ty 1 es pub)) (hj:es[j]?=some x) (hy:y.one=true) (hyc:y.cells=[y]) (hxc:x.cells=[x]) (hr:∀v,Rd w imm x v→Rd w imm y v):EntOk c.B w imm (.row sv ty 1 (es.set j y) pub):=by
 obtain⟨xs,h1,h2,h3,h4,h5,h6,h7⟩:=h;have hlen:(es.set j y).length=es.length:=List.length_set ..;have hjl:j < es.length:=(List.getElem?_eq_some_iff.1 hj).1
 have hf:∀l:List AV,(∀x∈l,x.cells.length=1)→∀i:Nat,(flat l)[i]?=(l[i]?).bind λx:AV=>x.cells[0]?:=by
  intro l
  induction l with
  | nil=>intro _ i;simp [flat]
  | cons a l ih =>
    intro hl i;have ha:=hl a (.head _);obtain⟨b,hb⟩:=List.length_eq_one_iff.1 ha;have e1:flat (a :: l)=b :: flat l:=by simp [flat,hb]
    rw [e1]
    cases i with
    | zero=>simp [hb]
    | succ i=>simpa using ih (λx hx=>hl x (.tail _ hx)) i
 have hm:∀z∈es.set j y,z.cells.length=1:=λz hz=>by
  rcases ZFx hz with hz | rfl
  ·exact h2 z hz
  ·rw [hyc];rfl
 refine⟨xs,by rw [hlen];exact h1,hm,λz hz=>?_,λi a v ha hv=>?_,by rw [hlen];exact h5,h6,h7⟩
 ·rcases ZFx hz with hz | rfl
  ·exact h3 z hz
  ·cases z with
   | agg cs=>cases hy
   | _=>exact hy
 ·rw [hf _ hm] at ha;by_cases hij:i=j
  ·subst hij;rw [ZHm hjl] at ha;simp only [ZGr,hyc,ZEv,Option.some.injEq] at ha;subst ha;refine hr v (h4 i x v ?_ hv);rw [hf _ h2,hj];simp [hxc]
  ·rw [List.getElem?_set_ne (ZDu hij),←hf _ h2] at ha;exact h4 i a v ha hv
theorem el_mx {c:Cx} {w:World} {imm:Imm} {K:Nat} {sv:Value} {ty:TypeId} {pub j:Nat} {es:List AV} {x y:AV} (h:Mx c m w imm) (hK:m K=some (.row sv ty 1 es pub)) (hj:es[j]?=some x) (hy:y.one=true) (hyc:y.cells=[y]) (hxc:x.cells=[x]) (hr:∀v,Rd w imm x v→Rd w imm y v):Mx c (upd m K (some (.row sv ty 1 (es.set j y) pub))) w imm:=by
 have hb:∀k e',upd m K (some (.row sv ty 1 (es.set j y) pub)) k=some e'→∃e0,m k=some e0∧e'.blk=e0.blk:=λk e' hk=>by
  rw [Zan] at hk;split at hk
  ·subst_vars;cases hk;exact⟨_,hK,rfl⟩
  ·exact⟨e',hk,rfl⟩
 refine⟨⟨λk e' hk=>?_,λk k' e1 e2 b hk hk' h1 h2=>?_,h.ok.lt,h.ok.spot⟩,h.below,h.lt,h.old,h.new,h.cells⟩
 ·rw [Zan] at hk;split at hk
  ·subst_vars;cases hk;exact el_ent (h.ok.ent _ _ hK) hj hy hyc hxc hr
  ·exact h.ok.ent _ _ hk
 ·obtain⟨e3,h3,h4⟩:=hb k e1 hk;obtain⟨e5,h5,h6⟩:=hb k' e2 hk';exact h.ok.apart k k' e3 e5 b h3 h5 (by rw [←h4];exact h1) (by rw [←h6];exact h2)
theorem Frz.elOwn {K k pub pub' mm j:Nat} {svK sv:Value} {ty ty':TypeId} {es el:List AV} (hK:m K=some (.row svK ty 1 es pub)) (hk:m k=some (.row sv ty' mm el pub')) (hj:es[j]?=some (.v sv)):Frz n ⟨e,m⟩ ⟨e,upd m K (some (.row svK ty 1 (es.set j (.own k sv)) pub))⟩:=by
 intro c a w imm h;obtain⟨xs,hx,_⟩:=h.mem.ok.ent k _ hk;refine⟨imm,h.env,h.size,h.defers,el_mx h.mem hK hj rfl rfl rfl λv hv=>?_⟩;cases hv;exact .own k sv (Zru hx)
theorem Frz.elNil {K pub j:Nat} {svK:Value} {ty:TypeId} {es:List AV} (t mm:Nat) (ty':TypeId) (hK:m K=some (.row svK ty 1 es pub)) (ht:t≠K) (hj:es[j]?=some (.v (.slice none 0 0))) :
 Frz n ⟨e,m⟩ ⟨e,upd (upd m t (some (.row (.slice none 0 0) ty' mm [] 0))) K (some (.row svK ty 1 (es.set j (.own t (.slice none 0 0))) pub))⟩:=by
 intro c a w imm h;have hm:Mx c (upd m t (some (.row (.slice none 0 0) ty' mm [] 0))) w imm :=
  (Zdt h.mem (World.grownBy.refl w none) (ZBw _) zs (λ_ _=>rfl) t (.row (.slice none 0 0) ty' mm [] 0) ⟨[],ZG6 w c.B ty' mm,by simp,by simp,by simp [flat],by simp,λad _ h2=>by simp [Value.ownBlock] at h2,λg off h1 _=>by simp [Value.ownBlock] at h1⟩ λj e2 b _ _ _=>⟨by simp,by simp [Ent.blk,Value.ownBlock]⟩).1
 refine⟨imm,h.env,h.size,h.defers,el_mx hm (by rw [Zfw (ZDu ht)];exact hK) hj rfl rfl rfl λv hv=>?_⟩;cases hv;exact .own t _ rfl
theorem Frz.elPub {K k pub pub' mm j:Nat} {svK sv:Value} {ty ty':TypeId} {es el:List AV} (hK:m K=some (.row svK ty 1 es pub)) (hk:m k=some (.row sv ty' mm el pub')) (hne:k≠K) (hj:es[j]?=some (.own k sv)) :
 Frz n ⟨e,m⟩ ⟨e,upd (upd m k (some (.row sv ty' mm el el.length))) K (some (.row svK ty 1 (es.set j (.sl mm el)) pub))⟩:=by
 intro c a w imm h;obtain⟨i,h1,h2⟩:=Zse h.mem k;have em:mark m k=upd m k (some (.row sv ty' mm el el.length)):=by unfold mark;rw [hk];rfl
 have h1:Mx c (mark m k) w i:=h1;rw [em] at h1;refine⟨i,λt=>h2.rs (h.env t),h.size,h.defers,el_mx h1 (by rw [Zfw (ZDu hne)];exact hK) hj rfl rfl rfl λv hv=>?_⟩;cases hv;exact Ztm (k:=k) (e:=ty') (pub:=el.length) h1 (by rw [Zjv]) rfl
theorem Frz.elsPub {K pub mm len d:Nat} {svK:Value} {ty ty':TypeId} (f:Nat→Nat) (S:Nat→Value) (L:Nat→List AV) (hK:m K=some (.row svK ty 1 ((List.range len).map λj=>.own (f j) (S j)) pub)) (hf:∀j,j < len→m (f j)=some (.row (S j) ty' mm (L j) 0)∧f j≠K) (hi:∀i j,i < len→j < len→f i=f j→i=j)
 (he:e d=.own K svK):∃m',Frz n ⟨e,m⟩ ⟨upd e d (.sl 1 ((List.range len).map λj=>.sl mm (L j))),m'⟩:=by
 have key:∀i,i≤len→∃m',Frz n ⟨e,m⟩ ⟨e,m'⟩∧m' K=some (.row svK ty 1 ((List.range len).map λj=>if j < i then .sl mm (L j) else .own (f j) (S j)) pub)∧∀j,i≤j→j < len→m' (f j)=some (.row (S j) ty' mm (L j) 0):=by
  intro i
  induction i with
  | zero =>
    intro _;refine⟨m,.refl _ _,?_,λj _ hj=>(hf j hj).1⟩;rw [hK];simp
  | succ i ih =>
    intro hil;obtain⟨m',h1,h2,h3⟩:=ih zo;have hn:=(hf i zo).2;refine⟨_,h1.trans (Frz.elPub (j:=i) h2 (h3 i (ZBw _) zo) hn (by simp [ZC4,ZEo (show i < len by omega)])),?_,λj hj hjl=>?_⟩
    ·rw [Zjv];congr 2;refine List.ext_getElem? λj=>?_;by_cases hj:j < len
     ·by_cases hij:j=i
      ·subst hij;rw [ZHm (by simp;omega)];simp [ZC4,ZEo hj]
      ·rw [List.getElem?_set_ne (ZDu hij)];simp only [ZC4,ZEo hj,ZC9];have:(j < i)↔(j < i+1):=zo;simp only [this]
     ·rw [ZDh (by simp;omega),ZDh (by simp;omega)]
    ·rw [Zfw (hf j hjl).2,Zfw (λh=>by have:=hi j i hjl zo h;omega)];exact h3 j zo hjl
 obtain⟨m',h1,h2,_⟩:=key len (ZBw _);have e1:((List.range len).map λj=>if j < len then AV.sl mm (L j) else .own (f j) (S j))=(List.range len).map λj=>.sl mm (L j):=ZEg λj hj=>ZBv (List.mem_range.1 hj);rw [e1] at h2;exact⟨_,h1.trans (Frz.own he h2)⟩
end
end Go.Pg
