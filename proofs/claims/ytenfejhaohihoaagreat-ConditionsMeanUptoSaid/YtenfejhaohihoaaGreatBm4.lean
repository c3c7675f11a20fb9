/- Contracts of the functions that the law reaches, and the rules by which they are walked. They say what a call hands back for every input within the bounds that each names; no other condition. -/
import Derived.Test.YtenfejhaohihoaaGreatBm3
import Derived.DataElems
import Derived.DataReads
import Derived.Test.YtenfejhaohihoaaGreatRows
set_option linter.unusedSimpArgs false
set_option linter.unusedVariables false
set_option maxRecDepth 20000
set_option maxHeartbeats 16000000
namespace Go.Pg
open Go Go.RowKit
section
variable {P:Program} {n:Nat} {Q:AE→St→Prop} {st:St} {body:Code}
def unr (P:Program) (n:Nat) (body:Code) (Q:AE→St→Prop):Nat→St→Prop
 | 0,_=>False
 | k+1,st=>Za9 P 0 n body (AE.then (unr P n body Q k) Q) st
theorem r_rounds (k:Nat) (hf:Zbs n body=true) (h:unr P n body Q k st):Za9 P 0 n (.loop body) Q st:=by
 intro c a w imm hr b k' cs;have key:∀k st a w imm,unr P n body Q k st→Rel c n st a w imm →
  ∃e a' w',post c n Q e a' w'∧Arrives P (lone (b.at a (.code body :: .inLoop body :: k')) cs w) b k' cs e a' w':=by
  intro k
  induction k with
  | zero=>exact λst a w imm h _=>h.elim
  | succ k ih =>
    intro st a w imm hI hr;obtain⟨e,a₁,w₁,hq,harr⟩:=Za7 body _ st hf hI c a w imm hr b (.inLoop body :: k') cs;obtain⟨ae,st',imm',rfl,h2,h3⟩:=hq
    cases ae with
    | normal =>
      obtain⟨e₂,a₂,w₂,hq₂,harr₂⟩:=ih st' a₁ w₁ imm' h2 h3;exact⟨e₂,a₂,w₂,hq₂,.of_steps (Steps.trans harr (.one step_inLoop)) harr₂⟩
    | exit id=>exact⟨_,a₁,w₁,⟨.exit id,st',imm',rfl,h2,h3⟩,.pass (x:=.inLoop body) rfl (λ_ _=>.inl (by simp [AE.to])) harr⟩
    | ret=>exact⟨_,a₁,w₁,⟨.ret,st',imm',rfl,h2,h3⟩,.pass (x:=.inLoop body) rfl (λ_ _=>.inl (by simp [AE.to])) harr⟩
 obtain⟨e₁,a',w',hq,harr⟩:=key k st a w imm h hr;exact⟨e₁,a',w',hq,.of_steps (.one step_loop) harr⟩
instance {k:Nat}:Stp (unr P n body Q (k+1) st) (Za9 P 0 n body (AE.then (unr P n body Q k) Q) st):=⟨λh=>h⟩
end
section
variable {P:Program} {all rest:List Oper} {K:St→Prop} {e:Nat→AV} {m:Mem} {dst:Option Nat} {d t j n:Nat} {op:Op} {ty:TypeId} {pos:String} {af:Array Edge} {want:Bool} {Q:AE→St→Prop} {x y:Code} {rs:Nat→AV} {bar:List Nat} {fu k:Nat} {σs:Mem} {b:Bool} {st:St}
theorem Zcw (h1:b=true→OG P all rest dst op ty pos af (.bool true) want K st) (h2:b=false→OG P all rest dst op ty pos af (.bool false) want K st):OG P all rest dst op ty pos af (.bool b) want K st:=by
 cases b
 ·exact h2 rfl
 ·exact h1 rfl
theorem Zd3 (h1:b=true→DG P all rs bar σs fu k d op (.bool true) want K e m) (h2:b=false→DG P all rs bar σs fu k d op (.bool false) want K e m):DG P all rs bar σs fu k d op (.bool b) want K e m:=by
 cases b
 ·exact h2 rfl
 ·exact h1 rfl
theorem Zcy (h1:b=true→CG P n true x y Q st) (h2:b=false→CG P n false x y Q st):CG P n b x y Q st:=by
 cases b
 ·exact h2 rfl
 ·exact h1 rfl
end
end Go.Pg
namespace Go.Pg
open Go Go.RowKit
attribute [-bool_to_prop] Bool.and_eq_decide Bool.or_eq_decide Bool.decide_beq_decide decide_eq_decide
structure Fx (p:Prop):Prop where
 h:p
structure Bdy:Prop
structure Lv (a b:Prop):Prop where
 x:a
 y:b
theorem w_l {a b:Prop} (x:a) (y:b):Lv a b:=⟨x,y⟩
theorem w_a {a b:Prop} (x:a) (y:b):a∧b:=⟨x,y⟩
theorem w_t:True:=trivial
theorem w_1 {p0:Prop} (h0:p0):p0∧True:=⟨h0,trivial⟩
theorem w_2 {p0 p1:Prop} (h0:p0) (h1:p1):p0∧p1∧True:=⟨h0,h1,trivial⟩
theorem w_3 {p0 p1 p2:Prop} (h0:p0) (h1:p1) (h2:p2):p0∧p1∧p2∧True:=⟨h0,h1,h2,trivial⟩
theorem w_4 {p0 p1 p2 p3:Prop} (h0:p0) (h1:p1) (h2:p2) (h3:p3):p0∧p1∧p2∧p3∧True:=⟨h0,h1,h2,h3,trivial⟩
theorem w_5 {p0 p1 p2 p3 p4:Prop} (h0:p0) (h1:p1) (h2:p2) (h3:p3) (h4:p4):p0∧p1∧p2∧p3∧p4∧True:=⟨h0,h1,h2,h3,h4,trivial⟩
theorem w_6 {p0 p1 p2 p3 p4 p5:Prop} (h0:p0) (h1:p1) (h2:p2) (h3:p3) (h4:p4) (h5:p5):p0∧p1∧p2∧p3∧p4∧p5∧True:=⟨h0,h1,h2,h3,h4,h5,trivial⟩
theorem w_7 {p0 p1 p2 p3 p4 p5 p6:Prop} (h0:p0) (h1:p1) (h2:p2) (h3:p3) (h4:p4) (h5:p5) (h6:p6):p0∧p1∧p2∧p3∧p4∧p5∧p6∧True:=⟨h0,h1,h2,h3,h4,h5,h6,trivial⟩
theorem w_8 {p0 p1 p2 p3 p4 p5 p6 p7:Prop} (h0:p0) (h1:p1) (h2:p2) (h3:p3) (h4:p4) (h5:p5) (h6:p6) (h7:p7):p0∧p1∧p2∧p3∧p4∧p5∧p6∧p7∧True:=⟨h0,h1,h2,h3,h4,h5,h6,h7,trivial⟩
theorem w_9 {p0 p1 p2 p3 p4 p5 p6 p7 p8:Prop} (h0:p0) (h1:p1) (h2:p2) (h3:p3) (h4:p4) (h5:p5) (h6:p6) (h7:p7) (h8:p8):p0∧p1∧p2∧p3∧p4∧p5∧p6∧p7∧p8∧True:=⟨h0,h1,h2,h3,h4,h5,h6,h7,h8,trivial⟩
theorem w_10 {p0 p1 p2 p3 p4 p5 p6 p7 p8 p9:Prop} (h0:p0) (h1:p1) (h2:p2) (h3:p3) (h4:p4) (h5:p5) (h6:p6) (h7:p7) (h8:p8) (h9:p9):p0∧p1∧p2∧p3∧p4∧p5∧p6∧p7∧p8∧p9∧True:=⟨h0,h1,h2,h3,h4,h5,h6,h7,h8,h9,trivial⟩
theorem w_11 {p0 p1 p2 p3 p4 p5 p6 p7 p8 p9 p10:Prop} (h0:p0) (h1:p1) (h2:p2) (h3:p3) (h4:p4) (h5:p5) (h6:p6) (h7:p7) (h8:p8) (h9:p9) (h10:p10):p0∧p1∧p2∧p3∧p4∧p5∧p6∧p7∧p8∧p9∧p10∧True:=⟨h0,h1,h2,h3,h4,h5,h6,h7,h8,h9,h10,trivial⟩
theorem w_12 {p0 p1 p2 p3 p4 p5 p6 p7 p8 p9 p10 p11:Prop} (h0:p0) (h1:p1) (h2:p2) (h3:p3) (h4:p4) (h5:p5) (h6:p6) (h7:p7) (h8:p8) (h9:p9) (h10:p10) (h11:p11):p0∧p1∧p2∧p3∧p4∧p5∧p6∧p7∧p8∧p9∧p10∧p11∧True:=⟨h0,h1,h2,h3,h4,h5,h6,h7,h8,h9,h10,h11,trivial⟩
theorem w_13 {p0 p1 p2 p3 p4 p5 p6 p7 p8 p9 p10 p11 p12:Prop} (h0:p0) (h1:p1) (h2:p2) (h3:p3) (h4:p4) (h5:p5) (h6:p6) (h7:p7) (h8:p8) (h9:p9) (h10:p10) (h11:p11) (h12:p12):p0∧p1∧p2∧p3∧p4∧p5∧p6∧p7∧p8∧p9∧p10∧p11∧p12∧True:=⟨h0,h1,h2,h3,h4,h5,h6,h7,h8,h9,h10,h11,h12,trivial⟩
theorem w_14 {p0 p1 p2 p3 p4 p5 p6 p7 p8 p9 p10 p11 p12 p13:Prop} (h0:p0) (h1:p1) (h2:p2) (h3:p3) (h4:p4) (h5:p5) (h6:p6) (h7:p7) (h8:p8) (h9:p9) (h10:p10) (h11:p11) (h12:p12) (h13:p13):p0∧p1∧p2∧p3∧p4∧p5∧p6∧p7∧p8∧p9∧p10∧p11∧p12∧p13∧True:=⟨h0,h1,h2,h3,h4,h5,h6,h7,h8,h9,h10,h11,h12,h13,trivial⟩
theorem w_15 {p0 p1 p2 p3 p4 p5 p6 p7 p8 p9 p10 p11 p12 p13 p14:Prop} (h0:p0) (h1:p1) (h2:p2) (h3:p3) (h4:p4) (h5:p5) (h6:p6) (h7:p7) (h8:p8) (h9:p9) (h10:p10) (h11:p11) (h12:p12) (h13:p13) (h14:p14):p0∧p1∧p2∧p3∧p4∧p5∧p6∧p7∧p8∧p9∧p10∧p11∧p12∧p13∧p14∧True:=⟨h0,h1,h2,h3,h4,h5,h6,h7,h8,h9,h10,h11,h12,h13,h14,trivial⟩
theorem w_16 {p0 p1 p2 p3 p4 p5 p6 p7 p8 p9 p10 p11 p12 p13 p14 p15:Prop} (h0:p0) (h1:p1) (h2:p2) (h3:p3) (h4:p4) (h5:p5) (h6:p6) (h7:p7) (h8:p8) (h9:p9) (h10:p10) (h11:p11) (h12:p12) (h13:p13) (h14:p14) (h15:p15):p0∧p1∧p2∧p3∧p4∧p5∧p6∧p7∧p8∧p9∧p10∧p11∧p12∧p13∧p14∧p15∧True:=⟨h0,h1,h2,h3,h4,h5,h6,h7,h8,h9,h10,h11,h12,h13,h14,h15,trivial⟩
theorem w_17 {p0 p1 p2 p3 p4 p5 p6 p7 p8 p9 p10 p11 p12 p13 p14 p15 p16:Prop} (h0:p0) (h1:p1) (h2:p2) (h3:p3) (h4:p4) (h5:p5) (h6:p6) (h7:p7) (h8:p8) (h9:p9) (h10:p10) (h11:p11) (h12:p12) (h13:p13) (h14:p14) (h15:p15) (h16:p16):p0∧p1∧p2∧p3∧p4∧p5∧p6∧p7∧p8∧p9∧p10∧p11∧p12∧p13∧p14∧p15∧p16∧True:=⟨h0,h1,h2,h3,h4,h5,h6,h7,h8,h9,h10,h11,h12,h13,h14,h15,h16,trivial⟩
theorem w_18 {p0 p1 p2 p3 p4 p5 p6 p7 p8 p9 p10 p11 p12 p13 p14 p15 p16 p17:Prop} (h0:p0) (h1:p1) (h2:p2) (h3:p3) (h4:p4) (h5:p5) (h6:p6) (h7:p7) (h8:p8) (h9:p9) (h10:p10) (h11:p11) (h12:p12) (h13:p13) (h14:p14) (h15:p15) (h16:p16) (h17:p17):p0∧p1∧p2∧p3∧p4∧p5∧p6∧p7∧p8∧p9∧p10∧p11∧p12∧p13∧p14∧p15∧p16∧p17∧True:=⟨h0,h1,h2,h3,h4,h5,h6,h7,h8,h9,h10,h11,h12,h13,h14,h15,h16,h17,trivial⟩
theorem w_19 {p0 p1 p2 p3 p4 p5 p6 p7 p8 p9 p10 p11 p12 p13 p14 p15 p16 p17 p18:Prop} (h0:p0) (h1:p1) (h2:p2) (h3:p3) (h4:p4) (h5:p5) (h6:p6) (h7:p7) (h8:p8) (h9:p9) (h10:p10) (h11:p11) (h12:p12) (h13:p13) (h14:p14) (h15:p15) (h16:p16) (h17:p17) (h18:p18):p0∧p1∧p2∧p3∧p4∧p5∧p6∧p7∧p8∧p9∧p10∧p11∧p12∧p13∧p14∧p15∧p16∧p17∧p18∧True:=⟨h0,h1,h2,h3,h4,h5,h6,h7,h8,h9,h10,h11,h12,h13,h14,h15,h16,h17,h18,trivial⟩
theorem w_21 {p0 p1 p2 p3 p4 p5 p6 p7 p8 p9 p10 p11 p12 p13 p14 p15 p16 p17 p18 p19 p20:Prop} (h0:p0) (h1:p1) (h2:p2) (h3:p3) (h4:p4) (h5:p5) (h6:p6) (h7:p7) (h8:p8) (h9:p9) (h10:p10) (h11:p11) (h12:p12) (h13:p13) (h14:p14) (h15:p15) (h16:p16) (h17:p17) (h18:p18) (h19:p19) (h20:p20):p0∧p1∧p2∧p3∧p4∧p5∧p6∧p7∧p8∧p9∧p10∧p11∧p12∧p13∧p14∧p15∧p16∧p17∧p18∧p19∧p20∧True:=⟨h0,h1,h2,h3,h4,h5,h6,h7,h8,h9,h10,h11,h12,h13,h14,h15,h16,h17,h18,h19,h20,trivial⟩
theorem w_22 {p0 p1 p2 p3 p4 p5 p6 p7 p8 p9 p10 p11 p12 p13 p14 p15 p16 p17 p18 p19 p20 p21:Prop} (h0:p0) (h1:p1) (h2:p2) (h3:p3) (h4:p4) (h5:p5) (h6:p6) (h7:p7) (h8:p8) (h9:p9) (h10:p10) (h11:p11) (h12:p12) (h13:p13) (h14:p14) (h15:p15) (h16:p16) (h17:p17) (h18:p18) (h19:p19) (h20:p20) (h21:p21):p0∧p1∧p2∧p3∧p4∧p5∧p6∧p7∧p8∧p9∧p10∧p11∧p12∧p13∧p14∧p15∧p16∧p17∧p18∧p19∧p20∧p21∧True:=⟨h0,h1,h2,h3,h4,h5,h6,h7,h8,h9,h10,h11,h12,h13,h14,h15,h16,h17,h18,h19,h20,h21,trivial⟩
theorem w_23 {p0 p1 p2 p3 p4 p5 p6 p7 p8 p9 p10 p11 p12 p13 p14 p15 p16 p17 p18 p19 p20 p21 p22:Prop} (h0:p0) (h1:p1) (h2:p2) (h3:p3) (h4:p4) (h5:p5) (h6:p6) (h7:p7) (h8:p8) (h9:p9) (h10:p10) (h11:p11) (h12:p12) (h13:p13) (h14:p14) (h15:p15) (h16:p16) (h17:p17) (h18:p18) (h19:p19) (h20:p20) (h21:p21) (h22:p22):p0∧p1∧p2∧p3∧p4∧p5∧p6∧p7∧p8∧p9∧p10∧p11∧p12∧p13∧p14∧p15∧p16∧p17∧p18∧p19∧p20∧p21∧p22∧True:=⟨h0,h1,h2,h3,h4,h5,h6,h7,h8,h9,h10,h11,h12,h13,h14,h15,h16,h17,h18,h19,h20,h21,h22,trivial⟩
theorem w_24 {p0 p1 p2 p3 p4 p5 p6 p7 p8 p9 p10 p11 p12 p13 p14 p15 p16 p17 p18 p19 p20 p21 p22 p23:Prop} (h0:p0) (h1:p1) (h2:p2) (h3:p3) (h4:p4) (h5:p5) (h6:p6) (h7:p7) (h8:p8) (h9:p9) (h10:p10) (h11:p11) (h12:p12) (h13:p13) (h14:p14) (h15:p15) (h16:p16) (h17:p17) (h18:p18) (h19:p19) (h20:p20) (h21:p21) (h22:p22) (h23:p23):p0∧p1∧p2∧p3∧p4∧p5∧p6∧p7∧p8∧p9∧p10∧p11∧p12∧p13∧p14∧p15∧p16∧p17∧p18∧p19∧p20∧p21∧p22∧p23∧True:=⟨h0,h1,h2,h3,h4,h5,h6,h7,h8,h9,h10,h11,h12,h13,h14,h15,h16,h17,h18,h19,h20,h21,h22,h23,trivial⟩
structure Dw (id:Nat) (rs:Nat→AV) (bar cut:List Nat):Prop
theorem w_d (id:Nat) (l:List (Nat × AV)) (bar cut:List Nat):Dw id (Zdv l) bar cut:=⟨⟩
structure Rn (k:Nat):Prop
theorem w_r (k:Nat):Rn k:=⟨⟩
theorem Zgn {P:Program} {n id:Nat} {Q:AE→St→Prop} {st:St} {l:List Oper} {rs:Nat→AV} {bar cut:List Nat} (u:Dw id rs bar cut) (hm:P.follows .mixedOrders=true) (hf:l.all (Zgp n)=true)
 (hlex:Zow l.toArray bar l.length 0 (Array.replicate l.length false)=true) {N:Nat} (hN:l.length=N) (h:Zbx P 0 l rs bar (cutM cut st.mem) N 0 (Q .normal) st):Za9 P 0 n (.region id l.toArray true) Q st:=Zbo rs bar cut hm hf hlex hN h
structure Dft:Prop
theorem w_y:Dft:=⟨⟩
theorem r_drawE {P:Program} {n id:Nat} {Q:AE→St→Prop} {st:St} {l:List Oper} (u:Dft) (hm:P.follows .mixedOrders=true) (hf:l.all (Zgp n)=true)
 (hlex:Zow l.toArray [] l.length 0 (Array.replicate l.length false)=true) {N:Nat} (hN:l.length=N) (h:Zbx P 0 l (Zdv []) [] (cutM [] st.mem) N 0 (Q .normal) st):Za9 P 0 n (.region id l.toArray true) Q st:=Zbo (Zdv []) [] [] hm hf hlex hN h
theorem Zkc {P:Program} {n k:Nat} {Q:AE→St→Prop} {st:St} {body:Code} (u:Rn (k+1)) (hf:Zbs n body=true) (h:unr P n body Q (k+1) st):Za9 P 0 n (.loop body) Q st:=r_rounds (k+1) hf h
structure Sl (r:Prop):Prop
theorem sl0:Sl True:=⟨⟩
theorem sl1 {r:Prop}:Sl r:=⟨⟩
theorem Zbv {α β:Type} {f:α→β} {l:List α}:(l.map f).length=l.length:=Zx9 ..
theorem l_app {α:Type} {l k:List α}:(l++k).length=l.length+k.length:=Zy0
theorem Zsk {α:Type} {i:Nat} {l:List α}:(l.take i).length=min i l.length:=Zyp
theorem l_drop {α:Type} {i:Nat} {l:List α}:(l.drop i).length=l.length - i:=Zzx
theorem Zf9 {α:Type} {l:List α}:l.drop 0=l:=rfl
theorem l_set {α:Type} {l:List α} {i:Nat} {a:α}:(l.set i a).length=l.length:=List.length_set ..
theorem wkap {F C p R0 R1 R2 R3 R4 R5 R6 R7 R8 R9 R10 R11:Prop} {nr:Nat} (hfx:F) (hcx:C) (hnx:Rn nr) (r:Lv R0 (Lv R1 (Lv R2 (Lv R3 (Lv R4 (Lv R5 (Lv R6 (Lv R7 (Lv R8 (Lv R9 (Lv R10 R11)))))))))))
 (h:Fx F→Fx C→Rn nr→Fx R0→Fx R1→Fx R2→Fx R3→Fx R4→Fx R5→Fx R6→Fx R7→Fx R8→Fx R9→Fx R10→Fx R11→Bdy→p∧Sl R0∧Sl R1∧Sl R2∧Sl R3∧Sl R4∧Sl R5∧Sl R6∧Sl R7∧Sl R8∧Sl R9∧Sl R10∧Sl R11:=by
  intro hF hC hN h0 h1 h2 h3 h4 h5 h6 h7 h8 h9 h10 h11 _;refine⟨?_,?_⟩
  focus
   (repeat' (first|(with_reducible first|refine stp ?_|apply gx1|apply gx2|apply gx3|apply gx4|apply gx5|apply gx6|apply gx7|refine gw0 hC.h.1 ?_ ?_|refine gw0 hC.h.2.1 ?_ ?_|refine gw0 hC.h.2.2.1 ?_ ?_|refine gw0 hC.h.2.2.2.1 ?_ ?_|refine gw0 hC.h.2.2.2.2.1 ?_ ?_)|(with_reducible refine Zcv ?_;intro _)|((with_reducible refine gE ?_);(try simp (disch:=omega) only [go_sem,hF.h,Zx8,Zx6,Zx5,Zx4,Int.reduceAdd,Int.reduceSub,Int.reduceToNat,Zyh])<;>first|rfl|omega)|with_reducible refine Zag zd ?_|((with_reducible first|apply Zcw|apply Zcy);all_goals (intro hc;(try simp only [bool_to_prop] at hc);first|done|(exfalso;omega)|(revert hc;intro _)))|((with_reducible apply Zkc hN);(focus rfl))))
   (all_goals repeat' (rename_i zz;first|(have zb:Bdy:=zz;first|exact h0.h|exact h1.h|exact h2.h|exact h3.h|exact h4.h|exact h5.h|exact h6.h|exact h7.h|exact h8.h|exact h9.h|exact h10.h|exact h11.h)|revert zz))
  (repeat' first|refine⟨?_,?_⟩|exact sl0|exact sl1)):p :=
 (h ⟨hfx⟩ ⟨hcx⟩ hnx ⟨r.x⟩ ⟨r.y.x⟩ ⟨r.y.y.x⟩ ⟨r.y.y.y.x⟩ ⟨r.y.y.y.y.x⟩ ⟨r.y.y.y.y.y.x⟩ ⟨r.y.y.y.y.y.y.x⟩ ⟨r.y.y.y.y.y.y.y.x⟩ ⟨r.y.y.y.y.y.y.y.y.x⟩ ⟨r.y.y.y.y.y.y.y.y.y.x⟩ ⟨r.y.y.y.y.y.y.y.y.y.y.x⟩ ⟨r.y.y.y.y.y.y.y.y.y.y.y⟩ ⟨⟩).1
theorem wkad {F C D p R0 R1 R2 R3 R4 R5 R6 R7 R8 R9 R10 R11:Prop} (hfx:F) (hcx:C) (hdx:D) (r:Lv R0 (Lv R1 (Lv R2 (Lv R3 (Lv R4 (Lv R5 (Lv R6 (Lv R7 (Lv R8 (Lv R9 (Lv R10 R11)))))))))))
 (h:Fx F→Fx C→Fx D→Fx R0→Fx R1→Fx R2→Fx R3→Fx R4→Fx R5→Fx R6→Fx R7→Fx R8→Fx R9→Fx R10→Fx R11→Bdy→p∧Sl R0∧Sl R1∧Sl R2∧Sl R3∧Sl R4∧Sl R5∧Sl R6∧Sl R7∧Sl R8∧Sl R9∧Sl R10∧Sl R11:=by
  intro hF hC hD h0 h1 h2 h3 h4 h5 h6 h7 h8 h9 h10 h11 _;refine⟨?_,?_⟩
  focus
   (repeat' (first|(with_reducible first|refine stp ?_|apply gx1|apply gx2|apply gx3|apply gx4|apply gx5|apply gx6|apply gx7|apply gy8|apply gz2|apply gz3|refine gw0 hC.h.1 ?_ ?_|refine gw3 hC.h.1 ?_ ?_ ?_|refine gw0 hC.h.2.1 ?_ ?_|refine gw3 hC.h.2.1 ?_ ?_ ?_|refine gw0 hC.h.2.2.1 ?_ ?_|refine gw3 hC.h.2.2.1 ?_ ?_ ?_|refine gw0 hC.h.2.2.2.1 ?_ ?_|refine gw3 hC.h.2.2.2.1 ?_ ?_ ?_|refine gw0 hC.h.2.2.2.2.1 ?_ ?_|refine gw3 hC.h.2.2.2.2.1 ?_ ?_ ?_|refine gw0 hC.h.2.2.2.2.2.1 ?_ ?_|refine gw3 hC.h.2.2.2.2.2.1 ?_ ?_ ?_|refine gw0 hC.h.2.2.2.2.2.2.1 ?_ ?_|refine gw3 hC.h.2.2.2.2.2.2.1 ?_ ?_ ?_|refine gw0 hC.h.2.2.2.2.2.2.2.1 ?_ ?_|refine gw3 hC.h.2.2.2.2.2.2.2.1 ?_ ?_ ?_|refine gw0 hC.h.2.2.2.2.2.2.2.2.1 ?_ ?_|refine gw3 hC.h.2.2.2.2.2.2.2.2.1 ?_ ?_ ?_)|(with_reducible refine Zcv ?_;intro _)|((with_reducible refine gE ?_);(try simp (disch:=omega) only [go_sem,hF.h,Zx8,Zx6,Zx5,Zx4,Int.reduceAdd,Int.reduceSub,Int.reduceToNat,Zyh])<;>first|rfl|omega)|with_reducible refine Zag zd ?_|((with_reducible apply gy1);iterate 3 focus rfl)|((with_reducible apply gy2);iterate 3 focus rfl)|((with_reducible apply gy3);iterate 2 focus rfl)|((with_reducible apply gy4);iterate 1 focus rfl)|((with_reducible apply gy5);iterate 4 focus rfl)|((with_reducible apply gy5c);iterate 4 focus rfl)|((with_reducible apply gy6);iterate 4 focus rfl)|((with_reducible apply Zgz);iterate 3 focus rfl)|((with_reducible apply Zgo);iterate 1 focus rfl)|((with_reducible apply gy7);iterate 1 focus rfl)|((with_reducible apply gy9);(focus ((with_reducible refine gE ?_);(try simp (disch:=omega) only [go_sem,hF.h,Zx8,Zx6,Zx5,Zx4,Int.reduceAdd,Int.reduceSub,Int.reduceToNat,Zyh])<;>rfl)))|((with_reducible apply gz1);(focus first|rfl|(simp (disch:=omega) only [go_sem,hF.h,Zx8,Zx6,Zx5,Zx4,Int.reduceAdd,Int.reduceSub,Int.reduceToNat,Zyh];done)))|((with_reducible apply Zgn hD.h.1);(focus kernel_rfl);(focus rfl);(focus kernel_rfl);(focus (simp only [Zyk,Zym,Nat.reduceAdd];rfl)))|((with_reducible apply Zgn hD.h.2.1);(focus kernel_rfl);(focus rfl);(focus kernel_rfl);(focus (simp only [Zyk,Zym,Nat.reduceAdd];rfl)))|((with_reducible apply Zbo (Zdv []) [] []);(focus kernel_rfl);(focus rfl);(focus kernel_rfl);(focus (simp only [Zyk,Zym,Nat.reduceAdd];rfl)))|((with_reducible first|apply Zcw|apply Zd3|apply Zcy);all_goals (intro hc;(try simp only [bool_to_prop] at hc);first|done|(exfalso;omega)|(revert hc;intro _)))))
   (all_goals repeat' (rename_i zz;first|(have zb:Bdy:=zz;first|exact h0.h|exact h1.h|exact h2.h|exact h3.h|exact h4.h|exact h5.h|exact h6.h|exact h7.h|exact h8.h|exact h9.h|exact h10.h|exact h11.h)|revert zz))
  (repeat' first|refine⟨?_,?_⟩|exact sl0|exact sl1)):p :=
 (h ⟨hfx⟩ ⟨hcx⟩ ⟨hdx⟩ ⟨r.x⟩ ⟨r.y.x⟩ ⟨r.y.y.x⟩ ⟨r.y.y.y.x⟩ ⟨r.y.y.y.y.x⟩ ⟨r.y.y.y.y.y.x⟩ ⟨r.y.y.y.y.y.y.x⟩ ⟨r.y.y.y.y.y.y.y.x⟩ ⟨r.y.y.y.y.y.y.y.y.x⟩ ⟨r.y.y.y.y.y.y.y.y.y.x⟩ ⟨r.y.y.y.y.y.y.y.y.y.y.x⟩ ⟨r.y.y.y.y.y.y.y.y.y.y.y⟩ ⟨⟩).1
theorem wkax {F C D B S Rd E p R0 R1 R2 R3 R4 R5 R6 R7 R8 R9 R10 R11:Prop} {nr:Nat} (hfx:F) (hcx:C) (hdx:D) (hbx:B) (hsx:S) (hrx:Rd) (hex:E) (hnx:Rn nr) (r:Lv R0 (Lv R1 (Lv R2 (Lv R3 (Lv R4 (Lv R5 (Lv R6 (Lv R7 (Lv R8 (Lv R9 (Lv R10 R11)))))))))))
 (h:Fx F→Fx C→Fx D→Fx B→Fx S→Fx Rd→Fx E→Rn nr→Fx R0→Fx R1→Fx R2→Fx R3→Fx R4→Fx R5→Fx R6→Fx R7→Fx R8→Fx R9→Fx R10→Fx R11→Bdy→p∧Sl R0∧Sl R1∧Sl R2∧Sl R3∧Sl R4∧Sl R5∧Sl R6∧Sl R7∧Sl R8∧Sl R9∧Sl R10∧Sl R11:=by
  intro hF hC hD hB hS hR hE hN h0 h1 h2 h3 h4 h5 h6 h7 h8 h9 h10 h11 _;refine⟨?_,?_⟩
  focus
   (repeat' (first|(with_reducible first|refine stp ?_|apply gx1|apply gx2|apply gx3|apply gx4|apply gx5|apply gx6|apply gx7|apply gy8|apply gz2|apply gz3|refine gw0 hC.h.1 ?_ ?_|refine gw3 hC.h.1 ?_ ?_ ?_|refine gw0 hC.h.2.1 ?_ ?_|refine gw3 hC.h.2.1 ?_ ?_ ?_|refine gw0 hC.h.2.2.1 ?_ ?_|refine gw3 hC.h.2.2.1 ?_ ?_ ?_|refine gw0 hC.h.2.2.2.1 ?_ ?_|refine gw3 hC.h.2.2.2.1 ?_ ?_ ?_|refine gw0 hC.h.2.2.2.2.1 ?_ ?_|refine gw3 hC.h.2.2.2.2.1 ?_ ?_ ?_|refine gw0 hC.h.2.2.2.2.2.1 ?_ ?_|refine gw3 hC.h.2.2.2.2.2.1 ?_ ?_ ?_|refine gw0 hC.h.2.2.2.2.2.2.1 ?_ ?_|refine gw3 hC.h.2.2.2.2.2.2.1 ?_ ?_ ?_|refine gw0 hC.h.2.2.2.2.2.2.2.1 ?_ ?_|refine gw3 hC.h.2.2.2.2.2.2.2.1 ?_ ?_ ?_|refine gw0 hC.h.2.2.2.2.2.2.2.2.1 ?_ ?_|refine gw3 hC.h.2.2.2.2.2.2.2.2.1 ?_ ?_ ?_|refine gw0 hC.h.2.2.2.2.2.2.2.2.2.1 ?_ ?_|refine gw3 hC.h.2.2.2.2.2.2.2.2.2.1 ?_ ?_ ?_|refine gw0 hC.h.2.2.2.2.2.2.2.2.2.2.1 ?_ ?_|refine gw3 hC.h.2.2.2.2.2.2.2.2.2.2.1 ?_ ?_ ?_|refine gw0 hC.h.2.2.2.2.2.2.2.2.2.2.2.1 ?_ ?_|refine gw3 hC.h.2.2.2.2.2.2.2.2.2.2.2.1 ?_ ?_ ?_|apply gw1 hB.h.1|apply gw1 hB.h.2.1|apply gw1 hB.h.2.2.1|refine gwr hR.h.1 ?_ ?_|refine gwr hR.h.2.1 ?_ ?_|refine gwr hR.h.2.2.1 ?_ ?_|refine gwr hR.h.2.2.2.1 ?_ ?_)|((with_reducible apply gw1 hS.h.2.2.2.2.2.2.2.1);iterate 4 focus ((with_reducible refine gE ?_);(try simp (disch:=omega) only [go_sem,hF.h,Zx8,Zx6,Zx5,Zx4,Int.reduceAdd,Int.reduceSub,Int.reduceToNat,Zyh])<;>first|rfl|done))|((with_reducible apply gw1 hS.h.2.2.2.2.2.2.1);iterate 4 focus ((with_reducible refine gE ?_);(try simp (disch:=omega) only [go_sem,hF.h,Zx8,Zx6,Zx5,Zx4,Int.reduceAdd,Int.reduceSub,Int.reduceToNat,Zyh])<;>first|rfl|done))|((with_reducible apply gw1 hS.h.2.2.2.2.2.1);iterate 4 focus ((with_reducible refine gE ?_);(try simp (disch:=omega) only [go_sem,hF.h,Zx8,Zx6,Zx5,Zx4,Int.reduceAdd,Int.reduceSub,Int.reduceToNat,Zyh])<;>first|rfl|done))|((with_reducible apply gw1 hS.h.2.2.2.2.1);iterate 4 focus ((with_reducible refine gE ?_);(try simp (disch:=omega) only [go_sem,hF.h,Zx8,Zx6,Zx5,Zx4,Int.reduceAdd,Int.reduceSub,Int.reduceToNat,Zyh])<;>first|rfl|done))|((with_reducible apply gw1 hS.h.2.2.2.1);iterate 4 focus ((with_reducible refine gE ?_);(try simp (disch:=omega) only [go_sem,hF.h,Zx8,Zx6,Zx5,Zx4,Int.reduceAdd,Int.reduceSub,Int.reduceToNat,Zyh])<;>first|rfl|done))|((with_reducible apply gw1 hS.h.2.2.1);iterate 4 focus ((with_reducible refine gE ?_);(try simp (disch:=omega) only [go_sem,hF.h,Zx8,Zx6,Zx5,Zx4,Int.reduceAdd,Int.reduceSub,Int.reduceToNat,Zyh])<;>first|rfl|done))|((with_reducible apply gw1 hS.h.2.1);iterate 4 focus ((with_reducible refine gE ?_);(try simp (disch:=omega) only [go_sem,hF.h,Zx8,Zx6,Zx5,Zx4,Int.reduceAdd,Int.reduceSub,Int.reduceToNat,Zyh])<;>first|rfl|done))|((with_reducible apply gw1 hS.h.1);iterate 4 focus ((with_reducible refine gE ?_);(try simp (disch:=omega) only [go_sem,hF.h,Zx8,Zx6,Zx5,Zx4,Int.reduceAdd,Int.reduceSub,Int.reduceToNat,Zyh])<;>first|rfl|done))|((with_reducible apply gyr hR.h.2.2.2.1);(focus rfl);(focus rfl);iterate 3 focus ((with_reducible refine gE ?_);(try simp (disch:=omega) only [go_sem,hF.h,Zx8,Zx6,Zx5,Zx4,Int.reduceAdd,Int.reduceSub,Int.reduceToNat,Zyh])<;>first|rfl|done))|((with_reducible apply gyr hR.h.2.2.1);(focus rfl);(focus rfl);iterate 3 focus ((with_reducible refine gE ?_);(try simp (disch:=omega) only [go_sem,hF.h,Zx8,Zx6,Zx5,Zx4,Int.reduceAdd,Int.reduceSub,Int.reduceToNat,Zyh])<;>first|rfl|done))|((with_reducible apply gyr hR.h.2.1);(focus rfl);(focus rfl);iterate 3 focus ((with_reducible refine gE ?_);(try simp (disch:=omega) only [go_sem,hF.h,Zx8,Zx6,Zx5,Zx4,Int.reduceAdd,Int.reduceSub,Int.reduceToNat,Zyh])<;>first|rfl|done))|((with_reducible apply gyr hR.h.1);(focus rfl);(focus rfl);iterate 3 focus ((with_reducible refine gE ?_);(try simp (disch:=omega) only [go_sem,hF.h,Zx8,Zx6,Zx5,Zx4,Int.reduceAdd,Int.reduceSub,Int.reduceToNat,Zyh])<;>first|rfl|done))|(with_reducible refine Zcv ?_;intro _)|((with_reducible refine gE ?_);(try simp (disch:=omega) only [go_sem,hF.h,Zx8,Zx6,Zx5,Zx4,Int.reduceAdd,Int.reduceSub,Int.reduceToNat,Zyh])<;>first|rfl|omega)|with_reducible refine Zag zd ?_|((with_reducible apply gy1);iterate 3 focus rfl)|((with_reducible apply gy2);iterate 3 focus rfl)|((with_reducible apply gy3);iterate 2 focus rfl)|((with_reducible apply gy4);iterate 1 focus rfl)|((with_reducible apply gy5);iterate 4 focus rfl)|((with_reducible apply gy5c);iterate 4 focus rfl)|((with_reducible apply gy6);iterate 4 focus rfl)|((with_reducible apply Zgz);iterate 3 focus rfl)|((with_reducible apply Zgo);iterate 1 focus rfl)|((with_reducible apply gy7);iterate 1 focus rfl)|((with_reducible apply gy9);(focus ((with_reducible refine gE ?_);(try simp (disch:=omega) only [go_sem,hF.h,Zx8,Zx6,Zx5,Zx4,Int.reduceAdd,Int.reduceSub,Int.reduceToNat,Zyh])<;>rfl)))|((with_reducible apply gz1);(focus first|rfl|(simp (disch:=omega) only [go_sem,hF.h,Zx8,Zx6,Zx5,Zx4,Int.reduceAdd,Int.reduceSub,Int.reduceToNat,Zyh];done)))|((with_reducible apply Zgn hD.h.1);(focus kernel_rfl);(focus rfl);(focus kernel_rfl);(focus (simp only [Zyk,Zym,Nat.reduceAdd];rfl)))|((with_reducible apply Zgn hD.h.2.1);(focus kernel_rfl);(focus rfl);(focus kernel_rfl);(focus (simp only [Zyk,Zym,Nat.reduceAdd];rfl)))|((with_reducible apply Zgn hD.h.2.2.1);(focus kernel_rfl);(focus rfl);(focus kernel_rfl);(focus (simp only [Zyk,Zym,Nat.reduceAdd];rfl)))|((with_reducible apply Zgn hD.h.2.2.2.1);(focus kernel_rfl);(focus rfl);(focus kernel_rfl);(focus (simp only [Zyk,Zym,Nat.reduceAdd];rfl)))|((with_reducible apply r_drawE hE.h);(focus kernel_rfl);(focus rfl);(focus kernel_rfl);(focus (simp only [Zyk,Zym,Nat.reduceAdd];rfl)))|((with_reducible first|apply Zcw|apply Zd3|apply Zcy);all_goals (intro hc;(try simp only [bool_to_prop] at hc);first|done|(exfalso;omega)|(revert hc;intro _)))|((with_reducible apply Zkc hN);(focus rfl))|((with_reducible apply gy5d);iterate 4 focus rfl)))
   (all_goals repeat' (rename_i zz;first|(have zb:Bdy:=zz;first|exact h0.h|exact h1.h|exact h2.h|exact h3.h|exact h4.h|exact h5.h|exact h6.h|exact h7.h|exact h8.h|exact h9.h|exact h10.h|exact h11.h)|revert zz))
  (repeat' first|refine⟨?_,?_⟩|exact sl0|exact sl1)):p :=
 (h ⟨hfx⟩ ⟨hcx⟩ ⟨hdx⟩ ⟨hbx⟩ ⟨hsx⟩ ⟨hrx⟩ ⟨hex⟩ hnx ⟨r.x⟩ ⟨r.y.x⟩ ⟨r.y.y.x⟩ ⟨r.y.y.y.x⟩ ⟨r.y.y.y.y.x⟩ ⟨r.y.y.y.y.y.x⟩ ⟨r.y.y.y.y.y.y.x⟩ ⟨r.y.y.y.y.y.y.y.x⟩ ⟨r.y.y.y.y.y.y.y.y.x⟩ ⟨r.y.y.y.y.y.y.y.y.y.x⟩ ⟨r.y.y.y.y.y.y.y.y.y.y.x⟩ ⟨r.y.y.y.y.y.y.y.y.y.y.y⟩ ⟨⟩).1
theorem wklp {F C L p R0 R1 R2 R3 R4 R5 R6 R7 R8 R9 R10 R11:Prop} {nr:Nat} (hfx:F) (hcx:C) (hlx:L) (hnx:Rn nr) (r:Lv R0 (Lv R1 (Lv R2 (Lv R3 (Lv R4 (Lv R5 (Lv R6 (Lv R7 (Lv R8 (Lv R9 (Lv R10 R11)))))))))))
 (h:Fx F→Fx C→Fx L→Rn nr→Fx R0→Fx R1→Fx R2→Fx R3→Fx R4→Fx R5→Fx R6→Fx R7→Fx R8→Fx R9→Fx R10→Fx R11→Bdy→p∧Sl R0∧Sl R1∧Sl R2∧Sl R3∧Sl R4∧Sl R5∧Sl R6∧Sl R7∧Sl R8∧Sl R9∧Sl R10∧Sl R11:=by
  intro hF hC hL hN h0 h1 h2 h3 h4 h5 h6 h7 h8 h9 h10 h11 _;refine⟨?_,?_⟩
  focus
   (repeat' (first|(with_reducible first|refine stp ?_|apply gx1|apply gx2|apply gx3|apply gx4|apply gx5|apply gx6|apply gx7|refine gw0 hC.h.1 ?_ ?_|refine gw0 hC.h.2.1 ?_ ?_|refine gw0 hC.h.2.2.1 ?_ ?_|refine gw0 hC.h.2.2.2.1 ?_ ?_|refine gw0 hC.h.2.2.2.2.1 ?_ ?_)|(with_reducible refine Zcv ?_;intro _)|((with_reducible refine gE ?_);(try simp (disch:=omega) only [go_sem,hF.h,Zx8,Zx6,Zx5,Zx4,Int.reduceAdd,Int.reduceSub,Int.reduceToNat,Zyh])<;>first|rfl|omega)|with_reducible refine Zag zd ?_|((with_reducible first|apply Zcw|apply Zcy);all_goals (intro hc;(try simp only [bool_to_prop] at hc);first|done|(exfalso;omega)|(revert hc;intro _)))|((with_reducible apply Zkc hN);(focus rfl))))
   (all_goals (try simp (disch:=omega) only [go_sem,hL.h,Zx8,Zx6,Zx5,Zx4,Int.reduceAdd,Int.reduceSub,Int.reduceToNat,Zyh]));(all_goals first|done|rfl|(congr 2;first|done|omega|(rw [Zyn];simp only [bool_to_prop,Zyj,Zyw,Zyx,Zyy,Zyz];omega))|skip)
   (all_goals repeat' (rename_i zz;first|(have zb:Bdy:=zz;first|exact h0.h|exact h1.h|exact h2.h|exact h3.h|exact h4.h|exact h5.h|exact h6.h|exact h7.h|exact h8.h|exact h9.h|exact h10.h|exact h11.h)|revert zz))
  (repeat' first|refine⟨?_,?_⟩|exact sl0|exact sl1)):p :=
 (h ⟨hfx⟩ ⟨hcx⟩ ⟨hlx⟩ hnx ⟨r.x⟩ ⟨r.y.x⟩ ⟨r.y.y.x⟩ ⟨r.y.y.y.x⟩ ⟨r.y.y.y.y.x⟩ ⟨r.y.y.y.y.y.x⟩ ⟨r.y.y.y.y.y.y.x⟩ ⟨r.y.y.y.y.y.y.y.x⟩ ⟨r.y.y.y.y.y.y.y.y.x⟩ ⟨r.y.y.y.y.y.y.y.y.y.x⟩ ⟨r.y.y.y.y.y.y.y.y.y.y.x⟩ ⟨r.y.y.y.y.y.y.y.y.y.y.y⟩ ⟨⟩).1
theorem wkld {F C L D p R0 R1 R2 R3 R4 R5 R6 R7 R8 R9 R10 R11:Prop} (hfx:F) (hcx:C) (hlx:L) (hdx:D) (r:Lv R0 (Lv R1 (Lv R2 (Lv R3 (Lv R4 (Lv R5 (Lv R6 (Lv R7 (Lv R8 (Lv R9 (Lv R10 R11)))))))))))
 (h:Fx F→Fx C→Fx L→Fx D→Fx R0→Fx R1→Fx R2→Fx R3→Fx R4→Fx R5→Fx R6→Fx R7→Fx R8→Fx R9→Fx R10→Fx R11→Bdy→p∧Sl R0∧Sl R1∧Sl R2∧Sl R3∧Sl R4∧Sl R5∧Sl R6∧Sl R7∧Sl R8∧Sl R9∧Sl R10∧Sl R11:=by
  intro hF hC hL hD h0 h1 h2 h3 h4 h5 h6 h7 h8 h9 h10 h11 _;refine⟨?_,?_⟩
  focus
   (repeat' (first|(with_reducible first|refine stp ?_|apply gx1|apply gx2|apply gx3|apply gx4|apply gx5|apply gx6|apply gx7|apply gy8|apply gz2|apply gz3|refine gw0 hC.h.1 ?_ ?_|refine gw3 hC.h.1 ?_ ?_ ?_|refine gw0 hC.h.2.1 ?_ ?_|refine gw3 hC.h.2.1 ?_ ?_ ?_|refine gw0 hC.h.2.2.1 ?_ ?_|refine gw3 hC.h.2.2.1 ?_ ?_ ?_|refine gw0 hC.h.2.2.2.1 ?_ ?_|refine gw3 hC.h.2.2.2.1 ?_ ?_ ?_|refine gw0 hC.h.2.2.2.2.1 ?_ ?_|refine gw3 hC.h.2.2.2.2.1 ?_ ?_ ?_|refine gw0 hC.h.2.2.2.2.2.1 ?_ ?_|refine gw3 hC.h.2.2.2.2.2.1 ?_ ?_ ?_|refine gw0 hC.h.2.2.2.2.2.2.1 ?_ ?_|refine gw3 hC.h.2.2.2.2.2.2.1 ?_ ?_ ?_|refine gw0 hC.h.2.2.2.2.2.2.2.1 ?_ ?_|refine gw3 hC.h.2.2.2.2.2.2.2.1 ?_ ?_ ?_|refine gw0 hC.h.2.2.2.2.2.2.2.2.1 ?_ ?_|refine gw3 hC.h.2.2.2.2.2.2.2.2.1 ?_ ?_ ?_)|(with_reducible refine Zcv ?_;intro _)|((with_reducible refine gE ?_);(try simp (disch:=omega) only [go_sem,hF.h,Zx8,Zx6,Zx5,Zx4,Int.reduceAdd,Int.reduceSub,Int.reduceToNat,Zyh])<;>first|rfl|omega)|with_reducible refine Zag zd ?_|((with_reducible apply gy1);iterate 3 focus rfl)|((with_reducible apply gy2);iterate 3 focus rfl)|((with_reducible apply gy3);iterate 2 focus rfl)|((with_reducible apply gy4);iterate 1 focus rfl)|((with_reducible apply gy5);iterate 4 focus rfl)|((with_reducible apply gy5c);iterate 4 focus rfl)|((with_reducible apply gy6);iterate 4 focus rfl)|((with_reducible apply Zgz);iterate 3 focus rfl)|((with_reducible apply Zgo);iterate 1 focus rfl)|((with_reducible apply gy7);iterate 1 focus rfl)|((with_reducible apply gy9);(focus ((with_reducible refine gE ?_);(try simp (disch:=omega) only [go_sem,hF.h,Zx8,Zx6,Zx5,Zx4,Int.reduceAdd,Int.reduceSub,Int.reduceToNat,Zyh])<;>rfl)))|((with_reducible apply gz1);(focus first|rfl|(simp (disch:=omega) only [go_sem,hF.h,Zx8,Zx6,Zx5,Zx4,Int.reduceAdd,Int.reduceSub,Int.reduceToNat,Zyh];done)))|((with_reducible apply Zgn hD.h.1);(focus kernel_rfl);(focus rfl);(focus kernel_rfl);(focus (simp only [Zyk,Zym,Nat.reduceAdd];rfl)))|((with_reducible apply Zgn hD.h.2.1);(focus kernel_rfl);(focus rfl);(focus kernel_rfl);(focus (simp only [Zyk,Zym,Nat.reduceAdd];rfl)))|((with_reducible apply Zbo (Zdv []) [] []);(focus kernel_rfl);(focus rfl);(focus kernel_rfl);(focus (simp only [Zyk,Zym,Nat.reduceAdd];rfl)))|((with_reducible first|apply Zcw|apply Zd3|apply Zcy);all_goals (intro hc;(try simp only [bool_to_prop] at hc);first|done|(exfalso;omega)|(revert hc;intro _)))))
   (all_goals (try simp (disch:=omega) only [go_sem,hL.h,Zx8,Zx6,Zx5,Zx4,Int.reduceAdd,Int.reduceSub,Int.reduceToNat,Zyh]));(all_goals first|done|rfl|(congr 2;first|done|omega|(rw [Zyn];simp only [bool_to_prop,Zyj,Zyw,Zyx,Zyy,Zyz];omega))|skip)
   (all_goals repeat' (rename_i zz;first|(have zb:Bdy:=zz;first|exact h0.h|exact h1.h|exact h2.h|exact h3.h|exact h4.h|exact h5.h|exact h6.h|exact h7.h|exact h8.h|exact h9.h|exact h10.h|exact h11.h)|revert zz))
  (repeat' first|refine⟨?_,?_⟩|exact sl0|exact sl1)):p :=
 (h ⟨hfx⟩ ⟨hcx⟩ ⟨hlx⟩ ⟨hdx⟩ ⟨r.x⟩ ⟨r.y.x⟩ ⟨r.y.y.x⟩ ⟨r.y.y.y.x⟩ ⟨r.y.y.y.y.x⟩ ⟨r.y.y.y.y.y.x⟩ ⟨r.y.y.y.y.y.y.x⟩ ⟨r.y.y.y.y.y.y.y.x⟩ ⟨r.y.y.y.y.y.y.y.y.x⟩ ⟨r.y.y.y.y.y.y.y.y.y.x⟩ ⟨r.y.y.y.y.y.y.y.y.y.y.x⟩ ⟨r.y.y.y.y.y.y.y.y.y.y.y⟩ ⟨⟩).1
theorem wkvp {F C p R0 R1 R2 R3 R4 R5 R6 R7 R8 R9 R10 R11:Prop} (hfx:F) (hcx:C) (r:Lv R0 (Lv R1 (Lv R2 (Lv R3 (Lv R4 (Lv R5 (Lv R6 (Lv R7 (Lv R8 (Lv R9 (Lv R10 R11)))))))))))
 (h:Fx F→Fx C→Fx R0→Fx R1→Fx R2→Fx R3→Fx R4→Fx R5→Fx R6→Fx R7→Fx R8→Fx R9→Fx R10→Fx R11→Bdy→p∧Sl R0∧Sl R1∧Sl R2∧Sl R3∧Sl R4∧Sl R5∧Sl R6∧Sl R7∧Sl R8∧Sl R9∧Sl R10∧Sl R11:=by
  intro hF hC h0 h1 h2 h3 h4 h5 h6 h7 h8 h9 h10 h11 _;refine⟨?_,?_⟩
  focus
   (repeat' (first|(with_reducible first|refine stp ?_|apply gx1|apply gx2|apply gx3|apply gx4|apply gx5|apply gx6|apply gx7|refine gw0 hC.h.1 ?_ ?_|refine gw0 hC.h.2.1 ?_ ?_|refine gw0 hC.h.2.2.1 ?_ ?_|refine gw0 hC.h.2.2.2.1 ?_ ?_|refine gw0 hC.h.2.2.2.2.1 ?_ ?_)|(with_reducible refine Zcv ?_;intro _)|((with_reducible refine gE ?_);(try simp (disch:=omega) only [go_sem,hF.h])<;>first|rfl|omega)|with_reducible refine Zag zd ?_))
   (all_goals repeat' (rename_i zz;first|(have zb:Bdy:=zz;first|exact h0.h|exact h1.h|exact h2.h|exact h3.h|exact h4.h|exact h5.h|exact h6.h|exact h7.h|exact h8.h|exact h9.h|exact h10.h|exact h11.h)|revert zz))
  (repeat' first|refine⟨?_,?_⟩|exact sl0|exact sl1)):p :=
 (h ⟨hfx⟩ ⟨hcx⟩ ⟨r.x⟩ ⟨r.y.x⟩ ⟨r.y.y.x⟩ ⟨r.y.y.y.x⟩ ⟨r.y.y.y.y.x⟩ ⟨r.y.y.y.y.y.x⟩ ⟨r.y.y.y.y.y.y.x⟩ ⟨r.y.y.y.y.y.y.y.x⟩ ⟨r.y.y.y.y.y.y.y.y.x⟩ ⟨r.y.y.y.y.y.y.y.y.y.x⟩ ⟨r.y.y.y.y.y.y.y.y.y.y.x⟩ ⟨r.y.y.y.y.y.y.y.y.y.y.y⟩ ⟨⟩).1
theorem gM {F p:Prop} (f:F) (h:Fx F→p:=by
 intro hL
 (all_goals (try simp (disch:=omega) only [go_sem,hL.h,Zx8,Zx6,Zx5,Zx4,Int.reduceAdd,Int.reduceSub,Int.reduceToNat,Zyh]));(all_goals first|done|rfl|(congr 2;first|done|omega|(rw [Zyn];simp only [bool_to_prop,Zyj,Zyw,Zyx,Zyy,Zyz];omega)))):p:=h ⟨f⟩
theorem w_s {a:Prop} (x:a):Lv a (Lv True (Lv True (Lv True (Lv True (Lv True (Lv True (Lv True (Lv True (Lv True (Lv True (True))))))))))):=⟨x,⟨trivial,⟨trivial,⟨trivial,⟨trivial,⟨trivial,⟨trivial,⟨trivial,⟨trivial,⟨trivial,⟨trivial,trivial⟩⟩⟩⟩⟩⟩⟩⟩⟩⟩⟩
theorem w_z:Lv True (Lv True (Lv True (Lv True (Lv True (Lv True (Lv True (Lv True (Lv True (Lv True (Lv True (True))))))))))):=w_s trivial
end Go.Pg
namespace Go.Pg
open Go Go.RowKit
def nv:List Nat→Nat
 | []=>0
 | x :: l=>x+65536*nv l
def Lm (l:List Nat):Prop:=∀x∈l,x < 65536
def toL (n:Nat):List Nat:=if h:n=0 then [] else n%65536 :: toL (n/65536)
termination_by n
decreasing_by omega
def u16s (l:List Nat):List AV:=l.map λn:Nat=>.v (.int .u16 (n:Int))
abbrev lim (l:List Nat):AV:=.sl 1 (u16s l)
def gN (l:List Nat) (k:Nat):Nat:=l.getD k 0
theorem Zas:toL 0=[]:=by rw [toL];rfl
theorem Zfr {n:Nat} (h:n≠0):toL n=n%65536 :: toL (n/65536):=by rw [toL,dif_neg h]
theorem Zak (n:Nat):nv (toL n)=n:=by
 induction n using Nat.strongRecOn with
 | _ n ih =>
   by_cases h:n=0
   ·subst h;rw [Zas];rfl
   ·rw [Zfr h,nv,ih (n/65536) zo];omega
theorem Zal (n:Nat):Lm (toL n):=by
 induction n using Nat.strongRecOn with
 | _ n ih =>
   by_cases h:n=0
   ·subst h;rw [Zas];intro x hx;cases hx
   ·rw [Zfr h];intro x hx;rcases List.mem_cons.1 hx with rfl | hx
    ·omega
    ·exact ih (n/65536) zo x hx
theorem Lm.tail {x:Nat} {l:List Nat} (h:Lm (x :: l)):Lm l:=λy hy=>h y (ZA4 _ hy)
theorem Lm.head {x:Nat} {l:List Nat} (h:Lm (x :: l)):x < 65536:=h x (ZAl ..)
theorem Lm.take {l:List Nat} (h:Lm l) (k:Nat):Lm (l.take k):=λy hy=>h y (Zzh hy)
theorem Lm.drop {l:List Nat} (h:Lm l) (k:Nat):Lm (l.drop k):=λy hy=>h y (Zz8 hy)
theorem Lm.append {a b:List Nat} (ha:Lm a) (hb:Lm b):Lm (a++b):=λy hy=>(List.mem_append.1 hy).elim (ha y) (hb y)
theorem Lm.nil:Lm []:=λx hx=>by cases hx
theorem Lm.one {x:Nat} (h:x < 65536):Lm [x]:=λy hy=>by simp at hy;omega
theorem Lm.zeros (n:Nat):Lm (List.replicate n 0):=λy hy=>by have:=ZBh hy;omega
theorem Zbw {l:List Nat} (h:Lm l) (k:Nat):gN l k < 65536:=by
 unfold gN;rw [Zyg];rcases Zyr k l.length with hk | hk
 ·rw [Zyf hk];exact h _ (Zyl _)
 ·rw [Zzl hk];simp
theorem gN_at {l:List Nat} {k:Nat} (h:k < l.length):gN l k=l[k]:=by unfold gN;rw [Zyg,Zyf h];rfl
theorem Zew {l:List Nat} {k:Nat} (h:l.length≤k):gN l k=0:=by unfold gN;rw [Zyg,Zzl h];rfl
theorem Zav (l:List Nat):(u16s l).length=l.length:=by simp [u16s]
theorem u16s_get {l:List Nat} {k:Nat} (h:k < l.length):(u16s l).getD k .u=.v (.int .u16 (gN l k:Int)):=Zsr h
theorem Zuo (l:List Nat) (k:Nat):(u16s l).take k=u16s (l.take k):=by simp [u16s,List.map_take]
theorem Zuq (l:List Nat) (k:Nat):(u16s l).drop k=u16s (l.drop k):=by simp [u16s,List.map_drop]
theorem u16s_set (l:List Nat) (k x:Nat):(u16s l).set k (.v (.int .u16 (x:Int)))=u16s (l.set k x):=by simp [u16s,List.map_set]
theorem Zrj (a b:List Nat):u16s a++u16s b=u16s (a++b):=by simp [u16s]
theorem Zup (a:List Nat) (x:Nat):u16s a++[.v (.int .u16 (x:Int))]=u16s (a++[x]):=by simp [u16s]
theorem Zrg (n:Nat):List.replicate n (AV.v (.int .u16 0))=u16s (List.replicate n 0):=by simp [u16s,List.map_replicate]
theorem Zrh:u16s []=[]:=rfl
theorem Zgw {x:Nat} {l:List Nat}:gN (x :: l) 0=x:=rfl
theorem Zfn {x k:Nat} {l:List Nat}:gN (x :: l) (k+1)=gN l k:=rfl
theorem Zd1 (a b:List Nat):nv (a++b)=nv a+65536 ^ a.length*nv b:=by
 induction a with
 | nil=>simp [nv]
 | cons x a ih=>simp only [ZAu,nv,ih,Zyk,Zzi];grind
theorem Zhp {l:List Nat} (h:Lm l):nv l < 65536 ^ l.length:=by
 induction l with
 | nil=>simp [nv]
 | cons x l ih =>
   have h1:=ih h.tail;have h2:=h.head;simp only [nv,Zyk,Zzi];generalize 65536 ^ l.length=p at *;omega
theorem Zmp (n:Nat):nv (List.replicate n 0)=0:=by
 induction n with
 | zero=>rfl
 | succ n ih=>simp [List.replicate_succ,nv,ih]
theorem Zb0 (l:List Nat) (k:Nat):nv l=nv (l.take k)+65536 ^ k*nv (l.drop k):=by
 rcases Zyr l.length k with h | h
 ·rw [ZA8 zo,Zzw zo];simp [nv]
 ·have:=Zd1 (l.take k) (l.drop k);rw [ZAe,Zyp,ZAf h] at this;exact this
theorem Zaq (l:List Nat) (k:Nat):nv (l.take (k+1))=nv (l.take k)+65536 ^ k*gN l k:=by
 rcases Zyr k l.length with h | h
 ·rw [ZAy h,Zd1,Zyp,ZAf zo,gN_at h];simp [nv]
 ·rw [ZA8 zo,ZA8 zo,Zew h];simp
theorem Zb2 (l:List Nat) (k:Nat):nv (l.drop k)=gN l k+65536*nv (l.drop (k+1)):=by
 rcases Zyr k l.length with h | h
 ·rw [ZCq h,nv,gN_at h]
 ·rw [Zzw h,Zzw zo,Zew h];rfl
theorem nv_pos {l:List Nat} {k:Nat} (h:0 < gN l k):0 < nv l:=by
 induction l generalizing k with
 | nil=>simp [gN] at h
 | cons x l ih =>
   cases k with
   | zero=>simp only [Zgw] at h;simp only [nv];omega
   | succ k=>rw [Zfn] at h;have:=ih h;simp only [nv];omega
theorem canon {l:List Nat} (h:Lm l) (hc:l=[]∨0 < gN l (l.length - 1)):l=toL (nv l):=by
 induction l with
 | nil=>simp [nv,Zas]
 | cons x l ih =>
   have hx:=h.head
   have hl:l=[]∨0 < gN l (l.length - 1):=by
    cases l with
    | nil=>exact .inl rfl
    | cons y l =>
      refine .inr ?_;rcases hc with hc | hc
      ·cases hc
      ·simpa [Zfn] using hc
   have hi:=ih h.tail hl
   have hn:nv (x :: l)≠0:=by
    rcases hc with hc | hc
    ·cases hc
    ·have:=nv_pos hc;omega
   rw [Zfr hn];simp only [nv];have e1:(x+65536*nv l)%65536=x:=zo;have e2:(x+65536*nv l)/65536=nv l:=zo;rw [e1,e2,←hi]
theorem Zer {n:Nat} (h:n≠0):(toL n).length≠0∧0 < gN (toL n) ((toL n).length - 1):=by
 induction n using Nat.strongRecOn with
 | _ n ih =>
   rw [Zfr h];refine⟨by simp,?_⟩;by_cases h2:n/65536=0
   ·rw [h2,Zas];simp only [Zyk,Zym,Zy8,ZBi,Zgw];omega
   ·have:=ih (n/65536) zo h2;obtain⟨h3,h4⟩:=this;simp only [Zyk,ZB3];obtain⟨k,hk⟩:=Nat.exists_eq_succ_of_ne_zero h3;rw [hk] at h4 ⊢
    simpa [Zfn] using h4
theorem Zpu {a b:Nat} (h:toL a=toL b):a=b:=by rw [←Zak a,h,Zak]
theorem toL_nil {n:Nat}:toL n=[]↔n=0:=⟨λh=>Zpu (h.trans Zas.symm),λh=>by rw [h,Zas]⟩
theorem Za8 {n:Nat}:(toL n).length=0↔n=0:=by rw [List.length_eq_zero_iff];exact toL_nil
theorem Zkl {l:List Nat} {k:Nat} (h:Lm l) (hk:k≤l.length) (hz:∀j,k≤j→gN l j=0) (ht:k=0∨0 < gN l (k - 1)):l.take k=toL (nv l):=by
 have h0:nv (l.drop k)=0:=by
  have key:∀(m:List Nat),(∀j,gN m j=0)→nv m=0:=by
   intro m
   induction m with
   | nil=>intro _;rfl
   | cons x m ih =>
     intro hm;have h1:=hm 0;rw [Zgw] at h1;rw [nv,h1,ih λj=>by rw [←Zfn (x:=x)];exact hm (j+1)]
  refine key _ λj=>?_;have:=hz (k+j) zo;unfold gN at this ⊢
  rwa [Zyg,ZAi,←Zyg]
 have h1:=Zb0 l k;rw [h0,ZAg,Zzf] at h1;rw [h1];refine canon (h.take k) ?_;by_cases hk0:k=0
 ·subst hk0;exact .inl rfl
 ·have ht:=ht.resolve_left hk0;refine .inr ?_;rw [Zyp,ZAf hk];unfold gN at ht ⊢;rw [Zyg] at ht ⊢;rw [ZAc,Zx5 zo];exact ht
theorem Zl3 {l:List Nat} (h:Lm l):∃k,k≤l.length∧l.take k=toL (nv l):=by
 induction hn:l.length generalizing l with
 | zero=>exact⟨0,zo,by rw [ZBf hn];simp [nv,Zas]⟩
 | succ n ih =>
   by_cases hz:gN l n=0
   ·obtain⟨k,h1,h2⟩:=ih (h.take n) (by simp;omega);refine⟨k,zo,?_⟩;rw [List.take_take,ZAf h1] at h2;rw [h2];congr 1;have h3:=Zaq l n;rw [ZA8 zo,hz] at h3;omega
   ·exact⟨l.length,zo,by rw [ZA8 (Zx7 _)];exact canon h (.inr (by rw [hn,ZB3];omega))⟩
theorem Zan {l:List Nat} (h:Lm l):(toL (nv l)).length≤l.length:=by
 obtain⟨k,h1,h2⟩:=Zl3 h;rw [←h2,Zyp];omega
theorem Zac {n k:Nat}:(toL n).length≤k↔n < 65536 ^ k:=by
 constructor
 ·intro h;have h1:=Zhp (Zal n);rw [Zak] at h1;exact Zzz h1 (Zzj zo h)
 ·intro h;rcases Zyr k (toL n).length with h1 | h1
  ·exfalso
   have hn:n≠0:=by
    rintro rfl
    rw [Zas] at h1;simp at h1
   obtain⟨h2,h3⟩:=Zer hn;have h4:=Zb0 (toL n) ((toL n).length - 1);rw [Zak] at h4
   have h5:0 < nv ((toL n).drop ((toL n).length - 1)):=by
    refine nv_pos (k:=0) ?_;unfold gN at h3 ⊢;rw [Zyg,ZAi,Zzf,←Zyg];exact h3
   have h6:65536 ^ k≤65536 ^ ((toL n).length - 1):=Zzj zo zo;have h7:65536 ^ ((toL n).length - 1)≤65536 ^ ((toL n).length - 1)*nv ((toL n).drop ((toL n).length - 1)):=ZBa _ h5;omega
  ·exact h1
theorem Za0 {a b:Nat} (h:a≤b):(toL a).length≤(toL b).length:=by
 rw [Zac];exact ZBj h (Zac.1 (Zx7 _))
theorem Zr8 {a b:List Nat} {k:Nat} (ha:Lm a) (hb:Lm b) (he:nv (a.drop (k+1))=nv (b.drop (k+1))) (h:gN a k < gN b k):nv a < nv b:=by
 have h1:=Zb0 a k;have h2:=Zb0 b k;rw [Zb2,he] at h1;rw [Zb2] at h2;have h3:=Zhp (ha.take k);have h4:nv (a.take k) < 65536 ^ k:=Zzz h3 (Zzj zo (by rw [Zyp];omega));generalize nv (b.drop (k+1))=r at *;generalize 65536 ^ k=p at *
 have h5:p*(gN a k+65536*r)+p≤p*(gN b k+65536*r):=by
  have:gN a k+65536*r+1≤gN b k+65536*r:=zo;have:=ZAh p this
  rwa [Zza p _ 1,ZA1] at this
 omega
theorem nv_eq_of {a b:List Nat} (hl:a.length=b.length) (he:nv a=nv b) (ha:Lm a) (hb:Lm b):a=b:=by
 induction a generalizing b with
 | nil=>cases b with
   | nil=>rfl
   | cons y b=>simp at hl
 | cons x a ih=>cases b with
   | nil=>simp at hl
   | cons y b =>
     have h1:=ha.head;have h2:=hb.head;simp only [nv] at he;have e1:x=y:=zo;have e2:nv a=nv b:=zo;rw [e1,ih (by simpa using hl) e2 ha.tail hb.tail]
theorem canon' {o:List Nat} (h:Lm o) (hl:o.length≤(toL (nv o)).length):o=toL (nv o) :=
 nv_eq_of (by have:=Zan h;omega) (Zak _).symm h (Zal _)
theorem Zdp {o:List Nat} {k:Nat} (h:k < o.length) (x:Nat):nv ((o.set k x).take (k+1))=nv (o.take k)+65536 ^ k*x:=by
 have h1:(o.set k x).take (k+1)=o.take k++[x]:=by
  rw [ZAy (by simpa using h)];simp only [List.getElem_set_self,List.take_set];rw [List.set_eq_of_length_le (by rw [Zyp];omega)]
 rw [h1,Zd1,Zyp,ZAf zo];simp [nv]
theorem Lm.set {o:List Nat} (h:Lm o) (k:Nat) {x:Nat} (hx:x < 65536):Lm (o.set k x):=λy hy=>by
 rcases ZCd hy with h1 | rfl
 ·exact h y h1
 ·exact hx
theorem Zbj {α:Type} {l:List α} {k:Nat} (h:l.length≤k):l.take k=l:=ZA8 h
theorem Zng {p o c a b x y:Nat} (h:o+p*c=a+b):(o+p*((c+x+y)%65536))+(p*65536)*((c+x+y)/65536)=(a+p*x)+(b+p*y):=by
 have h2:p*((c+x+y)%65536)+p*65536*((c+x+y)/65536)=p*(c+x+y):=by rw [Zzm,←Zza,Nat.mod_add_div]
 rw [Zza,Zza] at h2;omega
theorem Zrm {p o c a b x y d c':Nat} (h:o+b=a+p*c) (hd:d+c+y=x+65536*c'):(o+p*d)+(b+p*y)=(a+p*x)+(p*65536)*c':=by
 have h2:p*d+p*c+p*y=p*x+p*65536*c':=by
  rw [←Zza,←Zza,hd,Zza,Zzm]
 omega
theorem wrap_u8 {x:Int} (h1:0≤x) (h2:x≤255):IntKind.u8.wrap x=x:=IntWalk.u8_in x ⟨h1,h2⟩
theorem wrap_u16 {x:Int} (h1:0≤x) (h2:x≤65535):IntKind.u16.wrap x=x:=IntWalk.u16_in x ⟨h1,h2⟩
theorem Zjm {x:Int} (h1:0≤x) (h2:x≤4294967295):IntKind.u32.wrap x=x:=IntWalk.u32_in x ⟨h1,h2⟩
theorem Zf3 {x:Int} (h1:0≤x) (h2:x≤18446744073709551615):IntKind.u64.wrap x=x:=IntWalk.u64_in x ⟨h1,h2⟩
theorem wrap_i32 {x:Int} (h1:-2147483648≤x) (h2:x≤2147483647):IntKind.i32.wrap x=x:=IntWalk.i32_in x ⟨h1,h2⟩
theorem cut_u16 (x:Int):IntKind.u16.wrap x=x%65536:=by rw [IntKind.wrap_u16]
theorem Zdh (a b:Nat):(a:Int).tdiv (b:Int)=((a/b:Nat):Int):=Int.ofNat_tdiv a b |>.symm
theorem Zd8 (a b:Nat):(a:Int).tmod (b:Int)=((a%b:Nat):Int):=(Int.ofNat_tmod a b).symm
theorem Zbd (x:Nat):IntKind.u16.wrap (x:Int)=((x%65536:Nat):Int):=by rw [cut_u16];omega
theorem Zu3 (a:Nat):shrI .u32 (a:Int) 16=((a/65536:Nat):Int):=by
 unfold shrI;rw [ZC4 _ zd];rfl
theorem Zu2 (a:Nat):shrI .u64 (a:Int) 16=((a/65536:Nat):Int):=by
 unfold shrI;rw [ZC4 _ zd];rfl
theorem Zax (a b:Nat):(a:Int)+(b:Int)=((a+b:Nat):Int):=(Int.natCast_add a b).symm
theorem Zh4 (a b:Nat):(a:Int)*(b:Int)=((a*b:Nat):Int):=(Int.natCast_mul a b).symm
attribute [go_sem] wrap_u8 wrap_u16 Zjm Zf3 wrap_i32 Zu3 Zu2 Zav u16s_get Zuo Zuq u16s_set Zrj Zup Zrg
theorem Zoh {o:List Nat} {j:Nat} (h:j < o.length) (v:Nat):nv (o.set j v)+65536 ^ j*gN o j=nv o+65536 ^ j*v:=by
 have h1:=Zb0 (o.set j v) (j+1);have h2:=Zb0 o (j+1);rw [Zdp h] at h1;rw [Zaq] at h2
 have h3:(o.set j v).drop (j+1)=o.drop (j+1):=by
  rw [List.drop_set_of_lt zo]
 rw [h3] at h1;omega
theorem Zfz {o:List Nat} {j i v:Nat} (h:j < o.length):gN (o.set j v) i=if i=j then v else gN o i:=by
 unfold gN;rw [Zyg,Zyg,List.getElem?_set];by_cases hij:j=i
 ·subst hij;simp [h]
 ·simp [hij,ZAz hij]
theorem Zsd {o p c g s N x y T B:Nat} (hs:s=c+(g+x*y)) (hN:N+p*g=o+p*(s%65536)) (hv:o+p*c=B+T):N+(p*65536)*(s/65536)=B+(T+p*(x*y)):=by
 have h2:p*(s%65536)+p*65536*(s/65536)=p*s:=by rw [Zzm,←Zza,Nat.mod_add_div]
 subst hs;rw [Zza,Zza] at h2;omega
theorem Zse (i k x y t:Nat):65536 ^ i*(t+65536 ^ k*y)*x=65536 ^ i*t*x+65536 ^ (i+k)*(x*y):=by
 rw [Zza,Zy4,Zzo];congr 1;rw [Zy9 x y];simp only [Zzm]
theorem Zhi (n j:Nat):gN (List.replicate n 0) j=0:=by
 unfold gN;rw [Zyg,ZC1];split<;>rfl
theorem Zon {x y:Nat} (hx:x < 65536) (hy:y < 65536):x*y≤4294836225:=ZA2 (show x≤65535 by omega) (show y≤65535 by omega)
theorem shl_32 {x s:Nat} (hs:s < 32) (h:x*2 ^ s < 4294967296):shlI .u32 (x:Int) (s:Int)=((x*2 ^ s:Nat):Int):=by
 unfold shlI
 have e1:min (s:Int).toNat (IntKind.bits .u32)=s:=by
  have:IntKind.bits .u32=32:=rfl;omega
 rw [e1];have e2:(x:Int)*2 ^ s=((x*2 ^ s:Nat):Int):=by rw [Int.natCast_mul,Int.natCast_pow];rfl
 rw [e2];exact Zjm zo zo
theorem Zu4 {x s:Nat} (hs:s < 64) (h:x*2 ^ s < 18446744073709551616):shlI .u64 (x:Int) (s:Int)=((x*2 ^ s:Nat):Int):=by
 unfold shlI
 have e1:min (s:Int).toNat (IntKind.bits .u64)=s:=by
  have:IntKind.bits .u64=64:=rfl;omega
 rw [e1];have e2:(x:Int)*2 ^ s=((x*2 ^ s:Nat):Int):=by rw [Int.natCast_mul,Int.natCast_pow];rfl
 rw [e2];exact Zf3 zo zo
theorem shl16_32 {x:Nat} (h:x < 65536):shlI .u32 (x:Int) 16=((x*65536:Nat):Int):=shl_32 (s:=16) zo zo
theorem shl16_64 {x:Nat} (h:x < 281474976710656):shlI .u64 (x:Int) 16=((x*65536:Nat):Int):=Zu4 (s:=16) zo zo
theorem shr_32 {x s:Nat} (hs:s < 32):shrI .u32 (x:Int) (s:Int)=((x/2 ^ s:Nat):Int):=by
 unfold shrI
 have e1:min (s:Int).toNat (IntKind.bits .u32)=s:=by
  have:IntKind.bits .u32=32:=rfl;omega
 rw [e1];have e2:((2:Int) ^ s)=((2 ^ s:Nat):Int):=by rw [Int.natCast_pow];rfl
 rw [e2,ZC4 _ (ZB4 _)];rfl
theorem Zoe (k:IntKind) {a b:Nat} (ha:a < 2 ^ k.bits) (hb:b < 2 ^ k.bits):orI k (a:Int) (b:Int)=k.wrap ((a ||| b:Nat):Int):=by
 unfold orI
 have f:∀x:Nat,x < 2 ^ k.bits→(BitVec.ofInt k.bits (x:Int)).toNat=x:=by
  intro x hx;rw [BitVec.ofInt_natCast,BitVec.toNat_ofNat,ZAd hx]
 rw [BitVec.toNat_or,f a ha,f b hb]
theorem Zof {r x s:Nat} (h:x < 2 ^ s):(r*2 ^ s ||| x)=r*2 ^ s+x:=by
 rw [Zy9 r,Nat.two_pow_add_eq_or_of_lt h]
theorem or16_32 {r x:Nat} (hr:r < 65536) (hx:x < 65536):orI .u32 ((r*65536:Nat):Int) (x:Int)=((r*65536+x:Nat):Int):=by
 rw [Zoe .u32 (by show _ < 4294967296;omega) (by show _ < 4294967296;omega),Zof (s:=16) hx];exact Zjm zo zo
theorem or16_64 {r x:Nat} (hr:r < 281474976710656) (hx:x < 65536):orI .u64 ((r*65536:Nat):Int) (x:Int)=((r*65536+x:Nat):Int):=by
 rw [Zoe .u64 (by show _ < 18446744073709551616;omega) (by show _ < 18446744073709551616;omega),Zof (s:=16) hx];exact Zf3 zo zo
theorem orS_64 {n x s:Nat} (hn:n < 2 ^ s) (hs:s≤48) (hx:x < 65536):orI .u64 (n:Int) ((x*2 ^ s:Nat):Int)=((n+2 ^ s*x:Nat):Int):=by
 have e:(2:Nat) ^ s*65536≤18446744073709551616:=by
  have:(2:Nat) ^ s≤2 ^ 48:=Zzj zo hs;omega
 have h1:x*2 ^ s≤65535*2 ^ s:=Zy5 _ zo;rw [Zoe .u64 (by show _ < 18446744073709551616;omega) (by show _ < 18446744073709551616;omega),Nat.or_comm,Zof hn];rw [Zf3 zo zo,Zy9,ZAx]
theorem or_16 {a b s:Nat} (hs:s≤16) (hb:b < 2 ^ s) (ha:a*2 ^ s < 65536):orI .u16 (b:Int) ((a*2 ^ s:Nat):Int)=((b+a*2 ^ s:Nat):Int):=by
 have e:(2:Nat) ^ s≤2 ^ 16:=Zzj zo hs
 have h3:a*2 ^ s+b < 65536:=by
  have h4:a < 2 ^ (16 - s):=by
   refine Nat.lt_of_mul_lt_mul_right (a:=2 ^ s) ?_;rw [←Zzo,ZCs hs];exact ha
  have h5:(a+1)*2 ^ s≤2 ^ (16 - s)*2 ^ s:=Zy5 _ h4;rw [←Zzo,ZCs hs,Zy4,Zz4] at h5;omega
 rw [Zoe .u16 (by show _ < 65536;omega) (by show _ < 65536;omega),Nat.or_comm,Zof hb];rw [wrap_u16 zo zo,ZAx]
attribute [go_sem] shl16_32 shl16_64 or16_32 or16_64
theorem low_mul {x s:Nat} (hs:s≤16):(x*2 ^ s)%65536=(x%2 ^ (16 - s))*2 ^ s:=by
 have:65536=2 ^ (16 - s)*2 ^ s:=by rw [←Zzo,ZCs hs]
 rw [this,Nat.mul_mod_mul_right]
theorem Zn7 (k:Nat):65536 ^ k=2 ^ (16*k):=by rw [Nat.pow_mul]
theorem div_step {a q r d x B:Nat} (hB:B=65536) (h:a=d*q+r):x+B*a=d*((r*B+x)/d+B*q)+(r*B+x)%d:=by
 have h2:=ZA6 (r*B+x) d;subst h;have e1:B*(d*q+r)=d*(B*q)+r*B:=by rw [Zza,ZBk,Zy9 B r]
 have e2:d*((r*B+x)/d+B*q)=d*((r*B+x)/d)+d*(B*q):=Zza _ _ _;omega
theorem shr_dig {x y r s:Nat} (hs:s≤16):((x+65536*(y+65536*r))/2 ^ s)%65536=((x+65536*y)/2 ^ s)%65536:=by
 have e0:(65536:Nat)=2 ^ (16 - s)*2 ^ s:=by rw [←Zzo,ZCs hs]
 have e1:x+65536*(y+65536*r)=(x+65536*y)+2 ^ s*(65536*(2 ^ (16 - s)*r)):=by
  have:65536*(65536*r)=2 ^ s*(65536*(2 ^ (16 - s)*r)):=by
   calc 65536*(65536*r)=65536*((2 ^ (16 - s)*2 ^ s)*r):=by rw [←e0]
    _=2 ^ s*(65536*(2 ^ (16 - s)*r)):=by rw [Zy9 (2 ^ (16 - s)),Zzm,ZBk]
  rw [Zza,this];omega
 rw [e1,Nat.add_mul_div_left _ _ (ZBu s),Nat.add_mul_mod_self_left]
theorem shr_step {N o k d s:Nat} (h:o=(N/2 ^ s)%65536 ^ k) (hd:d=(N/65536 ^ k/2 ^ s)%65536):o+65536 ^ k*d=(N/2 ^ s)%65536 ^ (k+1):=by
 rw [Zzi,Nat.mod_mul,h,hd,ZDb,ZDb,Zy9 (2 ^ s)]
theorem Zwc {l:List Nat} (h:Lm l) (k:Nat):nv l/65536 ^ k=nv (l.drop k):=by
 have h1:=Zb0 l k;have h2:nv (l.take k) < 65536 ^ k:=Zzz (Zhp (h.take k)) (Zzj zo (by rw [Zyp];omega));rw [h1,Nat.add_mul_div_left _ _ (ZB5 zo),ZCt h2,Zy8]
theorem Zw9 (l:List Nat) (i k:Nat):gN (l.drop i) k=gN l (i+k):=by
 unfold gN;rw [Zyg,ZAi,←Zyg]
theorem kn_init {W V q v1 v2 vl high u2 wl P:Nat} (hP:0 < P) (hV:V=(v1*65536+v2)*P+vl) (hW:W=(high*65536+u2)*P+wl) (hwl:wl < P) (hu2:u2 < 65536) (hv1:0 < v1) (hq:q*V≤W):q≤high/v1:=by
 rw [Nat.le_div_iff_mul_le hv1]
 have h1:q*(v1*65536*P)≤q*V:=by
  refine ZAh _ ?_;rw [hV,Zy4];omega
 have h2:W < (high+1)*(65536*P):=by
  have h3:(high*65536+u2+1)*P≤((high+1)*65536)*P:=Zy5 _ zo;rw [Zy4 _ 1 P] at h3;rw [hW,←Zzm];omega
 have h3:(q*v1)*(65536*P) < (high+1)*(65536*P):=by
  have e:(q*v1)*(65536*P)=q*(v1*65536*P):=by simp only [Zzm]
  omega
 have:=Nat.lt_of_mul_lt_mul_right h3;omega
theorem kn_step {W V v1 v2 vl high u2 wl P d r:Nat} (hV:V=(v1*65536+v2)*P+vl) (hW:W=(high*65536+u2)*P+wl) (hwl:wl < P) (hh:high=d*v1+r) (ht:r*65536+u2 < d*v2):W < d*V:=by
 have h1:d*((v1*65536+v2)*P)≤d*V:=ZAh _ zo
 have h2:high*65536+u2+1≤d*(v1*65536+v2):=by
  have e:d*(v1*65536+v2)=d*v1*65536+d*v2:=by rw [Zza,Zzm]
  rw [e,hh,Zy4];omega
 have h3:=Zy5 P h2;rw [Zy4 _ 1 P,Zzm d] at h3;omega
theorem kn_exit {W V v1 v2 vl high u2 wl P d r:Nat} (hV:V=(v1*65536+v2)*P+vl) (hvl:vl < P) (hW:W=(high*65536+u2)*P+wl) (hh:high=d*v1+r) (hv1:0 < v1) (hd:d < 65536) (ht:d*v2≤r*65536+u2):d*V < W+V:=by
 have h2:d*(v1*65536+v2)≤high*65536+u2:=by
  have e:d*(v1*65536+v2)=d*v1*65536+d*v2:=by rw [Zza,Zzm]
  rw [e,hh,Zy4];omega
 have h3:=Zy5 P h2;have h4:d*vl≤d*P:=ZAh _ zo;have h5:d*P < 65536*P:=ZCu hd zo
 have h6:65536*P≤v1*65536*P:=by
  have:1*(65536*P)≤v1*(65536*P):=Zy5 _ hv1;rw [Zz4,←Zzm] at this;exact this
 have h7:v1*65536*P≤V:=by rw [hV,Zy4];omega
 have e:d*V=d*(v1*65536+v2)*P+d*vl:=by rw [hV,Zza,Zzm]
 omega
theorem kn_near {W V d:Nat} (hV:0 < V) (h1:W/V≤d) (h2:d*V < W+V):d=W/V∨d=W/V+1:=by
 have h3:d≤W/V+1:=by
  rcases Zyr (W/V+1) d with h | h
  ·exfalso;have h4:(W/V+2)*V≤d*V:=Zy5 _ h;have h5:=Nat.lt_div_mul_add (a:=W) hV;rw [Zy4] at h4;omega
  ·exact h
 omega
def len8 (i:Nat):Nat:=if i=0 then 0 else Nat.log2 i+1
def Zfh (x:Nat):Nat:=if 256≤x then 8+len8 (x/256) else len8 x
theorem Zmu {i:Nat} (h:i < 256):len8 i≤8∧(0 < i→1≤len8 i):=by
 unfold len8;split
 ·omega
 ·rename_i h0;have:=(Nat.log2_lt h0 (k:=8)).2 h;omega
theorem Zio {x:Nat} (h:x < 65536):Zfh x≤16∧(0 < x→1≤Zfh x):=by
 unfold Zfh;split
 ·have:=Zmu (i:=x/256) zo;omega
 ·have:=Zmu (i:=x) zo;omega
theorem shr_8_16 (a:Nat):shrI .u16 (a:Int) 8=((a/256:Nat):Int):=by
 unfold shrI;rw [ZC4 _ zd];rfl
attribute [go_sem] shr_8_16
theorem o_tab {P:Program} {K:St→Prop} {e:Nat→AV} {m:Mem} {t d x n:Nat} {L:List UInt8} {g:Nat→Nat} (hlen:L.length=n) (htab:((List.range n).all λi=>(L.getD i 0).toNat == g i)=true) (hx:x < n) (h:K ⟨upd e d (.v (.int .u8 (g x:Nat))),m⟩) :
 aRes P t (some d) (.need (0≤(x:Int)∧(x:Int) < (L.length:Int)) (.val (.v (.int .u8 (((L.getD x 0).toNat:Nat):Int))) [])) K ⟨e,m⟩:=by
 refine o_need ⟨zo,zo⟩ ?_;have:=List.all_eq_true.1 htab x (List.mem_range.2 hx);rw [Zz3] at this;rw [this];exact h
theorem Zhz {α:Type} (f:Nat→α) (k:Nat) (a b:α):upd (upd f k a) k b=upd f k b:=by
 funext j
 simp only [Zau];split<;>rfl
theorem Zrd {α:Type} {f:Nat→α} {k:Nat} {a:α} (h:f k=a):upd f k a=f:=by
 funext j
 simp only [Zau];split
 ·subst_vars;rfl
 ·rfl
theorem Zmi {P:Program} {f:FuncId} {args:List AV} {x:AV} {R:AV→Mem→Prop} (h:ACall P f args Zae R) (hR:∀r σ',R r σ'→Zf6 (marks σ' r.toks) r∧pubV (marks σ' r.toks) r=x):Pure P f args x:=by
 refine⟨h.1,λw imm vs himm hl hr=>?_⟩;have hm:Mx ⟨w.heap.size,w,imm⟩ Zae w imm:=⟨⟨λk e hk=>by simp [Zae] at hk,λk k' e e' b hk=>by simp [Zae] at hk,λad h1=>(himm ad h1).1,λad h1=>(himm ad h1).2⟩,Blw.refl _ _,Zx7 _,λ_ h1=>h1,λ_ h1=>.inl h1,λ_ _=>rfl⟩;refine(h.2 _ w imm vs hm hl λj a x h1 h2=>.pure (hr j a x h1 h2)).mono λe w' ⟨r,σ',imm',y,h1,h2,h3,h4,h5⟩=>?_;obtain⟨i2,hm2,hk2⟩:=Zd2 r.toks h4;obtain⟨h6,h7⟩:=hR r σ' h2;have h8:=Zht hm2 (hk2.rs h3) h6;rw [h7] at h8;exact⟨y,i2,h1,h8,hm2.old,λad h9=>⟨hm2.new ad h9,hm2.ok.lt ad h9,hm2.ok.spot ad h9⟩,hm2.below⟩
theorem gN_mid {pre w post:List Nat} {k:Nat} (h:k < w.length):gN (pre++(w++post)) (pre.length+k)=gN w k:=by
 unfold gN;rw [Zyg,Zyg,Zzq zo,ZCa,Zzp h]
theorem Zu6 {pre w post:List Nat} {k:Nat} (h:k < w.length) (x:Nat):(pre++(w++post)).set (pre.length+k) x=pre++(w.set k x++post):=by
 rw [List.set_append_right _ _ zo,ZCa,List.set_append_left _ _ h]
theorem or16_32' {r x:Nat} (hr:r < 65536) (hx:x < 65536):orI .u32 (x:Int) ((r*65536:Nat):Int)=((x+65536*r:Nat):Int):=by
 rw [Zoe .u32 (by show _ < 4294967296;omega) (by show _ < 4294967296;omega),Nat.or_comm,Zof (s:=16) hx,Zjm zo zo];omega
theorem Zpz {o N d v p c r w y x r' c1:Nat} (h:o+d*v=N+p*(c+r)) (h1:c1=c+d*y) (h2:x+c1%65536+r=w+65536*r'):(o+p*x)+d*(v+p*y)=(N+p*w)+(p*65536)*(c1/65536+r'):=by
 have e1:p*x+p*(c1%65536)+p*r=p*w+p*65536*r':=by
  rw [←Zza,←Zza,h2,Zza,Zzm]
 have e2:p*(c1%65536)+p*65536*(c1/65536)=p*c1:=by rw [Zzm,←Zza,Nat.mod_add_div]
 have e3:p*c1=p*c+d*(p*y):=by rw [h1,Zza];congr 1;simp only [ZBk]
 rw [Zza,Zza (p*65536)];rw [Zza] at h;omega
theorem Ztp {a l s:Nat}:a*2 ^ (16*l+s)=a*2 ^ s*65536 ^ l:=by
 rw [Zn7,Zzo,Zzm,Zy9 (2 ^ (16*l))]
theorem Ztq {a l s:Nat}:a/2 ^ (16*l+s)=a/65536 ^ l/2 ^ s:=by
 rw [Zn7,Zzo,ZDb]
theorem nv_top2 {l:List Nat} {n:Nat} (h:l.length=n) (hn:2≤n):nv l=(gN l (n - 1)*65536+gN l (n - 2))*65536 ^ (n - 2)+nv (l.take (n - 2)):=by
 have h1:=Zb0 l (n - 2);rw [Zb2,Zb2,show n - 2+1=n - 1 by omega,show n - 1+1=n by omega,Zzw zo] at h1;simp only [nv,ZAg,Zzf] at h1;rw [h1,ZAx,Zy9];congr 2;omega
theorem nv_top3 {l:List Nat} {n:Nat} (h:l.length=n+1) (hn:2≤n):nv l=((gN l n*65536+gN l (n - 1))*65536+gN l (n - 2))*65536 ^ (n - 2)+nv (l.take (n - 2)):=by
 have h1:=Zb0 l (n - 2);rw [Zb2,Zb2,Zb2,show n - 2+1=n - 1 by omega,show n - 1+1=n by omega,Zzw zo] at h1;simp only [nv,ZAg,Zzf] at h1;rw [h1,ZAx,Zy9];congr 2;omega
theorem Zhc {l:List Nat} (h:Lm l) (k:Nat):nv (l.take k) < 65536 ^ k:=Zzz (Zhp (h.take k)) (Zzj zo (by rw [Zyp];omega))
theorem gN_take {l:List Nat} {k i:Nat} (h:i < k):gN (l.take k) i=gN l i:=by
 unfold gN;rw [Zyg,ZAc,Zx5 h,←Zyg]
theorem Zqz {a b:List Nat} {k:Nat} (h:k < a.length):gN (a++b) k=gN a k:=by
 unfold gN;rw [Zyg,Zzp h,←Zyg]
theorem top_le {u v:List Nat} {n:Nat} (hu:Lm u) (hv:Lm v) (hvn:v.length=n) (hn:2≤n) (h:nv u < nv v):gN u (n - 1)≤gN v (n - 1):=by
 rcases Zyr (gN v (n - 1)) (gN u (n - 1)) with h1 | h1
 ·exfalso;have h2:=Zb0 u (n - 1);rw [Zb2] at h2;have h3:=Zb0 v (n - 1);rw [Zb2,show n - 1+1=n by omega,Zzw zo] at h3;simp only [nv,ZAg,Zzf] at h3;have h4:=Zhc hv (n - 1);have h5:65536 ^ (n - 1)*(gN v (n - 1)+1)≤65536 ^ (n - 1)*gN u (n - 1):=ZAh _ h1;rw [Zza,ZA1] at h5;rw [Zza] at h2;generalize 65536 ^ (n - 1)*(65536*nv (u.drop (n - 1+1)))=z at *;omega
 ·exact h1
theorem drop_zero {u v:List Nat} {n:Nat} (hv:Lm v) (hvn:v.length=n) (h:nv u < nv v):nv (u.drop n)=0:=by
 have h1:=Zb0 u n;have h2:=Zhp hv;rw [hvn] at h2;rcases Zzk (nv (u.drop n)) with h3 | h3
 ·exact h3
 ·have:=ZBa (65536 ^ n) h3;omega
theorem subDone {w d V W p b:Nat} (hV:0 < V) (hw:w < p) (hb:b≤1) (h:w+d*V=W+p*b) (hd:d=W/V∨d=W/V+1):(b=0∧d=W/V∧w=W%V)∨(b=1∧d=W/V+1):=by
 have h1:=ZA6 W V;have h2:=Zzu W hV;rw [Zy9] at h1;rcases hd with hd | hd<;>subst hd
 ·have hb0:b=0:=by
   rcases Zzk b with h3 | h3
   ·exact h3
   ·have:b=1:=zo;subst this;omega
  subst hb0;exact .inl ⟨rfl,rfl,zo⟩
 ·rw [Zy4,Zz4] at h
  have hb1:b=1:=by
   rcases Zzk b with h3 | h3
   ·subst h3;omega
   ·omega
  exact .inr ⟨hb1,rfl⟩
theorem resDone {w w' V W p c:Nat} (hV:0 < V) (hVp:V≤p) (hw:w' < p) (hc:c≤1) (h:w+(W/V+1)*V=W+p*1) (h':w'+p*c=w+V):w'=W%V:=by
 have h1:=ZA6 W V;have h2:=Zzu W hV;rw [Zy9] at h1;rw [Zy4,Zz4] at h;rcases Zzk c with h3 | h3
 ·subst h3;omega
 ·have:c=1:=zo;subst this;omega
def Frz (n:Nat) (st st':St):Prop:=∀(c:Cx) (a:Act) (w:World) (imm:Imm),Rel c n st a w imm→∃imm',Rel c n st' a w imm'
theorem Frz.refl (n:Nat) (st:St):Frz n st st:=λc a w imm h=>⟨imm,h⟩
theorem Frz.trans {n:Nat} {s1 s2 s3:St} (h:Frz n s1 s2) (k:Frz n s2 s3):Frz n s1 s3:=λc a w imm h1=>by
 obtain⟨i,h2⟩:=h c a w imm h1;exact k c a w i h2
theorem Frz.own {n:Nat} {e:Nat→AV} {m:Mem} {d k mm pub:Nat} {sv:Value} {ty:TypeId} {es:List AV} (he:e d=.own k sv) (hm:m k=some (.row sv ty mm es pub)):Frz n ⟨e,m⟩ ⟨upd e d (.sl mm es),mark m k⟩:=by
 intro c a w imm h;obtain⟨i,h1,h2⟩:=Zwr h.mem k;refine⟨i,λt=>?_,h.size,h.defers,h1⟩;have ht:=h2.rs (h.env t);show Rs w i (upd e d (.sl mm es) t) _;rw [Zau];split
 ·subst_vars
  rw [show(St.mk e m).env t=_ from he] at ht;rw [ht.own_inv];exact .pure (Zu9 (k:=k) (e:=ty) h1 (es:=es) (pub:=es.length) (by simp only [mark,Zau,Zy2,hm,Zze,Ent.mark]) rfl)
 ·exact ht
theorem Frz.nil {n:Nat} {e:Nat→AV} {m:Mem} {d:Nat} (mm:Nat) (he:e d=.v (.slice none 0 0)):Frz n ⟨e,m⟩ ⟨upd e d (.sl mm []),m⟩:=by
 intro c a w imm h;refine⟨imm,λt=>?_,h.size,h.defers,h.mem⟩;have ht:=h.env t;show Rs w imm (upd e d (.sl mm []) t) _;rw [Zau];split
 ·subst_vars
  rw [show(St.mk e m).env t=_ from he] at ht;rw [ht.v_inv];exact .pure ((Wk.nil mm).rd (.v _))
 ·exact ht
theorem Frz.nilOwn {n:Nat} {e:Nat→AV} {m:Mem} {d:Nat} (t mm:Nat) (ty:TypeId) (he:e d=.v (.slice none 0 0)):Frz n ⟨e,m⟩ ⟨upd e d (.own t (.slice none 0 0)),upd m t (some (.row (.slice none 0 0) ty mm [] 0))⟩:=by
 intro c a w imm h
 have hm:Mx c (upd m t (some (.row (.slice none 0 0) ty mm [] 0))) w imm:=by
  refine(Zfu h.mem (World.grownBy.refl w none) (Zx7 _) zs (λ_ _=>rfl) t (.row (.slice none 0 0) ty mm [] 0) ⟨[],ZC2 w c.B ty mm,by simp,by simp,by simp [flat],by simp,λad _ h2=>by simp [Value.ownBlock] at h2,λg off h1 _=>by simp [Value.ownBlock] at h1⟩ λj e2 b _ _ _=>⟨by simp,by simp [Ent.blk,Value.ownBlock]⟩).1
 refine⟨imm,λx=>?_,h.size,h.defers,hm⟩;have ht:=h.env x;show Rs w imm (upd e d (.own t (.slice none 0 0)) x) _;rw [Zau];split
 ·subst_vars
  rw [show(St.mk e m).env x=_ from he] at ht;rw [ht.v_inv];exact .own _ _ rfl
 ·exact ht
section
variable {P:Program} {n:Nat} {Q:AE→St→Prop} {e:Nat→AV} {m:Mem}
theorem Zf5 {body:Code} {st st':St} (h:Frz n st st') (k:Za9 P 0 n (.loop body) Q st'):Za9 P 0 n (.loop body) Q st:=λc a w imm hr=>by
 obtain⟨i,h1⟩:=h c a w imm hr;exact k c a w i h1
theorem r_loopF {ι:Type} {body:Code} (I:ι→(Nat→AV)→Mem→Prop) (μ:ι→Nat) (i:ι) (hf:Zbs n body=true)
 (round:∀i e m,I i e m→Za9 P 0 n body (AE.then (λst'=>∃i' st'',Frz n st' st''∧I i' st''.env st''.mem∧μ i' < μ i) Q) ⟨e,m⟩) (h0:I i e m):Za9 P 0 n (.loop body) Q ⟨e,m⟩:=by
 intro c a w imm hr b k cs;have key:∀m i st a w imm,μ i=m→I i st.env st.mem→Rel c n st a w imm →
  ∃e a' w',post c n Q e a' w'∧Arrives P (lone (b.at a (.code body :: .inLoop body :: k)) cs w) b k cs e a' w':=by
  intro m
  induction m using Nat.strongRecOn with
  | _ m ih =>
    intro i st a w imm hm hI hr;obtain⟨e,a₁,w₁,hq,harr⟩:=Za7 body _ st hf (round i st.env st.mem hI) c a w imm hr b (.inLoop body :: k) cs;obtain⟨ae,st',imm',rfl,h2,h3⟩:=hq
    cases ae with
    | normal =>
      obtain⟨i',st'',hF,hI',hlt⟩:=h2;obtain⟨imm2,h4⟩:=hF c a₁ w₁ imm' h3;obtain⟨e₂,a₂,w₂,hq₂,harr₂⟩:=ih (μ i') (hm ▸ hlt) i' st'' a₁ w₁ imm2 rfl hI' h4;exact⟨e₂,a₂,w₂,hq₂,.of_steps (Steps.trans harr (.one step_inLoop)) harr₂⟩
    | exit id=>exact⟨_,a₁,w₁,⟨.exit id,st',imm',rfl,h2,h3⟩,.pass (x:=.inLoop body) rfl (λ_ _=>.inl (by simp [AE.to])) harr⟩
    | ret=>exact⟨_,a₁,w₁,⟨.ret,st',imm',rfl,h2,h3⟩,.pass (x:=.inLoop body) rfl (λ_ _=>.inl (by simp [AE.to])) harr⟩
 obtain⟨e₁,a',w',hq,harr⟩:=key _ i ⟨e,m⟩ a w imm rfl h0 hr;exact⟨e₁,a',w',hq,.of_steps (.one step_loop) harr⟩
end
attribute [go_sem] List.getElem?_toArray
section
def Zg5 (P:Program) (t:TypeId):Bool:=match P.underlying t with
 | some (.struct _)=>true
 | _=>false
def Zdn (P:Program) (t:TypeId) (aS:List AV):AV:=if Zg5 P t then .agg aS else aS.headD .u
def Zcl (P:Program) (N:Nat):Nat→TypeId→List AV→Prop
 | 0,_,_=>False
 | n+1,t,aS=>match P.underlying t with
   | some .bool=>∃b,aS=[.v (.bool b)]
   | some (.int k)=>∃i,aS=[.v (.int k i)]∧(Lit.int k i).wf=true
   | some .string=>∃s:ByteArray,aS=[.v (.string s)]∧s.size≤N
   | some (.slice e)=>∃es:List (List AV),aS=[.sl (P.cellsOf e) (es.map (Zdn P e))]∧es.length≤N∧∀x∈es,Zcl P N n e x
   | some (.struct fs)=>aS.length=P.cellsOf t∧∀f∈fs.toList,Zcl P N n f.type ((aS.drop f.offset).take (P.cellsOf f.type))
   | _=>False
def Zgi (P:Program) (total:Nat):Nat→List Field→Bool
 | off,[]=>off == total
 | off,f :: fs=>f.offset == off && Zgi P total (off+P.cellsOf f.type) fs
def Zdz (P:Program):Nat→TypeId→Bool
 | 0,_=>false
 | n+1,t=>match P.underlying t with
   | some .bool | some (.int _) | some .string=>P.cellsOf t == 1
   | some (.slice e)=>P.cellsOf t == 1 && Zdz P n e
   | some (.struct fs)=>Zgi P (P.cellsOf t) 0 fs.toList && fs.toList.all λf=>Zdz P n f.type
   | _=>false
mutual
def bulk {H:Type}:DataW H→Nat
 | .lit (.string bytes)=>bytes.length+1
 | .lit _=>1
 | .nil=>1
 | .ptr d=>bulk d+1
 | .slice elems spare=>bulkAll elems+bulkAll spare+1
 | .agg parts=>bulkAll parts+1
 | .iface _ d=>bulk d+1
 | .map entries=>bulkEntries entries+1
 | .held _=>1
def bulkAll {H:Type}:List (DataW H)→Nat
 | []=>0
 | d :: r=>bulk d+bulkAll r
def bulkEntries {H:Type}:List (Lit × DataW H)→Nat
 | []=>0
 | x :: r=>bulkEntry x+bulkEntries r
def bulkEntry {H:Type}:Lit × DataW H→Nat
 | (.string bytes,d)=>bytes.length+bulk d+1
 | (_,d)=>bulk d+1
end
theorem bulk_pos {H:Type} (d:DataW H):1≤bulk d:=by
 unfold bulk;split<;>omega
theorem Znc {H:Type} {d:DataW H}:∀{l:List (DataW H)},d∈l→bulk d≤bulkAll l
 | e :: r,h=>by
   unfold bulkAll;rcases List.mem_cons.1 h with rfl | h
   ·omega
   ·have:=Znc h;omega
theorem Zsx {H:Type}:∀(l:List (DataW H)),l.length≤bulkAll l
 | []=>Zx7 _
 | e :: r=>by
   unfold bulkAll;have:=Zsx r;have:=bulk_pos e;simp only [Zyk];omega
def Zl1 {H:Type} (N:Nat) (d:DataW H):Prop:=maxLen≤N∨bulk d≤N
def Cs (w:World) (aS:List AV) (cs:List Value):Prop:=aS.length=cs.length∧∀(j:Nat) (a:AV) (x:Value),aS[j]?=some a→cs[j]?=some x→Rd w (imm0 w) a x
theorem Cs.nil {w:World}:Cs w [] []:=⟨rfl,λj a x h=>by simp at h⟩
theorem Cs.one {w:World} {a:AV} {x:Value} (h:Rd w (imm0 w) a x):Cs w [a] [x]:=by
 refine⟨rfl,λj b y h1 h2=>?_⟩
 cases j with
 | zero=>simp at h1 h2;subst h1;subst h2;exact h
 | succ j=>simp at h1
theorem Cs.append {w:World} {aS bs:List AV} {cs ds:List Value} (h:Cs w aS cs) (k:Cs w bs ds):Cs w (aS++bs) (cs++ds):=by
 refine⟨by simp [h.1,k.1],λj a x h1 h2=>?_⟩;by_cases hj:j < aS.length
 ·rw [Zzp hj] at h1;rw [Zzp (by rw [←h.1];exact hj)] at h2;exact h.2 j a x h1 h2
 ·rw [Zzq zo] at h1;rw [Zzq (by rw [←h.1];omega),←h.1] at h2;exact k.2 _ a x h1 h2
theorem mapM_inv {α β:Type} {f:α→Option β}:∀{l:List α} {r:List β},l.mapM f=some r→∀x∈l,∃y,f x=some y:=by
 intro l r h x hx;obtain⟨i,hi,rfl⟩:=List.mem_iff_getElem.1 hx;have h1:=mapM_some_get h i l[i] (Zyf hi);have h2:=mapM_some_length h;exact⟨r[i]'zo,by rw [h1,Zyf zo]⟩
theorem Zky {α:Type} {Q:Nat→α→Prop}:∀{n:Nat},(∀i,i < n→∃a,Q i a)→∃l:List α,l.length=n∧∀(i:Nat) (h:i < l.length),Q i l[i]
 | 0,_=>⟨[],rfl,λi h=>by simp at h⟩
 | n+1,h=>by
   obtain⟨l,hl,hq⟩:=Zky (n:=n) λi hi=>h i zo;obtain⟨a,ha⟩:=h n zo;refine⟨l++[a],by simp [hl],λi hi=>?_⟩;rw [Zy0,hl] at hi;by_cases hj:i < n
   ·rw [List.getElem_append_left zo];exact hq i zo
   ·have:i=n:=by simp at hi;omega
    subst this;rw [List.getElem_append_right zo]
    simpa [hl] using ha
theorem Zj6 (P:Program) (N:Nat):∀(n:Nat) (t:TypeId) (aS:List AV),Zdz P n t=true→Zcl P N n t aS→aS.length=P.cellsOf t∧(Zdn P t aS).cells=aS∧(Zg5 P t=false→∃a,aS=[a])
 | 0,_,_,h,_=>by simp [Zdz] at h
 | n+1,t,aS,hp,hs=>by
   unfold Zdz at hp;unfold Zcl at hs
   have one:∀a:AV,aS=[a]→P.cellsOf t=1→Zg5 P t=false→a.cells=[a]→aS.length=P.cellsOf t∧(Zdn P t aS).cells=aS∧(Zg5 P t=false→∃a,aS=[a]):=by
    intro a ha h1 h2 h3;subst ha;refine⟨by simp [h1],?_,λ_=>⟨a,rfl⟩⟩;unfold Zdn;rw [h2];exact h3
   split at hs
   ·rename_i hu;rw [hu] at hp;obtain⟨b,rfl⟩:=hs;exact one _ rfl (by simpa using hp) (by simp [Zg5,hu]) rfl
   ·rename_i hu;rw [hu] at hp;obtain⟨b,rfl,_⟩:=hs;exact one _ rfl (by simpa using hp) (by simp [Zg5,hu]) rfl
   ·rename_i hu;rw [hu] at hp;obtain⟨b,rfl,_⟩:=hs;exact one _ rfl (by simpa using hp) (by simp [Zg5,hu]) rfl
   ·rename_i e hu;rw [hu] at hp;obtain⟨es,rfl,_⟩:=hs;simp only [Zyv,Zz3] at hp;exact one _ rfl hp.1 (by simp [Zg5,hu]) rfl
   ·rename_i fs hu;have ha:Zg5 P t=true:=by simp [Zg5,hu]
    refine⟨hs.1,?_,λh=>by rw [ha] at h;cases h⟩;unfold Zdn;rw [Zx5 ha];rfl
   ·exact hs.elim
section
variable {H:Type} {enc:TypeId × Value→H} {P:Program} {w:World} {spare:Nat→Bool} {held:Bool}
theorem Zjh {N n fuel total:Nat} {cs:List Value}
 (ih:∀(t:TypeId) (cs:List Value) (d:DataW H) (ps:List MemPlace),Zdz P n t=true→Zl1 N d→DataW.trod enc P w 0 spare held fuel t cs=some (d,ps)→∃aS,Zcl P N n t aS∧(∀x∈aS,x.one=true)∧Cs w aS cs) (hcs:cs.length=total) :
 ∀(fs:List Field) (off:Nat) (xs:List (DataW H × List MemPlace)),Zgi P total off fs=true→off≤total→(fs.all λf=>Zdz P n f.type)=true →
  (fs.mapM λf=>DataW.trod enc P w 0 spare held fuel f.type ((cs.drop f.offset).take (P.cellsOf f.type)))=some xs→(∀x∈xs,Zl1 N x.1) →
  ∃aS,(∀x∈aS,x.one=true)∧Cs w aS (cs.drop off)∧∀f∈fs,off≤f.offset∧Zcl P N n f.type ((aS.drop (f.offset - off)).take (P.cellsOf f.type))
 | [],off,xs,hc,hle,hp,hm,hw=>by
   unfold Zgi at hc;have:off=total:=by simpa using hc
   subst this;refine⟨[],by simp,?_,by simp⟩;rw [Zzw zo];exact Cs.nil
 | f :: fs,off,xs,hc,hle,hp,hm,hw=>by
   unfold Zgi at hc;simp only [Zyv,Zz3] at hc;simp only [ZB0,Zyv] at hp;obtain⟨ho,hc⟩:=hc;rw [List.mapM_cons] at hm
   cases h1:DataW.trod enc P w 0 spare held fuel f.type ((cs.drop f.offset).take (P.cellsOf f.type)) with
   | none=>rw [h1] at hm;cases hm
   | some x =>
     cases h2:(fs.mapM λf=>DataW.trod enc P w 0 spare held fuel f.type ((cs.drop f.offset).take (P.cellsOf f.type))) with
     | none=>rw [h1,h2] at hm;cases hm
     | some ys =>
       have hxs:xs=x :: ys:=by rw [h1,h2] at hm;simpa using hm.symm
       subst hxs;obtain⟨aS,hs,hone,hcs1⟩:=ih f.type _ x.1 x.2 hp.1 (hw x ZAl) h1;have hlen:=(Zj6 P N n f.type aS hp.1 hs).1;have hl2:=hcs1.1;rw [hlen,Zyp,Zzx,ho,hcs] at hl2;obtain⟨bs,bone,hcs2,hbs⟩:=Zjh ih hcs fs (off+P.cellsOf f.type) ys hc zo hp.2 h2 (λy hy=>hw y (ZA4 _ hy));refine⟨aS++bs,λx hx=>(List.mem_append.1 hx).elim (hone x) (bone x),?_,λg hg=>?_⟩
       ·have:=hcs1.append hcs2
        rwa [ho,←ZBc,ZAe] at this
       ·rcases List.mem_cons.1 hg with rfl | hg
        ·refine⟨zo,?_⟩;rw [ho,ZBi,Zz6,←hlen,List.take_left];exact hs
        ·obtain⟨h3,h4⟩:=hbs g hg;refine⟨zo,?_⟩;rw [show g.offset - off=aS.length+(g.offset - (off+P.cellsOf f.type)) by omega,←ZBc,List.drop_left];exact h4
theorem Ziv {N:Nat}:∀(n fuel:Nat) (t:TypeId) (cs:List Value) (d:DataW H) (ps:List MemPlace),Zdz P n t=true→Zl1 N d→DataW.trod enc P w 0 spare held fuel t cs=some (d,ps) →
 ∃aS,Zcl P N n t aS∧(∀x∈aS,x.one=true)∧Cs w aS cs
 | 0,_,_,_,_,_,h,_,_=>by simp [Zdz] at h
 | n+1,0,_,_,_,_,_,_,h=>by simp [DataW.trod] at h
 | n+1,fuel+1,t,cs,d,ps,hp,hN,ht=>by
   unfold Zdz at hp;unfold DataW.trod at ht;unfold Zcl
   cases hu:P.underlying t with
   | none=>rw [hu] at hp;cases hp
   | some td =>
     rw [hu] at hp ht
     cases td with
     | bool =>
       rcases cs with _ | ⟨x,_ | ⟨y,r⟩⟩<;>try (simp at ht;done)
       cases x<;>try (simp at ht;done)
       refine⟨_,⟨_,rfl⟩,?_,Cs.one (.v _)⟩;intro x hx;simp at hx;subst hx;rfl
     | int k =>
       rcases cs with _ | ⟨x,_ | ⟨y,r⟩⟩<;>try (simp at ht;done)
       cases x<;>try (simp at ht;done)
       rename_i k' i;simp only at ht;split at ht
       ·rename_i hk;obtain⟨rfl,hw⟩:=hk;refine⟨_,⟨i,rfl,hw⟩,?_,Cs.one (.v _)⟩;intro x hx;simp at hx;subst hx;rfl
       ·cases ht
     | string =>
       rcases cs with _ | ⟨x,_ | ⟨y,r⟩⟩<;>try (simp at ht;done)
       cases x<;>try (simp at ht;done)
       rename_i s;simp only at ht;split at ht
       ·rename_i hs
        have hz:s.size≤N:=by
         rcases hN with h | h
         ·omega
         ·cases ht;unfold bulk at h;have:s.data.toList.length=s.size:=by rw [ZBy];rfl
          omega
        refine⟨_,⟨s,rfl,hz⟩,?_,Cs.one (.v _)⟩;intro x hx;simp at hx;subst hx;rfl
       ·cases ht
     | slice e =>
       simp only [Zyv,Zz3] at hp;rcases cs with _ | ⟨x,_ | ⟨y,r⟩⟩<;>try (simp at ht;done)
       cases x<;>try (simp at ht;done)
       rename_i A len cap
       cases A with
       | none =>
         have h0:len=0∧cap=0:=by
          simp only at ht;split at ht<;>simp_all
         obtain⟨rfl,rfl⟩:=h0;refine⟨_,⟨[],rfl,by simp,by simp⟩,?_,Cs.one ?_⟩
         ·intro x hx;simp at hx;subst hx;rfl
         ·exact .sl _ [] none 0 (λ_=>undef) zs zs (Zx7 _) zs zs (by simp [flat])
       | some a =>
         simp only at ht;split at ht
         ·rename_i hc;obtain⟨elems,he,ht⟩:=Option.bind_eq_some_iff.1 ht;have hel:elems.length=len:=by have:=mapM_some_length he;simpa using this
          have hd:∃rest:List (DataW H),d=.slice (elems.map (·.1)) rest:=by
           obtain⟨rest,_,hr⟩:=Option.map_eq_some_iff.1 ht;exact⟨rest.map (·.1),(ZBn Prod.fst hr).symm⟩
          obtain⟨rest,rfl⟩:=hd
          have hlN:len≤N:=by
           rcases hN with h | h
           ·omega
           ·unfold bulk at h;have:=Zsx (elems.map (·.1));rw [Zx9] at this;omega
          have hsub:∀y∈elems,Zl1 N y.1:=by
           intro y hy;rcases hN with h | h
           ·exact .inl h
           ·unfold bulk at h;have:=Znc (List.mem_map_of_mem (f:=(·.1)) hy);exact .inr zo
          have key:∀i,i < len→∃aS:List AV,Zcl P N n e aS∧(∀x∈aS,x.one=true)∧∃vals:List Value,Cs w aS vals∧vals.length=P.cellsOf e∧∀j,j < P.cellsOf e→w.cell? (a.add (i*P.cellsOf e+j))=vals[j]?:=by
           intro i hi;obtain⟨y,hy⟩:=mapM_inv he i (List.mem_range.2 hi);obtain⟨vals,hv,ht2⟩:=Option.bind_eq_some_iff.1 hy
           have hye:y∈elems:=by
            have h5:=mapM_some_get he i i (by rw [ZCc hi]);rw [hy] at h5;exact ZA9 h5.symm
           obtain⟨aS,h1,h2,h3⟩:=Ziv n fuel e vals y.1 y.2 hp.2 (hsub y hye) ht2;unfold World.cells? at hv;rw [Zx5 (Zyi _)] at hv;refine⟨aS,h1,h2,vals,h3,by have:=mapM_some_length hv;simpa using this,λj hj=>?_⟩;have:=mapM_some_get hv j j (by rw [ZCc hj])
           rwa [Addr.add_add] at this
          obtain⟨es,hes,hq⟩:=Zky key
          have hwrap:∀x∈es,(Zdn P e x).cells.length=P.cellsOf e∧(Zdn P e x).cells=x∧(Zdn P e x).ok=true:=by
           intro x hx;obtain⟨i,hi,rfl⟩:=List.mem_iff_getElem.1 hx;obtain⟨h1,h2,_⟩:=hq i hi;obtain⟨k1,k2,k3⟩:=Zj6 P N n e es[i] hp.2 h1;refine⟨by rw [k2];exact k1,k2,?_⟩;unfold Zdn;split
           ·show List.all es[i] AV.one=true;rw [ZAr];exact h2
           ·rename_i hag;obtain⟨b,hb⟩:=k3 (by simpa using hag);rw [hb];have h4:b.one=true:=h2 b (by rw [hb];simp);show b.ok=true;cases b<;>first|exact h4|cases h4
          have hm:∀x∈es.map (Zdn P e),x.cells.length=P.cellsOf e:=by
           intro x hx;obtain⟨y,hy,rfl⟩:=List.mem_map.1 hx;exact(hwrap y hy).1
          have hcell:∀i j,i < len→j < P.cellsOf e→∃v,w.cell? (a.add (i*P.cellsOf e+j))=some v∧∀b,(flat (es.map (Zdn P e)))[i*P.cellsOf e+j]?=some b→Rd w (imm0 w) b v:=by
           intro i j hi hj;obtain⟨h1,h2,vals,h3,h4,h5⟩:=hq i zo;refine⟨vals[j],by rw [h5 j hj,Zyf zo],λb hb=>?_⟩;rw [Zfp hm i j hj (by rw [Zx9];omega),Zyg,Zzt,Zyf (by omega:i < es.length),Zze,Zz5,(hwrap _ (Zyl _)).2.1] at hb;exact h3.2 j b _ hb (Zyf zo)
          have hdm:∀j,j < len*P.cellsOf e→j/P.cellsOf e < len∧j%P.cellsOf e < P.cellsOf e∧j/P.cellsOf e*P.cellsOf e+j%P.cellsOf e=j:=by
           intro j hj
           have h0:0 < P.cellsOf e:=by
            rcases Zzk (P.cellsOf e) with h | h
            ·rw [h] at hj;omega
            ·exact h
           refine⟨Nat.div_lt_of_lt_mul (by rw [Zy9];exact hj),Zzu _ h0,?_⟩;rw [Zy9];exact ZA6 _ _
          have hlen:(es.map (Zdn P e)).length=len:=by rw [Zx9,hes]
          refine⟨_,⟨es,rfl,zo,λx hx=>?_⟩,?_,Cs.one ?_⟩
          ·obtain⟨i,hi,rfl⟩:=List.mem_iff_getElem.1 hx;exact(hq i hi).1
          ·intro x hx;simp at hx;subst hx;rfl
          ·have:=Rd.sl (w:=w) (imm:=imm0 w) (P.cellsOf e) (es.map (Zdn P e)) (some a) cap (λj=>(w.cell? (a.add j)).getD undef) hm (λx hx=>by
            obtain⟨y,hy,rfl⟩:=List.mem_map.1 hx;exact(hwrap y hy).2.2) (by rw [hlen];exact hc.2.1) zs (λj hj=>by
            rw [hlen] at hj;obtain⟨k1,k2,k3⟩:=hdm j hj;obtain⟨v,hv,_⟩:=hcell _ _ k1 k2;rw [k3] at hv;exact⟨a,rfl,Zw0 hv,by rw [hv];rfl⟩) (λj b hb=>by
            have hj:j < len*P.cellsOf e:=by
             have:=Zby hb
             rwa [Za5 hm,hlen] at this
            obtain⟨k1,k2,k3⟩:=hdm j hj;obtain⟨v,hv,hr⟩:=hcell _ _ k1 k2;rw [k3] at hv hr;rw [hv];exact hr b hb)
           rwa [hlen] at this
         ·cases ht
     | struct fs =>
       simp only [Zyv] at hp ⊢;simp only at ht;split at ht
       ·rename_i hlen;obtain⟨xs,hx,hxd⟩:=Option.map_eq_some_iff.1 ht;obtain⟨aS,h1,h2,h3⟩:=Zjh (N:=N) (λt cs d ps a b c=>Ziv n fuel t cs d ps a b c) hlen fs.toList 0 xs hp.1 (Zyi _) hp.2 hx (λx hx=>by
         rcases hN with h | h
         ·exact .inl h
         ·have hd:DataW.agg (xs.map (·.1))=d:=ZBn Prod.fst hxd;subst hd;unfold bulk at h;have:=Znc (List.mem_map_of_mem (f:=(·.1)) hx);exact .inr zo)
        rw [Zz6] at h2;refine⟨aS,⟨by rw [h2.1,hlen],λf hf=>?_⟩,h1,h2⟩;have:=(h3 f hf).2
        rwa [ZA5] at this
       ·cases ht
     | _=>cases hp
def ShapeV (P:Program) (N n:Nat) (t:TypeId) (a:AV):Prop:=∃aS,a=Zdn P t aS∧Zcl P N n t aS
inductive ShapeL (P:Program) (N n:Nat):List TypeId→List AV→Prop
 | nil:ShapeL P N n [] []
 | cons {t:TypeId} {a:AV} {ts:List TypeId} {aS:List AV} (h:ShapeV P N n t a) (r:ShapeL P N n ts aS):ShapeL P N n (t :: ts) (a :: aS)
theorem Zpt {N n:Nat} {t:TypeId} {v:Value} {d:DataW H} {ps:List MemPlace} (hp:Zdz P n t=true) (hN:Zl1 N d) (h:DataW.Trod enc P w 0 spare held t v d ps) {base:Nat} (hok:Value.okWide P w .any base t v):∃a,ShapeV P N n t a∧Rd w (imm0 w) a v:=by
 obtain⟨fuel,hf⟩:=h;obtain⟨aS,h1,h2,h3⟩:=Ziv n fuel t _ d ps hp hN hf;refine⟨Zdn P t aS,⟨aS,rfl,h1⟩,?_⟩
 cases hag:Zg5 P t with
 | true =>
   unfold Zdn;rw [hag,Zx5 rfl]
   obtain⟨cs,rfl⟩:∃cs,v=.agg cs:=by
    unfold Zg5 at hag;split at hag
    ·rename_i fs hu;simp only [Value.okWide,hu] at hok;obtain⟨cs,rfl,_⟩:=hok;exact⟨cs,rfl⟩
    ·cases hag
   refine .agg aS cs ?_ λj a x k1 k2=>h3.2 j a x k1 ?_
   ·have:=h3.1;simpa [Value.cells] using this
   ·simpa [Value.cells] using k2
 | false =>
   obtain⟨a,rfl⟩:=(Zj6 P N n t aS hp h1).2.2 hag;unfold Zdn;rw [hag,Zx4 zs];have hl:=h3.1
   have hva:v.cells.toList=[v]:=by
    cases v with
    | agg cs =>
      exfalso
      cases n with
      | zero=>simp [Zdz] at hp
      | succ n =>
        unfold Zdz at hp;unfold Zg5 at hag;simp only [Value.okWide,Cell.okWide,Cell.ok] at hok;split at hp<;>simp_all
    | _=>rfl
   exact h3.2 0 a v rfl (by rw [hva];rfl)
theorem trodAll_shape {N n base:Nat}:∀{ts:List TypeId} {vs:List Value} {ds:List (DataW H)} {ps:List MemPlace},(ts.all λt=>Zdz P n t)=true→(maxLen≤N∨bulkAll ds≤N)→DataW.TrodAll enc P w 0 spare held ts vs ds ps →
 (∀(j:Nat) t v,ts[j]?=some t→vs[j]?=some v→Value.okWide P w .any base t v)→∃aS,ShapeL P N n ts aS∧Rds w aS vs
 | [],[],[],ps,_,_,_,_=>⟨[],.nil,.nil⟩
 | t :: ts,v :: vs,d :: ds,ps,hp,hN,h,hok=>by
   simp only [ZB0,Zyv] at hp
   have hN1:Zl1 N d:=by
    rcases hN with h | h
    ·exact .inl h
    ·unfold bulkAll at h;exact .inr zo
   have hN2:maxLen≤N∨bulkAll ds≤N:=by
    rcases hN with h | h
    ·exact .inl h
    ·unfold bulkAll at h;exact .inr zo
   obtain⟨p,q,h1,h2,_⟩:=h;obtain⟨a,k1,k2⟩:=Zpt hp.1 hN1 h1 (hok 0 t v rfl rfl);obtain⟨aS,k3,k4⟩:=trodAll_shape hp.2 hN2 h2 λj t v e1 e2=>hok (j+1) t v (by simpa using e1) (by simpa using e2);exact⟨a :: aS,.cons k1 k3,.cons k2 k4⟩
 | [],[],_ :: _,_,_,_,h,_=>h.elim
 | [],_ :: _,_,_,_,_,h,_=>h.elim
 | _ :: _,[],_,_,_,_,h,_=>h.elim
 | _ :: _,_ :: _,[],_,_,_,h,_=>h.elim
theorem trodAll_below (hl:laidOutB P=true) {W':World}:∀{ts:List TypeId} {vs:List Value} {ds:List (DataW H)} {ps:List MemPlace},(ts.all λt=>P.readableRec t && decide (t < P.types.size))=true →
 DataW.TrodAll enc P w 0 (λ_=>true) true ts vs ds ps→Below w.heap.size w W'→DataW.TrodAll enc P W' 0 (λb=>decide (b < w.heap.size)) true ts vs ds ps
 | [],[],[],ps,_,h,_=>h
 | t :: ts,v :: vs,d :: ds,ps,hp,h,hb=>by
   simp only [ZB0,Zyv,Zy1] at hp;obtain⟨p,q,h1,h2,h3⟩:=h;have lt0:∀x∈p,x.block < w.heap.size:=by obtain⟨m,hm⟩:=h1;exact DataW.trod_lt m _ _ _ hm
   exact⟨p,q,Below.trod hl hp.1.1 hp.1.2 h1 hb lt0,trodAll_below hl hp.2 h2 hb,h3⟩
 | [],[],_ :: _,_,_,h,_=>h.elim
 | [],_ :: _,_,_,_,h,_=>h.elim
 | _ :: _,[],_,_,_,h,_=>h.elim
 | _ :: _,_ :: _,[],_,_,h,_=>h.elim
end
section
variable {P:Program} {N n:Nat} {t e:TypeId} {aS:List AV} {k:IntKind} {fs:Array Field}
theorem Zlf (hu:P.underlying t=some .bool) (h:Zcl P N n t aS):∃b,aS=[.v (.bool b)]:=by
 cases n with
 | zero=>exact h.elim
 | succ n=>unfold Zcl at h;rw [hu] at h;exact h
theorem Zic (hu:P.underlying t=some (.int k)) (h:Zcl P N n t aS):∃i,aS=[.v (.int k i)]∧(Lit.int k i).wf=true:=by
 cases n with
 | zero=>exact h.elim
 | succ n=>unfold Zcl at h;rw [hu] at h;exact h
theorem Znr (hu:P.underlying t=some .string) (h:Zcl P N n t aS):∃s:ByteArray,aS=[.v (.string s)]∧s.size≤N:=by
 cases n with
 | zero=>exact h.elim
 | succ n=>unfold Zcl at h;rw [hu] at h;exact h
theorem Zp1 (hu:P.underlying t=some (.slice e)) (h:Zcl P N n t aS):∃(m:Nat) (es:List (List AV)),n=m+1∧aS=[.sl (P.cellsOf e) (es.map (Zdn P e))]∧es.length≤N∧∀x∈es,Zcl P N m e x:=by
 cases n with
 | zero=>exact h.elim
 | succ n=>unfold Zcl at h;rw [hu] at h;obtain⟨es,h1,h2,h3⟩:=h;exact⟨n,es,rfl,h1,h2,h3⟩
inductive ShapeF (P:Program) (N m:Nat):List Field→List AV→Prop
 | nil:ShapeF P N m [] []
 | cons {f:Field} {fs:List Field} {x y:List AV} (h:Zcl P N m f.type x) (r:ShapeF P N m fs y):ShapeF P N m (f :: fs) (x++y)
theorem ShapeF.inv {m:Nat} {f:Field} {fs:List Field} {aS:List AV} (h:ShapeF P N m (f :: fs) aS):∃x y,aS=x++y∧Zcl P N m f.type x∧ShapeF P N m fs y:=by
 cases h with
 | cons h r=>exact⟨_,_,rfl,h,r⟩
theorem ShapeF.inv0 {m:Nat} {aS:List AV} (h:ShapeF P N m [] aS):aS=[]:=by cases h;rfl
theorem Zns {m total:Nat}:∀{fs:List Field} {off:Nat} {aS:List AV},Zgi P total off fs=true→off≤total→aS.length=total→(∀f∈fs,Zcl P N m f.type ((aS.drop f.offset).take (P.cellsOf f.type)))→ShapeF P N m fs (aS.drop off)
 | [],off,aS,hc,_,hl,_=>by
   unfold Zgi at hc;have:off=total:=by simpa using hc
   rw [Zzw zo];exact .nil
 | f :: fs,off,aS,hc,ho,hl,hf=>by
   unfold Zgi at hc;simp only [Zyv,Zz3] at hc;have h1:=hf f ZAl;rw [hc.1] at h1;rw [←ZAe (P.cellsOf f.type) (aS.drop off),ZBc];refine .cons h1 ?_;by_cases hle:off+P.cellsOf f.type≤total
   ·exact Zns hc.2 hle hl λg hg=>hf g (ZA4 _ hg)
   ·exfalso
    have key:∀(fs:List Field) (off:Nat),Zgi P total off fs=true→off≤total:=by
     intro fs
     induction fs with
     | nil=>intro off h;unfold Zgi at h;have:off=total:=by simpa using h
            omega
     | cons g gs ih=>intro off h;unfold Zgi at h;simp only [Zyv,Zz3] at h;have:=ih _ h.2;omega
    exact hle (key fs _ hc.2)
theorem Zel (hu:P.underlying t=some (.struct fs)) (hc:Zgi P (P.cellsOf t) 0 fs.toList=true) (h:Zcl P N n t aS):∃m,n=m+1∧ShapeF P N m fs.toList aS:=by
 cases n with
 | zero=>exact h.elim
 | succ n =>
   unfold Zcl at h;rw [hu] at h;refine⟨n,rfl,?_⟩;have:=Zns (N:=N) (m:=n) hc (Zyi _) h.1 h.2
   rwa [Zz6] at this
theorem map_of {α β:Type} {g:β→α} {Q:β→Prop}:∀{l:List α},(∀x∈l,∃b,x=g b∧Q b)→∃bs:List β,l=bs.map g∧∀b∈bs,Q b
 | [],_=>⟨[],rfl,by simp⟩
 | x :: l,h=>by
   obtain⟨b,hb,hq⟩:=h x ZAl;obtain⟨bs,hbs,hqs⟩:=map_of (l:=l) λy hy=>h y (ZA4 _ hy);refine⟨b :: bs,by rw [hb,hbs];rfl,λc hc=>?_⟩;rcases List.mem_cons.1 hc with rfl | hc
   ·exact hq
   ·exact hqs c hc
theorem Zh9 (hu:P.underlying t=some (.struct fs)) (aS:List AV):Zdn P t aS=.agg aS:=by simp [Zdn,Zg5,hu]
theorem Zgl (h:Zg5 P t=false) (a:AV):Zdn P t [a]=a:=by simp [Zdn,h]
theorem Zdc {β:Type} {g:β→List AV} {Q:β→Prop} (hu:P.underlying t=some (.slice e)) (h:Zcl P N n t aS) (hx:∀m x,Zcl P N m e x→∃b,x=g b∧Q b) :
 ∃bs:List β,aS=[.sl (P.cellsOf e) (bs.map λb=>Zdn P e (g b))]∧bs.length≤N∧∀b∈bs,Q b:=by
 obtain⟨m,es,rfl,rfl,hl,hs⟩:=Zp1 hu h;obtain⟨bs,rfl,hq⟩:=map_of λx hx'=>hx m x (hs x hx');refine⟨bs,by rw [List.map_map];rfl,by simpa using hl,hq⟩
theorem ShapeL.inv {N n:Nat} {t:TypeId} {ts:List TypeId} {aS:List AV} (h:ShapeL P N n (t :: ts) aS):∃x bs,aS=Zdn P t x :: bs∧Zcl P N n t x∧ShapeL P N n ts bs:=by
 cases h with
 | cons h r=>obtain⟨x,rfl,hx⟩:=h;exact⟨x,_,rfl,hx,r⟩
theorem ShapeL.inv0 {N n:Nat} {aS:List AV} (h:ShapeL P N n [] aS):aS=[]:=by cases h;rfl
theorem wf_u16 {i:Int} (h:(Lit.int .u16 i).wf=true):0≤i∧i < 65536:=by
 have h:(decide ((0:Int)≤i) && decide (i≤65535))=true:=h;simp only [Zyv,Zy1] at h;omega
end
end
mutual
def AV.sh:AV→AV
 | .agg cs=>.agg (AV.shL cs)
 | .tup cs=>.tup (AV.shL cs)
 | .fn f cs=>.fn f (AV.shL cs)
 | .ifc t x=>.ifc t (AV.sh x)
 | .own k sv=>.own (k+1000) sv
 | .prow k sv m i off=>.prow (k+1000) sv m i off
 | .pbox k g off=>.pbox (k+1000) g off
 | .view k sv m i len=>.view (k+1000) sv m i len
 | .mp k g=>.mp (k+1000) g
 | .v x=>.v x
 | .sl m es=>.sl m es
 | .pimm cs=>.pimm cs
 | .u=>.u
def AV.shL:List AV→List AV
 | []=>[]
 | a :: r=>AV.sh a :: AV.shL r
end
theorem AV.shL_len:∀(l:List AV),(AV.shL l).length=l.length
 | []=>rfl
 | a :: r=>by simp only [AV.shL,Zyk,AV.shL_len r]
theorem AV.shL_at:∀(l:List AV) (j:Nat),(AV.shL l)[j]?=(l[j]?).map AV.sh
 | [],j=>by simp [AV.shL]
 | a :: r,0=>by simp [AV.shL]
 | a :: r,j+1=>by simp only [AV.shL,ZC7];exact AV.shL_at r j
theorem AV.sh_one (a:AV):a.sh.one=a.one:=by cases a<;>simp only [AV.sh]<;>rfl
theorem Sub.agg (aS bs:List AV) (hl:aS.length=bs.length) (h:∀(j:Nat) (a b:AV),aS[j]?=some a→bs[j]?=some b→Sub a b):Sub (.agg aS) (.agg bs):=λw imm x hx=>by
 obtain⟨vs,rfl,h1,h2⟩:=hx.agg_inv;refine .agg _ _ zo λj b y hb hy=>?_;have hj:j < aS.length:=by rw [hl];exact(List.getElem?_eq_some_iff.1 hb).1
 exact h j aS[j] b (Zyf hj) hb w imm y (h2 j aS[j] y (Zyf hj) hy)
theorem Sub.fn (f:FuncId) (aS bs:List AV) (hl:aS.length=bs.length) (h:∀(j:Nat) (a b:AV),aS[j]?=some a→bs[j]?=some b→Sub a b):Sub (.fn f aS) (.fn f bs):=λw imm x hx=>by
 obtain⟨vs,rfl,h1,h2⟩:=hx.fn_inv;refine .fn _ _ _ zo λj b y hb hy=>?_;have hj:j < aS.length:=by rw [hl];exact(List.getElem?_eq_some_iff.1 hb).1
 exact h j aS[j] b (Zyf hj) hb w imm y (h2 j aS[j] y (Zyf hj) hy)
theorem Sub.ifc (t:TypeId) {a b:AV} (h:Sub a b):Sub (.ifc t a) (.ifc t b):=λw imm x hx=>by
 obtain⟨y,rfl,h1⟩:=hx.ifc_inv;exact .ifc _ _ _ (h w imm y h1)
mutual
theorem AV.sub_sh:∀(a:AV),Sub a a.sh∧Sub a.sh a
 | .agg cs=>by
   have h:=AV.subL_sh cs;refine⟨Sub.agg _ _ (AV.shL_len cs).symm λj a b h1 h2=>?_,Sub.agg _ _ (AV.shL_len cs) λj a b h1 h2=>?_⟩
   ·rw [AV.shL_at,h1] at h2;cases h2;exact(h a (ZA9 h1)).1
   ·rw [AV.shL_at,h2] at h1;cases h1;exact(h b (ZA9 h2)).2
 | .tup cs=>by
   have h:=AV.subL_sh cs;refine⟨Sub.tup _ _ (AV.shL_len cs).symm λj a b h1 h2=>?_,Sub.tup _ _ (AV.shL_len cs) λj a b h1 h2=>?_⟩
   ·rw [AV.shL_at,h1] at h2;cases h2;exact(h a (ZA9 h1)).1
   ·rw [AV.shL_at,h2] at h1;cases h1;exact(h b (ZA9 h2)).2
 | .fn f cs=>by
   have h:=AV.subL_sh cs;refine⟨Sub.fn _ _ _ (AV.shL_len cs).symm λj a b h1 h2=>?_,Sub.fn _ _ _ (AV.shL_len cs) λj a b h1 h2=>?_⟩
   ·rw [AV.shL_at,h1] at h2;cases h2;exact(h a (ZA9 h1)).1
   ·rw [AV.shL_at,h2] at h1;cases h1;exact(h b (ZA9 h2)).2
 | .ifc t x=>⟨Sub.ifc t (AV.sub_sh x).1,Sub.ifc t (AV.sub_sh x).2⟩
 | .own k sv=>⟨Sub.own _ _ _,Sub.own _ _ _⟩
 | .prow k sv m i off=>⟨Sub.prow _ _ _ _ _ _,Sub.prow _ _ _ _ _ _⟩
 | .pbox k g off=>⟨Sub.pbox _ _ _ _,Sub.pbox _ _ _ _⟩
 | .view k sv m i len=>⟨Sub.view _ _ _ _ _ _,Sub.view _ _ _ _ _ _⟩
 | .mp k g=>⟨Sub.mp _ _ _,Sub.mp _ _ _⟩
 | .v x=>⟨Sub.refl _,Sub.refl _⟩
 | .sl m es=>⟨Sub.refl _,Sub.refl _⟩
 | .pimm cs=>⟨Sub.refl _,Sub.refl _⟩
 | .u=>⟨Sub.refl _,Sub.refl _⟩
theorem AV.subL_sh:∀(l:List AV) (a:AV),a∈l→Sub a a.sh∧Sub a.sh a
 | [],a,h=>by simp at h
 | b :: r,a,h=>by
   by_cases e:a=b
   ·rw [e];exact AV.sub_sh b
   ·exact AV.subL_sh r a ((List.mem_cons.1 h).resolve_left e)
end
def Ent.sh:Ent→Ent
 | .row sv e m es pub=>.row sv e m es pub
 | .box g e cs pub=>.box g e (AV.shL cs) pub
 | .map g es=>.map g es
theorem Ent.sh_blk (e:Ent):e.sh.blk=e.blk:=by cases e<;>rfl
theorem Ent.sh_ok {B:Nat} {w:World} {imm:Imm} {e:Ent} (h:EntOk B w imm e):EntOk B w imm e.sh:=by
 cases e with
 | row=>exact h
 | box g e cs pub =>
   obtain⟨cur,h1,h2,h3,h4,h5,h6,h7⟩:=h;refine⟨cur,h1,h2,by rw [AV.shL_len];exact h3,λx hx=>?_,λj a x ha hx=>?_,h6,λhp off ho=>h7 hp off (by rw [AV.shL_len] at ho;exact ho)⟩
   ·obtain⟨j,hj⟩:=List.mem_iff_getElem?.1 hx;rw [AV.shL_at] at hj;obtain⟨y,hy,rfl⟩:=Option.map_eq_some_iff.1 hj;rw [AV.sh_one];exact h4 y (ZA9 hy)
   ·rw [AV.shL_at] at ha;obtain⟨y,hy,rfl⟩:=Option.map_eq_some_iff.1 ha;exact(AV.sub_sh y).1 w imm x (h5 j y x hy hx)
 | map=>exact h
theorem Ent.of_sh {B:Nat} {w:World} {imm:Imm} {e:Ent} (h:EntOk B w imm e.sh):EntOk B w imm e:=by
 cases e with
 | row=>exact h
 | box g e cs pub =>
   obtain⟨cur,h1,h2,h3,h4,h5,h6,h7⟩:=h;refine⟨cur,h1,h2,by rw [AV.shL_len] at h3;exact h3,λx hx=>?_,λj a x ha hx=>?_,h6,λhp off ho=>h7 hp off (by rw [AV.shL_len];exact ho)⟩
   ·obtain⟨j,hj⟩:=List.mem_iff_getElem?.1 hx;have h8:=h4 x.sh (ZA9 (i:=j) (by rw [AV.shL_at,hj];rfl));rw [AV.sh_one] at h8;exact h8
   ·exact(AV.sub_sh a).2 w imm x (h5 j a.sh x (by rw [AV.shL_at,ha];rfl) hx)
 | map=>exact h
def Zkp (σ:Mem):Mem:=λk=>if k < 1000 then none else (σ (k - 1000)).map Ent.sh
theorem Zah {σ:Mem} {k:Nat} {e:Ent} (h:σ k=some e):Zkp σ (k+1000)=some e.sh:=by
 unfold Zkp;rw [Zx4 zo,ZB3,h];rfl
theorem Zam {σ:Mem} {k:Nat} (h:k < 1000):Zkp σ k=none:=by unfold Zkp;rw [Zx5 h]
def Agr (m σ:Mem):Prop:=∀k,m (k+1000)=(σ k).map Ent.sh
theorem Agr.start (σ:Mem):Agr (Zkp σ) σ:=λk=>by unfold Zkp;rw [Zx4 zo,ZB3]
theorem Agr.own {m σ:Mem} (h:Agr m σ) {t:Nat} {x:Option Ent} (ht:t < 1000):Agr (upd m t x) σ:=λk=>by
 rw [Zau,Zx4 zo];exact h k
theorem Agr.mark {m σ:Mem} (h:Agr m σ) {t:Nat} (ht:t < 1000):Agr (mark m t) σ:=h.own ht
theorem Agr.put {m σ:Mem} (h:Agr m σ) {t k:Nat} {e e':Ent} (ht:t=k+1000) (he:e'=e.sh):Agr (upd m t (some e')) (upd σ k (some e)):=λj=>by
 subst ht;subst he;rw [Zau,Zau];by_cases hj:j=k
 ·subst hj;rw [Zx5 rfl,Zx5 rfl];rfl
 ·rw [Zx4 zo,Zx4 hj];exact h j
theorem upd_over {α:Type} (f:Nat→α) (k:Nat) (a b:α):upd (upd f k a) k b=upd f k b:=by
 funext j
 simp only [Zau];split<;>rfl
theorem Agr.same {m σ:Mem} (h:Agr m σ) {t k:Nat} {e e':Ent} (ht:t=k+1000) (hk:σ k=some e) (he:e'=e.sh):Agr (upd m t (some e')) σ:=by
 have:=h.put (k:=k) (e:=e) ht he
 rwa [show upd σ k (some e)=σ from by funext j;rw [Zau];split;(subst_vars;exact hk.symm);rfl] at this
def BackS (R:AV→Mem→Prop) (b:AV) (m:Mem):Prop:=∃(r:AV) (σ':Mem),Sub b r∧R r σ'∧Agr m σ'
theorem Zd4 {R:AV→Mem→Prop} {b r:AV} {m σ':Mem} (h:Sub b r) (hR:R r σ') (ha:Agr m σ'):BackS R b m:=⟨r,σ',h,hR,ha⟩
theorem Zap {P:Program} {f n:Nat} {fn:Func} {code:Code} {rs:List ResultVar} {args:List AV} {σ:Mem} {R:AV→Mem→Prop} (hf:P.funcs[f]?=some fn) (hb:fn.body=some code) (hn:fn.ntmps=n) (hrs:fn.results=rs.toArray)
 (hc:∀(vs:Array Value) (w:World),(callFunc f vs).run P w=.ok (.enter f vs) w) (hfit:Zbs n code=true) (hal:args.length≤n)
 (h:Za9 P 0 n code (Done P rs λst b=>BackS R b st.mem) ⟨λt=>(AV.shL args).getD t .u,Zkp σ⟩):ACall P f args σ R:=by
 have key:=Zda (σ:=Zkp σ) (R:=BackS R) hf hb hn hrs hc hfit (by rw [AV.shL_len];exact hal) h;refine⟨hc,λc w imm vs hm hl hr=>?_⟩
 have hm':Mx c (Zkp σ) w imm:=by
  refine⟨⟨λk e hk=>?_,λk k' e e' b h1 h2 h3 h4=>?_,hm.ok.lt,hm.ok.spot⟩,hm.below,hm.lt,hm.old,hm.new,hm.cells⟩
  ·unfold Zkp at hk;split at hk
   ·cases hk
   ·obtain⟨e0,h0,rfl⟩:=Option.map_eq_some_iff.1 hk;exact Ent.sh_ok (hm.ok.ent _ _ h0)
  ·unfold Zkp at h1 h2;split at h1
   ·cases h1
   ·split at h2
    ·cases h2
    ·obtain⟨e0,k0,rfl⟩:=Option.map_eq_some_iff.1 h1;obtain⟨e1,k1,rfl⟩:=Option.map_eq_some_iff.1 h2;rw [Ent.sh_blk] at h3 h4;have:=hm.ok.apart _ _ _ _ b k0 k1 h3 h4;omega
 refine(key.2 c w imm vs hm' (by rw [AV.shL_len];exact hl) λj a x h1 h2=>?_).mono λe w' he=>?_
 ·rw [AV.shL_at] at h1;obtain⟨y,hy,rfl⟩:=Option.map_eq_some_iff.1 h1;exact(AV.sub_sh y).1 w imm x (hr j y x hy h2)
 ·obtain⟨b,m,imm',x,rfl,⟨r,σ',h1,h2,h3⟩,h5,h6,h7⟩:=he;refine⟨r,σ',imm',x,rfl,h2,h1 _ _ _ h5,⟨⟨λk e hk=>?_,λk k' e e' b h1 h2 k3 k4=>?_,h6.ok.lt,h6.ok.spot⟩,h6.below,h6.lt,h6.old,h6.new,h6.cells⟩,h7⟩
  ·have:=h3 k;rw [hk] at this;exact Ent.of_sh (h6.ok.ent _ _ this)
  ·have e1:=h3 k;have e2:=h3 k';rw [h1] at e1;rw [h2] at e2;have:=h6.ok.apart _ _ _ _ b e1 e2 (by rw [Ent.sh_blk];exact k3) (by rw [Ent.sh_blk];exact k4);omega
theorem Frz.nilBox {n:Nat} {e:Nat→AV} {m:Mem} {k g:Nat} {bt:TypeId} {cs:List AV} (j t mm:Nat) (ty:TypeId) (hm:m k=some (.box g bt cs false)) (hj:cs[j]?=some (.v (.slice none 0 0))) (ht:t≠k) :
 Frz n ⟨e,m⟩ ⟨e,upd (upd m k (some (.box g bt (cs.set j (.own t (.slice none 0 0))) false))) t (some (.row (.slice none 0 0) ty mm [] 0))⟩:=by
 intro c a w imm h
 have h1:Mx c (upd m k (some (.box g bt (cs.set j (.own t (.slice none 0 0))) false))) w imm:=by
  have hk:=h.mem.ok.ent k _ hm;obtain⟨cur,k1,k2,k3,k4,k5,k6,k7⟩:=hk;refine(Zfu h.mem (World.grownBy.refl w none) (Zx7 _) zs (λ_ _=>rfl) k (.box g bt (cs.set j (.own t (.slice none 0 0))) false) ⟨cur,k1,k2,by simpa using k3,λx hx=>?_,λi a x ha hx=>?_,k6,λhp=>by cases hp⟩ λj2 e2 b h1 h2 h3=>⟨by simp,?_⟩).1
  ·rcases ZCd hx with h1 | h1
   ·exact k4 x h1
   ·subst h1;rfl
  ·rw [List.getElem?_set] at ha;split at ha
   ·rename_i hij;subst hij;split at ha
    ·simp only [Option.some.injEq] at ha;subst ha;have:=(k5 j _ x hj hx).v_inv;subst this;exact .own _ _ rfl
    ·cases ha
   ·exact k5 i a x ha hx
  ·show some g≠some b;intro hb;exact h1 (h.mem.ok.apart j2 k e2 _ b h2 hm h3 hb)
 refine⟨imm,h.env,h.size,h.defers,?_⟩;exact(Zfu h1 (World.grownBy.refl w none) (Zx7 _) zs (λ_ _=>rfl) t (.row (.slice none 0 0) ty mm [] 0) ⟨[],ZC2 w c.B ty mm,by simp,by simp,by simp [flat],by simp,λad _ h2=>by simp [Value.ownBlock] at h2,λg off h1 _=>by simp [Value.ownBlock] at h1⟩ λj e2 b _ _ _=>⟨by simp,by simp [Ent.blk,Value.ownBlock]⟩).1
attribute [go_sem] AV.sh AV.shL Ent.sh
section
variable {P:Program} {all rest:List Oper} {K:St→Prop} {e:Nat→AV} {m:Mem} {dst:Option Nat} {d t j:Nat} {op:Op} {ty:TypeId} {pos:String} {af:Array Edge} {r:Res} {rs:Nat→AV} {bar:List Nat} {fu k:Nat} {σs:Mem}
theorem gy5d (hb:bar.contains k=true) (hs:(bar.contains (k+1000) || bar.contains (k+3000))=false) (h2:bar.contains (k+2000)=true) (ho:all[k]?=some ⟨some d,op,ty,pos,af,none⟩) (h:Ev (Zaf P ⟨e,m⟩ op=r)) (hkp:Ev (Zcg Zae r)) (hk:aRes P d (some d) r (Zbx P 0 all rs bar Zae fu (k+1) K) ⟨e,m⟩):Zbx P 0 all rs bar σs (fu+1) k K ⟨e,m⟩:=by
 rw [Zcm];unfold Zei;rw [ho];simp only [ZAn] at hs;simp only [Zb6,hb,hs,h2,Zy2,Zyj,Zyu];have h:Zaf P ⟨e,m⟩ op=r:=h;refine⟨?_,λ_=>⟨rfl,by rw [h];exact hkp,λh=>by cases h⟩⟩;unfold Zgc;rw [Zed,h,Zz5,Zy8];exact hk
end
end Go.Pg
namespace Go.Proofs.YtenfejhaohihoaaGreat
open Go Go.RowKit Go.Pg Go.Proofs.Tryz
attribute [-bool_to_prop] Bool.and_eq_decide Bool.or_eq_decide Bool.decide_beq_decide decide_eq_decide
theorem sz3:szOf prog 3=some 1:=by kernel_rfl
theorem by3:Zep prog 3=some 8:=by kernel_rfl
theorem z3:Zar prog 3=some (.int .i64 0):=by kernel_rfl
theorem szL:szOf prog 184=some 1:=by kernel_rfl
theorem byL:Zep prog 184=some 2:=by kernel_rfl
theorem zL:Zar prog 184=some (.int .u16 0):=by kernel_rfl
theorem szQ:szOf prog 136=some 1:=by kernel_rfl
theorem zQ:Zar prog 136=some (.int .u64 0):=by kernel_rfl
def expOk (x:Int):Bool:=!decide (x < 0) && !decide (1048576 < x)
def Zlg (l:List Int):Bool:=decide (l.length≤64) && !(l.getLast?.getD 1 == 0) && l.all expOk
theorem Ztx {l:List Int} (h:0 < l.length):l.getLast?.getD 1=gI l (l.length - 1):=by
 rw [List.getLast?_eq_getElem?,Zdr zo,Zyf zo];rfl
attribute [go_sem] underlying109 underlying3 sz3 by3 z3
def Sm (l:List Int):Prop:=l.length≤1000∧∀j,0≤gI l j∧gI l j≤16777216
def sumT (l:List Int):Nat→Int
 | 0=>0
 | k+1=>sumT l k+gI l k
theorem Zj2 {l:List Int} (h:Sm l):∀k,0≤sumT l k∧sumT l k≤k*16777216
 | 0=>by simp [sumT]
 | k+1=>by
   have h1:=Zj2 h k;have h2:=h.2 k;simp only [sumT];omega
theorem Zoq (l:List Int) (hs:Sm l):Pure prog 246 [ints l] (.v (.int .i64 (sumT l l.length))):=by
 unfold ints;refine Zaa (tok:=0) (rs:=[.tmp 2]) func246 rfl ntmps246 results246 call246 zr zs ?_;have hl:=hs.1;(focus (refine wkap w_t w_t (w_r 0) ?_;(repeat' first|exact w_t|apply w_l);all_goals intros));refine Zn1 (ι:=Nat) (λk st=>k≤l.length∧st.env 6=.sl 1 (l.map λn=>AV.v (.int .i64 n))∧st.env 7=.v (.int .i64 l.length)∧st.env 8=.v (.int .i64 k)∧st.env 3=.v (.int .i64 (sumT l k))) (λk=>l.length - k) 0 zr ?_ ?_
 ·rintro k st ⟨hk,e6,e7,e8,e3⟩
  by_cases hlt:k < l.length
  ·have b1:=Zj2 hs k;have b2:=hs.2 k;(focus (refine wkap (w_4 e6 e7 e8 e3) w_t (w_r 0) ?_;(repeat' first|exact w_t|apply w_l);all_goals intros));exact⟨k+1,⟨zo,by simp (disch:=omega) only [go_sem,e6],by simp (disch:=omega) only [go_sem,e7],by simp (disch:=omega) only [go_sem,e8];rfl,by simp (disch:=omega) only [go_sem,e3];rfl⟩,zo⟩
  ·have hk':k=l.length:=zo;subst hk';(focus (refine wkap (w_4 e6 e7 e8 e3) w_t (w_r 0) ?_;(repeat' first|exact w_t|apply w_l);all_goals intros));simp (disch:=omega) only [go_sem,e3]
 ·exact⟨Zyi _,by simp (disch:=omega) only [go_sem],by simp (disch:=omega) only [go_sem],by simp (disch:=omega) only [go_sem];rfl,by simp (disch:=omega) only [go_sem];rfl⟩
theorem Znz (l:List Int) (hs:Sm l):Pure prog 194 [ints l] (.v (.int .i64 (sumT l l.length))):=by
 unfold ints;refine Zaa (tok:=0) (rs:=[.tmp 2]) func194 rfl ntmps194 results194 call194 zr zs ?_;have hl:=hs.1;(focus (refine wkap w_t w_t (w_r 0) ?_;(repeat' first|exact w_t|apply w_l);all_goals intros));refine Zn1 (ι:=Nat) (λk st=>k≤l.length∧st.env 0=.sl 1 (l.map λn=>AV.v (.int .i64 n))∧st.env 4=.v (.int .i64 k)∧st.env 3=.v (.int .i64 (sumT l k))) (λk=>l.length - k) 0 zr ?_ ?_
 ·rintro k st ⟨hk,e0,e4,e3⟩
  by_cases hlt:k < l.length
  ·have b1:=Zj2 hs k;have b2:=hs.2 k;(focus (refine wkap (w_3 e0 e4 e3) w_t (w_r 0) ?_;(repeat' first|exact w_t|apply w_l);all_goals intros));exact⟨k+1,⟨zo,by simp (disch:=omega) only [go_sem,e0],by simp (disch:=omega) only [go_sem,e4];rfl,by simp (disch:=omega) only [go_sem,e3];rfl⟩,zo⟩
  ·have hk':k=l.length:=zo;subst hk';(focus (refine wkap (w_3 e0 e4 e3) w_t (w_r 0) ?_;(repeat' first|exact w_t|apply w_l);all_goals intros));simp (disch:=omega) only [go_sem,e3]
 ·exact⟨Zyi _,by simp (disch:=omega) only [go_sem],by simp (disch:=omega) only [go_sem];rfl,by simp (disch:=omega) only [go_sem];rfl⟩
def expI (l:List Int) (v:Int):Int:=if v < 0 then 0 else gI l v.toNat
theorem exp_of (l:List Int) (k:Nat):expI l (k:Int)=gI l k:=by unfold expI;rw [Zx4 zo];rfl
theorem toNat_lt {l:List Int} {v:Int} (h0:0≤v) (h:v < l.length):v.toNat < l.length:=zo
theorem monExp (l:List Int) (v:Int):Pure prog 247 [ints l,.v (.int .i64 v)] (.v (.int .i64 (expI l v))):=by
 unfold ints;refine Zaa (tok:=0) (rs:=[.tmp 4]) func247 rfl ntmps247 results247 call247 zr zs ?_;by_cases h0:v < 0
 ·unfold expI;rw [Zx5 h0];(focus (refine wkap w_t w_t (w_r 0) ?_;(repeat' first|exact w_t|apply w_l);all_goals intros));simp (disch:=omega) only [go_sem]
 ·unfold expI;rw [Zx4 h0];by_cases h1:v < l.length
  ·have h2:=toNat_lt zo h1;(focus (refine wkap w_t w_t (w_r 0) ?_;(repeat' first|exact w_t|apply w_l);all_goals intros));simp (disch:=omega) only [go_sem]
  ·rw [Zb3 zo];(focus (refine wkap w_t w_t (w_r 0) ?_;(repeat' first|exact w_t|apply w_l);all_goals intros));simp (disch:=omega) only [go_sem]
theorem refExp (l:List Int) (v:Int):Pure prog 196 [ints l,.v (.int .i64 v)] (.v (.int .i64 (expI l v))):=by
 unfold ints;refine Zaa (tok:=0) (rs:=[.tmp 4]) func196 rfl ntmps196 results196 call196 zr zs ?_;by_cases h0:v < 0
 ·unfold expI;rw [Zx5 h0];(focus (refine wkap w_t w_t (w_r 0) ?_;(repeat' first|exact w_t|apply w_l);all_goals intros));simp (disch:=omega) only [go_sem]
 ·unfold expI;rw [Zx4 h0];by_cases h1:v < l.length
  ·have h2:=toNat_lt zo h1;(focus (refine wkap w_t w_t (w_r 0) ?_;(repeat' first|exact w_t|apply w_l);all_goals intros));simp (disch:=omega) only [go_sem]
  ·rw [Zb3 zo];(focus (refine wkap w_t w_t (w_r 0) ?_;(repeat' first|exact w_t|apply w_l);all_goals intros));simp (disch:=omega) only [go_sem]
def sgn (n:Int):Int:=if n < 0 then -1 else if 0 < n then 1 else 0
theorem Zvd (n:Int):Pure prog 195 [.v (.int .i64 n)] (.v (.int .i64 (sgn n))):=by
 refine Zaa (tok:=0) (rs:=[.tmp 2]) func195 rfl ntmps195 results195 call195 zr zs ?_;unfold sgn;by_cases h0:n < 0
 ·rw [Zx5 h0];(focus (refine wkap w_t w_t (w_r 0) ?_;(repeat' first|exact w_t|apply w_l);all_goals intros));simp (disch:=omega) only [go_sem]
 ·rw [Zx4 h0];by_cases h1:0 < n
  ·rw [Zx5 h1];(focus (refine wkap w_t w_t (w_r 0) ?_;(repeat' first|exact w_t|apply w_l);all_goals intros));simp (disch:=omega) only [go_sem]
  ·rw [Zx4 h1];(focus (refine wkap w_t w_t (w_r 0) ?_;(repeat' first|exact w_t|apply w_l);all_goals intros));simp (disch:=omega) only [go_sem]
attribute [go_sem] underlying67
def Zhn (l:List Int):Nat→Nat
 | 0=>0
 | n+1=>if gI l n=0 then Zhn l n else n+1
theorem Zrl (l:List Int):∀n,Zhn l n≤n
 | 0=>Zx7 _
 | n+1=>by
   simp only [Zhn];split
   ·exact Zye (Zrl l n) zo
   ·omega
def Ziw (l:List Int):List Int:=l.take (Zhn l l.length)
theorem Zlb {l:List Int} {k:Nat} (h:0 < k) (hx:gI l (k - 1)≠0):Zhn l k=k:=by
 cases k with
 | zero=>omega
 | succ k=>simp only [Zhn];rw [Zx4 (by simpa using hx)]
theorem Zs4 {l:List Int} {k:Nat} (h:0 < k) (hx:gI l (k - 1)=0):Zhn l (k - 1)=Zhn l k:=by
 cases k with
 | zero=>omega
 | succ k=>simp only [Zhn];rw [Zx5 (by simpa using hx)];rfl
theorem Zk0 {k:Nat} (h:0 < k):(k:Int) - 1=((k - 1:Nat):Int):=zo
theorem monTrim' (l:List Int) (hs:l.length≤1000):Pure prog 243 [ints l] (if Zhn l l.length=0 then .v (.slice none 0 0) else ints (Ziw l)):=by
 have hle:=Zrl l l.length
 have hcode:∀r:AV,(Zhn l l.length=0→r=.v (.slice none 0 0))→(Zhn l l.length≠0→r=.sl 1 ((l.map λn=>AV.v (.int .i64 n)).take (Zhn l l.length)))→Pure prog 243 [ints l] r:=by
  intro r h1 h2;unfold ints;refine Zaa (tok:=0) (rs:=[.tmp 2]) func243 rfl ntmps243 results243 call243 zr zs ?_;(focus (refine wkap w_t w_t (w_r 0) ?_;(repeat' first|exact w_t|apply w_l);all_goals intros));refine Zn1 (ι:=Nat) (λk st=>k≤l.length∧st.env 0=.sl 1 (l.map λn=>AV.v (.int .i64 n))∧st.env 3=.v (.int .i64 k)∧Zhn l k=Zhn l l.length) (λk=>k) l.length zr ?_ ?_
  ·rintro k st ⟨hk,e0,e3,ha⟩
   by_cases h0:0 < k
   ·by_cases hx:gI l (k - 1)=0
    ·(focus (refine wkap (w_2 e0 e3) w_t (w_r 0) ?_;(repeat' first|exact w_t|apply w_l);all_goals intros));refine⟨k - 1,⟨zo,by simp (disch:=omega) only [go_sem,e0],by simp (disch:=omega) only [go_sem,e3];rw [Zk0 h0],?_⟩,zo⟩;rw [Zs4 h0 hx,ha]
    ·rw [Zlb h0 hx] at ha;rw [←ha] at h1 h2 hle;rw [h2 zo];(focus (refine wkap (w_2 e0 e3) w_t (w_r 0) ?_;(repeat' first|exact w_t|apply w_l);all_goals intros));simp (disch:=omega) only [go_sem]
   ·have hk0:k=0:=zo;subst hk0;have h3:Zhn l l.length=0:=ha.symm;rw [h1 h3];(focus (refine wkap (w_2 e0 e3) w_t (w_r 0) ?_;(repeat' first|exact w_t|apply w_l);all_goals intros));simp (disch:=omega) only [go_sem]
  ·exact⟨Zx7 _,by simp (disch:=omega) only [go_sem],by simp (disch:=omega) only [go_sem],rfl⟩
 refine hcode _ (λh=>by rw [Zx5 h]) (λh=>by rw [Zx4 h];unfold ints Ziw;rw [List.map_take])
theorem monTrim (l:List Int) (hs:l.length≤1000):Pure prog 243 [ints l] (ints (Ziw l)):=by
 refine(monTrim' l hs).wk ?_;split
 ·rename_i h;unfold Ziw ints;rw [h];exact .nil 1
 ·exact .refl _
theorem addF (x y:Int) (h:-9223372036854775808≤x+y∧x+y≤9223372036854775807):Pure prog 245 [.v (.int .i64 x),.v (.int .i64 y)] (.v (.int .i64 (x+y))):=by
 refine Zaa (tok:=0) (rs:=[.tmp 4]) func245 rfl ntmps245 results245 call245 zr zs ?_;(focus (refine wkap w_t w_t (w_r 0) ?_;(repeat' first|exact w_t|apply w_l);all_goals intros));simp (disch:=omega) only [go_sem]
def zipI (F:Int→Int→Int) (a b:List Int):List Int:=(List.range (max a.length b.length)).map λi=>F (gI a i) (gI b i)
def upto (n k:Nat) (F:Nat→Int):List AV:=(List.range n).map λi=>AV.v (.int .i64 (if i < k then F i else 0))
theorem upto_len (n k:Nat) (F:Nat→Int):(upto n k F).length=n:=by simp [upto]
theorem Znh (n:Nat) (F:Nat→Int):List.replicate n (AV.v (.int .i64 0))=upto n 0 F:=by
 refine List.ext_getElem (by simp [upto]) λj h1 h2=>?_;simp [upto]
theorem upto_set {n k:Nat} {F:Nat→Int} (h:k < n):(upto n k F).set k (.v (.int .i64 (F k)))=upto n (k+1) F:=by
 refine List.ext_getElem (by simp [upto]) λj h1 h2=>?_;simp only [upto,List.getElem_set,List.getElem_map,List.getElem_range];by_cases hj:k=j
 ·subst hj;simp
 ·rw [Zx4 hj];by_cases h3:j < k
  ·rw [Zx5 h3,Zx5 zo]
  ·rw [Zx4 h3,Zx4 zo]
theorem Zul (n:Nat) (F:Nat→Int):upto n n F=((List.range n).map F).map λx=>AV.v (.int .i64 x):=by
 refine List.ext_getElem (by simp [upto]) λj h1 h2=>?_;have hj:j < n:=by simpa [upto] using h1
 simp [upto,hj]
theorem Ztu (a b:List Int) (g:Nat) (F:Int→Int→Int) (ha:a.length≤1000) (hb:b.length≤1000)
 (hF:∀k,k < max a.length b.length→Pure prog g [.v (.int .i64 (gI a k)),.v (.int .i64 (gI b k))] (.v (.int .i64 (F (gI a k) (gI b k))))):Pure prog 244 [ints a,ints b,.fn g []] (ints (zipI F a b)):=by
 unfold ints;refine Zaa (tok:=0) (rs:=[.tmp 6]) func244 rfl ntmps244 results244 call244 zr zs ?_;obtain⟨n,hn⟩:∃n,n=max a.length b.length:=⟨_,rfl⟩;have hmx:max (a.length:Int) (b.length:Int)=(n:Int):=zo
 (repeat' (first|(with_reducible first|refine stp ?_|apply gx1|apply gx2|apply gx3|apply gx4|apply gx5|apply gx6|apply gx7)|(with_reducible refine Zcv ?_;intro _)|((with_reducible refine gE ?_);(try simp (disch:=omega) only [go_sem,hmx,Znh,Zx8,Zx6,Zx5,Zx4,Int.reduceAdd,Int.reduceSub,Int.reduceToNat,Zyh])<;>first|rfl|omega)|with_reducible refine Zag zd ?_|((with_reducible first|apply Zcw|apply Zcy);all_goals (intro hc;(try simp only [bool_to_prop] at hc);try (exfalso;omega)))))
 rename_i sv;refine Zn1 (ι:=Nat) (λk st=>k≤n∧st.env 0=.sl 1 (a.map λn=>AV.v (.int .i64 n))∧st.env 1=.sl 1 (b.map λn=>AV.v (.int .i64 n))∧st.env 2=.fn g []∧st.env 7=.own 16 sv∧st.env 18=.v (.int .i64 n)∧st.env 19=.v (.int .i64 k)∧st.mem 16=some (.row sv 3 1 (upto n k λi=>F (gI a i) (gI b i)) 0)) (λk=>n - k) 0 zr ?_ ?_
 ·rintro k st ⟨hk,e0,e1,e2,e7,e18,e19,em⟩
  have hu:=upto_len n k λi=>F (gI a i) (gI b i);by_cases hlt:k < n
  ·have hFk:=hF k zo;have hst:=@upto_set n k (λi=>F (gI a i) (gI b i)) hlt;have key:∀(x y:Int) (Q:AE→St→Prop),gI a k=x→gI b k=y→True:=λ_ _ _ _ _=>trivial;by_cases h1:k < a.length<;>by_cases h2:k < b.length
   ·(focus (refine wkap (w_10 e0 e1 e2 e7 e18 e19 em hmx hu hst) (w_1 hFk) (w_r 0) ?_;(repeat' first|exact w_t|apply w_l);all_goals intros));refine⟨k+1,⟨zo,by simp (disch:=omega) only [go_sem,e0],by simp (disch:=omega) only [go_sem,e1],by simp (disch:=omega) only [go_sem,e2],by simp (disch:=omega) only [go_sem,e7],by simp (disch:=omega) only [go_sem,e18],by simp (disch:=omega) only [go_sem,e19];rfl,by simp (disch:=omega) only [go_sem]⟩,zo⟩
   ·have g2:=Zb3 (l:=b) (k:=k) zo;rw [g2] at hFk;rw [g2] at hst;(focus (refine wkap (w_10 e0 e1 e2 e7 e18 e19 em hmx hu hst) (w_1 hFk) (w_r 0) ?_;(repeat' first|exact w_t|apply w_l);all_goals intros));refine⟨k+1,⟨zo,by simp (disch:=omega) only [go_sem,e0],by simp (disch:=omega) only [go_sem,e1],by simp (disch:=omega) only [go_sem,e2],by simp (disch:=omega) only [go_sem,e7],by simp (disch:=omega) only [go_sem,e18],by simp (disch:=omega) only [go_sem,e19];rfl,by simp (disch:=omega) only [go_sem]⟩,zo⟩
   ·have g2:=Zb3 (l:=a) (k:=k) zo;rw [g2] at hFk;rw [g2] at hst;(focus (refine wkap (w_10 e0 e1 e2 e7 e18 e19 em hmx hu hst) (w_1 hFk) (w_r 0) ?_;(repeat' first|exact w_t|apply w_l);all_goals intros));refine⟨k+1,⟨zo,by simp (disch:=omega) only [go_sem,e0],by simp (disch:=omega) only [go_sem,e1],by simp (disch:=omega) only [go_sem,e2],by simp (disch:=omega) only [go_sem,e7],by simp (disch:=omega) only [go_sem,e18],by simp (disch:=omega) only [go_sem,e19];rfl,by simp (disch:=omega) only [go_sem]⟩,zo⟩
   ·exfalso;omega
  ·have hk':k=n:=zo;subst hk';(focus (refine wkap (w_8 e0 e1 e2 e7 e18 e19 em hmx) w_t (w_r 0) ?_;(repeat' first|exact w_t|apply w_l);all_goals intros));unfold zipI;rw [←hn,←Zul];simp (disch:=omega) only [go_sem,em]
 ·exact⟨Zyi _,by simp (disch:=omega) only [go_sem],by simp (disch:=omega) only [go_sem],by simp (disch:=omega) only [go_sem],by simp (disch:=omega) only [go_sem],by simp (disch:=omega) only [go_sem],by simp (disch:=omega) only [go_sem];rfl,by simp (disch:=omega) only [go_sem,←Znh]⟩
theorem zipI_len (F:Int→Int→Int) (a b:List Int):(zipI F a b).length=max a.length b.length:=by simp [zipI]
def Wd (l:List Int):Prop:=l.length≤1000∧∀j,-4503599627370496≤gI l j∧gI l j≤4503599627370496
theorem Sm.wd {l:List Int} (h:Sm l):Wd l:=⟨h.1,λj=>by have:=h.2 j;omega⟩
theorem monMul (a b:List Int) (ha:Wd a) (hb:Wd b):Pure prog 222 [ints a,ints b] (ints (Ziw (zipI (·+·) a b))):=by
 have h1:=Ztu a b 245 (·+·) ha.1 hb.1 λk _=>addF _ _ (by have:=ha.2 k;have:=hb.2 k;omega);have h2:=monTrim (zipI (·+·) a b) (by rw [zipI_len];have:=ha.1;have:=hb.1;omega);unfold ints at *;refine Zaa (tok:=0) (rs:=[.tmp 4]) func222 rfl ntmps222 results222 call222 zr zs ?_;(focus (refine wkap w_t (w_2 h1 h2) (w_r 0) ?_;(repeat' first|exact w_t|apply w_l);all_goals intros));simp (disch:=omega) only [go_sem]
def divI (a b:List Int):Bool:=(List.range a.length).all λi=>decide (gI a i≤gI b i)
theorem Zwn (b:List Int) (k:Nat):Pure prog 247 [.sl 1 (b.map λn=>AV.v (.int .i64 n)),.v (.int .i64 k)] (.v (.int .i64 (gI b k))):=by
 have:=monExp b k
 rwa [exp_of] at this
theorem Zmd (b:List Int) (k:Nat):Pure prog 196 [.sl 1 (b.map λn=>AV.v (.int .i64 n)),.v (.int .i64 k)] (.v (.int .i64 (gI b k))):=by
 have:=refExp b k
 rwa [exp_of] at this
def copI (a b:List Int):Bool:=(List.range a.length).all λi=>decide (gI a i=0∨gI b i=0)
def outL (F:Nat→Int) (k:Nat):List AV:=(List.range k).map λi=>AV.v (.int .i64 (F i))
theorem outL_len (F:Nat→Int) (k:Nat):(outL F k).length=k:=by simp [outL]
theorem Zv1 (F:Nat→Int) (k:Nat):outL F k++[AV.v (.int .i64 (F k))]=outL F (k+1):=by simp [outL,List.range_succ]
theorem outL_one (F:Nat→Int):[AV.v (.int .i64 (F 0))]=outL F (0+1):=by simp [outL,List.range_succ]
theorem Zv2 (F:Nat→Int) (n:Nat):AV.sl 1 (outL F n)=ints ((List.range n).map F):=by simp [outL,ints,Function.comp_def]
theorem nil_wk {n:Nat} {F:Nat→Int} (h:n=0):Wk (.v (.slice none 0 0)) (ints ((List.range n).map F)):=by subst h;exact .nil 1
theorem mrMul' (a b:List Int) (ha:Wd a) (hb:Wd b):Pure prog 136 [ints a,ints b] (if max a.length b.length=0 then .v (.slice none 0 0) else .sl 1 (outL (λi=>gI a i+gI b i) (max a.length b.length))):=by
 obtain⟨n,hn⟩:∃n,n=max a.length b.length:=⟨_,rfl⟩;have hal:=ha.1;have hbl:=hb.1;rw [←hn]
 have hcode:∀r:AV,(n=0→r=.v (.slice none 0 0))→(n≠0→r=.sl 1 (outL (λi=>gI a i+gI b i) n))→Pure prog 136 [ints a,ints b] r:=by
  intro r hr0 hr1;unfold ints;refine Zaa (tok:=0) (rs:=[.tmp 4]) func136 rfl ntmps136 results136 call136 zr zs ?_;(focus (refine wkap w_t w_t (w_r 0) ?_;(repeat' first|exact w_t|apply w_l);all_goals intros));refine Zad (ι:=Nat) (λk e m=>k≤n∧e 0=.sl 1 (a.map λn=>AV.v (.int .i64 n))∧e 1=.sl 1 (b.map λn=>AV.v (.int .i64 n))∧e 6=.v (.int .i64 k)∧(k=0→e 5=.v (.slice none 0 0))∧(k≠0→∃sv,e 5=.own 28 sv∧m 28=some (.row sv 3 1 (outL (λi=>gI a i+gI b i) k) 0))) (λk=>n - k) 0 zr ?_ ?_
  ·rintro k e m ⟨hk,e0,e1,e6,hz,hp⟩
   by_cases hlt:k < n
   ·have hxa:=Zmd a k;have hxb:=Zmd b k;have p1:=ha.2 k;have p2:=hb.2 k;by_cases hk0:k=0
    ·subst hk0;have e5:=hz rfl;have o1:=outL_one (λi=>gI a i+gI b i);by_cases hka:0 < a.length;all_goals
      (focus (refine wkap (w_4 e0 e1 e6 e5) (w_2 hxa hxb) (w_r 0) ?_;(repeat' first|exact w_t|apply w_l);all_goals intros));refine⟨0+1,⟨zo,gW e0,gW e1,gV e6,λh=>zo,λ_=>⟨_,gS,by(simp (disch:=omega) only [go_sem,←o1]<;>repeat' first|rfl|refine⟨?_,?_⟩)⟩⟩,zo⟩
    ·obtain⟨sv,e5,em⟩:=hp hk0;have hol:=outL_len (λi=>gI a i+gI b i) k;have hos:=Zv1 (λi=>gI a i+gI b i) k;by_cases hka:k < a.length;all_goals
      (focus (refine wkap (w_6 e0 e1 e6 e5 em hol) (w_2 hxa hxb) (w_r 0) ?_;(repeat' first|exact w_t|apply w_l);all_goals intros));refine⟨k+1,⟨zo,gW e0,gW e1,gV e6,λh=>zo,λ_=>⟨_,gS,gW hos⟩⟩,zo⟩
   ·have hk':k=n:=zo;subst hk';by_cases hk0:k=0
    ·have e5:=hz hk0;rw [hr0 hk0];(focus (refine wklp (w_4 e0 e1 e6 e5) w_t w_t (w_r 0) ?_;(repeat' first|exact w_t|apply w_l);all_goals intros))
    ·obtain⟨sv,e5,em⟩:=hp hk0;rw [hr1 hk0];(focus (refine wklp (w_5 e0 e1 e6 e5 em) w_t (w_1 em) (w_r 0) ?_;(repeat' first|exact w_t|apply w_l);all_goals intros))
  ·exact⟨Zyi _,gC,gC,gS,λ_=>gC,λh=>absurd rfl h⟩
 exact hcode _ (λh=>by rw [Zx5 h]) (λh=>by rw [Zx4 h])
theorem mrMul (a b:List Int) (ha:Wd a) (hb:Wd b):Pure prog 136 [ints a,ints b] (ints (zipI (·+·) a b)):=by
 refine(mrMul' a b ha hb).wk ?_;split
 ·rename_i h;exact nil_wk h
 ·rw [Zv2];exact .refl _
def quoI (a b:List Int):List Int:=if divI b a=true then Ziw (zipI (· - ·) a b) else []
def quoR (a b:List Int):List Int:=if divI b a=true then Ziw ((List.range a.length).map λi=>gI a i - gI b i) else []
attribute [go_sem] underlying4
section
theorem sz23:szOf prog 109=some 1:=by kernel_rfl
attribute [local go_sem] sz23
def normI (l:List Int):List Int:=if Zlg (Ziw l)=true then Ziw l else []
def lt1 (x y:Int):Int:=if x < y then -1 else 1
def lexC (a b:List Int):Nat→Int
 | 0=>0
 | n+1=>if gI a n=gI b n then lexC a b n else lt1 (gI a n) (gI b n)
def cmpI (a b:List Int) (o:Int):Int :=
 if o=1∧sumT a a.length≠sumT b b.length then lt1 (sumT a a.length) (sumT b b.length) else lexC a b (max a.length b.length)
theorem Zox {a b:List Int} {k:Nat} (h0:0 < k) (h:gI a (k - 1)=gI b (k - 1)):lexC a b (k - 1)=lexC a b k:=by
 cases k with
 | zero=>omega
 | succ k=>simp only [lexC];rw [Zx5 (by simpa using h)];rfl
theorem Zoy {a b:List Int} {k:Nat} (h0:0 < k) (h:gI a (k - 1)≠gI b (k - 1)):lexC a b k=lt1 (gI a (k - 1)) (gI b (k - 1)):=by
 cases k with
 | zero=>omega
 | succ k=>simp only [lexC];rw [Zx4 (by simpa using h)];rfl
theorem Zu5 {x y:Int} (h:x≠y):sgn (x - y)=lt1 x y:=by
 unfold sgn lt1;by_cases h1:x < y
 ·rw [Zx5 zo,Zx5 h1]
 ·rw [Zx4 zo,Zx5 zo,Zx4 h1]
theorem monCmp (a b:List Int) (o:Int) (ha:Sm a) (hb:Sm b):Pure prog 223 [ints a,ints b,.v (.int .i64 o)] (.v (.int .i64 (cmpI a b o))):=by
 have hal:=ha.1;have hbl:=hb.1;have d1:=Zoq a ha;have d2:=Zoq b hb;unfold ints at *;refine Zaa (tok:=0) (rs:=[.tmp 6]) func223 rfl ntmps223 results223 call223 zr zs ?_;obtain⟨n,hn⟩:∃n,n=max a.length b.length:=⟨_,rfl⟩;have hmx:max (a.length:Int) (b.length:Int)=(n:Int):=zo;by_cases hbig:o=1∧sumT a a.length≠sumT b b.length
 ·obtain⟨ho,hd⟩:=hbig;have hc:cmpI a b o=lt1 (sumT a a.length) (sumT b b.length):=by unfold cmpI;rw [Zx5 ⟨ho,hd⟩]
  rw [hc];unfold lt1;by_cases hlt:sumT a a.length < sumT b b.length
  ·rw [Zx5 hlt];(focus (refine wklp w_t (w_2 d1 d2) w_t (w_r 0) ?_;(repeat' first|exact w_t|apply w_l);all_goals intros))
  ·rw [Zx4 hlt];(focus (refine wklp w_t (w_2 d1 d2) w_t (w_r 0) ?_;(repeat' first|exact w_t|apply w_l);all_goals intros))
 ·have hc:cmpI a b o=lexC a b n:=by unfold cmpI;rw [Zx4 hbig,hn]
  rw [hc];have loop:∀(e:Nat→AV) (m:Mem),e 0=.sl 1 (a.map λn=>AV.v (.int .i64 n))→e 1=.sl 1 (b.map λn=>AV.v (.int .i64 n))→True:=λ_ _ _ _=>trivial;have hd0:o=1→sumT a a.length=sumT b b.length:=λho=>Decidable.byContradiction λh=>hbig ⟨ho,h⟩;by_cases ho:o=1;all_goals
   first
   | (have hd:=hd0 ho
      (focus (refine wkap (w_1 hmx) (w_2 d1 d2) (w_r 0) ?_;(repeat' first|exact w_t|apply w_l);all_goals intros)))
   | ((focus (refine wkap (w_1 hmx) w_t (w_r 0) ?_;(repeat' first|exact w_t|apply w_l);all_goals intros)))
   refine Zad (ι:=Nat) (λk e m=>k≤n∧e 0=.sl 1 (a.map λn=>AV.v (.int .i64 n))∧e 1=.sl 1 (b.map λn=>AV.v (.int .i64 n))∧e 9=.v (.int .i64 ((k:Int) - 1))∧lexC a b k=lexC a b n) (λk=>k) n zr ?_ ?_
   ·rintro k e m ⟨hk,e0,e1,e9,hl⟩
    by_cases hk0:0 < k
    ·have hp:=Zk0 hk0;rw [hp] at e9;have x1:=Zwn a (k - 1);have x2:=Zwn b (k - 1);by_cases hx:gI a (k - 1)=gI b (k - 1)
     ·(focus (refine wkap (w_3 e0 e1 e9) (w_2 x1 x2) (w_r 0) ?_;(repeat' first|exact w_t|apply w_l);all_goals intros));exact⟨k - 1,⟨zo,gW e0,gW e1,gW e9,by rw [Zox hk0 hx,hl]⟩,zo⟩
     ·rw [←hl,Zoy hk0 hx];unfold lt1;by_cases hlt:gI a (k - 1) < gI b (k - 1)
      ·rw [Zx5 hlt];(focus (refine wklp (w_3 e0 e1 e9) (w_2 x1 x2) w_t (w_r 0) ?_;(repeat' first|exact w_t|apply w_l);all_goals intros))
      ·rw [Zx4 hlt];(focus (refine wklp (w_3 e0 e1 e9) (w_2 x1 x2) w_t (w_r 0) ?_;(repeat' first|exact w_t|apply w_l);all_goals intros))
    ·have hk':k=0:=zo;subst hk';rw [←hl,show lexC a b 0=0 from rfl];(focus (refine wklp (w_3 e0 e1 e9) w_t w_t (w_r 0) ?_;(repeat' first|exact w_t|apply w_l);all_goals intros))
   ·exact⟨Zx7 _,gC,gC,gW hmx,rfl⟩
end
attribute [go_sem] sz23
theorem mrCmp (a b:List Int) (o:Int) (ha:Sm a) (hb:Sm b):Pure prog 135 [ints a,ints b,.v (.int .i64 o)] (.v (.int .i64 (cmpI a b o))):=by
 have hal:=ha.1;have hbl:=hb.1;have d1:=Znz a ha;have d2:=Znz b hb;have q1:=Zj2 ha a.length;have q2:=Zj2 hb b.length;unfold ints at *;refine Zaa (tok:=0) (rs:=[.tmp 6]) func135 rfl ntmps135 results135 call135 zr zs ?_;obtain⟨n,hn⟩:∃n,n=max a.length b.length:=⟨_,rfl⟩;have hmx:max (a.length:Int) (b.length:Int)=(n:Int):=zo;by_cases hbig:o=1∧sumT a a.length≠sumT b b.length
 ·obtain⟨ho,hd⟩:=hbig;have hc:cmpI a b o=lt1 (sumT a a.length) (sumT b b.length):=by unfold cmpI;rw [Zx5 ⟨ho,hd⟩]
  rw [hc];have hs:=Zvd (sumT a a.length - sumT b b.length);rw [Zu5 hd] at hs;(focus (refine wklp w_t (w_5 d1 d2 d1 d2 hs) w_t (w_r 0) ?_;(repeat' first|exact w_t|apply w_l);all_goals intros))
 ·have hc:cmpI a b o=lexC a b n:=by unfold cmpI;rw [Zx4 hbig,hn]
  rw [hc];have hd0:o=1→sumT a a.length=sumT b b.length:=λho=>Decidable.byContradiction λh=>hbig ⟨ho,h⟩;by_cases ho:o=1;all_goals
   first
   | (have hd:=hd0 ho
      (focus (refine wkap (w_1 hmx) (w_2 d1 d2) (w_r 0) ?_;(repeat' first|exact w_t|apply w_l);all_goals intros)))
   | ((focus (refine wkap (w_1 hmx) w_t (w_r 0) ?_;(repeat' first|exact w_t|apply w_l);all_goals intros)))
   refine Zad (ι:=Nat) (λk e m=>k≤n∧e 0=.sl 1 (a.map λn=>AV.v (.int .i64 n))∧e 1=.sl 1 (b.map λn=>AV.v (.int .i64 n))∧e 7=.v (.int .i64 ((k:Int) - 1))∧lexC a b k=lexC a b n) (λk=>k) n zr ?_ ?_
   ·rintro k e m ⟨hk,e0,e1,e9,hl⟩
    by_cases hk0:0 < k
    ·have hp:=Zk0 hk0;rw [hp] at e9;have x1:=Zmd a (k - 1);have x2:=Zmd b (k - 1);have p1:=ha.2 (k - 1);have p2:=hb.2 (k - 1);by_cases hx:gI a (k - 1)=gI b (k - 1)
     ·(focus (refine wkap (w_3 e0 e1 e9) (w_2 x1 x2) (w_r 0) ?_;(repeat' first|exact w_t|apply w_l);all_goals intros));exact⟨k - 1,⟨zo,gW e0,gW e1,gW e9,by rw [Zox hk0 hx,hl]⟩,zo⟩
     ·have hs:=Zvd (gI a (k - 1) - gI b (k - 1));rw [Zu5 hx] at hs;rw [←hl,Zoy hk0 hx];(focus (refine wklp (w_3 e0 e1 e9) (w_5 x1 x2 x1 x2 hs) w_t (w_r 0) ?_;(repeat' first|exact w_t|apply w_l);all_goals intros))
    ·have hk':k=0:=zo;subst hk';rw [←hl,show lexC a b 0=0 from rfl];(focus (refine wklp (w_3 e0 e1 e9) w_t w_t (w_r 0) ?_;(repeat' first|exact w_t|apply w_l);all_goals intros))
   ·exact⟨Zx7 _,gC,gC,gW hmx,rfl⟩
def low (x:Int):Bool:=!decide (262144 < x)
def rightL (ls:List (List Int)):Bool:=ls.all λl=>Zlg l && l.all low
def gLs (ls:List (List Int)) (k:Nat):List Int:=ls.getD k []
attribute [go_sem] underlying55 underlying184 underlying231 underlying136 underlying21 szL byL zL
theorem Zay (l:List Nat) (hs:l.length≤10000000000000) (hl:Lm l):Pure prog 209 [lim l] (lim (toL (nv l))):=by
 refine Zaa (tok:=0) (rs:=[.tmp 2]) func209 rfl ntmps209 results209 call209 zr zs ?_
 (refine wkvp w_t w_t (w_s ?_);intros)
 refine Zad (ι:=Nat) (λk e m=>k≤l.length∧e 0=lim l∧e 3=.v (.int .i64 (k:Int))∧∀j,k≤j→gN l j=0) (λk=>k) l.length zr ?_ ?_
 ·rintro k e m ⟨hk,e0,e3,hz⟩
  have gl:=Zbw hl (k - 1);by_cases h0:k=0
  ·subst h0
   (refine wkvp (w_2 e0 e3) w_t (w_s ?_);intros)
   have:=Zkl hl hk hz (.inl rfl);simp (disch:=omega) only [go_sem];rw [←this];rfl
  ·by_cases h1:gN l (k - 1)=0
   ·(refine wkvp (w_2 e0 e3) w_t (w_s ?_);intros)
    exact⟨k - 1,⟨zo,gW e0,by simp (disch:=omega) only [go_sem,e3];congr 2;omega,λj hj=>by
     rcases Zyr j k with h2 | h2
     ·rw [show j=k - 1 by omega];exact h1
     ·exact hz j h2⟩,zo⟩
   ·(refine wkvp (w_2 e0 e3) w_t (w_s ?_);intros)
    have:=Zkl hl hk hz (.inr zo);simp (disch:=omega) only [go_sem,this]
 ·exact⟨Zx7 _,gC,gC,λj hj=>Zew hj⟩
theorem slN {l:List Nat} (h:l=[]):lim l=.sl 1 []:=by subst h;rfl
theorem Zmr (l:List Nat) (hs:l.length≤10000000000000) (hl:Lm l):Pure prog 204 [lim l] (lim (toL (nv l))):=by
 have h1:=Zan hl;by_cases h0:toL (nv l)=[]
 ·rw [slN h0];refine Pure.wk (r:=.v (.slice none 0 0)) ?_ (.nil 1);have h2:(toL (nv l)).length=0:=by rw [h0];rfl
  refine Zaa (tok:=0) (rs:=[.tmp 2]) func204 rfl ntmps204 results204 call204 zr zs ?_
  (refine wkvp (w_1 h2) (w_1 (Zay l hs hl)) (w_s ?_);intros)
  simp (disch:=omega) only [go_sem]
 ·have h2:0 < (toL (nv l)).length:=List.length_pos_iff.2 h0;refine Zaa (tok:=0) (rs:=[.tmp 2]) func204 rfl ntmps204 results204 call204 zr zs ?_
  (refine wkvp w_t (w_1 (Zay l hs hl)) (w_s ?_);intros)
  simp (disch:=omega) only [go_sem,ZA8,List.drop_replicate,ZBi,Zx7]
theorem natOf (n:Nat) (hn:n < 18446744073709551616):Pure prog 210 [.v (.int .u64 (n:Int))] (lim (toL n)):=by
 by_cases h0:n=0
 ·subst h0;rw [slN Zas];refine Pure.wk (r:=.v (.slice none 0 0)) ?_ (.nil 1);refine Zaa (tok:=0) (rs:=[.tmp 2]) func210 rfl ntmps210 results210 call210 zr zs ?_
  (refine wkvp w_t w_t (w_s ?_);intros)
  refine Zad (ι:=Nat) (λk e m=>e 0=.v (.int .u64 0)∧e 3=.v (.slice none 0 0)) (λk=>k) 0 zr ?_ ?_
  ·rintro k e m ⟨e0,e3⟩
   (refine wkvp (w_2 e0 e3) w_t (w_s ?_);intros)
   simp (disch:=omega) only [go_sem]
  ·exact⟨by simp (disch:=omega) only [go_sem];rfl,gC⟩
 ·refine Zaa (tok:=0) (rs:=[.tmp 2]) func210 rfl ntmps210 results210 call210 zr zs ?_
  (refine wkvp w_t w_t (w_s ?_);intros)
  refine Zad (ι:=Nat) (λk e m=>k≤n∧e 0=.v (.int .u64 (k:Int))∧((k=n∧e 3=.v (.slice none 0 0))∨(k < n∧∃sv l,e 3=.own 12 sv∧m 12=some (.row sv 184 1 (u16s l) 0)∧l++toL k=toL n))) (λk=>k) n zr ?_ ?_
  ·rintro k e m ⟨hk,e0,hor⟩
   by_cases hk0:k=0
   ·subst hk0;rcases hor with⟨h1,_⟩ | ⟨_,sv,l,e3,em,hl⟩
    ·omega
    ·(refine wkvp (w_2 e0 e3) w_t (w_s ?_);intros)
     simp (disch:=omega) only [go_sem,em];rw [Zas,Zzy] at hl;rw [hl]
   ·rcases hor with⟨rfl,e3⟩ | ⟨_,sv,l,e3,em,hl⟩
    ·(refine wkvp (w_3 e0 e3 @Zbd) w_t (w_s ?_);intros)
     refine⟨k/65536,⟨zo,gW e0,.inr ⟨zo,_,[k%65536],gC,gC,?_⟩⟩,zo⟩;rw [Zfr hk0];rfl
    ·have b1:=(Zac (n:=n) (k:=4)).2 hn;have b2:l.length≤(toL n).length:=by rw [←hl];simp
     (refine wkvp (w_4 e0 e3 em @Zbd) w_t (w_s ?_);intros)
     refine⟨k/65536,⟨zo,gW e0,.inr ⟨zo,_,l++[k%65536],gC,gC,?_⟩⟩,zo⟩;rw [←hl,Zfr hk0];simp
  ·exact⟨Zx7 _,gC,.inl ⟨rfl,gC⟩⟩
def cmpN (a b:Nat):Int:=if a < b then -1 else if b < a then 1 else 0
theorem Zsa (a b:List Nat) (ha:a.length≤10000000000000) (hb:b.length≤10000000000000) (la:Lm a) (lb:Lm b):Pure prog 232 [lim a,lim b] (.v (.int .i64 (cmpN (nv a) (nv b)))):=by
 have h1:=Zan la;have h2:=Zan lb;have va:=Zak (nv a);have vb:=Zak (nv b);have ma:=Zal (nv a);have mb:=Zal (nv b);refine Zaa (tok:=0) (rs:=[.tmp 4]) func232 rfl ntmps232 results232 call232 zr zs ?_;by_cases hlt:(toL (nv a)).length < (toL (nv b)).length
 ·have:nv a < nv b:=by
   rcases Zyr (nv a) (nv b) with h | h
   ·exact h
   ·have:=Za0 h;omega
  (refine wkvp w_t (w_2 (Zay a ha la) (Zay b hb lb)) (w_s ?_);intros)
  simp (disch:=omega) only [go_sem,cmpN,Zx5 this]
 ·by_cases hgt:(toL (nv b)).length < (toL (nv a)).length
  ·have:nv b < nv a:=by
    rcases Zyr (nv b) (nv a) with h | h
    ·exact h
    ·have:=Za0 h;omega
   have this2:¬nv a < nv b:=zo
   (refine wkvp w_t (w_2 (Zay a ha la) (Zay b hb lb)) (w_s ?_);intros)
   simp (disch:=omega) only [go_sem,cmpN,Zx5 this,Zx4 this2]
  ·(refine wkvp w_t (w_2 (Zay a ha la) (Zay b hb lb)) (w_s ?_);intros)
   refine Zad (ι:=Nat) (λk e m=>k≤(toL (nv a)).length∧e 0=lim (toL (nv a))∧e 1=lim (toL (nv b))∧e 5=.v (.int .i64 ((k:Int) - 1))∧nv ((toL (nv a)).drop k)=nv ((toL (nv b)).drop k)) (λk=>k) (toL (nv a)).length zr ?_ ?_
   ·rintro k e m ⟨hk,e0,e1,e5,hz⟩
    by_cases h0:k=0
    ·subst h0;rw [Zz6,Zz6,va,vb] at hz
     (refine wkvp (w_3 e0 e1 e5) w_t (w_s ?_);intros)
     simp (disch:=omega) only [go_sem,cmpN,hz,Nat.lt_irrefl,Zyu]
    ·have hk1:k - 1+1=k:=zo;have ga:=Zbw ma (k - 1);have gb:=Zbw mb (k - 1);by_cases p1:gN (toL (nv a)) (k - 1) < gN (toL (nv b)) (k - 1)
     ·have:=Zr8 (k:=k - 1) ma mb (by rw [hk1];exact hz) p1;rw [va,vb] at this
      (refine wkad (w_3 e0 e1 e5) w_t w_t (w_s ?_);intros)
      simp (disch:=omega) only [go_sem,cmpN,Zx5 this]
     ·by_cases p2:gN (toL (nv b)) (k - 1) < gN (toL (nv a)) (k - 1)
      ·have:=Zr8 (k:=k - 1) mb ma (by rw [hk1];exact hz.symm) p2;rw [va,vb] at this;have this2:¬nv a < nv b:=zo
       (refine wkad (w_3 e0 e1 e5) w_t w_t (w_s ?_);intros)
       simp (disch:=omega) only [go_sem,cmpN,Zx5 this,Zx4 this2]
      ·(refine wkad (w_3 e0 e1 e5) w_t w_t (w_s ?_);intros)
       refine⟨k - 1,⟨zo,gW e0,gW e1,by simp (disch:=omega) only [go_sem,e5];congr 2;omega,?_⟩,zo⟩;rw [Zb2,Zb2 (toL (nv b)),hk1,hz];omega
   ·refine⟨Zx7 _,gC,gC,gC,?_⟩;rw [Zzw (Zx7 _),Zzw zo]
theorem natAdd (a b:List Nat) (ha:a.length≤10000000000000) (hb:b.length≤10000000000000) (la:Lm a) (lb:Lm b):Pure prog 251 [lim a,lim b] (lim (toL (nv a+nv b))):=by
 have h1:=Zan la;have h2:=Zan lb;have va:=Zak (nv a);have vb:=Zak (nv b);have ma:=Zal (nv a);have mb:=Zal (nv b)
 obtain⟨A,B,hA,hB,hle,hAl,hLA,hLB,hAB,hm⟩:∃A B,A=(if (toL (nv a)).length < (toL (nv b)).length then toL (nv b) else toL (nv a))∧B=(if (toL (nv a)).length < (toL (nv b)).length then toL (nv a) else toL (nv b))∧B.length≤A.length∧A.length≤10000000000000∧Lm A∧Lm B∧nv A+nv B=nv a+nv b∧A.length≤(toL (nv a+nv b)).length:=by
  by_cases hlt:(toL (nv a)).length < (toL (nv b)).length
  ·exact⟨_,_,(Zx5 hlt).symm,(Zx5 hlt).symm,zo,zo,mb,ma,zo,Za0 zo⟩
  ·exact⟨_,_,(Zx4 hlt).symm,(Zx4 hlt).symm,zo,zo,ma,mb,zo,Za0 zo⟩
 refine Zaa (tok:=0) (rs:=[.tmp 4]) func251 rfl ntmps251 results251 call251 zr zs ?_;rcases Zyr (toL (nv a)).length (toL (nv b)).length with hlt | hge
 rotate_left
 have hlt:¬(toL (nv a)).length < (toL (nv b)).length:=zo;all_goals
  (first|rw [Zx5 hlt] at hA hB|rw [Zx4 hlt] at hA hB)
  (refine wkvp w_t (w_2 (Zay a ha la) (Zay b hb lb)) (w_s ?_);intros)
  rw [←hA]
  try rw [←hB]
  refine Zad (ι:=Nat) (λk e m=>k≤A.length∧e 0=lim A∧e 1=lim B∧e 26=lim A∧e 27=.v (.int .i64 A.length)∧e 28=.v (.int .i64 k)∧∃sv o c,e 5=.own 25 sv∧e 6=.v (.int .u32 (c:Nat))∧m 25=some (.row sv 184 1 (u16s o) 0)∧o.length=A.length∧Lm o∧c≤1∧nv (o.take k)+65536 ^ k*c=nv (A.take k)+nv (B.take k)) (λk=>A.length - k) 0 zr ?_ ?_
  ·rintro k e m ⟨hk,e0,e1,e26,e27,e28,sv,o,c,e5,e6,em,hol,hLo,hc,hv⟩
   have ga:=Zbw hLA k;have gb:=Zbw hLB k;have hs:=Zng (x:=gN A k) (y:=gN B k) hv;have w1:(c+gN A k+gN B k)/65536≤1:=zo;have w2:(c+gN A k+gN B k)%65536 < 65536:=zo;by_cases hlt2:k < A.length
   ·rw [←Zdp (o:=o) zo,←Zzi,←Zaq,←Zaq] at hs;by_cases hkb:k < B.length
    ·(refine wkvp (w_11 e0 e1 e26 e27 e28 e5 e6 em hol @Zax @Zbd) w_t (w_s ?_);intros)
     exact⟨k+1,⟨zo,gW e0,gW e1,gW e26,gW e27,gV e28,_,_,_,gW e5,gC,gC,by simpa using hol,hLo.set k w2,w1,hs⟩,zo⟩
    ·have g0:gN B k=0:=Zew zo;simp only [g0,Zzf] at hs w1 w2
     (refine wkvp (w_11 e0 e1 e26 e27 e28 e5 e6 em hol @Zax @Zbd) w_t (w_s ?_);intros)
     exact⟨k+1,⟨zo,gW e0,gW e1,gW e26,gW e27,gV e28,_,_,_,gW e5,gC,gC,by simpa using hol,hLo.set k w2,w1,hs⟩,zo⟩
   ·have hkA:k=A.length:=zo;subst hkA;rw [Zbj (Zx7 _),Zbj hle,Zbj zo,hAB] at hv;by_cases hc0:c=0
    ·subst hc0;rw [ZAg,Zzf] at hv
     (refine wkvp (w_9 e0 e1 e26 e27 e28 e5 e6 em hol) w_t (w_s ?_);intros)
     simp (disch:=omega) only [go_sem,em];rw [canon' hLo (by rw [hv];omega),hv]
    ·have hc1:c=1:=zo;subst hc1
     (refine wkvp (w_10 e0 e1 e26 e27 e28 e5 e6 em hol @Zbd) w_t (w_s ?_);intros)
     simp (disch:=omega) only [go_sem];have h3:nv (o++[1])=nv a+nv b:=by rw [Zd1,hol];simpa [nv] using hv
     rw [←h3,←canon (hLo.append (Lm.one zo)) (.inr (by simp [gN]))]
  ·refine⟨Zyi _,gC,gC,gC,gC,gC,_,List.replicate A.length 0,0,gC,gC,gC,by simp,Lm.zeros _,zo,by simp [nv]⟩
theorem okTup {a:AV} {n:Int} (h:a=.v (.slice none 0 0)):Wk (.tup [a,.v (.int .i64 n)]) (.tup [lim [],.v (.int .i64 n)]):=by
 subst h;exact Wk.pair (.nil 1)
theorem natSub (a b:List Nat) (ha:a.length≤10000000000000) (hb:b.length≤10000000000000) (la:Lm a) (lb:Lm b) :
 Pure prog 252 [lim a,lim b] (.tup [lim (if nv a < nv b then [] else toL (nv a - nv b)),.v (.int .i64 (if nv a < nv b then 2 else 0))]):=by
 by_cases hlt:nv a < nv b
 ·rw [Zx5 hlt,Zx5 hlt];refine Pure.wk ?_ (okTup rfl);refine Zaa (tok:=0) (rs:=[.tmp 4,.tmp 5]) func252 rfl ntmps252 results252 call252 zr zs ?_;have hc:cmpN (nv a) (nv b)=-1:=by unfold cmpN;rw [Zx5 hlt]
  (refine wkvp (w_1 hc) (w_1 (Zsa a b ha hb la lb)) (w_s ?_);intros)
  simp (disch:=omega) only [go_sem]
 ·rw [Zx4 hlt,Zx4 hlt];have h1:=Zan la;have va:=Zak (nv a);have vb:=Zak (nv b);have ma:=Zal (nv a);have mb:=Zal (nv b);have h2:(toL (nv b)).length≤(toL (nv a)).length:=Za0 zo;have hc:0≤cmpN (nv a) (nv b):=by unfold cmpN;rw [Zx4 hlt];split<;>omega
  generalize hA:toL (nv a)=A at *;generalize hB:toL (nv b)=B at *;refine Zaa (tok:=0) (rs:=[.tmp 4,.tmp 5]) func252 rfl ntmps252 results252 call252 zr zs ?_
  (refine wkvp (w_2 hA hB) (w_3 (Zsa a b ha hb la lb) (Zay a ha la) (Zay b hb lb)) (w_s ?_);intros)
  rw [hA,hB];refine Zad (ι:=Nat) (λk e m=>k≤A.length∧(e 1=lim B∧e 22=lim A∧e 23=.v (.int .i64 A.length)∧e 24=.v (.int .i64 k))∧∃sv o r,(e 6=.own 21 sv∧e 7=.v (.int .i32 (r:Nat))∧m 21=some (.row sv 184 1 (u16s o) 0))∧o.length=A.length∧Lm o∧r≤1∧nv (o.take k)+nv (B.take k)=nv (A.take k)+65536 ^ k*r) (λk=>A.length - k) 0 zr ?_ ?_
  ·rintro k e m ⟨hk,⟨e1,e22,e23,e24⟩,sv,o,r,⟨e6,e7,em⟩,hol,hLo,hr,hv⟩
   have ga:=Zbw ma k;have gb:=Zbw mb k;by_cases hlt2:k < A.length
   ·have step:∀(d r':Nat),d+r+gN B k=gN A k+65536*r'→d < 65536→r'≤1→(o.set k d).length=A.length∧Lm (o.set k d)∧r'≤1∧nv ((o.set k d).take (k+1))+nv (B.take (k+1))=nv (A.take (k+1))+65536 ^ (k+1)*r':=by
     intro d r' hd h3 h4;have:=Zrm hv hd;rw [Zdp zo,Zaq,Zaq,Zzi];exact⟨by simpa using hol,hLo.set k h3,h4,this⟩
    by_cases hneg:gN A k < r+gN B k
    ·have hs:=step (gN A k+65536 - r - gN B k) 1 zo zo zo;have w:(gN A k:Int) - r - gN B k+65536=((gN A k+65536 - r - gN B k:Nat):Int):=zo;by_cases hkb:k < B.length
     ·(refine wkvp (w_9 e1 e22 e23 e24 e6 e7 em hol w) w_t (w_s ?_);intros)
      exact⟨k+1,⟨zo,gV (And.intro e1 (And.intro e22 (And.intro e23 e24))),sv,_,1,gW e6,hs⟩,zo⟩
     ·have g0:gN B k=0:=Zew zo;simp only [g0,ZA5,Zzf] at hs w hneg;have w:(gN A k:Int) - r+65536=((gN A k+65536 - r:Nat):Int):=zo
      (refine wkvp (w_9 e1 e22 e23 e24 e6 e7 em hol w) w_t (w_s ?_);intros)
      exact⟨k+1,⟨zo,gV (And.intro e1 (And.intro e22 (And.intro e23 e24))),sv,_,1,gW e6,hs⟩,zo⟩
    ·have hs:=step (gN A k - r - gN B k) 0 zo zo zo;have w:(gN A k:Int) - r - gN B k=((gN A k - r - gN B k:Nat):Int):=zo;by_cases hkb:k < B.length
     ·(refine wkvp (w_9 e1 e22 e23 e24 e6 e7 em hol w) w_t (w_s ?_);intros)
      exact⟨k+1,⟨zo,gV (And.intro e1 (And.intro e22 (And.intro e23 e24))),sv,_,0,by(simp (disch:=omega) only [go_sem,e6,ZAq]<;>repeat' first|rfl|refine⟨?_,?_⟩),hs⟩,zo⟩
     ·have g0:gN B k=0:=Zew zo;simp only [g0,ZA5,Zzf] at hs hneg;have w:(gN A k:Int) - r=((gN A k - r:Nat):Int):=zo
      (refine wkvp (w_9 e1 e22 e23 e24 e6 e7 em hol w) w_t (w_s ?_);intros)
      exact⟨k+1,⟨zo,gV (And.intro e1 (And.intro e22 (And.intro e23 e24))),sv,_,0,by(simp (disch:=omega) only [go_sem,e6,ZAq]<;>repeat' first|rfl|refine⟨?_,?_⟩),hs⟩,zo⟩
   ·have hkA:k=A.length:=zo;subst hkA;rw [Zbj zo,Zbj (Zx7 _),Zbj h2,va,vb] at hv;have hno:=Zhp hLo;rw [hol] at hno
    have hr0:r=0:=by
     rcases Zzk r with h3 | h3
     ·exact h3
     ·have:r=1:=zo;subst this;omega
    subst hr0;have hno2:nv o=nv a - nv b:=zo
    (refine wkax (w_8 e1 e22 e23 e24 e6 e7 em hol) w_t w_t (w_1 (Zay o zo hLo)) w_t w_t w_y (w_r 0) (w_s ?_);intros)
    simp (disch:=omega) only [go_sem,hno2]
  ·exact⟨Zyi _,gC,_,List.replicate A.length 0,0,⟨gC,gC,gC⟩,by simp,Lm.zeros _,zo,by simp [nv]⟩
theorem natMul (a b:List Nat) (ha:a.length≤4000000000000) (hb:b.length≤4000000000000) (la:Lm a) (lb:Lm b):Pure prog 154 [lim a,lim b] (lim (toL (nv a*nv b))):=by
 have h1:=Zan la;have h2:=Zan lb;have va:=Zak (nv a);have vb:=Zak (nv b);have ma:=Zal (nv a);have mb:=Zal (nv b);by_cases h0:nv a=0∨nv b=0
 ·have hz:nv a*nv b=0:=Nat.mul_eq_zero.2 h0;rw [slN (show toL (nv a*nv b)=[] by rw [hz,Zas])];refine Pure.wk (r:=.v (.slice none 0 0)) ?_ (.nil 1);refine Zaa (tok:=0) (rs:=[.tmp 4]) func154 rfl ntmps154 results154 call154 zr zs ?_;by_cases h3:nv a=0
  ·have h4:=Za8.2 h3
   (refine wkvp (w_1 h4) (w_2 (Zay a zo la) (Zay b zo lb)) (w_s ?_);intros)
   simp (disch:=omega) only [go_sem]
  ·have h4:(toL (nv a)).length≠0:=λh=>h3 (Za8.1 h);have h5:=Za8.2 (h0.resolve_left h3)
   (refine wkvp (w_1 h5) (w_2 (Zay a zo la) (Zay b zo lb)) (w_s ?_);intros)
   simp (disch:=omega) only [go_sem]
 ·have h3:(toL (nv a)).length≠0:=λh=>h0 (.inl (Za8.1 h));have h4:(toL (nv b)).length≠0:=λh=>h0 (.inr (Za8.1 h));generalize hA:toL (nv a)=A at *;generalize hB:toL (nv b)=B at *;refine Zaa (tok:=0) (rs:=[.tmp 4]) func154 rfl ntmps154 results154 call154 zr zs ?_
  (refine wkvp (w_3 hA hB @Zax) (w_2 (Zay a zo la) (Zay b zo lb)) (w_s ?_);intros)
  rw [hA,hB];refine Zad (ι:=Nat) (λi e m=>i≤A.length∧(e 1=lim B∧e 29=lim A∧e 30=.v (.int .i64 A.length)∧e 31=.v (.int .i64 i))∧∃sv o,(e 5=.own 28 sv∧m 28=some (.row sv 184 1 (u16s o) 0))∧o.length=A.length+B.length∧Lm o∧(∀j,i+B.length≤j→gN o j=0)∧nv o=nv (A.take i)*nv B) (λi=>A.length - i) 0 zr ?_ ?_
  ·rintro i e m ⟨hi,⟨e1,e29,e30,e31⟩,sv,o,⟨e5,em⟩,hol,hLo,hz,hv⟩
   by_cases hlt:i < A.length
   ·have gx:=Zbw ma i
    (refine wkvp (w_8 e1 e29 e30 e31 e5 em hol @Zax) w_t (w_s ?_);intros)
    refine Zad (ι:=Nat) (λk e' m'=>k≤B.length∧(e' 1=lim B∧e' 29=lim A∧e' 30=.v (.int .i64 A.length)∧e' 31=.v (.int .i64 i)∧e' 36=lim B∧e' 37=.v (.int .i64 B.length)∧e' 38=.v (.int .i64 k)∧e' 6=.v (.int .i64 i)∧e' 7=.v (.int .u16 (gN A i:Nat))∧e' 5=.own 28 sv)∧∃o' c,(e' 8=.v (.int .u32 (c:Nat))∧m' 28=some (.row sv 184 1 (u16s o') 0))∧o'.length=A.length+B.length∧Lm o'∧c < 65536∧(∀j,i+B.length≤j→gN o' j=0)∧nv o'+65536 ^ (i+k)*c=nv o+65536 ^ i*nv (B.take k)*gN A i) (λk=>B.length - k) 0 zr ?_ ?_
    ·rintro k e m ⟨hk,⟨e1,e29,e30,e31,e36,e37,e38,e6,e7,e5⟩,o',c,⟨e8,em⟩,hol',hLo',hc,hz',hv'⟩
     have gy:=Zbw mb k;have go:=Zbw hLo' (i+k);have bd:=Zon gx gy;by_cases hkb:k < B.length
     ·have hs:=Zsd (x:=gN A i) (y:=gN B k) rfl (Zoh (o:=o') (j:=i+k) zo _) hv';rw [←Zse,←Zaq,←Zzi,Nat.succ_eq_add_one,ZCk i] at hs;have w1:(c+(gN o' (i+k)+gN A i*gN B k))/65536 < 65536:=zo;have w2:(c+(gN o' (i+k)+gN A i*gN B k))%65536 < 65536:=zo;generalize hxy:gN A i*gN B k=xy at *
      (refine wkvp (w_17 e1 e29 e30 e31 e36 e37 e38 e6 e7 e5 e8 em hol' @Zax @Zh4 @Zbd hxy) w_t (w_s ?_);intros)
      refine⟨k+1,⟨zo,gV (And.intro e1 (And.intro e29 (And.intro e30 (And.intro e31 (And.intro e36 (And.intro e37 (And.intro e38 (And.intro e6 (And.intro e7 e5))))))))),_,_,⟨gC,gC⟩,by simpa using hol',hLo'.set _ w2,w1,λj hj=>?_,hs⟩,zo⟩;rw [Zfz zo,Zx4 zo];exact hz' j hj
     ·have hkB:k=B.length:=zo;subst hkB;rw [Zbj (Zx7 _)] at hv';have g0:=hz' (i+B.length) (Zx7 _);have h5:=Zoh (o:=o') (j:=i+B.length) zo c;rw [g0,ZAg,Zzf] at h5;have hcc:c%65536=c:=ZAd hc
      (refine wkvp (w_16 e1 e29 e30 e31 e36 e37 e38 e6 e7 e5 e8 em hol' @Zax @Zbd hcc) w_t (w_s ?_);intros)
      refine⟨i+1,⟨zo,gV (And.intro e1 (And.intro e29 (And.intro e30 e31))),sv,_,⟨gW e5,gC⟩,by simpa using hol',hLo'.set _ hc,λj hj=>?_,?_⟩,zo⟩
      ·rw [Zfz zo,Zx4 zo];exact hz' j zo
      ·rw [h5,hv',hv,Zaq,Zy4];congr 1;simp only [Zzm,Zy9,ZBk]
    ·exact⟨Zyi _,gW (And.intro e1 (And.intro e29 (And.intro e30 (And.intro e31 e5)))),_,0,⟨gC,gW em⟩,hol,hLo,zo,hz,by simp [nv]⟩
   ·have hiA:i=A.length:=zo;subst hiA;rw [Zbj (Zx7 _),va,vb] at hv
    (refine wkax (w_7 e1 e29 e30 e31 e5 em hol) w_t w_t (w_1 (Zay o zo hLo)) w_t w_t w_y (w_r 0) (w_s ?_);intros)
    simp (disch:=omega) only [go_sem,hv]
  ·exact⟨Zyi _,gC,_,List.replicate (A.length+B.length) 0,⟨gC,gC⟩,by simp,Lm.zeros _,λj hj=>Zhi _ _,by simp [nv,Zmp]⟩
end Go.Proofs.YtenfejhaohihoaaGreat
