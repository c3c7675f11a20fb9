/- Contracts of the functions that the law reaches, and the rules by which they are walked. They say what a call hands back for every input within the bounds that each names; no other condition. -/
import Derived.Test.YtjbjejmmnbdbiaaGreatBd7
import Derived.Shelf.SlSortCmp.NoneTotal
set_option linter.unusedSimpArgs false
set_option linter.unusedVariables false
set_option maxRecDepth 20000
set_option maxHeartbeats 16000000
namespace Go.Proofs.YtjbjejmmnbdbiaaGreat
open Go Go.RowKit Go.Pg Go.Proofs.Tryz
attribute [-bool_to_prop] Bool.and_eq_decide Bool.or_eq_decide Bool.decide_beq_decide decide_eq_decide
def txX:ByteArray:=⟨#[112,111,105,110,116,115,32,65,44,32,66,44,32,67,59,32,68,32,58,61,32,102,111,111,116,40,65,44,32,108,105,110,101,40,66,44,32,67,41,41,59,32,112,114,111,118,101,32,99,111,110,103,114,117,101,110,116,40,68,44,32,66,44,32,68,44,32,67,41,59]⟩
def wA:ByteArray:=⟨#[65]⟩
def wB:ByteArray:=⟨#[66]⟩
def wC:ByteArray:=⟨#[67]⟩
def wD:ByteArray:=⟨#[68]⟩
def tkX:List Tk:=[⟨1,0,6⟩,⟨1,7,8⟩,⟨3,8,9⟩,⟨1,10,11⟩,⟨3,11,12⟩,⟨1,13,14⟩,⟨3,14,15⟩,⟨1,16,17⟩,⟨3,18,20⟩,⟨1,21,25⟩,⟨3,25,26⟩,⟨1,26,27⟩,⟨3,27,28⟩,⟨1,29,33⟩,⟨3,33,34⟩,⟨1,34,35⟩,⟨3,35,36⟩,⟨1,37,38⟩,⟨3,38,39⟩,⟨3,39,40⟩,⟨3,40,41⟩,⟨1,42,47⟩,⟨1,48,57⟩,⟨3,57,58⟩,⟨1,58,59⟩,⟨3,59,60⟩,⟨1,61,62⟩,⟨3,62,63⟩,⟨1,64,65⟩,⟨3,65,66⟩,⟨1,67,68⟩,⟨3,68,69⟩,⟨3,69,70⟩]
def TX:List AV:=tkX.map (tkA txX)++[endA txX]
theorem lexX:lexB txX tkX=true:=by kernel_rfl
theorem allX:Pure prog 86 [strA txX] (.tup [.sl 4 TX,iv 0,iv 0]):=rxAll txX tkX lexX (by decide +kernel) zd
theorem lnX:TX.length=34:=by kernel_rfl
theorem lnX2:TX.length≤20000:=by rw [lnX];decide
theorem ltX {i:Nat} (h:i < 34):i < TX.length:=by rw [lnX];exact h
theorem g0X:TX.getD 0 .u=tokA 1 0 6 ⟨#[112,111,105,110,116,115]⟩:=by kernel_rfl
theorem g1X:TX.getD 1 .u=tokA 1 7 8 wA:=by kernel_rfl
theorem g2X:TX.getD 2 .u=tokA 3 8 9 ⟨#[44]⟩:=by kernel_rfl
theorem g3X:TX.getD 3 .u=tokA 1 10 11 wB:=by kernel_rfl
theorem g4X:TX.getD 4 .u=tokA 3 11 12 ⟨#[44]⟩:=by kernel_rfl
theorem g5X:TX.getD 5 .u=tokA 1 13 14 wC:=by kernel_rfl
theorem g6X:TX.getD 6 .u=tokA 3 14 15 ⟨#[59]⟩:=by kernel_rfl
theorem g7X:TX.getD 7 .u=tokA 1 16 17 wD:=by kernel_rfl
theorem g8X:TX.getD 8 .u=tokA 3 18 20 ⟨#[58,61]⟩:=by kernel_rfl
theorem g9X:TX.getD 9 .u=tokA 1 21 25 ⟨#[102,111,111,116]⟩:=by kernel_rfl
theorem g10X:TX.getD 10 .u=tokA 3 25 26 ⟨#[40]⟩:=by kernel_rfl
theorem g11X:TX.getD 11 .u=tokA 1 26 27 wA:=by kernel_rfl
theorem g12X:TX.getD 12 .u=tokA 3 27 28 ⟨#[44]⟩:=by kernel_rfl
theorem g13X:TX.getD 13 .u=tokA 1 29 33 ⟨#[108,105,110,101]⟩:=by kernel_rfl
theorem g14X:TX.getD 14 .u=tokA 3 33 34 ⟨#[40]⟩:=by kernel_rfl
theorem g15X:TX.getD 15 .u=tokA 1 34 35 wB:=by kernel_rfl
theorem g16X:TX.getD 16 .u=tokA 3 35 36 ⟨#[44]⟩:=by kernel_rfl
theorem g17X:TX.getD 17 .u=tokA 1 37 38 wC:=by kernel_rfl
theorem g18X:TX.getD 18 .u=tokA 3 38 39 ⟨#[41]⟩:=by kernel_rfl
theorem g19X:TX.getD 19 .u=tokA 3 39 40 ⟨#[41]⟩:=by kernel_rfl
theorem g20X:TX.getD 20 .u=tokA 3 40 41 ⟨#[59]⟩:=by kernel_rfl
theorem g21X:TX.getD 21 .u=tokA 1 42 47 ⟨#[112,114,111,118,101]⟩:=by kernel_rfl
theorem g22X:TX.getD 22 .u=tokA 1 48 57 ⟨#[99,111,110,103,114,117,101,110,116]⟩:=by kernel_rfl
theorem g23X:TX.getD 23 .u=tokA 3 57 58 ⟨#[40]⟩:=by kernel_rfl
theorem g24X:TX.getD 24 .u=tokA 1 58 59 wD:=by kernel_rfl
theorem g25X:TX.getD 25 .u=tokA 3 59 60 ⟨#[44]⟩:=by kernel_rfl
theorem g26X:TX.getD 26 .u=tokA 1 61 62 wB:=by kernel_rfl
theorem g27X:TX.getD 27 .u=tokA 3 62 63 ⟨#[44]⟩:=by kernel_rfl
theorem g28X:TX.getD 28 .u=tokA 1 64 65 wD:=by kernel_rfl
theorem g29X:TX.getD 29 .u=tokA 3 65 66 ⟨#[44]⟩:=by kernel_rfl
theorem g30X:TX.getD 30 .u=tokA 1 67 68 wC:=by kernel_rfl
theorem g31X:TX.getD 31 .u=tokA 3 68 69 ⟨#[41]⟩:=by kernel_rfl
theorem g32X:TX.getD 32 .u=tokA 3 69 70 ⟨#[59]⟩:=by kernel_rfl
theorem g33X:TX.getD 33 .u=tokA 0 70 70 ByteArray.empty:=by kernel_rfl
theorem e6X:Pure prog 134 [.sl 4 TX,iv ((6:Nat):Int),strA ⟨#[59]⟩] (.tup [iv ((7:Nat):Int),iv 0]):=Zcl TX 6 3 14 15 ⟨#[59]⟩ ⟨#[59]⟩ (ltX zd) lnX2 g6X zd zk
theorem e8X:Pure prog 134 [.sl 4 TX,iv ((8:Nat):Int),strA ⟨#[58,61]⟩] (.tup [iv ((9:Nat):Int),iv 0]):=Zcl TX 8 3 18 20 ⟨#[58,61]⟩ ⟨#[58,61]⟩ (ltX zd) lnX2 g8X zd zk
theorem e10X:Pure prog 134 [.sl 4 TX,iv ((10:Nat):Int),strA ⟨#[40]⟩] (.tup [iv ((11:Nat):Int),iv 0]):=Zcl TX 10 3 25 26 ⟨#[40]⟩ ⟨#[40]⟩ (ltX zd) lnX2 g10X zd zk
theorem e12X:Pure prog 134 [.sl 4 TX,iv ((12:Nat):Int),strA ⟨#[44]⟩] (.tup [iv ((13:Nat):Int),iv 0]):=Zcl TX 12 3 27 28 ⟨#[44]⟩ ⟨#[44]⟩ (ltX zd) lnX2 g12X zd zk
theorem e14X:Pure prog 134 [.sl 4 TX,iv ((14:Nat):Int),strA ⟨#[40]⟩] (.tup [iv ((15:Nat):Int),iv 0]):=Zcl TX 14 3 33 34 ⟨#[40]⟩ ⟨#[40]⟩ (ltX zd) lnX2 g14X zd zk
theorem e16X:Pure prog 134 [.sl 4 TX,iv ((16:Nat):Int),strA ⟨#[44]⟩] (.tup [iv ((17:Nat):Int),iv 0]):=Zcl TX 16 3 35 36 ⟨#[44]⟩ ⟨#[44]⟩ (ltX zd) lnX2 g16X zd zk
theorem e18X:Pure prog 134 [.sl 4 TX,iv ((18:Nat):Int),strA ⟨#[41]⟩] (.tup [iv ((19:Nat):Int),iv 0]):=Zcl TX 18 3 38 39 ⟨#[41]⟩ ⟨#[41]⟩ (ltX zd) lnX2 g18X zd zk
theorem e19X:Pure prog 134 [.sl 4 TX,iv ((19:Nat):Int),strA ⟨#[41]⟩] (.tup [iv ((20:Nat):Int),iv 0]):=Zcl TX 19 3 39 40 ⟨#[41]⟩ ⟨#[41]⟩ (ltX zd) lnX2 g19X zd zk
theorem e20X:Pure prog 134 [.sl 4 TX,iv ((20:Nat):Int),strA ⟨#[59]⟩] (.tup [iv ((21:Nat):Int),iv 0]):=Zcl TX 20 3 40 41 ⟨#[59]⟩ ⟨#[59]⟩ (ltX zd) lnX2 g20X zd zk
theorem e23X:Pure prog 134 [.sl 4 TX,iv ((23:Nat):Int),strA ⟨#[40]⟩] (.tup [iv ((24:Nat):Int),iv 0]):=Zcl TX 23 3 57 58 ⟨#[40]⟩ ⟨#[40]⟩ (ltX zd) lnX2 g23X zd zk
theorem e25X:Pure prog 134 [.sl 4 TX,iv ((25:Nat):Int),strA ⟨#[44]⟩] (.tup [iv ((26:Nat):Int),iv 0]):=Zcl TX 25 3 59 60 ⟨#[44]⟩ ⟨#[44]⟩ (ltX zd) lnX2 g25X zd zk
theorem e27X:Pure prog 134 [.sl 4 TX,iv ((27:Nat):Int),strA ⟨#[44]⟩] (.tup [iv ((28:Nat):Int),iv 0]):=Zcl TX 27 3 62 63 ⟨#[44]⟩ ⟨#[44]⟩ (ltX zd) lnX2 g27X zd zk
theorem e29X:Pure prog 134 [.sl 4 TX,iv ((29:Nat):Int),strA ⟨#[44]⟩] (.tup [iv ((30:Nat):Int),iv 0]):=Zcl TX 29 3 65 66 ⟨#[44]⟩ ⟨#[44]⟩ (ltX zd) lnX2 g29X zd zk
theorem e31X:Pure prog 134 [.sl 4 TX,iv ((31:Nat):Int),strA ⟨#[41]⟩] (.tup [iv ((32:Nat):Int),iv 0]):=Zcl TX 31 3 68 69 ⟨#[41]⟩ ⟨#[41]⟩ (ltX zd) lnX2 g31X zd zk
theorem e32X:Pure prog 134 [.sl 4 TX,iv ((32:Nat):Int),strA ⟨#[59]⟩] (.tup [iv ((33:Nat):Int),iv 0]):=Zcl TX 32 3 69 70 ⟨#[59]⟩ ⟨#[59]⟩ (ltX zd) lnX2 g32X zd zk
theorem nm_wA:isNm 1 wA=true:=by kernel_rfl
theorem nm_wB:isNm 1 wB=true:=by kernel_rfl
theorem nm_wC:isNm 1 wC=true:=by kernel_rfl
theorem nm_wD:isNm 1 wD=true:=by kernel_rfl
abbrev yA:Exq:=(Exq.mk 1 wA [] 26)
abbrev yB:Exq:=(Exq.mk 1 wB [] 34)
abbrev yC:Exq:=(Exq.mk 1 wC [] 37)
abbrev xL:Exq:=⟨40,ByteArray.empty,[yB.av,yC.av],29⟩
abbrev xF:Exq:=⟨14,ByteArray.empty,[yA.av,xL.av],21⟩
abbrev y1:Exq:=(Exq.mk 1 wD [] 58)
abbrev y2:Exq:=(Exq.mk 1 wB [] 61)
abbrev y3:Exq:=(Exq.mk 1 wD [] 64)
abbrev y4:Exq:=(Exq.mk 1 wC [] 67)
abbrev xG:Exq:=⟨63,ByteArray.empty,[y1.av,y2.av,y3.av,y4.av],48⟩
def xS1:Stq:=⟨1,[wA,wB,wC],⟨0,ByteArray.empty,[],0⟩,0⟩
def xS2:Stq:=⟨2,[wD],xF,16⟩
def xS3:Stq:=⟨5,[],xG,42⟩
def ALi:List (Nat × Exq):=[(16,yB),(18,yC)]
theorem cLi:Pure prog 178 [.sl 4 TX,iv ((13:Nat):Int),iv 2,iv ((2:Nat):Int)] (.tup [xL.av,iv ((19:Nat):Int),iv 0]):=by
 have hp:=Zid 40 15 zd rfl zd;refine Zvu TX 13 29 33 2 2 ⟨#[108,105,110,101]⟩ 40 15 ALi [1,1] (ltX zd) lnX2 zd g13X zd zk zd zd hp rfl zd ?_ ?_ ?_ e18X zd
 ·intro q hq;have:∀q,q≤2→stQ 13 ALi q≤20000:=by decide
  exact this q hq
 ·intro q hq;have hq:q < 2:=hq
  match q,hq with
  | 0,_=>exact e14X
  | 1,_=>exact e16X
 ·intro q hq;have hq:q < 2:=hq
  match q,hq with
  | 0,_=>exact Zkl TX 15 34 35 1 3 wB (ltX zd) lnX2 zd g15X nm_wB
  | 1,_=>exact Zkl TX 17 37 38 1 3 wC (ltX zd) lnX2 zd g17X nm_wC
theorem aLi:Pure prog 214 [.sl 4 TX,iv ((13:Nat):Int),iv 2,iv ((2:Nat):Int)] (.tup [xL.av,iv ((19:Nat):Int),iv 0]):=rxArgC TX 13 29 33 2 2 ⟨#[108,105,110,101]⟩ xL ((19:Nat):Int) (ltX zd) lnX2 zd g13X zk zd (by rw [show wsN ⟨#[108,105,110,101]⟩ 2 rwL=40 from by kernel_rfl];decide) cLi
def AFo:List (Nat × Exq):=[(12,yA),(19,xL)]
theorem cFo:Pure prog 178 [.sl 4 TX,iv ((9:Nat):Int),iv 1,iv ((1:Nat):Int)] (.tup [xF.av,iv ((20:Nat):Int),iv 0]):=by
 have hp:=Zid 14 4 zd rfl zd;refine Zvu TX 9 21 25 1 1 ⟨#[102,111,111,116]⟩ 14 4 AFo [1,2] (ltX zd) lnX2 zd g9X zd zk zd zd hp rfl zd ?_ ?_ ?_ e19X zd
 ·intro q hq;have:∀q,q≤2→stQ 9 AFo q≤20000:=by decide
  exact this q hq
 ·intro q hq;have hq:q < 2:=hq
  match q,hq with
  | 0,_=>exact e10X
  | 1,_=>exact e12X
 ·intro q hq;have hq:q < 2:=hq
  match q,hq with
  | 0,_=>exact Zkl TX 11 26 27 1 2 wA (ltX zd) lnX2 zd g11X nm_wA
  | 1,_=>exact aLi
def ACo:List (Nat × Exq):=[(25,y1),(27,y2),(29,y3),(31,y4)]
theorem cCo:Pure prog 178 [.sl 4 TX,iv ((22:Nat):Int),iv 4,iv ((1:Nat):Int)] (.tup [xG.av,iv ((32:Nat):Int),iv 0]):=by
 have hp:=Zid 63 24 zd rfl zd;refine Zvu TX 22 48 57 4 1 ⟨#[99,111,110,103,114,117,101,110,116]⟩ 63 24 ACo [1,1,1,1] (ltX zd) lnX2 zd g22X zd zk zd zd hp rfl zd ?_ ?_ ?_ e31X zd
 ·intro q hq;have:∀q,q≤4→stQ 22 ACo q≤20000:=by decide
  exact this q hq
 ·intro q hq;have hq:q < 4:=hq
  match q,hq with
  | 0,_=>exact e23X
  | 1,_=>exact e25X
  | 2,_=>exact e27X
  | 3,_=>exact e29X
 ·intro q hq;have hq:q < 4:=hq
  match q,hq with
  | 0,_=>exact Zkl TX 24 58 59 1 2 wD (ltX zd) lnX2 zd g24X nm_wD
  | 1,_=>exact Zkl TX 26 61 62 1 2 wB (ltX zd) lnX2 zd g26X nm_wB
  | 2,_=>exact Zkl TX 28 64 65 1 2 wD (ltX zd) lnX2 zd g28X nm_wD
  | 3,_=>exact Zkl TX 30 67 68 1 2 wC (ltX zd) lnX2 zd g30X nm_wC
theorem dF:Pure prog 133 [.sl 4 TX,iv ((7:Nat):Int),iv 2] (.tup [(Stq.mk 2 [wD] xF 0).av,iv ((20:Nat):Int),iv 0]):=rxDefP TX 7 16 17 wD xF ((20:Nat):Int) (ltX zd) lnX2 g7X nm_wD e8X cFo
theorem dG:Pure prog 133 [.sl 4 TX,iv ((22:Nat):Int),iv 5] (.tup [(Stq.mk 5 [] xG 0).av,iv ((32:Nat):Int),iv 0]):=rxDefG TX 22 xG ((32:Nat):Int) (ltX zd) lnX2 cCo
theorem nX:Pure prog 132 [.sl 4 TX,iv ((1:Nat):Int)] (.tup [.sl 1 ([wA,wB,wC].map strA),iv ((6:Nat):Int),iv 0]):=by
 refine rxNames TX 1 3 [wA,wB,wC] rfl zd lnX2 (by rw [lnX];decide) ?_ ?_
 ·intro q hq
  match q,hq with
  | 0,_=>exact⟨_,_,g1X,nm_wA⟩
  | 1,_=>exact⟨_,_,g3X,nm_wB⟩
  | 2,_=>exact⟨_,_,g5X,nm_wC⟩
 ·intro q hq
  match q,hq with
  | 0,_=>exact⟨_,_,_,_,g2X,by kernel_rfl⟩
  | 1,_=>exact⟨_,_,_,_,g4X,by kernel_rfl⟩
  | 2,_=>exact⟨_,_,_,_,g6X,by kernel_rfl⟩
theorem s1X:Pure prog 87 [.sl 4 TX,iv ((0:Nat):Int)] (.tup [xS1.av,iv ((7:Nat):Int),iv 0]):=rxStm1 TX 0 6 0 6 ⟨#[112,111,105,110,116,115]⟩ [wA,wB,wC] (ltX zd) lnX2 (ltX zd) g0X zk nX e6X
theorem s2X:Pure prog 87 [.sl 4 TX,iv ((7:Nat):Int)] (.tup [xS2.av,iv ((21:Nat):Int),iv 0]):=rxStm2 TX 7 20 16 17 wD ⟨2,[wD],xF,0⟩ (ltX zd) lnX2 (ltX zd) g7X zk zk zk zk dF e20X
theorem s3X:Pure prog 87 [.sl 4 TX,iv ((21:Nat):Int)] (.tup [xS3.av,iv ((33:Nat):Int),iv 0]):=rxStm5 TX 21 32 42 47 ⟨#[112,114,111,118,101]⟩ ⟨5,[],xG,0⟩ (ltX zd) lnX2 (ltX zd) g21X zk zk zk zk dG e32X
def PX (q:Nat):Nat:=[0,7,21,33].getD q 0
theorem progX:Pure prog 48 [strA txX] (.tup [.agg [.sl 10 ([xS1,xS2,xS3].map Stq.av)],iv 0,iv 0]):=by
 refine rxProg txX TX 3 PX [xS1,xS2,xS3] rfl lnX2 rfl allX ?_ ⟨ltX zd,_,_,_,g33X⟩ zd ?_
 ·intro q hq
  match q,hq with
  | 0,_=>exact⟨ltX zd,_,_,_,g0X⟩
  | 1,_=>exact⟨ltX zd,_,_,_,g7X⟩
  | 2,_=>exact⟨ltX zd,_,_,_,g21X⟩
 ·intro q hq
  match q,hq with
  | 0,_=>exact s1X
  | 1,_=>exact s2X
  | 2,_=>exact s3X
end Go.Proofs.YtjbjejmmnbdbiaaGreat
namespace Go.Proofs.YtjbjejmmnbdbiaaGreat
open Go Go.RowKit Go.Pg Go.Pol Go.Proofs.Tryz
attribute [-bool_to_prop] Bool.and_eq_decide Bool.or_eq_decide Bool.decide_beq_decide decide_eq_decide
def arS (k:Int):Int :=
 if k=1 then 0 else if k=2∨k=5∨k=6∨k=14 then 2 else if k=3∨k=4∨k=7∨k=8∨k=10∨k=11 then 3 else if k=9∨k=12∨k=13 then 4 else -1
def arG (k:Int):Int :=
 if k=8 then 2 else if k=1∨k=5 then 3 else if k=2∨k=3∨k=4∨k=6∨k=9 then 4 else if k=7 then 8 else 0
def outB (n:Int) (l:List Int):Bool:=l.any λa=>decide (a < 0) || decide (n≤a)
abbrev RS.zero:RS:=⟨0,.empty,[],⟨false,[],[]⟩⟩
def errS (ss:List RS) (i:Nat):Int :=
 let s:=ss.getD i RS.zero
 if arS s.k < 0 then 8
 else if (s.ar.length:Int)≠arS s.k then 1
 else if outB (i:Int) s.ar=true then 2
 else if (s.k=2∧s.r.ok=false)∨(s.k≠2∧s.r.none=false) then 1
 else if s.nm.size=0 then 0
 else if namB s.nm=false then 6
 else if (ss.take i).any (λt=>t.nm.toList == s.nm.toList)=true then 7
 else 0
def errG (g:RG) (n:Nat):Int :=
 if arG g.k=0 then 8
 else if (g.ar.length:Int)≠arG g.k then 1
 else if outB (n:Int) g.ar=true then 2
 else if (g.k=9∧g.r.ok=false)∨(g.k≠9∧g.r.none=false) then 1
 else 0
def fstE (f:Nat→Int):Nat→Int
 | 0=>0
 | n+1=>if fstE f n≠0 then fstE f n else f n
theorem Ze8 {f:Nat→Int}:∀{n:Nat},(∀j,j < n→f j=0)→fstE f n=0
 | 0,_=>rfl
 | n+1,h=>by
   unfold fstE;rw [Zy0 (by rw [Ze8 λj hj=>h j zo];simp)];exact h n zo
theorem Zlb {f:Nat→Int} {i:Nat} (h:∀j,j < i→f j=0) (hi:f i≠0):∀{n:Nat},i < n→fstE f n=f i
 | 0,hn=>zo
 | n+1,hn=>by
   unfold fstE;by_cases e:i=n
   ·subst e;rw [Zy0 (by rw [Ze8 h];simp)]
   ·have:=Zlb h hi (n:=n) zo;rw [this,Zy1 hi]
theorem Ziq {f:Nat→Int}:∀{n:Nat},fstE f n=0→∀j,j < n→f j=0
 | 0,_,j,hj=>zo
 | n+1,h,j,hj=>by
   unfold fstE at h;split at h
   ·rename_i h1;exact absurd h h1
   ·rename_i h1;by_cases e:j=n
    ·subst e;exact h
    ·exact Ziq (n:=n) (by rcases Decidable.em (fstE f n=0) with h2 | h2;exact h2;exact absurd h2 h1) j zo
def figE (ss:List RS) (gs:List RG):Int :=
 if 40 < ss.length∨8 < gs.length then 4
 else if fstE (errS ss) ss.length≠0 then fstE (errS ss) ss.length
 else fstE (λi=>errG (gs.getD i ⟨0,[],⟨false,[],[]⟩⟩) ss.length) gs.length
def frame (ss:List RS) (gs:List RG):List (Po × Po) × List Vt × Int :=
 if figE ss gs≠0 then ([],[],figE ss gs)
 else if (List.range ss.length).any (bigN ss)=true then ([],[],4)
 else ((frN ss ss.length).cs,(frN ss ss.length).vs,0)
theorem Zw0 {n:Int} {l:List Int} (h:outB n l=false) {k:Nat} (hk:k < l.length):0≤gI l k∧gI l k < n:=by
 unfold outB at h;rw [List.any_eq_false] at h;have:=h (gI l k) (by rw [Zga hk];exact Zzm hk);simp only [ZAn,Zzu] at this;omega
theorem Zle {ss:List RS} {i:Nat} (hi:i < ss.length) (h:errS ss i=0):0≤arS ss[i].k∧(ss[i].ar.length:Int)=arS ss[i].k∧(∀k,k < ss[i].ar.length→0≤gI ss[i].ar k∧gI ss[i].ar k < (i:Int))∧(ss[i].k=2→ss[i].r.ok=true):=by
 unfold errS at h;rw [show ss.getD i RS.zero=ss[i] from by rw [Zzc,Zy4 hi];rfl] at h;generalize ss[i]=s at *;simp only at h;split at h
 ·omega
 ·split at h
  ·omega
  ·split at h
   ·omega
   ·split at h
    ·omega
    ·rename_i h1 h2 h3 h4;refine⟨zo,zo,λk hk=>Zw0 (by simpa using h3) hk,λh5=>?_⟩
     cases h6:s.r.ok with
     | true=>rfl
     | false=>exact absurd (.inl ⟨h5,h6⟩) h4
abbrev Pr:=Int × Int
def prA (p:Pr):AV:=.agg [iv p.1,iv p.2]
def Zdi (k:Int):List Pr :=
 if k=2∨k=5∨k=12∨k=10 then [(0,1)] else if k=8 then [(1,2)] else if k=3∨k=4∨k=7 then [(1,2),(0,-1)] else if k=9 then [(0,1),(2,3)] else if k=14 then [(0,1),(0,-1),(1,-1)] else []
def Zdj (k:Int):List Pr :=
 if k=1 then [(0,1),(1,2)] else if k=2∨k=3∨k=4∨k=9 then [(0,1),(2,3)] else if k=5 then [(1,2)] else if k=7 then [(0,1),(2,3),(4,5),(6,7)] else []
def atN (i:Int) (ar:List Int) (k:Int):Int:=if k < 0 then i else gI ar k.toNat
def Zho (i:Nat) (s:RS):List Pr:=(Zdi s.k).map λp=>(atN i s.ar p.1,atN i s.ar p.2)
def Zht (g:RG):List Pr:=(Zdj g.k).map λp=>(gI g.ar p.1.toNat,gI g.ar p.2.toNat)
def Zbg (ss:List RS):Nat→List Pr
 | 0=>[]
 | i+1=>Zbg ss i++(match ss[i]? with | some s=>Zho i s | none=>[])
def Zc2 (gs:List RG):Nat→List Pr
 | 0=>[]
 | i+1=>Zc2 gs i++(match gs[i]? with | some g=>Zht g | none=>[])
def Zcg (ss:List RS) (gs:List RG):List Pr:=Zbg ss ss.length++Zc2 gs gs.length
theorem Zjf {ss:List RS} {i:Nat} (h:i < ss.length):Zbg ss (i+1)=Zbg ss i++Zho i ss[i]:=by
 unfold Zbg;rw [Zy4 h];cases i<;>rfl
theorem Zjm {gs:List RG} {i:Nat} (h:i < gs.length):Zc2 gs (i+1)=Zc2 gs i++Zht gs[i]:=by
 unfold Zc2;rw [Zy4 h];cases i<;>rfl
def ori (p:Pr):List Pr:=if p.1 < p.2 then [p] else if p.1 > p.2 then [(p.2,p.1)] else []
def oris (l:List Pr):List Pr:=l.flatMap ori
def cmpP (p q:Pr):Int:=if p.1≠q.1 then p.1 - q.1 else p.2 - q.2
theorem Zjq (x y:Pr):cmpP x x=0∧(cmpP x y < 0↔0 < cmpP y x):=by
 unfold cmpP;refine⟨by simp,?_⟩;by_cases h:x.1=y.1
 ·rw [Zy0 (by simpa using h),Zy0 (by simpa using h.symm)];omega
 ·rw [Zy1 h,Zy1 (ZBd h)];omega
theorem cmpP_2 (x y z:Pr) (h1:cmpP x y≤0) (h2:cmpP y z≤0):cmpP x z≤0:=by
 unfold cmpP at *;by_cases a:x.1=y.1<;>by_cases b:y.1=z.1
 ·rw [Zy0 (by simpa using a)] at h1;rw [Zy0 (by simpa using b)] at h2;rw [Zy0 (by simp [a,b])];omega
 ·rw [Zy0 (by simpa using a)] at h1;rw [Zy1 b] at h2;rw [Zy1 (by rw [a];exact b)];omega
 ·rw [Zy1 a] at h1;rw [Zy0 (by simpa using b)] at h2;rw [Zy1 (by rw [←b];exact a)];omega
 ·rw [Zy1 a] at h1;rw [Zy1 b] at h2;have:x.1≠z.1:=zo;rw [Zy1 this];omega
theorem Zyh {x y:Pr} (h:cmpP x y=0):x=y:=by
 unfold cmpP at h;by_cases a:x.1=y.1
 ·rw [Zy0 (by simpa using a)] at h;exact Prod.ext a zo
 ·rw [Zy1 a] at h;omega
def Za1:List Pr→List Pr
 | []=>[]
 | [a]=>[a]
 | a :: b :: r=>if a=b then Za1 (b :: r) else a :: Za1 (b :: r)
theorem Zlf:∀(l:List Pr) (x:Pr),x∈Za1 l↔x∈l
 | [],x=>Iff.rfl
 | [a],x=>Iff.rfl
 | a :: b :: r,x=>by
   unfold Za1;have ih:=Zlf (b :: r) x;split
   ·rename_i h;rw [ih,h];simp
   ·rw [ZAp,ih,ZAp,ZAp,ZAp]
theorem Zjp:∀(l:List Pr),l.Pairwise (λx y=>cmpP x y≤0)→(Za1 l).Pairwise λx y=>cmpP x y < 0
 | [],_=>.nil
 | [a],_=>by unfold Za1;simp
 | a :: b :: r,h=>by
   unfold Za1;have h2:=(List.pairwise_cons.1 h).2;have ih:=Zjp (b :: r) h2;split
   ·exact ih
   ·rename_i hab;refine List.pairwise_cons.2 ⟨λy hy=>?_,ih⟩;have hy:=(Zlf (b :: r) y).1 hy;have h1:=(List.pairwise_cons.1 h).1 y hy;have hb:cmpP a b≤0:=(List.pairwise_cons.1 h).1 b (ZAc ..);rcases Int.lt_or_eq_of_le h1 with h3 | h3
    ·exact h3
    ·exfalso;have e:=Zyh h3;subst e;rcases List.mem_cons.1 hy with e | hy
     ·exact hab e
     ·have h4:=(List.pairwise_cons.1 h2).1 a hy;have h5:=(Zjq b a).2;rcases Int.lt_or_eq_of_le h4 with h6 | h6
      ·have:=h5.1 h6;omega
      ·exact hab (Zyh h6).symm
theorem Zob:∀(l m:List Pr),l.Pairwise (λx y=>cmpP x y < 0)→m.Pairwise (λx y=>cmpP x y < 0)→(∀x,x∈l↔x∈m)→l=m
 | [],[],_,_,_=>rfl
 | [],b :: m,_,_,h=>by have:=(h b).2 (ZAc ..);cases this
 | a :: l,[],_,_,h=>by have:=(h a).1 (ZAc ..);cases this
 | a :: l,b :: m,hl,hm,h=>by
   obtain⟨l1,l2⟩:=List.pairwise_cons.1 hl;obtain⟨m1,m2⟩:=List.pairwise_cons.1 hm
   have e:a=b:=by
    rcases List.mem_cons.1 ((h a).1 (ZAc ..)) with e | ha
    ·exact e
    ·rcases List.mem_cons.1 ((h b).2 (ZAc ..)) with e | hb
     ·exact e.symm
     ·have h1:=l1 b hb;have h2:=m1 a ha;have:=(Zjq a b).2.1 h1;omega
   subst e;rw [Zob l m l2 m2 λx=>?_];constructor
   ·intro hx;rcases List.mem_cons.1 ((h x).1 (ZAr _ hx)) with e | h3
    ·subst e;have:=l1 x hx;rw [(Zjq x x).1] at this;omega
    ·exact h3
   ·intro hx;rcases List.mem_cons.1 ((h x).2 (ZAr _ hx)) with e | h3
    ·subst e;have:=m1 x hx;rw [(Zjq x x).1] at this;omega
    ·exact h3
def hasB (all:List Pr) (i k:Nat):Bool:=decide (((i:Int),(k:Int))∈all) || decide (((k:Int),(i:Int))∈all)
def Zmz (all:List Pr) (i:Nat):Nat→List Pr
 | 0=>[]
 | k+1=>Zmz all i k++(if hasB all i (i+1+k) then [((i:Int),((i+1+k:Nat):Int))] else [])
def Zgp (all:List Pr) (n:Nat):Nat→List Pr
 | 0=>[]
 | i+1=>Zgp all n i++Zmz all i (n - (i+1))
theorem Zie (all:List Pr) (i:Nat):∀(m:Nat) (x:Pr),x∈Zmz all i m↔∃k,i < k∧k < i+1+m∧hasB all i k=true∧x=((i:Int),(k:Int))
 | 0,x=>by
   unfold Zmz;constructor
   ·intro h;cases h
   ·rintro ⟨k,h1,h2,_⟩;omega
 | m+1,x=>by
   unfold Zmz;rw [ZBu,Zie all i m x];constructor
   ·rintro (⟨k,h1,h2,h3,h4⟩ | h)
    ·exact⟨k,h1,zo,h3,h4⟩
    ·split at h
     ·rename_i hh;simp only [ZBa] at h;exact⟨i+1+m,zo,zo,hh,h⟩
     ·cases h
   ·rintro ⟨k,h1,h2,h3,h4⟩
    by_cases hk:k=i+1+m
    ·subst hk;right;rw [Zy1 h3];simp [h4]
    ·left;exact⟨k,h1,zo,h3,h4⟩
theorem Zgo (all:List Pr) (n:Nat):∀(m:Nat) (x:Pr),x∈Zgp all n m↔∃i k:Nat,i < m∧i < k∧k < n∧hasB all i k=true∧x=((i:Int),(k:Int))
 | 0,x=>by
   unfold Zgp;constructor
   ·intro h;cases h
   ·rintro ⟨i,k,h1,_⟩;omega
 | m+1,x=>by
   unfold Zgp;rw [ZBu,Zgo all n m x,Zie];constructor
   ·rintro (⟨i,k,h1,h2,h3,h4,h5⟩ | ⟨k,h1,h2,h3,h4⟩)
    ·exact⟨i,k,zo,h2,h3,h4,h5⟩
    ·exact⟨m,k,zo,h1,zo,h3,h4⟩
   ·rintro ⟨i,k,h1,h2,h3,h4,h5⟩
    by_cases hi:i=m
    ·subst hi;right;exact⟨k,h2,zo,h4,h5⟩
    ·left;exact⟨i,k,zo,h2,h3,h4,h5⟩
theorem Zjh (all:List Pr) (i:Nat):∀m,(Zmz all i m).Pairwise λx y=>cmpP x y < 0
 | 0=>.nil
 | m+1=>by
   unfold Zmz;refine List.pairwise_append.2 ⟨Zjh all i m,by split<;>simp,λx hx y hy=>?_⟩;obtain⟨k,h1,h2,h3,rfl⟩:=(Zie all i m x).1 hx;split at hy
   ·simp only [ZBa] at hy;subst hy;unfold cmpP;simp only [ne_eq,not_true_eq_false,Zzp];omega
   ·cases hy
theorem Zff (all:List Pr) (n:Nat):∀m,(Zgp all n m).Pairwise λx y=>cmpP x y < 0
 | 0=>.nil
 | m+1=>by
   unfold Zgp;refine List.pairwise_append.2 ⟨Zff all n m,Zjh all m _,λx hx y hy=>?_⟩;obtain⟨i,k,h1,h2,h3,h4,rfl⟩:=(Zgo all n m x).1 hx;obtain⟨k',h1',h2',h3',rfl⟩:=(Zie all m _ y).1 hy;unfold cmpP;simp only;rw [Zy1 zo];omega
theorem Zsg {l:List Pr} {x:Pr}:x∈oris l↔x.1 < x.2∧(x∈l∨(x.2,x.1)∈l):=by
 unfold oris;rw [List.mem_flatMap];constructor
 ·rintro ⟨p,hp,hx⟩
  unfold ori at hx;split at hx
  ·simp only [ZBa] at hx;subst hx;exact⟨by assumption,.inl hp⟩
  ·split at hx
   ·simp only [ZBa] at hx;subst hx;exact⟨by simp only;omega,.inr hp⟩
   ·cases hx
 ·rintro ⟨h1,h | h⟩
  ·exact⟨x,h,by unfold ori;rw [Zy1 h1];simp⟩
  ·exact⟨(x.2,x.1),h,by unfold ori;simp only;rw [Zy0 zo,Zy1 h1];simp⟩
theorem lines_eq {all l:List Pr} {n:Nat} (hb:∀p∈all,0≤p.1∧p.1 < n∧0≤p.2∧p.2 < n) (hp:l.Perm (oris all)) (hs:l.Pairwise λx y=>cmpP x y≤0):Za1 l=Zgp all n n:=by
 refine Zob _ _ (Zjp l hs) (Zff all n n) λx=>?_;rw [Zlf,hp.mem_iff,Zsg,Zgo];constructor
 ·rintro ⟨h1,h⟩
  have hx:0≤x.1∧x.1 < n∧0≤x.2∧x.2 < n:=by
   rcases h with h | h
   ·exact hb x h
   ·obtain⟨a,b,c,d⟩:=hb _ h;exact⟨c,d,a,b⟩
  obtain⟨a,b,c,d⟩:=hx;have e1:((x.1.toNat:Nat):Int)=x.1:=ZB0 a;have e2:((x.2.toNat:Nat):Int)=x.2:=ZB0 c;refine⟨x.1.toNat,x.2.toNat,zo,zo,zo,?_,by rw [e1,e2]⟩;unfold hasB;rw [e1,e2];rcases h with h | h
  ·simp [h]
  ·simp [h]
 ·rintro ⟨i,k,h1,h2,h3,h4,rfl⟩
  refine⟨by simp only;omega,?_⟩;unfold hasB at h4;simp only [ZAn,Zzu] at h4;exact h4
theorem rg2 (t:TypeId):List.map (λi=>(t,i*1)) (List.range 0++[0]++[1])=[(t,0),(t,1)]:=rfl
theorem Zgk:szOf prog 40=some 1:=by kernel_rfl
theorem Zj9:Zaq prog 40=some (.slice none 0 0):=by kernel_rfl
theorem Zls:szOf prog 86=some 1:=by kernel_rfl
theorem Zoj (all:List Pr) (i:Nat):∀m,(Zmz all i m).length≤m
 | 0=>Zy5 _
 | m+1=>by
   have ih:=Zoj all i m;unfold Zmz;rw [Zzq];split<;>simp<;>omega
theorem Zkp (all:List Pr) (n:Nat):∀m,(Zgp all n m).length≤m*n
 | 0=>Zzb _
 | m+1=>by
   have ih:=Zkp all n m;have h:=Zoj all m (n - (m+1));unfold Zgp;rw [Zzq,Nat.succ_mul];omega
def grI (l:List Pr) (i:Nat):List Pr→Nat
 | []=>i
 | p :: a=>grI l (if l[i]?=some p then i+1 else i) a
theorem Zsx (l:List Pr) (p:Pr):∀(a:List Pr) (i:Nat),grI l i (a++[p])=if l[grI l i a]?=some p then grI l i a+1 else grI l i a
 | [],i=>rfl
 | q :: a,i=>Zsx l p a _
theorem grI_le (l:List Pr):∀(a:List Pr) (i:Nat),i≤l.length→grI l i a≤l.length
 | [],i,h=>h
 | p :: a,i,h=>by
   refine grI_le l a _ ?_;split
   ·rename_i e;have:=(List.getElem?_eq_some_iff.1 e).1;omega
   ·exact h
theorem Znr (l:List Pr):∀(a:List Pr) (i:Nat),i≤l.length→(l.drop i).Pairwise (λx y=>cmpP x y < 0)→a.Pairwise (λx y=>cmpP x y < 0)→(∀x∈l.drop i,x∈a)→grI l i a=l.length
 | [],i,h,_,_,hm=>by
   have:l.drop i=[]:=List.eq_nil_iff_forall_not_mem.2 λx hx=>by cases hm x hx
   have:=List.drop_eq_nil_iff.1 this;show i=l.length;omega
 | p :: a,i,h,hl,ha,hm=>by
   obtain⟨a1,a2⟩:=List.pairwise_cons.1 ha;show grI l (if l[i]?=some p then i+1 else i) a=l.length;by_cases hi:i < l.length
   ·have hd:l.drop i=l[i] :: l.drop (i+1):=ZBy hi;rw [hd] at hl hm;obtain⟨l1,l2⟩:=List.pairwise_cons.1 hl;have hself:∀x:Pr,¬cmpP x x < 0:=λx=>by rw [(Zjq x x).1];omega
    by_cases e:l[i]=p
    ·rw [Zy1 (by rw [Zy4 hi,e])];refine Znr l a (i+1) hi l2 a2 λx hx=>?_;rcases List.mem_cons.1 (hm x (ZAr _ hx)) with e2 | h2
     ·have:=l1 x hx;rw [e,e2] at this;exact absurd this (hself p)
     ·exact h2
    ·rw [Zy0 (by rw [Zy4 hi];intro h2;exact e (Option.some.inj h2))];refine Znr l a i h (by rw [hd];exact hl) a2 λx hx=>?_;rw [hd] at hx
     have hq:l[i]∈a:=by
      rcases List.mem_cons.1 (hm _ (ZAc ..)) with e2 | h2
      ·exact absurd e2 e
      ·exact h2
     rcases List.mem_cons.1 hx with e2 | h2
     ·rw [e2];exact hq
     ·rcases List.mem_cons.1 (hm x (ZAr _ h2)) with e2 | h3
      ·exfalso;have h4:=l1 x h2;have h5:=a1 _ hq;rw [←e2] at h5;exact absurd h4 (by have:=(Zjq l[i] x).2;have:=(Zjq x l[i]).2;omega)
      ·exact h3
   ·rw [Zy0 (by rw [ZAf zo];intro h2;cases h2)];have hd:l.drop i=[]:=List.drop_eq_nil_iff.2 zo;exact Znr l a i h (by rw [hd];exact .nil) a2 λx hx=>by rw [hd] at hx;cases hx
theorem Zje (ss:List RS) (m:Nat):∀i,i≤m→Zbg (ss.take m) i=Zbg ss i
 | 0,_=>rfl
 | i+1,h=>by
   show Zbg (ss.take m) i++_=Zbg ss i++_;rw [Zje ss m i zo,List.getElem?_take_of_lt zo]
theorem Zjg (ss:List RS) (i:Nat):∀d,∀x∈Zbg ss i,x∈Zbg ss (i+d)
 | 0,x,h=>h
 | d+1,x,h=>List.mem_append_left _ (Zjg ss i d x h)
theorem Zux {ss:List RS} {gs:List RG} {m:Nat} (hm:m≤ss.length):∀x∈Zcg (ss.take m) [],x∈Zcg ss gs:=by
 intro x hx;have hl:(ss.take m).length=m:=by rw [Zzh];omega
 unfold Zcg at hx ⊢;rw [hl,Zje ss m m (Zy5 _)] at hx;rcases List.mem_append.1 hx with h | h
 ·obtain⟨d,hd⟩:=Nat.le.dest hm;rw [←hd];exact List.mem_append_left _ (Zjg ss m d x h)
 ·cases h
theorem Zxy {a b:List Pr} (h:∀x∈a,x∈b) {i k:Nat} (hb:hasB a i k=true):hasB b i k=true:=by
 unfold hasB at *;simp only [ZAn,Zzu] at *;rcases hb with h1 | h1
 ·exact .inl (h _ h1)
 ·exact .inr (h _ h1)
theorem grI_take {ss:List RS} {gs:List RG} {m:Nat} (hm:m≤ss.length):grI (Zgp (Zcg (ss.take m) []) m m) 0 (Zgp (Zcg ss gs) ss.length ss.length)=(Zgp (Zcg (ss.take m) []) m m).length:=by
 refine Znr _ _ 0 (Zzb _) ?_ (Zff _ _ _) λx hx=>?_
 ·exact Zff _ _ _
 ·obtain⟨i,k,h1,h2,h3,h4,h5⟩:=(Zgo _ _ _ _).1 hx;exact(Zgo _ _ _ _).2 ⟨i,k,zo,h2,zo,Zxy (Zux hm) h4,h5⟩
theorem Zx5 {ss:List RS} {gs:List RG} {m:Nat} (h:figE ss gs=0) (hm:m≤ss.length):figE (ss.take m) []=0:=by
 have hl:(ss.take m).length=m:=by rw [Zzh];omega
 unfold figE at h ⊢;rw [hl];by_cases hb:40 < ss.length∨8 < gs.length
 ·rw [Zy1 hb] at h;cases h
 rw [Zy0 hb] at h;rw [Zy0 (by simp;omega)];by_cases h1:fstE (errS ss) ss.length=0
 ·have h2:fstE (errS (ss.take m)) m=0:=Ze8 λj hj=>by
   have h3:=Ziq h1 j zo;unfold errS at h3 ⊢;have e1:(ss.take m).getD j RS.zero=ss.getD j RS.zero:=by rw [Zzc,Zzc,List.getElem?_take_of_lt hj]
   rw [e1,List.take_take,ZAy zo];exact h3
  rw [h2];rfl
 ·rw [Zy1 h1] at h;exact absurd h h1
attribute [go_sem] underlying86
attribute [local go_sem] Zbt Zbm Zbo Za6 Zba Za9 Za3 Za4 Zb8 Zbz Zb1 Zdb Zca Zbx Zb9 Zdd eqP2 Zgk Zj9 Zls rg2
def Zrx (k:Int):AV :=
 if k=2∨k=5∨k=12∨k=10 then .sl 2 [.agg [iv 0,iv 1]] else if k=8 then .sl 2 [.agg [iv 1,iv 2]] else if k=3∨k=4∨k=7 then .sl 2 [.agg [iv 1,iv 2],.agg [iv 0,iv (-1)]] else if k=9 then .sl 2 [.agg [iv 0,iv 1],.agg [iv 2,iv 3]] else if k=14 then .sl 2 [.agg [iv 0,iv 1],.agg [iv 0,iv (-1)],.agg [iv 1,iv (-1)]] else .v (.slice none 0 0)
theorem Zms {c:Prop} [Decidable c] {a b:AV} {l m:List Pr} (h1:Vk a (.sl 2 (l.map prA))) (h2:Vk b (.sl 2 (m.map prA))):Vk (if c then a else b) (.sl 2 ((if c then l else m).map prA)):=by
 split
 ·exact h1
 ·exact h2
theorem sidesV (k:Int):Vk (Zrx k) (.sl 2 ((Zdi k).map prA)):=by
 unfold Zrx Zdi;exact Zms (.refl _) (Zms (.refl _) (Zms (.refl _) (Zms (.refl _) (Zms (.refl _) (.nil 2)))))
theorem drSides (k:Int):Pure prog 36 [iv k] (.sl 2 ((Zdi k).map prA)):=by
 refine Zcm (r:=Zrx k) ?_ (sidesV k);refine pI func36 rfl ntmps36 results36 call36 ?_;(focus (refine wkad w_t w_t w_t ?_;(repeat' first|exact w_t|apply w_l);all_goals intros));all_goals (all_goals (try simp (disch:=omega) only [go_sem,Zrx,Zy6,Zy2,Zy1,Zy0,Int.reduceAdd,Int.reduceSub,Int.reduceToNat,Zzd]));(all_goals first|done|rfl|(congr 2;first|done|omega|(rw [Zzy];simp only [bool_to_prop,Zzf,Zz4,Zz5,Zz6,Zz7];omega))|skip)
def Zsf (k:Int):AV :=
 if k=1 then .sl 2 [.agg [iv 0,iv 1],.agg [iv 1,iv 2]] else if k=2∨k=3∨k=4∨k=9 then .sl 2 [.agg [iv 0,iv 1],.agg [iv 2,iv 3]] else if k=5 then .sl 2 [.agg [iv 1,iv 2]] else if k=7 then .sl 2 [.agg [iv 0,iv 1],.agg [iv 2,iv 3],.agg [iv 4,iv 5],.agg [iv 6,iv 7]] else .v (.slice none 0 0)
theorem partsV (k:Int):Vk (Zsf k) (.sl 2 ((Zdj k).map prA)):=by
 unfold Zsf Zdj;exact Zms (.refl _) (Zms (.refl _) (Zms (.refl _) (Zms (.refl _) (.nil 2))))
theorem drParts (k:Int):Pure prog 37 [iv k] (.sl 2 ((Zdj k).map prA)):=by
 refine Zcm (r:=Zsf k) ?_ (partsV k);refine pI func37 rfl ntmps37 results37 call37 ?_;(focus (refine wkad w_t w_t w_t ?_;(repeat' first|exact w_t|apply w_l);all_goals intros));all_goals (all_goals (try simp (disch:=omega) only [go_sem,Zsf,Zy6,Zy2,Zy1,Zy0,Int.reduceAdd,Int.reduceSub,Int.reduceToNat,Zzd]));(all_goals first|done|rfl|(congr 2;first|done|omega|(rw [Zzy];simp only [bool_to_prop,Zzf,Zz4,Zz5,Zz6,Zz7];omega))|skip)
theorem drAt (i k k0:Int) (nm:ByteArray) (ar:List Int) (bo:Bool) (l d:List Nat) (hk:k < (ar.length:Int)):Pure prog 77 [iv k,.pimm [iv i],.pimm [iv k0,strA nm,ivs ar,.v (.bool bo),lim l,lim d]] (iv (atN i ar k)):=by
 have hll:(ar.map iv).length=ar.length:=Zy3 ..;unfold atN;by_cases h:k < 0
 ·rw [Zy1 h];refine pI func77 rfl ntmps77 results77 call77 ?_;(focus (refine wkad (w_1 h) w_t w_t ?_;(repeat' first|exact w_t|apply w_l);all_goals intros));all_goals exact gL
 ·rw [Zy0 h];have hg:(ar.map iv).getD k.toNat .u=iv (gI ar k.toNat):=by rw [Zac iv zo,Zga zo]
  refine pI func77 rfl ntmps77 results77 call77 ?_;(focus (refine wkad (w_3 h hll hg) w_t w_t ?_;(repeat' first|exact w_t|apply w_l);all_goals intros));all_goals exact gL
abbrev fnV (f:FuncId):Value:=.func (.func f) #[] #[]
theorem rd_fnV {w:World} {imm:Imm} {f:FuncId} {x:Value} (h:Rd w imm (.fn f []) x):Rd w imm (.v (fnV f)) x:=by
 cases h with
 | fn _ _ vs hl _ =>
   obtain rfl:vs=#[]:=Array.eq_empty_of_size_eq_zero (by simpa using hl.symm);exact .v _
theorem rd_Vfn {w:World} {imm:Imm} {f:FuncId} {x:Value} (h:Rd w imm (.v (fnV f)) x):Rd w imm (.fn f []) x:=by
 cases h;exact .fn f [] #[] rfl λj a x h1 _=>by simp at h1
theorem Zvg (f:FuncId):Sub (.pimm [.v (fnV f)]) (.pimm [.fn f []]):=λw imm x hx=>by
 obtain⟨ad,g,rfl,h1,h2⟩:=hx.pimm_inv;refine .pure (.pimm _ ad g h1 λj a ha=>?_)
 match j with
 | 0=>simp only [ZCo,Option.some.injEq] at ha;subst ha;exact rd_Vfn (h2 0 _ rfl)
 | j+1=>simp at ha
theorem Zs0 (M N:List AV) (f g:FuncId):Pure prog 35 [.agg [.sl 6 M,.sl 5 N],.v (fnV f),.v (fnV g)] (.fn 76 [.pimm [.sl 6 M,.sl 5 N],.pimm [.v (fnV f)],.pimm [.v (fnV g)]]):=by
 refine pI func35 rfl ntmps35 results35 call35 ?_;(focus (refine wkad w_t w_t w_t ?_;(repeat' first|exact w_t|apply w_l);all_goals intros));all_goals exact gL
theorem drPairs (M N:List AV) (f g:FuncId):Pure prog 35 [.agg [.sl 6 M,.sl 5 N],.fn f [],.fn g []] (.fn 76 [.pimm [.sl 6 M,.sl 5 N],.pimm [.v (fnV f)],.pimm [.v (fnV g)]]):=by
 refine⟨(Zs0 M N f g).1,λw imm vs him hl hr=>(Zs0 M N f g).2 w imm vs him hl λj a x h1 h2=>?_⟩
 match j with
 | 0=>simp only [ZCo,Option.some.injEq] at h1;subst h1;exact hr 0 _ x rfl h2
 | 1=>simp only [ZC4,ZCo,Option.some.injEq] at h1;subst h1;exact rd_fnV (hr 1 _ x rfl h2)
 | 2=>simp only [ZC4,ZCo,Option.some.injEq] at h1;subst h1;exact rd_fnV (hr 2 _ x rfl h2)
 | j+3=>simp at h1
theorem Zyw {P:Program} {f:FuncId} {args args':List AV} {σ:Mem} {R:AV→Mem→Prop} (hs:Subs args args') (h:ACall P f args' σ R):ACall P f args σ R :=
 ⟨h.1,λc w imm vs hm hl hr=>h.2 c w imm vs hm (by rw [←hs.len];exact hl) λj a x h1 h2=>by
  have hj:j < args.length:=by rw [hs.len];exact(List.getElem?_eq_some_iff.1 h1).1
  exact hs.get j args[j] a (Zy4 hj) h1 w imm x (hr j args[j] x (Zy4 hj) h2)⟩
theorem Znd {P:Program} {f:FuncId} {args:List AV} {e:Nat→AV} {m:Mem} {t d:Nat} {K:St→Prop} {R:AV→Mem→Prop} (c:ACall P f args m R) (h:∀r σ',R r σ'→K ⟨upd e d r,σ'⟩):aRes P t (some d) (.call f args) K ⟨e,m⟩:=c.mono h
theorem Zmg {P:Program} {n:Nat} {K:St→Prop} {st:St} (h:K st):Zjt P n [] K st:=h
theorem Frz.pub {n:Nat} {e:Nat→AV} {m:Mem} {d:Nat} {a:AV} (he:e d=a) (ho:Zfv (marks m a.toks) a):Frz n ⟨e,m⟩ ⟨upd e d (pubV (marks m a.toks) a),marks m a.toks⟩:=λc ac w imm h=>by
 obtain⟨i',hm,hk⟩:=Zc4 a.toks h.mem;refine⟨i',λt=>?_,h.size,h.defers,hm⟩;show Rs w i' (upd e d (pubV (marks m a.toks) a) t) (ac.tmps.getD t undef);rw [Zal];split
 ·rename_i ht;subst ht;have:=h.env t;rw [show(⟨e,m⟩:St).env t=a from he] at this;exact .pure (Zgf hm (hk.rs this) ho)
 ·exact hk.rs (h.env t)
theorem Zg1 {P:Program} {t:TypeId} {w:World} (h:(P.underlying t).map Zfy=some false):(isAgg t).run P w=.ok false w:=by
 obtain⟨d,hd,h⟩:=Option.map_eq_some_iff.1 h;simp only [isAgg,Zzk,Zzl hd,Zzj];cases d<;>first|rfl|cases h
theorem ag_st {P:Program} {t:TypeId} {w:World} (h:(P.underlying t).map Zfy=some true):(isAgg t).run P w=.ok true w:=by
 obtain⟨d,hd,h⟩:=Option.map_eq_some_iff.1 h;simp only [isAgg,Zzk,Zzl hd,Zzj];cases d<;>first|rfl|cases h
def ppR:Go.Shelf.Ren:=⟨fun | 14=>124 | 15=>125 | 20=>166 | 21=>167 | 22=>168 | 23=>169 | 24=>170 | 25=>171 | 26=>172 | 27=>173 | 28=>174 | 29=>175 | 46=>207 | 47=>208 | 48=>209 | 49=>210 | 50=>211 | 57=>229 | n=>n,fun | 0=>0 | 3=>3 | 4=>4 | 5=>5 | 9=>9 | 22=>40 | 24=>54 | 25=>124 | 39=>172 | 45=>224 | 46=>225 | 50=>229 | 53=>171 | 55=>94 | 66=>259 | 70=>263 | 76=>282 | 77=>283 | n=>n,λn=>n⟩
theorem ppL:Go.Proofs.SlLaysF0.n14 prog ppR:={
 mixed:=by kernel_rfl
 f14:=⟨f124.name,by decide,by kernel_rfl⟩
 f15:=by kernel_rfl
 f20:=⟨f166.name,by decide,by kernel_rfl⟩
 f21:=⟨f167.name,by decide,by kernel_rfl⟩
 f22:=⟨f168.name,by decide,by kernel_rfl⟩
 f23:=⟨f169.name,by decide,by kernel_rfl⟩
 f24:=⟨f170.name,by decide,by kernel_rfl⟩
 f25:=⟨f171.name,by decide,by kernel_rfl⟩
 f26:=⟨f172.name,by decide,by kernel_rfl⟩
 f27:=⟨f173.name,by decide,by kernel_rfl⟩
 f28:=by kernel_rfl
 f29:=by kernel_rfl
 f46:=⟨f207.name,by decide,by kernel_rfl⟩
 f47:=by kernel_rfl
 f48:=by kernel_rfl
 f49:=⟨f210.name,by decide,by kernel_rfl⟩
 f50:=⟨f211.name,by decide,by kernel_rfl⟩
 f57:=⟨f229.name,by decide,by kernel_rfl⟩
 t0:=by kernel_rfl
 a0:=λ_=>Zg1 (t:=0) zk
 z0:=λ_=>Zah zk
 v0:=λ_=>Zak zk
 t3:=by kernel_rfl
 a3:=λ_=>Zg1 (t:=3) zk
 z3:=λ_=>Zah zk
 v3:=λ_=>Zak zk
 t4:=by kernel_rfl
 a4:=λ_=>Zg1 (t:=4) zk
 z4:=λ_=>Zah zk
 v4:=λ_=>Zak zk
 t5:=by kernel_rfl
 a5:=λ_=>Zg1 (t:=5) zk
 z5:=λ_=>Zah zk
 v5:=λ_=>Zak zk
 t9:=by kernel_rfl
 a9:=λ_=>Zg1 (t:=9) zk
 z9:=λ_=>Zah zk
 v9:=λ_=>Zak zk
 t22:=by kernel_rfl
 a22:=λ_=>Zg1 (t:=40) zk
 z22:=λ_=>Zah zk
 v22:=λ_=>Zak zk
 t25:=by kernel_rfl
 a25:=λ_=>Zg1 (t:=124) zk
 z25:=λ_=>Zah zk
 v25:=λ_=>Zak zk
 t39:=by kernel_rfl
 a39:=λ_=>Zg1 (t:=172) zk
 z39:=λ_=>Zah zk
 v39:=λ_=>Zak zk
 t45:=by kernel_rfl
 a45:=λ_=>Zg1 (t:=224) zk
 z45:=λ_=>Zah zk
 v45:=λ_=>Zak zk
 t46:=by kernel_rfl
 a46:=λ_=>Zg1 (t:=225) zk
 z46:=λ_=>Zah zk
 v46:=λ_=>Zak zk
 t50:=by kernel_rfl
 a50:=λ_=>Zg1 (t:=229) zk
 z50:=λ_=>Zah zk
 v50:=λ_=>Zak zk
 t53:=by kernel_rfl
 a53:=λ_=>Zg1 (t:=171) zk
 z53:=λ_=>Zah zk
 v53:=λ_=>Zak zk
 t55:=by kernel_rfl
 a55:=λ_=>Zg1 (t:=94) zk
 z55:=λ_=>Zah zk
 v55:=λ_=>Zak zk
 t66:=by kernel_rfl
 a66:=λ_=>Zg1 (t:=259) zk
 z66:=λ_=>Zah zk
 v66:=λ_=>Zak zk
 t70:=by kernel_rfl
 a70:=λ_=>Zg1 (t:=263) zk
 z70:=λ_=>Zah zk
 v70:=λ_=>Zak zk
 t76:=by kernel_rfl
 a76:=λ_=>Zg1 (t:=282) zk
 z76:=λ_=>Zah zk
 v76:=λ_=>Zak zk
 t77:=by kernel_rfl
 a77:=λ_=>Zg1 (t:=283) zk
 z77:=λ_=>Zah zk
 v77:=λ_=>Zak zk
}
def smP (p:Pr):Prop:=0≤p.1∧p.1 < 1000000000∧0≤p.2∧p.2 < 1000000000
theorem cmpC (p q:Pr) (hp:smP p) (hq:smP q):Pure prog 79 [prA p,prA q] (iv (cmpP p q)):=by
 obtain⟨a,b⟩:=p;obtain⟨c,d⟩:=q;obtain⟨a1,a2,a3,a4⟩:=hp;obtain⟨c1,c2,c3,c4⟩:=hq;simp only at a1 a2 a3 a4 c1 c2 c3 c4;show Pure _ _ [.agg [iv a,iv b],.agg [iv c,iv d]] (iv (cmpP (a,b) (c,d)));unfold cmpP;simp only;have w1:IntKind.i64.wrap (a - c)=a - c:=Zdl zo zo;have w2:IntKind.i64.wrap (b - d)=b - d:=Zdl zo zo;by_cases h:a=c
 ·rw [Zy0 (by simpa using h)];refine pI func79 rfl ntmps79 results79 call79 ?_;(focus (refine wkad (w_3 h w1 w2) w_t w_t ?_;(repeat' first|exact w_t|apply w_l);all_goals intros));all_goals exact gL
 ·rw [Zy1 h];refine pI func79 rfl ntmps79 results79 call79 ?_;(focus (refine wkad (w_3 h w1 w2) w_t w_t ?_;(repeat' first|exact w_t|apply w_l);all_goals intros));all_goals exact gL
theorem ppPdqK (σ:Mem) (K:Nat) (sv:Value) (L:List Pr) (lm:Nat) (hK:σ K=some (.row sv 54 2 (L.map prA) 0)) (hl:L.length≤1000000000) (hlim:lm≤1000000000) (hs:∀p∈L,smP p):ACall prog 124 [.own K sv,iv 0,iv L.length,iv lm,.fn 79 []] σ λr σ'=>∃l':List Pr,l'.Perm L∧l'.Pairwise (λx y=>cmpP x y≤0)∧r=.tup []∧σ'=upd σ K (some (.row sv 54 2 (l'.map prA) 0)) :=
 Ztr ppL (k:=2) (λ_=>ag_st (t:=54) zk) (λ_=>Zah zk) zo (λp:Pr=>[iv p.1,iv p.2]) cmpP (g:=79) L (λ_=>rfl) hK zo Zjq cmpP_2 (λx hx y hy=>cmpC x y (hs x hx) (hs y hy)) call124 lm zo λp cap w=>Go.Proofs.AnyF.pdqsortCmpFunc_none ppL p cap lm _ w
theorem ppSort (σ:Mem) (K:Nat) (sv:Value) (L:List Pr) (hK:σ K=some (.row sv 54 2 (L.map prA) 0)) (hl:L.length < 256) (hs:∀p∈L,smP p):ACall prog 78 [.own K sv,.fn 79 []] σ λr σ'=>∃l':List Pr,l'.Perm L∧l'.Pairwise (λx y=>cmpP x y≤0)∧r=.tup []∧σ'=upd σ K (some (.row sv 54 2 (l'.map prA) 0)):=by
 refine Zbi (tok:=0) func78 rfl ntmps78 results78 call78 zr zs ?_;have cb:=bitsLen L.length hl;have hb:=Zi4 (i:=L.length) hl;have hml:(L.map prA).length=L.length:=Zy3 ..;have ci:=fun(σ:Mem) h=>ppPdqK σ K sv L (len8 L.length) h zo zo hs;generalize len8 L.length=lim at *;have ci:∀(σ:Mem),σ K=some (.row sv 54 2 (L.map prA) 0)→ACall prog 124 [.own K sv,iv 0,iv L.length,iv lim,.fn 79 []] σ _:=ci;generalize L.map prA=LA at *;(focus (refine wkad (w_2 hK hml) (w_1 cb) w_t ?_;(repeat' first|exact w_t|apply w_l);all_goals intros));refine Znd (ci _ (by(simp (disch:=omega) only [go_sem,hK]<;>repeat' first|rfl|refine⟨?_,?_⟩))) ?_
 rintro _ _ ⟨l',h1,h2,rfl,rfl⟩
 (focus (refine wkad w_t w_t w_t ?_;(repeat' first|exact w_t|apply w_l);all_goals intros));simp (disch:=omega) only [go_sem];exact⟨l',h1,h2,rfl⟩
theorem Zi8:∀(l:List Pr) (b a:Pr),Za1 (l++[b,a])=if a=b then Za1 (l++[b]) else Za1 (l++[b])++[a]
 | [],b,a=>by
   show Za1 [b,a]=if a=b then Za1 [b] else Za1 [b]++[a];unfold Za1;by_cases h:b=a
   ·rw [Zy1 h,Zy1 h.symm,h];rfl
   ·rw [Zy0 h,Zy0 (ZBd h)];rfl
 | [x],b,a=>by
   have ih:=Zi8 [] b a;simp only [ZCk] at ih;show Za1 (x :: b :: [a])=if a=b then Za1 (x :: b :: []) else Za1 (x :: b :: [])++[a];unfold Za1;rw [ih];by_cases h:x=b<;>by_cases h2:a=b<;>simp [h,h2]
 | x :: y :: r,b,a=>by
   have ih:=Zi8 (y :: r) b a;simp only [ZB1] at ih ⊢;show Za1 (x :: y :: (r++[b,a]))=if a=b then Za1 (x :: y :: (r++[b])) else Za1 (x :: y :: (r++[b]))++[a];rw [show Za1 (x :: y :: (r++[b,a]))=if x=y then Za1 (y :: (r++[b,a])) else x :: Za1 (y :: (r++[b,a])) from rfl,show Za1 (x :: y :: (r++[b]))=if x=y then Za1 (y :: (r++[b])) else x :: Za1 (y :: (r++[b])) from rfl,ih];by_cases h:x=y<;>by_cases h2:a=b<;>simp [h,h2]
theorem Zml {l:List Pr} {j:Nat} (h:j+1 < l.length):Za1 (l.take (j+2))=if l[j+1]=l[j] then Za1 (l.take (j+1)) else Za1 (l.take (j+1))++[l[j+1]]:=by
 have e1:l.take (j+1)=l.take j++[l[j]]:=by rw [ZCi,Zy4 zo];rfl
 have e2:l.take (j+2)=l.take j++[l[j],l[j+1]]:=by rw [show j+2=(j+1)+1 from rfl,ZCi,Zy4 (by omega:j+1 < l.length),e1,ZAa];rfl
 rw [e2,e1];exact Zi8 _ _ _
theorem Zya {l:List Pr} (h:0 < l.length):Za1 (l.take 1)=l.take 1:=by
 cases l with
 | nil=>simp at h
 | cons a r=>rfl
theorem Zs2:∀(l:List Pr),(Za1 l).length≤l.length
 | []=>Zy5 _
 | [a]=>Zy5 _
 | a :: b :: r=>by
   have ih:=Zs2 (b :: r);unfold Za1;split
   ·exact Zzg ih (Nat.le_succ _)
   ·simp only [Zze] at ih ⊢;omega
theorem set_take {fs:List Pr} {k:Nat} (h:k < fs.length) (x:Pr):(fs.set k x).take (k+1)=fs.take k++[x]:=by
 rw [ZCi,List.getElem?_set_self h,List.take_set_of_le (Zy5 _)];rfl
theorem Zwr {fs:List Pr} {k:Nat} (h:k < fs.length):(fs.map prA).getD k .u=.agg [iv fs[k].1,iv fs[k].2]:=Zac prA h
def CmpR (K:Nat) (sv:Value) (l:List Pr) (σ:Mem) (r:AV) (σ':Mem):Prop :=
 (Za1 l=l∧σ'=σ∧r=.own K sv)∨((Za1 l).length≤l.length∧r=.view K sv 2 0 (Za1 l).length∧σ'=upd σ K (some (.row sv 54 2 ((Za1 l).map prA++List.replicate (l.length - (Za1 l).length) (.agg [iv 0,iv 0])) 0)))
theorem Zws (σ:Mem) (K:Nat) (sv:Value) (l:List Pr) (hK:σ K=some (.row sv 54 2 (l.map prA) 0)) (hl:l.length < 256):ACall prog 80 [.own K sv] σ (CmpR K sv l σ):=by
 refine Zbi (tok:=0) func80 rfl ntmps80 results80 call80 zr zs ?_;have hml:(l.map prA).length=l.length:=Zy3 ..;by_cases h2:l.length < 2
 ·have hd:Za1 l=l:=by
   match l,h2 with
   | [],_=>rfl
   | [a],_=>rfl
   | a :: b :: r,h=>exact absurd h (by simp only [Zze];omega)
  have hR:CmpR K sv l σ (.own K sv) σ:=.inl ⟨hd,rfl,rfl⟩;generalize CmpR K sv l σ=R at *;(focus (refine wkad (w_2 hK hml) w_t w_t ?_;(repeat' first|exact w_t|apply w_l);all_goals intros));all_goals (all_goals (try simp (disch:=omega) only [go_sem,Zy6,Zy2,Zy1,Zy0,Int.reduceAdd,Int.reduceSub,Int.reduceToNat,Zzd]));(all_goals first|done|rfl|(congr 2;first|done|omega|(rw [Zzy];simp only [bool_to_prop,Zzf,Zz4,Zz5,Zz6,Zz7];omega))|skip)
  all_goals assumption
 ·have hg:∀j (h:j < l.length),(l.map prA).getD j .u=.agg [iv l[j].1,iv l[j].2]:=λj h=>Zac prA h;generalize hM:l.map prA=M at *;(focus (refine wkad (w_2 hK hml) w_t w_t ?_;(repeat' first|exact w_t|apply w_l);all_goals intros));refine Zab (ι:=Nat) (λk e m=>(1≤k∧k≤l.length)∧Za1 (l.take k)=l.take k∧e 0=.own K sv∧e 3=iv k∧σ=m) (λk=>l.length - k) 1 zr ?_ ?_
  ·rintro k e m ⟨⟨hk1,hk⟩,hdk,e0,e3,rfl⟩
   by_cases hlt:k < l.length
   ·obtain⟨k,rfl⟩:∃q,k=q+1:=⟨k - 1,zo⟩;have g1:=hg (k+1) hlt;have g0:=hg k zo;have hst:=Zml hlt;have hi1:((k+1:Nat):Int) - 1=(k:Int):=zo;by_cases heq:l[k+1]=l[k]
    ·rw [Zy1 heq,hdk] at hst;rw [heq] at g1;have hsl:((l.length:Nat):Int).toNat=l.length:=zo;(focus (refine wkad (w_7 e0 e3 hK hml g1 g0 hi1) w_t w_t ?_;(repeat' first|exact w_t|apply w_l);all_goals intros));refine Zab (ι:=Nat) (λq e m=>k+2+q≤l.length∧e 0=.own K sv∧e 4=.view K sv 2 (k+1) (l.length - (k+1))∧e 5=iv ((q+1:Nat):Int)∧∃fs:List Pr,fs.length=l.length∧(Za1 (l.take (k+2+q))).length≤k+1+q∧fs.take (Za1 (l.take (k+2+q))).length=Za1 (l.take (k+2+q))∧(∀j,k+1+q≤j→fs[j]?=l[j]?)∧e 3=iv ((Za1 (l.take (k+2+q))).length:Nat)∧m K=some (.row sv 54 2 (fs.map prA) 0)∧∀t,t≠K→m t=σ t) (λq=>l.length - q) 0 zr ?_ ?_
     ·rintro q e m ⟨hq,e0,e4,e5,fs,hfl,hle,htk,hfs,e3,mK,mo⟩
      have hfm:(fs.map prA).length=l.length:=by rw [Zy3,hfl]
      by_cases hq2:q+1 < l.length - (k+1)
      ·have hq3:k+1+(q+1) < l.length:=zo;have hst2:=Zml (l:=l) (j:=k+1+q) zo
       have f1:fs[k+1+(q+1)]'zo=l[k+1+q+1]'zo:=by
        have:=hfs (k+1+(q+1)) zo;rw [Zy4 zo,Zy4 zo] at this;exact Option.some.inj this
       have f0:fs[k+1+q]'zo=l[k+1+q]'zo:=by
        have:=hfs (k+1+q) zo;rw [Zy4 zo,Zy4 zo] at this;exact Option.some.inj this
       have g1:=Zwr (fs:=fs) (k:=k+1+(q+1)) zo;have g0:=Zwr (fs:=fs) (k:=k+1+q) zo;rw [f1] at g1;rw [f0] at g0;have hi2:((q+1:Nat):Int) - 1=(q:Int):=zo;have hqi:((q+1:Nat):Int) < ((l.length - (k+1):Nat):Int):=zo;have e12:k+1+q+2=k+2+(q+1):=zo;have e11:k+1+q+1=k+2+q:=zo;have e13:l.take (k+1+q+2)=l.take (k+2+(q+1)):=by rw [e12]
       have e14:l.take (k+1+q+1)=l.take (k+2+q):=by rw [e11]
       rw [e13,e14] at hst2;clear f1 f0;by_cases hne:l[k+1+q+1]'zo=l[k+1+q]'zo
       ·rw [Zy1 hne] at hst2;rw [hne] at g1;generalize l[k+1+q]'zo=x at *;obtain⟨x1,x2⟩:=x;simp only at g0 g1;obtain⟨F,hF⟩:∃F,fs.map prA=F:=⟨_,rfl⟩;rw [hF] at mK hfm g0 g1;(focus (refine wkad (w_10 e0 e3 e4 e5 mK hfm g1 g0 hi2 hqi) w_t w_t ?_;(repeat' first|exact w_t|apply w_l);all_goals intros));refine⟨q+1,⟨zo,gW e0,gW e4,gS,fs,hfl,by rw [hst2];omega,by rw [hst2];exact htk,λj hj=>hfs j zo,by rw [hst2];exact gW e3,by rw [hF];(simp (disch:=omega) only [go_sem,mK]<;>repeat' first|rfl|refine⟨?_,?_⟩),mo⟩,zo⟩
       ·rw [Zy0 hne] at hst2;have hls:(Za1 (l.take (k+2+(q+1)))).length=(Za1 (l.take (k+2+q))).length+1:=by rw [hst2,Zzq];rfl
        have hkl:(Za1 (l.take (k+2+q))).length < fs.length:=zo;have hti:((Za1 (l.take (k+2+q))).length:Int) < (l.length:Int):=zo;generalize hdl:Za1 (l.take (k+2+q))=dl at *;have hgx:l[k+1+q+1]?=some (l[k+1+q+1]'zo):=Zy4 _;generalize l[k+1+q+1]'zo=x at *;generalize l[k+1+q]'zo=y at *;have hst3:=set_take hkl x;rw [htk,←hst2] at hst3;have hsm:(fs.map prA).set dl.length (.agg [iv x.1,iv x.2])=(fs.set dl.length x).map prA:=by rw [List.map_set];rfl
        have gz:=Zwr hkl;generalize fs[(dl.length)]'hkl=z at *;obtain⟨x1,x2⟩:=x;obtain⟨y1,y2⟩:=y;simp only at g0 g1 hsm;obtain⟨F,hF⟩:∃F,fs.map prA=F:=⟨_,rfl⟩;rw [hF] at mK hfm g0 g1 hsm gz;by_cases hx:x1=y1
        ·subst hx;have hy:¬x2=y2:=λe=>hne (by rw [e]);(focus (refine wkad (w_13 e0 e3 e4 e5 mK hfm g1 g0 gz hi2 hqi hy hti) w_t w_t ?_;(repeat' first|exact w_t|apply w_l);all_goals intros));refine⟨q+1,⟨zo,gW e0,gW e4,gS,fs.set dl.length (x1,x2),by rw [List.length_set];exact hfl,by rw [hls];omega,by rw [hls];exact hst3,λj hj=>by rw [List.getElem?_set_ne zo];exact hfs j zo,by rw [hls];exact gS,by rw [←hsm];exact gC,λt ht=>by rw [←mo t ht];show upd _ _ _ t=_;rw [Zal,Zy0 ht];rfl⟩,zo⟩
        ·(focus (refine wkad (w_13 e0 e3 e4 e5 mK hfm g1 g0 gz hi2 hqi hx hti) w_t w_t ?_;(repeat' first|exact w_t|apply w_l);all_goals intros));all_goals first|(rename_i hz;exact absurd hz.1 zs)|refine⟨q+1,⟨zo,gW e0,gW e4,gS,fs.set dl.length (x1,x2),by rw [List.length_set];exact hfl,by rw [hls];omega,by rw [hls];exact hst3,λj hj=>by rw [List.getElem?_set_ne zo];exact hfs j zo,by rw [hls];exact gS,by rw [←hsm];exact gC,λt ht=>by rw [←mo t ht];show upd _ _ _ t=_;rw [Zal,Zy0 ht];rfl⟩,zo⟩
      ·have hn:k+2+q=l.length:=zo;rw [hn,ZAw] at hle htk e3;have hfm2:(fs.map prA).take (Za1 l).length=(Za1 l).map prA:=by rw [←List.map_take,htk]
       have hfd:(fs.map prA).drop ((Za1 l).length+(l.length - (Za1 l).length))=[]:=ZAo (by rw [hfm];omega);have hkn:(Za1 l).length≤l.length:=Zs2 l;have hR:CmpR K sv l σ (.view K sv 2 0 (Za1 l).length) (upd σ K (some (.row sv 54 2 ((Za1 l).map prA++List.replicate (l.length - (Za1 l).length) (.agg [iv 0,iv 0])) 0))):=.inr ⟨hkn,rfl,rfl⟩;have hmm:∀x,upd m K x=upd σ K x:=λx=>by
        funext t
        rw [Zal,Zal];split
        ·rfl
        ·rename_i ht;exact mo t ht
       generalize CmpR K sv l σ=R at *;generalize Za1 l=dl at *;generalize fs.map prA=F at *;have hrl:(dl.map prA++List.replicate (l.length - dl.length) (AV.agg [iv 0,iv 0])).length=l.length:=by rw [Zzq,Zy3,ZCu];omega
       rw [←hmm] at hR;generalize hRP:List.replicate (l.length - dl.length) (AV.agg [iv 0,iv 0])=RP at *
       (repeat' (first|(with_reducible first|refine stp ?_|apply gx1|apply gx2|apply gx3|apply gx4|apply gx5|apply gx6|apply gx7|apply gy8|apply gz2|apply gz3)|(with_reducible refine Zch ?_;intro _)|((with_reducible refine gE ?_);(try simp (disch:=omega) only [go_sem,e0,e3,e4,e5,mK,hfm,hfm2,hfd,hrl,hRP,ZAh,Zy6,Zy2,Zy1,Zy0,Int.reduceAdd,Int.reduceSub,Int.reduceToNat,Zzd])<;>first|rfl|omega)|with_reducible refine Zai zd ?_|((with_reducible apply gy1);iterate 3 focus rfl)|((with_reducible apply gy2);iterate 3 focus rfl)|((with_reducible apply gy3);iterate 2 focus rfl)|((with_reducible apply gy4);iterate 1 focus rfl)|((with_reducible apply gy5);iterate 4 focus rfl)|((with_reducible apply gy5c);iterate 4 focus rfl)|((with_reducible apply gy6);iterate 4 focus rfl)|((with_reducible apply Zf0);iterate 3 focus rfl)|((with_reducible apply Zfu);iterate 1 focus rfl)|((with_reducible apply gy7);iterate 1 focus rfl)|((with_reducible apply gy9);(focus ((with_reducible refine gE ?_);(try simp (disch:=omega) only [go_sem,e0,e3,e4,e5,mK,hfm,hfm2,hfd,hrl,hRP,ZAh,Zy6,Zy2,Zy1,Zy0,Int.reduceAdd,Int.reduceSub,Int.reduceToNat,Zzd])<;>rfl)))|((with_reducible apply gz1);(focus first|rfl|(simp (disch:=omega) only [go_sem,e0,e3,e4,e5,mK,hfm,hfm2,hfd,hrl,hRP,ZAh,Zy6,Zy2,Zy1,Zy0,Int.reduceAdd,Int.reduceSub,Int.reduceToNat,Zzd];done)))|((with_reducible apply Zas (Zbu []) [] []);(focus kernel_rfl);(focus rfl);(focus kernel_rfl);(focus (simp only [Zze,Zzi,Nat.reduceAdd];rfl)))|((with_reducible first|apply Zcv|apply Zda|apply Zcy);all_goals (intro hc;(try simp only [bool_to_prop] at hc);try (exfalso;omega)))))
       all_goals (all_goals (try simp (disch:=omega) only [go_sem,Zy6,Zy2,Zy1,Zy0,Int.reduceAdd,Int.reduceSub,Int.reduceToNat,Zzd]));(all_goals first|done|rfl|(congr 2;first|done|omega|(rw [Zzy];simp only [bool_to_prop,Zzf,Zz4,Zz5,Zz6,Zz7];omega))|skip)
       all_goals assumption
     ·have hln:(Za1 (l.take (k+2+0))).length=k+1:=by show(Za1 (l.take (k+2))).length=_;rw [hst,Zzh];omega
      refine⟨zo,gW e0,gC,gC,l,rfl,zo,by rw [hln];exact hst.symm,λ_ _=>rfl,by rw [hln];exact gW e3,by rw [hM];(simp (disch:=omega) only [go_sem,hK]<;>repeat' first|rfl|refine⟨?_,?_⟩),λ_ _=>gC⟩
    ·rw [Zy0 heq,hdk] at hst
     have hdk2:Za1 (l.take (k+2))=l.take (k+2):=by
      have e:l.take ((k+1)+1)=l.take (k+1)++[l[k+1]]:=by rw [ZCi,Zy4 hlt];rfl
      exact hst.trans e.symm
     generalize l[k+1]=x at *;generalize l[k]'zo=y at *;obtain⟨x1,x2⟩:=x;obtain⟨y1,y2⟩:=y;simp only at g0 g1;by_cases hx:x1=y1
     ·subst hx;have hy:¬x2=y2:=λe=>heq (by rw [e]);(focus (refine wkad (w_8 e0 e3 hK hml g1 g0 hi1 hy) w_t w_t ?_;(repeat' first|exact w_t|apply w_l);all_goals intros));exact⟨k+2,⟨zo,hdk2,gW e0,gS,gC⟩,zo⟩
     ·(focus (refine wkad (w_8 e0 e3 hK hml g1 g0 hi1 hx) w_t w_t ?_;(repeat' first|exact w_t|apply w_l);all_goals intros));all_goals first|(rename_i hz;exact absurd hz.1 zs)|exact⟨k+2,⟨zo,hdk2,gW e0,gS,gC⟩,zo⟩
   ·have hkn:k=l.length:=zo;subst hkn;rw [ZAw] at hdk;have hR:CmpR K sv l σ (.own K sv) σ:=.inl ⟨hdk,rfl,rfl⟩;generalize CmpR K sv l σ=R at *;(focus (refine wkad (w_4 e0 e3 hK hml) w_t w_t ?_;(repeat' first|exact w_t|apply w_l);all_goals intros));all_goals (all_goals (try simp (disch:=omega) only [go_sem,Zy6,Zy2,Zy1,Zy0,Int.reduceAdd,Int.reduceSub,Int.reduceToNat,Zzd]));(all_goals first|done|rfl|(congr 2;first|done|omega|(rw [Zzy];simp only [bool_to_prop,Zzf,Zz4,Zz5,Zz6,Zz7];omega))|skip)
    all_goals assumption
  ·exact⟨zo,Zya zo,gC,gC,gC⟩
abbrev yV (l:Nat):Value:=.func (.yield l) #[] #[]
theorem Ztt (k:Int):(Zdi k).length≤10:=by
 unfold Zdi
 repeat' split
 all_goals simp
theorem Zt4 (k:Int):(Zdj k).length≤10:=by
 unfold Zdj
 repeat' split
 all_goals simp
theorem Zkf (ss:List RS) (i:Nat):∀n,i≤n→∃r,Zbg ss n=Zbg ss i++r
 | 0,h=>⟨[],by rw [Nat.le_zero.1 h,ZAh]⟩
 | n+1,h=>by
   by_cases hi:i=n+1
   ·subst hi;exact⟨[],(ZAh _).symm⟩
   ·obtain⟨r,hr⟩:=Zkf ss i n zo;exact⟨r++(match ss[n]? with | some s=>Zho n s | none=>[]),by rw [←ZAa,←hr];rfl⟩
theorem Zk7 (gs:List RG) (i:Nat):∀n,i≤n→∃r,Zc2 gs n=Zc2 gs i++r
 | 0,h=>⟨[],by rw [Nat.le_zero.1 h,ZAh]⟩
 | n+1,h=>by
   by_cases hi:i=n+1
   ·subst hi;exact⟨[],(ZAh _).symm⟩
   ·obtain⟨r,hr⟩:=Zk7 gs i n zo;exact⟨r++(match gs[n]? with | some s=>Zht s | none=>[]),by rw [←ZAa,←hr];rfl⟩
theorem Zuy {ss:List RS} {gs:List RG} {i j:Nat} (h:i < ss.length) {p:Pr} (hp:(Zho i ss[i])[j]?=some p):(Zcg ss gs)[(Zbg ss i).length+j]?=some p:=by
 obtain⟨r,hr⟩:=Zkf ss (i+1) ss.length zo;have hj:j < (Zho i ss[i]).length:=(List.getElem?_eq_some_iff.1 hp).1;unfold Zcg;rw [hr,Zjf h,ZAa,ZAa,ZAd zo,ZCa,Zz8 hj];exact hp
theorem Zuz {ss:List RS} {gs:List RG} {i j:Nat} (h:i < gs.length) {p:Pr} (hp:(Zht gs[i])[j]?=some p):(Zcg ss gs)[(Zbg ss ss.length).length+((Zc2 gs i).length+j)]?=some p:=by
 obtain⟨r,hr⟩:=Zk7 gs (i+1) gs.length zo;have hj:j < (Zht gs[i]).length:=(List.getElem?_eq_some_iff.1 hp).1;unfold Zcg;rw [hr,Zjm h,ZAd zo,ZCa,ZAa,ZAd zo,ZCa,Zz8 hj];exact hp
theorem prIt (l:Nat) (ss:List RS) (gs:List RG) (σ:Mem) (J:Nat→Mem→Prop) (hl:ss.length≤40) (hgl:gs.length≤8)
 (hs:∀i (h:i < ss.length),∀p∈Zdi ss[i].k,p.1 < (ss[i].ar.length:Int)∧p.2 < (ss[i].ar.length:Int))
 (hg:∀i (h:i < gs.length),∀p∈Zdj gs[i].k,0≤p.1∧p.1 < (gs[i].ar.length:Int)∧0≤p.2∧p.2 < (gs[i].ar.length:Int))
 (hY:∀(j:Nat) (p:Pr),(Zcg ss gs)[j]?=some p→∀(m σ':Mem),Agr m σ'→J j σ'→YCall prog l [prA p] m λr m'=>r=.v (.bool true)∧∃σ'',Agr m' σ''∧J (j+1) σ'')
 (h0:J 0 σ):ACall prog 76 [.v (yV l),.pimm [.sl 6 (ss.map RS.av),.sl 5 (gs.map RG.av)],.pimm [.fn 36 []],.pimm [.fn 37 []]] σ λr σ'=>J (Zcg ss gs).length σ':=by
 have hls:(ss.map RS.av).length=ss.length:=Zy3 ..;have hlg:(gs.map RG.av).length=gs.length:=Zy3 ..;have kS:∀i (h:i < ss.length),(ss.map RS.av).getD i .u=ss[i].av:=λi h=>Zac RS.av h;have kG:∀i (h:i < gs.length),(gs.map RG.av).getD i .u=gs[i].av:=λi h=>Zac RG.av h;generalize ss.map RS.av=M at *;generalize gs.map RG.av=N at *;refine Za5 func76 rfl ntmps76 results76 call76 zr zs ?_;have hAg:=Agr.start σ;generalize lents σ=m0 at *;have hYd:∀(V:Value),V=yV l→True:=λ_ _=>trivial;show Zaw _ _ _ _ _ ⟨λt=>[AV.v (yV l),.pimm [.sl 6 M,.sl 5 N],.pimm [.fn 36 []],.pimm [.fn 37 []]].getD t .u,m0⟩
 obtain⟨yv,hyv⟩:∃yv:AV,AV.v (yV l)=yv:=⟨_,rfl⟩;rw [hyv];(focus (refine wkad (w_1 hls) w_t w_t ?_;(repeat' first|exact w_t|apply w_l);all_goals intros));refine Zab (ι:=Nat) (λi e m=>i≤ss.length∧(e 0=yv∧e 1=.pimm [.sl 6 M,.sl 5 N]∧e 2=.pimm [.fn 36 []]∧e 3=.pimm [.fn 37 []])∧e 15=.sl 6 M∧e 16=iv ss.length∧e 17=iv i∧∃σ',Agr m σ'∧J (Zbg ss i).length σ') (λi=>ss.length - i) 0 zr ?_ ?_
 ·rintro i e m ⟨hi,⟨e0,e1,e2,e3⟩,e15,e16,e17,σ1,hA1,hJ1⟩
  by_cases hlt:i < ss.length
  ·have gi:=kS i hlt;have hsi:=hs i hlt;have hsu:=Zjf hlt;have hap:=fun(j:Nat) (p:Pr) (h:(Zho i ss[i])[j]?=some p)=>hY _ p (Zuy (gs:=gs) hlt h);generalize ss[i]=s at *;obtain⟨k0,nm,ar,⟨rs,rl,rd⟩⟩:=s;have cS:=drSides k0;simp only at hsi;have hLl:((Zdi k0).map prA).length=(Zdi k0).length:=Zy3 ..;have kLs:∀j (h:j < (Zdi k0).length),((Zdi k0).map prA).getD j .u=prA (Zdi k0)[j]:=λj h=>Zac prA h;have hst:Zho i ⟨k0,nm,ar,⟨rs,rl,rd⟩⟩=(Zdi k0).map λp=>(atN i ar p.1,atN i ar p.2):=rfl;rw [hst] at hsu;have hLb:=Ztt k0;generalize Zdi k0=L at *
   generalize L.map prA=LA at *;(focus (refine wkad (w_9 e0 e1 e2 e3 e15 e16 e17 gi hLl) (w_1 cS) w_t ?_;(repeat' first|exact w_t|apply w_l);all_goals intros));rename_i g5 g6;refine Zc7 (Frz.pub (d:=7) (a:=.fn 77 [.pbox 5 g5 0,.pbox 6 g6 0]) (gC) (gC)) ?_;refine Zab (ι:=Nat) (λj e m=>j≤L.length∧(e 0=yv∧e 1=.pimm [.sl 6 M,.sl 5 N]∧e 2=.pimm [.fn 36 []]∧e 3=.pimm [.fn 37 []])∧e 15=.sl 6 M∧e 16=iv ss.length∧e 17=iv i∧e 7=.fn 77 [.pimm [iv i],.pimm [iv k0,strA nm,ivs ar,.v (.bool rs),lim rl,lim rd]]∧e 26=.sl 2 LA∧e 27=iv L.length∧e 28=iv j∧∃σ',Agr m σ'∧J ((Zbg ss i).length+j) σ') (λj=>L.length - j) 0 zr ?_ ?_
   ·rintro j e m ⟨hj,⟨e0,e1,e2,e3⟩,e15,e16,e17,e7,e26,e27,e28,σ1,hA1,hJ1⟩
    by_cases hjl:j < L.length
    ·have gj:=kLs j hjl;obtain⟨hp1,hp2⟩:=hsi _ (Zzm hjl);have cA1:=drAt i _ k0 nm ar rs rl rd hp1;have cA2:=drAt i _ k0 nm ar rs rl rd hp2;have hh:=fun(m':Mem) (hA:Agr m' σ1)=>hap j (atN i ar L[j].1,atN i ar L[j].2) (by rw [hst,ZAb,Zy4 hjl];rfl) m' σ1 hA hJ1;clear hap;generalize L[j]=p at *;obtain⟨p1,p2⟩:=p;simp only at cA1 cA2 hh;have gj:LA.getD j .u=.agg [iv p1,iv p2]:=gj;(focus (refine wkax (w_13 e0 e1 e2 e3 e15 e16 e17 e7 e26 e27 e28 gj hLl) w_t w_t w_t w_t w_t w_t (w_r 0) ?_;(repeat' first|exact w_t|apply w_l);all_goals intros));refine Zwk 10 (Zbu [(4,iv (atN i ar p1)),(8,iv (atN i ar p2))]) [] [] (by simp only [ZDt,ZBx];rfl) (by simp only [ZDz,ZA0];rfl) zk zr zk zk (by simp only [Zze,Zzi,Nat.reduceAdd];rfl) ?_
     (focus (refine wkax (w_11 e0 e1 e2 e3 e15 e16 e17 e7 e26 e27 e28) (w_2 cA1 cA2) w_t w_t w_t w_t w_t (w_r 0) ?_;(repeat' first|exact w_t|apply w_l);all_goals intros));intro _;refine⟨_,Frz.refl _ _,.inr ⟨.tmp 32,l,#[.tmp 41],_,rfl,?_,?_⟩⟩
     ·rw [hyv];exact gW e0
     ·refine YCall.mono (show YCall prog l [.agg [iv (atN i ar p1),iv (atN i ar p2)]] _ _ from hh _ ?_) ?_
      ·(repeat' (first|exact hA1|(refine Agr.own ?_ zo)))
      ·rintro _ m2 ⟨rfl,σ2,hA2,hJ2⟩
       refine⟨_,Frz.refl _ _,λ_=>⟨_,Frz.refl _ _,.inl ?_⟩⟩;(focus (refine wkax (w_11 e0 e1 e2 e3 e15 e16 e17 e7 e26 e27 e28) w_t w_t w_t w_t w_t w_t (w_r 0) ?_;(repeat' first|exact w_t|apply w_l);all_goals intros));refine⟨_,Frz.refl _ _,Zmg ?_⟩;(focus (refine wkad (w_11 e0 e1 e2 e3 e15 e16 e17 e7 e26 e27 e28) w_t w_t ?_;(repeat' first|exact w_t|apply w_l);all_goals intros));exact⟨j+1,⟨zo,⟨gW e0,gW e1,gW e2,gW e3⟩,gW e15,gW e16,gW e17,gW e7,gW e26,gW e27,gS,σ2,hA2,hJ2⟩,zo⟩
    ·have hjj:j=L.length:=zo;subst hjj;have hsl:(Zbg ss (i+1)).length=(Zbg ss i).length+L.length:=by rw [hsu,Zzq,Zy3]
     rw [←hsl] at hJ1;(focus (refine wkad (w_11 e0 e1 e2 e3 e15 e16 e17 e7 e26 e27 e28) w_t w_t ?_;(repeat' first|exact w_t|apply w_l);all_goals intros));exact⟨i+1,⟨zo,⟨gW e0,gW e1,gW e2,gW e3⟩,gW e15,gW e16,gS,σ1,hA1,hJ1⟩,zo⟩
   ·exact⟨Zzb _,⟨gW e0,gW e1,gW e2,gW e3⟩,gW e15,gW e16,gW e17,gC,gC,by(simp (disch:=omega) only [go_sem,hLl]<;>repeat' first|rfl|refine⟨?_,?_⟩),gC,σ1,by(repeat' (first|exact hA1|(refine Agr.own ?_ zo))),hJ1⟩
  ·have hii:i=ss.length:=zo;subst hii;(focus (refine wkad (w_8 e0 e1 e2 e3 e15 e16 e17 hlg) w_t w_t ?_;(repeat' first|exact w_t|apply w_l);all_goals intros));refine Zab (ι:=Nat) (λi e m=>i≤gs.length∧(e 0=yv∧e 1=.pimm [.sl 6 M,.sl 5 N]∧e 3=.pimm [.fn 37 []])∧e 47=.sl 5 N∧e 48=iv gs.length∧e 49=iv i∧∃σ',Agr m σ'∧J ((Zbg ss ss.length).length+(Zc2 gs i).length) σ') (λi=>gs.length - i) 0 zr ?_ ?_
   ·rintro i e m ⟨hi,⟨e0,e1,e3⟩,e47,e48,e49,σ1,hA1,hJ1⟩
    by_cases hlt:i < gs.length
    ·have gi:=kG i hlt;have hgi:=hg i hlt;have hsu:=Zjm hlt;have hap:=fun(j:Nat) (p:Pr) (h:(Zht gs[i])[j]?=some p)=>hY _ p (Zuz (ss:=ss) hlt h);generalize gs[i]=g at *;obtain⟨k0,ar,⟨rs,rl,rd⟩⟩:=g;have cS:=drParts k0;simp only at hgi;have hLl:((Zdj k0).map prA).length=(Zdj k0).length:=Zy3 ..;have kLs:∀j (h:j < (Zdj k0).length),((Zdj k0).map prA).getD j .u=prA (Zdj k0)[j]:=λj h=>Zac prA h;have hst:Zht ⟨k0,ar,⟨rs,rl,rd⟩⟩=(Zdj k0).map λp=>(gI ar p.1.toNat,gI ar p.2.toNat):=rfl;rw [hst] at hsu;have hll:(ar.map iv).length=ar.length:=Zy3 ..
     have kA:∀j:Nat,j < ar.length→(ar.map iv).getD j .u=iv (gI ar j):=λj h=>by rw [Zac iv h,Zga h]
     have hLb:=Zt4 k0;generalize Zdj k0=L at *;generalize L.map prA=LA at *;(focus (refine wkad (w_8 e0 e1 e3 e47 e48 e49 gi hLl) (w_1 cS) w_t ?_;(repeat' first|exact w_t|apply w_l);all_goals intros));rename_i g11;refine Zc7 (Frz.pub (d:=11) (a:=.pbox 11 g11 0) (gC) (gC)) ?_;refine Zab (ι:=Nat) (λj e m=>j≤L.length∧(e 0=yv∧e 1=.pimm [.sl 6 M,.sl 5 N]∧e 3=.pimm [.fn 37 []])∧e 47=.sl 5 N∧e 48=iv gs.length∧e 49=iv i∧e 11=.pimm [iv k0,ivs ar,.v (.bool rs),lim rl,lim rd]∧e 56=.sl 2 LA∧e 57=iv L.length∧e 58=iv j∧∃σ',Agr m σ'∧J ((Zbg ss ss.length).length+((Zc2 gs i).length+j)) σ') (λj=>L.length - j) 0 zr ?_ ?_
     ·rintro j e m ⟨hj,⟨e0,e1,e3⟩,e47,e48,e49,e11,e56,e57,e58,σ1,hA1,hJ1⟩
      by_cases hjl:j < L.length
      ·have gj:=kLs j hjl;obtain⟨hp0,hp1,hp2,hp3⟩:=hgi _ (Zzm hjl);have hh:=fun(m':Mem) (hA:Agr m' σ1)=>hap j (gI ar L[j].1.toNat,gI ar L[j].2.toNat) (by rw [hst,ZAb,Zy4 hjl];rfl) m' σ1 hA hJ1;clear hap;have a1:=kA L[j].1.toNat zo;have a2:=kA L[j].2.toNat zo;generalize L[j]=p at *;obtain⟨p1,p2⟩:=p;simp only at hp0 hp1 hp2 hp3 hh a1 a2;have gj:LA.getD j .u=.agg [iv p1,iv p2]:=gj;(focus (refine wkax (w_12 e0 e1 e3 e47 e48 e49 e11 e56 e57 e58 gj hLl) w_t w_t w_t w_t w_t w_t (w_r 0) ?_;(repeat' first|exact w_t|apply w_l);all_goals intros));refine Zwk 14 (Zbu []) [] [] (by simp only [ZDt,ZBx];rfl) (by simp only [ZDz,ZA0];rfl) zk zr zk zk (by simp only [Zze,Zzi,Nat.reduceAdd];rfl) ?_
       (focus (refine wkax (w_13 e0 e1 e3 e47 e48 e49 e11 e56 e57 e58 hll a1 a2) w_t w_t w_t w_t w_t w_t (w_r 0) ?_;(repeat' first|exact w_t|apply w_l);all_goals intros));intro _;refine⟨_,Frz.refl _ _,.inr ⟨.tmp 62,l,#[.tmp 75],_,rfl,?_,?_⟩⟩
       ·rw [hyv];exact gW e0
       ·refine YCall.mono (show YCall prog l [.agg [iv (gI ar p1.toNat),iv (gI ar p2.toNat)]] _ _ from hh _ ?_) ?_
        ·(repeat' (first|exact hA1|(refine Agr.own ?_ zo)))
        ·rintro _ m2 ⟨rfl,σ2,hA2,hJ2⟩
         refine⟨_,Frz.refl _ _,λ_=>⟨_,Frz.refl _ _,.inl ?_⟩⟩;(focus (refine wkax (w_10 e0 e1 e3 e47 e48 e49 e11 e56 e57 e58) w_t w_t w_t w_t w_t w_t (w_r 0) ?_;(repeat' first|exact w_t|apply w_l);all_goals intros));refine⟨_,Frz.refl _ _,Zmg ?_⟩;(focus (refine wkad (w_10 e0 e1 e3 e47 e48 e49 e11 e56 e57 e58) w_t w_t ?_;(repeat' first|exact w_t|apply w_l);all_goals intros));exact⟨j+1,⟨zo,⟨gW e0,gW e1,gW e3⟩,gW e47,gW e48,gW e49,gW e11,gW e56,gW e57,gS,σ2,hA2,hJ2⟩,zo⟩
      ·have hjj:j=L.length:=zo;subst hjj;have hsl:(Zc2 gs (i+1)).length=(Zc2 gs i).length+L.length:=by rw [hsu,Zzq,Zy3]
       rw [←hsl] at hJ1;(focus (refine wkad (w_10 e0 e1 e3 e47 e48 e49 e11 e56 e57 e58) w_t w_t ?_;(repeat' first|exact w_t|apply w_l);all_goals intros));exact⟨i+1,⟨zo,⟨gW e0,gW e1,gW e3⟩,gW e47,gW e48,gS,σ1,hA1,hJ1⟩,zo⟩
     ·exact⟨Zzb _,⟨gW e0,gW e1,gW e3⟩,gW e47,gW e48,gW e49,gC,gC,by(simp (disch:=omega) only [go_sem,hLl]<;>repeat' first|rfl|refine⟨?_,?_⟩),gC,σ1,by(repeat' (first|exact hA1|(refine Agr.own ?_ zo))),hJ1⟩
    ·have hii:i=gs.length:=zo;subst hii;have hal:(Zbg ss ss.length).length+(Zc2 gs gs.length).length=(Zcg ss gs).length:=(Zzq ..).symm;rw [hal] at hJ1;(focus (refine wkad (w_6 e0 e1 e3 e47 e48 e49) w_t w_t ?_;(repeat' first|exact w_t|apply w_l);all_goals intros));exact Zfq (r:=.tup []) (Sub.refl _) hJ1 hA1
   ·exact⟨Zzb _,⟨gW e0,gW e1,gW e3⟩,gC,gW hlg,gC,σ1,hA1,hJ1⟩
 ·exact⟨Zzb _,⟨gC,gC,gC,gC⟩,gC,gC,gC,σ,hAg,h0⟩
theorem irRaw (s:Bool) (l:List Nat) (hl:Lm l) (hs:l.length≤100000000):Pure prog 161 [.agg [.v (.bool s),lim l]] (.v (.bool (RQ.zok s l))):=by
 unfold RQ.zok valL;by_cases h:l.length=0
 ·rw [Zy6 h,Bool.true_or,ZAz,Bool.and_true];cases s
  ·refine pI func161 rfl ntmps161 results161 call161 ?_;exact wklp (w_1 @Zau) w_t w_t (w_r 0) w_z
  ·refine pI func161 rfl ntmps161 results161 call161 ?_;exact wklp (w_1 @Zau) w_t w_t (w_r 0) w_z
 ·rw [Zy2 h,Bool.false_or,ZBt,ZCw,Bool.and_true];have ei:(l.length:Int) - 1=((l.length - 1:Nat):Int):=zo;have hlm:=Zbr hl (l.length - 1);by_cases hg:gN l (l.length - 1)=0
  ·rw [Zy6 hg];cases s
   ·refine pI func161 rfl ntmps161 results161 call161 ?_;exact wklp (w_2 ei @Zau) w_t (w_1 @ZCm) (w_r 0) w_z
   ·refine pI func161 rfl ntmps161 results161 call161 ?_;exact wklp (w_2 ei @Zau) w_t (w_1 @ZCm) (w_r 0) w_z
  ·rw [Zy2 hg];cases s
   ·refine pI func161 rfl ntmps161 results161 call161 ?_;exact wklp (w_2 ei @Zau) w_t (w_1 @ZCw) (w_r 0) w_z
   ·refine pI func161 rfl ntmps161 results161 call161 ?_;exact wklp (w_2 ei @Zau) w_t (w_1 @ZCw) (w_r 0) w_z
theorem Zvy (r:RQ) (h:r.lm 100000000):Pure prog 117 [r.av] (.v (.bool r.ok)):=by
 obtain⟨s,l,d⟩:=r;obtain⟨h1,h2,h3,h4⟩:=h;simp only at h1 h2 h3 h4;have c1:=irRaw s l h1 h3;unfold RQ.ok;simp only;generalize RQ.zok s l=z at *;by_cases hd:d.length=0
 ·have:decide (0 < d.length)=false:=Zy2 zo;rw [this,ZBt];cases z
  ·refine pI func117 rfl ntmps117 results117 call117 ?_;exact wklp (w_1 @Zau) (w_1 c1) w_t (w_r 0) w_z
  ·refine pI func117 rfl ntmps117 results117 call117 ?_;exact wklp (w_1 @Zau) (w_1 c1) w_t (w_r 0) w_z
 ·have:decide (0 < d.length)=true:=Zy6 zo;rw [this,Bool.and_true];have ei:(d.length:Int) - 1=((d.length - 1:Nat):Int):=zo;have hlm:=Zbr h2 (d.length - 1)
  cases z with
  | false =>
    rw [Zzr,Zzr];refine pI func117 rfl ntmps117 results117 call117 ?_;exact wklp (w_1 @Zau) (w_1 c1) w_t (w_r 0) w_z
  | true =>
    rw [ZAz];by_cases hg:gN d (d.length - 1)=0
    ·have:valL d=false:=by unfold valL;rw [Zy2 hd,Zy6 hg];rfl
     rw [this,Zzr];refine pI func117 rfl ntmps117 results117 call117 ?_;exact wklp (w_2 ei @Zau) (w_1 c1) w_t (w_r 0) w_z
    ·have hv:valL d=true:=by unfold valL;rw [Zy2 hd,Zy2 hg];rfl
     rw [hv,ZAz];have hdt:=(Zmt h2).1 hv;have l4:(toL (nv d)).length≤100000000:=by rw [←hdt];exact h4
     have c2:=Zl7 (nv d) zo;have c3:=natGcd l d zo zo h1 h2
     have n0:nv d≠0:=by
      intro h0;rw [h0,Zav] at hdt;rw [hdt] at hd;exact hd rfl
     have gl:(toL (Nat.gcd (nv l) (nv d))).length≤100000000:=Zzg (Zd2 (Nat.gcd_le_right _ zo)) l4;have c4:=Zl7 (Nat.gcd (nv l) (nv d)) zo;rw [←hdt] at c2;have hb:(Nat.gcd (nv l) (nv d) == 1)=decide (Nat.gcd (nv l) (nv d)=1):=by rw [Zzy,ZA6,Zzu]
     rw [hb];by_cases h1d:nv d=1
     ·rw [Zy6 h1d] at c2;rw [Zy6 (show Nat.gcd (nv l) (nv d)=1 by rw [h1d,Nat.gcd_one_right])];clear c3 c4 hdt;refine pI func117 rfl ntmps117 results117 call117 ?_;exact wklp (w_2 ei @Zau) (w_2 c1 c2) (w_1 @decide_true) (w_r 0) w_z
     ·rw [Zy2 h1d] at c2;clear hdt hb gl;generalize decide (Nat.gcd (nv l) (nv d)=1)=v at *;generalize toL (Nat.gcd (nv l) (nv d))=lg' at *;refine pI func117 rfl ntmps117 results117 call117 ?_;exact wklp (w_2 ei @Zau) (w_4 c1 c2 c3 c4) w_t (w_r 0) w_z
theorem lwAr (k:Int):Pure prog 114 [iv k] (iv (arS k)):=by
 unfold arS;refine pI func114 rfl ntmps114 results114 call114 ?_;(focus (refine wklp w_t w_t w_t (w_r 0) ?_;(repeat' first|exact w_t|apply w_l);all_goals intros));all_goals (congr 2;repeat' split)
 all_goals (first|rfl|omega)
theorem lwNone (r:RQ):Pure prog 118 [r.av] (.v (.bool r.none)):=by
 obtain⟨s,l,d⟩:=r;unfold RQ.none;simp only;cases s
 ·refine pI func118 rfl ntmps118 results118 call118 ?_;(focus (refine wklp (w_1 @Zau) w_t w_t (w_r 0) ?_;(repeat' first|exact w_t|apply w_l);all_goals intros))
 ·refine pI func118 rfl ntmps118 results118 call118 ?_;(focus (refine wklp (w_1 @Zau) w_t w_t (w_r 0) ?_;(repeat' first|exact w_t|apply w_l);all_goals intros))
theorem rlAr (k:Int):Pure prog 69 [iv k] (iv (arS k)):=by
 unfold arS;refine pI func69 rfl ntmps69 results69 call69 ?_;exact wklp w_t w_t w_t (w_r 0) w_z;all_goals (congr 2;repeat' split)
 all_goals (first|rfl|omega)
theorem rlNone (r:RQ):Pure prog 70 [r.av] (.v (.bool r.none)):=by
 obtain⟨s,l,d⟩:=r;unfold RQ.none;simp only;cases s
 ·refine pI func70 rfl ntmps70 results70 call70 ?_;exact wklp (w_1 @Zau) w_t w_t (w_r 0) w_z
 ·refine pI func70 rfl ntmps70 results70 call70 ?_;exact wklp (w_1 @Zau) w_t w_t (w_r 0) w_z
theorem prAr (k:Int):Pure prog 122 [iv k] (iv (arG k)):=by
 unfold arG;refine pI func122 rfl ntmps122 results122 call122 ?_;(focus (refine wklp w_t w_t w_t (w_r 0) ?_;(repeat' first|exact w_t|apply w_l);all_goals intros));all_goals (congr 2;repeat' split)
 all_goals (first|rfl|omega)
theorem prNone (r:RQ):Pure prog 123 [r.av] (.v (.bool r.none)):=by
 obtain⟨s,l,d⟩:=r;unfold RQ.none;simp only;cases s
 ·refine pI func123 rfl ntmps123 results123 call123 ?_;(focus (refine wklp (w_1 @Zau) w_t w_t (w_r 0) ?_;(repeat' first|exact w_t|apply w_l);all_goals intros))
 ·refine pI func123 rfl ntmps123 results123 call123 ?_;(focus (refine wklp (w_1 @Zau) w_t w_t (w_r 0) ?_;(repeat' first|exact w_t|apply w_l);all_goals intros))
theorem rrAr (k:Int):Pure prog 72 [iv k] (iv (arG k)):=by
 unfold arG;refine pI func72 rfl ntmps72 results72 call72 ?_;exact wklp w_t w_t w_t (w_r 0) w_z;all_goals (congr 2;repeat' split)
 all_goals (first|rfl|omega)
theorem rrNone (r:RQ):Pure prog 73 [r.av] (.v (.bool r.none)):=by
 obtain⟨s,l,d⟩:=r;unfold RQ.none;simp only;cases s
 ·refine pI func73 rfl ntmps73 results73 call73 ?_;exact wklp (w_1 @Zau) w_t w_t (w_r 0) w_z
 ·refine pI func73 rfl ntmps73 results73 call73 ?_;exact wklp (w_1 @Zau) w_t w_t (w_r 0) w_z
theorem Zmk {α:Type} (F:α→Bool) (l:List α):∃n,n≤l.length∧(∀j (h:j < l.length),j < n→F l[j]=false)∧(∀h:n < l.length,F l[n]=true)∧l.any F=decide (n < l.length):=by
 induction l with
 | nil=>exact⟨0,by simp,by simp,by simp,by simp⟩
 | cons a l ih =>
   obtain⟨n,h1,h2,h3,h4⟩:=ih
   cases ha:F a with
   | true=>exact⟨0,by simp,λj h h'=>zo,λ_=>ha,by simp [ha]⟩
   | false =>
     refine⟨n+1,by simpa using h1,λj h h'=>?_,λh=>h3 (by simpa using h),by simp [ha,h4]⟩
     cases j with
     | zero=>exact ha
     | succ j=>exact h2 j (by simpa using h) zo
theorem ck1 (a i:Int):Pure prog 116 [iv a,.pimm [iv i]] (.v (.bool (decide (a < 0) || decide (i≤a)))):=by
 refine pI func116 rfl ntmps116 results116 call116 ?_;(focus (refine wklp w_t w_t w_t (w_r 0) ?_;(repeat' first|exact w_t|apply w_l);all_goals intros))
theorem slIdx1 (l:List Int) (i:Int) (hl:l.length≤1000000000):∃z:Int,Pure prog 160 [ivs l,.fn 116 [.pimm [iv i]]] (iv z)∧decide (0≤z)=outB i l:=by
 obtain⟨n,h1,h2,h3,h4⟩:=Zmk (λa=>decide (a < 0) || decide (i≤a)) l;refine⟨if n < l.length then (n:Int) else -1,?_,?_⟩
 ·refine pI func160 rfl ntmps160 results160 call160 ?_;(focus (refine wkap (w_1 @Zbq) w_t (w_r 0) ?_;(repeat' first|exact w_t|apply w_l);all_goals intros));refine Zab (ι:=Nat) (λk e m=>k≤n∧e 0=ivs l∧e 1=.fn 116 [.pimm [iv i]]∧e 7=iv l.length∧e 8=iv k) (λk=>n - k) 0 zr ?_ ?_
  ·rintro k e m ⟨hk,e0,e1,e7,e8⟩
   by_cases hlt:k < l.length
   ·have hg:=Zac iv hlt;by_cases hkn:k < n
    ·have hb:=h2 k hlt hkn;have c:=ck1 l[k] i;rw [hb] at c;clear hb;generalize l[k]=a at *;(focus (refine wkap (w_6 e0 e1 e7 e8 hg @Zbq) (w_1 c) (w_r 0) ?_;(repeat' first|exact w_t|apply w_l);all_goals intros));exact⟨k+1,⟨zo,gW e0,gW e1,gW e7,gS⟩,zo⟩
    ·have hkn:k=n:=zo;subst hkn;have hb:=h3 hlt;have c:=ck1 l[k] i;rw [hb] at c;rw [Zy1 hlt];clear hb;generalize l[k]=a at *;(focus (refine wklp (w_6 e0 e1 e7 e8 hg @Zbq) (w_1 c) w_t (w_r 0) ?_;(repeat' first|exact w_t|apply w_l);all_goals intros))
   ·rw [Zy0 zo];(focus (refine wklp (w_5 e0 e1 e7 e8 @Zbq) w_t w_t (w_r 0) ?_;(repeat' first|exact w_t|apply w_l);all_goals intros))
  ·exact⟨Zzb _,gC,gC,by(simp (disch:=omega) only [go_sem,Zy3]<;>repeat' first|rfl|refine⟨?_,?_⟩),gC⟩
 ·unfold outB;rw [h4,Zzy,Zzu,Zzu];split<;>omega
theorem slCon1 (l:List Int) (i:Int) (hl:l.length≤1000000000):Pure prog 115 [ivs l,.fn 116 [.pimm [iv i]]] (.v (.bool (outB i l))):=by
 obtain⟨z,c,hz⟩:=slIdx1 l i hl;rw [←hz];refine pI func115 rfl ntmps115 results115 call115 ?_;(focus (refine wklp w_t (w_1 c) w_t (w_r 0) ?_;(repeat' first|exact w_t|apply w_l);all_goals intros))
theorem ck2 (t s:RS):Pure prog 121 [t.av,.pimm [iv s.k,strA s.nm,ivs s.ar,.v (.bool s.r.s),lim s.r.l,lim s.r.d]] (.v (.bool (t.nm.toList == s.nm.toList))):=by
 obtain⟨a,b,c,d⟩:=t;obtain⟨a',b',c',d'⟩:=s;refine pI func121 rfl ntmps121 results121 call121 ?_;(focus (refine wklp w_t w_t w_t (w_r 0) ?_;(repeat' first|exact w_t|apply w_l);all_goals intros))
theorem slIdx2 (l:List RS) (s:RS) (hl:l.length≤1000000000):∃z:Int,Pure prog 165 [.sl 6 (l.map RS.av),.fn 121 [.pimm [iv s.k,strA s.nm,ivs s.ar,.v (.bool s.r.s),lim s.r.l,lim s.r.d]]] (iv z)∧decide (0≤z)=l.any (λt=>t.nm.toList == s.nm.toList):=by
 obtain⟨n,h1,h2,h3,h4⟩:=Zmk (λt:RS=>t.nm.toList == s.nm.toList) l;refine⟨if n < l.length then (n:Int) else -1,?_,?_⟩
 ·refine pI func165 rfl ntmps165 results165 call165 ?_;(focus (refine wkap (w_1 @Zbq) w_t (w_r 0) ?_;(repeat' first|exact w_t|apply w_l);all_goals intros));refine Zab (ι:=Nat) (λk e m=>k≤n∧e 0=.sl 6 (l.map RS.av)∧e 1=.fn 121 [.pimm [iv s.k,strA s.nm,ivs s.ar,.v (.bool s.r.s),lim s.r.l,lim s.r.d]]∧e 7=iv l.length∧e 8=iv k) (λk=>n - k) 0 zr ?_ ?_
  ·rintro k e m ⟨hk,e0,e1,e7,e8⟩
   by_cases hlt:k < l.length
   ·have hg:=Zac RS.av hlt;by_cases hkn:k < n
    ·have hb:=h2 k hlt hkn;have c:=ck2 l[k] s;rw [hb] at c;clear hb;generalize l[k]=a at *;obtain⟨a1,a2,a3,a4⟩:=a;(focus (refine wkap (w_6 e0 e1 e7 e8 hg @Zbq) (w_1 c) (w_r 0) ?_;(repeat' first|exact w_t|apply w_l);all_goals intros));exact⟨k+1,⟨zo,gW e0,gW e1,gW e7,gS⟩,zo⟩
    ·have hkn:k=n:=zo;subst hkn;have hb:=h3 hlt;have c:=ck2 l[k] s;rw [hb] at c;rw [Zy1 hlt];clear hb;generalize l[k]=a at *;obtain⟨a1,a2,a3,a4⟩:=a;(focus (refine wklp (w_6 e0 e1 e7 e8 hg @Zbq) (w_1 c) w_t (w_r 0) ?_;(repeat' first|exact w_t|apply w_l);all_goals intros))
   ·rw [Zy0 zo];(focus (refine wklp (w_5 e0 e1 e7 e8 @Zbq) w_t w_t (w_r 0) ?_;(repeat' first|exact w_t|apply w_l);all_goals intros))
  ·exact⟨Zzb _,gC,gC,by(simp (disch:=omega) only [go_sem,Zy3]<;>repeat' first|rfl|refine⟨?_,?_⟩),gC⟩
 ·rw [h4,Zzy,Zzu,Zzu];split<;>omega
theorem slCon2 (l:List RS) (s:RS) (hl:l.length≤1000000000):Pure prog 120 [.sl 6 (l.map RS.av),.fn 121 [.pimm [iv s.k,strA s.nm,ivs s.ar,.v (.bool s.r.s),lim s.r.l,lim s.r.d]]] (.v (.bool (l.any (λt=>t.nm.toList == s.nm.toList)))):=by
 obtain⟨z,c,hz⟩:=slIdx2 l s hl;rw [←hz];refine pI func120 rfl ntmps120 results120 call120 ?_;(focus (refine wklp w_t (w_1 c) w_t (w_r 0) ?_;(repeat' first|exact w_t|apply w_l);all_goals intros))
def RS.sm (s:RS):Prop:=s.r.lm 100000000∧s.nm.size≤9223372036854775807∧s.ar.length≤1000000000
def RG.sm (g:RG):Prop:=g.r.lm 100000000∧g.ar.length≤1000000000
theorem lwCheck (ss:List RS) (i:Nat) (hi:i < ss.length) (hl:ss.length≤1000000000) (hs:∀s∈ss,s.sm):Pure prog 74 [.sl 6 (ss.map RS.av),iv i] (iv (errS ss i)):=by
 have hg:=Zac RS.av hi;have hsm:=hs _ (Zzm hi);have e0:errS ss i=errS ss i:=rfl;unfold errS at e0 ⊢;rw [show ss.getD i RS.zero=ss[i] from by rw [Zzc,Zy4 hi];rfl];clear e0;have htk:(ss.map RS.av).take i=(ss.take i).map RS.av:=(List.map_take ..).symm;have c2:=slCon2 (ss.take i) ss[i] (by rw [Zzh];omega);rw [←htk] at c2;have hlm:(ss.map RS.av).length=ss.length:=Zy3 ..;generalize ss.map RS.av=M at *;generalize ss[i]=s at *;clear htk;clear hs;obtain⟨h1,h2,h3⟩:=hsm;have ca:=lwAr s.k;have cr:=Zvy s.r h1;have cn:=lwNone s.r
 have cm:=nmName s.nm h2;have c1:=slCon1 s.ar i h3;have hst:=Zi0 s.nm;have hla:(s.ar.map iv).length=s.ar.length:=Zy3 ..;obtain⟨k,nm,ar,r,rl,rd⟩:=s;simp only at *;generalize (ss.take i).any (λt=>t.nm.toList == nm.toList)=any at *;generalize arS k=a at *;generalize outB (i:Int) ar=o at *;generalize RQ.ok ⟨r,rl,rd⟩=ok at *;generalize RQ.none ⟨r,rl,rd⟩=no at *;generalize namB nm=nb at *;by_cases w1:a < 0
 ·rw [Zy1 w1];refine pI func74 rfl ntmps74 results74 call74 ?_;(focus (refine wklp (w_3 hg hlm hla) (w_1 ca) w_t (w_r 0) ?_;(repeat' first|exact w_t|apply w_l);all_goals intros))
 ·rw [Zy0 w1];by_cases w2:(ar.length:Int)≠a
  ·rw [Zy1 w2];refine pI func74 rfl ntmps74 results74 call74 ?_;(focus (refine wklp (w_3 hg hlm hla) (w_1 ca) w_t (w_r 0) ?_;(repeat' first|exact w_t|apply w_l);all_goals intros))
  ·rw [Zy0 w2]
   cases o with
   | true =>
     rw [Zy1 rfl];refine pI func74 rfl ntmps74 results74 call74 ?_;(focus (refine wkax (w_3 hg hlm hla) (w_1 ca) w_t (w_1 c1) w_t w_t w_y (w_r 0) ?_;(repeat' first|exact w_t|apply w_l);all_goals intros))
     (all_goals (try simp (disch:=omega) only [go_sem,Zy6,Zy2,Zy1,Zy0,Int.reduceAdd,Int.reduceSub,Int.reduceToNat,Zzd]));(all_goals first|done|rfl|(congr 2;first|done|omega|(rw [Zzy];simp only [bool_to_prop,Zzf,Zz4,Zz5,Zz6,Zz7];omega))|skip)
   | false =>
     rw [Zy0 zd];by_cases w3:(k=2∧ok=false)∨(k≠2∧no=false)
     ·rw [Zy1 w3];rcases w3 with⟨hk,rfl⟩ | ⟨hk,rfl⟩
      ·subst hk;refine pI func74 rfl ntmps74 results74 call74 ?_;(focus (refine wkax (w_3 hg hlm hla) (w_2 ca cr) w_t (w_1 c1) w_t w_t w_y (w_r 0) ?_;(repeat' first|exact w_t|apply w_l);all_goals intros))
       (all_goals (try simp (disch:=omega) only [go_sem,Zy6,Zy2,Zy1,Zy0,Int.reduceAdd,Int.reduceSub,Int.reduceToNat,Zzd]));(all_goals first|done|rfl|(congr 2;first|done|omega|(rw [Zzy];simp only [bool_to_prop,Zzf,Zz4,Zz5,Zz6,Zz7];omega))|skip)
      ·refine pI func74 rfl ntmps74 results74 call74 ?_;(focus (refine wkax (w_3 hg hlm hla) (w_2 ca cn) w_t (w_1 c1) w_t w_t w_y (w_r 0) ?_;(repeat' first|exact w_t|apply w_l);all_goals intros))
       (all_goals (try simp (disch:=omega) only [go_sem,Zy6,Zy2,Zy1,Zy0,Int.reduceAdd,Int.reduceSub,Int.reduceToNat,Zzd]));(all_goals first|done|rfl|(congr 2;first|done|omega|(rw [Zzy];simp only [bool_to_prop,Zzf,Zz4,Zz5,Zz6,Zz7];omega))|skip)
     ·rw [Zy0 w3]
      have w4:(k=2∧ok=true)∨(k≠2∧no=true):=by
       by_cases hk:k=2
       ·cases ok
        ·exact absurd (.inl ⟨hk,rfl⟩) w3
        ·exact .inl ⟨hk,rfl⟩
       ·cases no
        ·exact absurd (.inr ⟨hk,rfl⟩) w3
        ·exact .inr ⟨hk,rfl⟩
      clear w3;by_cases w5:nm.size=0
      ·rw [Zy1 w5];rw [Zy6 w5] at hst;rcases w4 with⟨hk,rfl⟩ | ⟨hk,rfl⟩
       ·subst hk;refine pI func74 rfl ntmps74 results74 call74 ?_;(focus (refine wkax (w_4 hg hlm hla hst) (w_2 ca cr) w_t (w_1 c1) w_t w_t w_y (w_r 0) ?_;(repeat' first|exact w_t|apply w_l);all_goals intros))
        (all_goals (try simp (disch:=omega) only [go_sem,Zy6,Zy2,Zy1,Zy0,Int.reduceAdd,Int.reduceSub,Int.reduceToNat,Zzd]));(all_goals first|done|rfl|(congr 2;first|done|omega|(rw [Zzy];simp only [bool_to_prop,Zzf,Zz4,Zz5,Zz6,Zz7];omega))|skip)
       ·refine pI func74 rfl ntmps74 results74 call74 ?_;(focus (refine wkax (w_4 hg hlm hla hst) (w_2 ca cn) w_t (w_1 c1) w_t w_t w_y (w_r 0) ?_;(repeat' first|exact w_t|apply w_l);all_goals intros))
        (all_goals (try simp (disch:=omega) only [go_sem,Zy6,Zy2,Zy1,Zy0,Int.reduceAdd,Int.reduceSub,Int.reduceToNat,Zzd]));(all_goals first|done|rfl|(congr 2;first|done|omega|(rw [Zzy];simp only [bool_to_prop,Zzf,Zz4,Zz5,Zz6,Zz7];omega))|skip)
      ·rw [Zy0 w5];rw [Zy2 w5] at hst
       cases nb with
       | false =>
         rw [Zy1 rfl];rcases w4 with⟨hk,rfl⟩ | ⟨hk,rfl⟩
         ·subst hk;refine pI func74 rfl ntmps74 results74 call74 ?_;(focus (refine wkax (w_4 hg hlm hla hst) (w_3 ca cr cm) w_t (w_1 c1) w_t w_t w_y (w_r 0) ?_;(repeat' first|exact w_t|apply w_l);all_goals intros))
          (all_goals (try simp (disch:=omega) only [go_sem,Zy6,Zy2,Zy1,Zy0,Int.reduceAdd,Int.reduceSub,Int.reduceToNat,Zzd]));(all_goals first|done|rfl|(congr 2;first|done|omega|(rw [Zzy];simp only [bool_to_prop,Zzf,Zz4,Zz5,Zz6,Zz7];omega))|skip)
         ·refine pI func74 rfl ntmps74 results74 call74 ?_;(focus (refine wkax (w_4 hg hlm hla hst) (w_3 ca cn cm) w_t (w_1 c1) w_t w_t w_y (w_r 0) ?_;(repeat' first|exact w_t|apply w_l);all_goals intros))
          (all_goals (try simp (disch:=omega) only [go_sem,Zy6,Zy2,Zy1,Zy0,Int.reduceAdd,Int.reduceSub,Int.reduceToNat,Zzd]));(all_goals first|done|rfl|(congr 2;first|done|omega|(rw [Zzy];simp only [bool_to_prop,Zzf,Zz4,Zz5,Zz6,Zz7];omega))|skip)
       | true =>
         rw [Zy0 zd];rcases w4 with⟨hk,rfl⟩ | ⟨hk,rfl⟩
         ·subst hk;cases any
          ·refine pI func74 rfl ntmps74 results74 call74 ?_;(focus (refine wkax (w_5 hg hlm hla hst @Zgw) (w_3 ca cr cm) w_t (w_2 c1 c2) w_t w_t w_y (w_r 0) ?_;(repeat' first|exact w_t|apply w_l);all_goals intros))
           (all_goals (try simp (disch:=omega) only [go_sem,Zy6,Zy2,Zy1,Zy0,Int.reduceAdd,Int.reduceSub,Int.reduceToNat,Zzd]));(all_goals first|done|rfl|(congr 2;first|done|omega|(rw [Zzy];simp only [bool_to_prop,Zzf,Zz4,Zz5,Zz6,Zz7];omega))|skip)
          ·refine pI func74 rfl ntmps74 results74 call74 ?_;(focus (refine wkax (w_5 hg hlm hla hst @Zgw) (w_3 ca cr cm) w_t (w_2 c1 c2) w_t w_t w_y (w_r 0) ?_;(repeat' first|exact w_t|apply w_l);all_goals intros))
           (all_goals (try simp (disch:=omega) only [go_sem,Zy6,Zy2,Zy1,Zy0,Int.reduceAdd,Int.reduceSub,Int.reduceToNat,Zzd]));(all_goals first|done|rfl|(congr 2;first|done|omega|(rw [Zzy];simp only [bool_to_prop,Zzf,Zz4,Zz5,Zz6,Zz7];omega))|skip)
         ·cases any
          ·refine pI func74 rfl ntmps74 results74 call74 ?_;(focus (refine wkax (w_5 hg hlm hla hst @Zgw) (w_3 ca cn cm) w_t (w_2 c1 c2) w_t w_t w_y (w_r 0) ?_;(repeat' first|exact w_t|apply w_l);all_goals intros))
           (all_goals (try simp (disch:=omega) only [go_sem,Zy6,Zy2,Zy1,Zy0,Int.reduceAdd,Int.reduceSub,Int.reduceToNat,Zzd]));(all_goals first|done|rfl|(congr 2;first|done|omega|(rw [Zzy];simp only [bool_to_prop,Zzf,Zz4,Zz5,Zz6,Zz7];omega))|skip)
          ·refine pI func74 rfl ntmps74 results74 call74 ?_;(focus (refine wkax (w_5 hg hlm hla hst @Zgw) (w_3 ca cn cm) w_t (w_2 c1 c2) w_t w_t w_y (w_r 0) ?_;(repeat' first|exact w_t|apply w_l);all_goals intros))
           (all_goals (try simp (disch:=omega) only [go_sem,Zy6,Zy2,Zy1,Zy0,Int.reduceAdd,Int.reduceSub,Int.reduceToNat,Zzd]));(all_goals first|done|rfl|(congr 2;first|done|omega|(rw [Zzy];simp only [bool_to_prop,Zzf,Zz4,Zz5,Zz6,Zz7];omega))|skip)
theorem Zkt {n:Int} {l:List Int} {k:Nat} (hk:k < l.length):outB n (l.take (k+1))=(outB n (l.take k) || (decide (l[k] < 0) || decide (n≤l[k]))):=by
 unfold outB;rw [ZCe hk,List.any_append,List.any_cons,List.any_nil,Bool.or_false]
theorem Zqt {n:Int} {l:List Int} {k:Nat} (hk:k < l.length) (h:(decide (l[k] < 0) || decide (n≤l[k]))=true):outB n l=true:=List.any_eq_true.2 ⟨l[k],Zzm hk,h⟩
theorem prRight (g:RG) (n:Nat) (hn:n≤1000000000) (hs:g.sm):Pure prog 75 [g.av,iv n] (iv (errG g n)):=by
 obtain⟨h1,h3⟩:=hs;unfold errG;have ca:=prAr g.k;have cr:Pure prog 117 [g.r.av] (.v (.bool g.r.ok)):=Zvy g.r h1;have cn:=prNone g.r;have hla:(g.ar.map iv).length=g.ar.length:=Zy3 ..;obtain⟨k,ar,r,rl,rd⟩:=g;simp only at *;generalize arG k=a at *;generalize RQ.ok ⟨r,rl,rd⟩=ok at *;generalize RQ.none ⟨r,rl,rd⟩=no at *;by_cases w1:a=0
 ·rw [Zy1 w1];subst w1;refine pI func75 rfl ntmps75 results75 call75 ?_;(focus (refine wklp (w_1 hla) (w_1 ca) w_t (w_r 0) ?_;(repeat' first|exact w_t|apply w_l);all_goals intros))
 ·rw [Zy0 w1];by_cases w2:(ar.length:Int)≠a
  ·rw [Zy1 w2];refine pI func75 rfl ntmps75 results75 call75 ?_;(focus (refine wklp (w_1 hla) (w_1 ca) w_t (w_r 0) ?_;(repeat' first|exact w_t|apply w_l);all_goals intros))
  ·rw [Zy0 w2];refine pI func75 rfl ntmps75 results75 call75 ?_;(focus (refine wkap (w_1 hla) (w_1 ca) (w_r 0) ?_;(repeat' first|exact w_t|apply w_l);all_goals intros));rename_i g2;refine Zab (ι:=Nat) (λi e m=>i≤ar.length∧e 1=iv n∧e 2=.pbox 2 g2 0∧m 2=some (.box g2 80 [iv k,ivs ar,.v (.bool r),lim rl,lim rd] false)∧e 19=ivs ar∧e 20=iv ar.length∧e 21=iv i∧outB n (ar.take i)=false) (λi=>ar.length - i) 0 zr ?_ ?_
   ·rintro i e m ⟨hi,e1,e2,m2,ea,en,ei,hno⟩
    by_cases hlt:i < ar.length
    ·have hg:=Zac iv hlt;have hst:=Zkt (n:=n) hlt;have hat:=Zqt (n:=n) hlt;rw [hno,Bool.false_or] at hst;generalize ar[i]=x at *;by_cases hx:x < 0∨(n:Int)≤x
     ·have hb:(decide (x < 0) || decide ((n:Int)≤x))=true:=by simpa using hx
      rw [Zy1 (hat hb)];clear hat hst hb;rcases hx with hx | hx
      ·(focus (refine wklp (w_8 e1 e2 m2 ea en ei hg hla) w_t w_t (w_r 0) ?_;(repeat' first|exact w_t|apply w_l);all_goals intros))
      ·(focus (refine wklp (w_8 e1 e2 m2 ea en ei hg hla) w_t w_t (w_r 0) ?_;(repeat' first|exact w_t|apply w_l);all_goals intros))
     ·have hb:(decide (x < 0) || decide ((n:Int)≤x))=false:=by simpa using hx
      rw [hb] at hst;clear hat hb;(focus (refine wkap (w_8 e1 e2 m2 ea en ei hg hla) w_t (w_r 0) ?_;(repeat' first|exact w_t|apply w_l);all_goals intros));exact⟨i+1,⟨zo,gW e1,gW e2,gW m2,gW ea,gW en,gS,hst⟩,zo⟩
    ·have hi2:i=ar.length:=zo;subst hi2;rw [ZAw] at hno;rw [hno,Zy0 zd];by_cases hk:k=9
     ·subst hk;cases ok
      ·rw [Zy1 zs];(focus (refine wklp (w_7 e1 e2 m2 ea en ei hla) (w_2 cr cn) w_t (w_r 0) ?_;(repeat' first|exact w_t|apply w_l);all_goals intros))
      ·rw [Zy0 zs];(focus (refine wklp (w_7 e1 e2 m2 ea en ei hla) (w_2 cr cn) w_t (w_r 0) ?_;(repeat' first|exact w_t|apply w_l);all_goals intros))
     ·cases no
      ·rw [Zy1 (by simp [hk])];(focus (refine wklp (w_7 e1 e2 m2 ea en ei hla) (w_2 cr cn) w_t (w_r 0) ?_;(repeat' first|exact w_t|apply w_l);all_goals intros))
      ·rw [Zy0 (by simp [hk])];(focus (refine wklp (w_7 e1 e2 m2 ea en ei hla) (w_2 cr cn) w_t (w_r 0) ?_;(repeat' first|exact w_t|apply w_l);all_goals intros))
   ·exact⟨Zzb _,gC,gC,gC,gC,gW hla,gC,by simp [outB]⟩
theorem Zvz (g:RG) (n:Nat) (hn:n≤1000000000) (hs:g.sm):Pure prog 33 [g.av,iv n] (iv (errG g n)):=by
 obtain⟨h1,h3⟩:=hs;unfold errG;have ca:=rrAr g.k;have cr:Pure prog 16 [g.r.av] (.v (.bool g.r.ok)):=Zop g.r.s g.r.l g.r.d h1.1 h1.2.1 (Zzg h1.2.2.1 zd) (Zzg h1.2.2.2 zd);have cn:=rrNone g.r;have hla:(g.ar.map iv).length=g.ar.length:=Zy3 ..;obtain⟨k,ar,r,rl,rd⟩:=g;simp only at *;generalize arG k=a at *;generalize RQ.ok ⟨r,rl,rd⟩=ok at *;generalize RQ.none ⟨r,rl,rd⟩=no at *;by_cases w1:a=0
 ·rw [Zy1 w1];subst w1;refine pI func33 rfl ntmps33 results33 call33 ?_;exact wkld (w_1 hla) (w_1 ca) w_t w_t w_z
 ·rw [Zy0 w1];by_cases w2:(ar.length:Int)≠a
  ·rw [Zy1 w2];refine pI func33 rfl ntmps33 results33 call33 ?_;exact wkld (w_1 hla) (w_1 ca) w_t (w_1 (w_d 3 [(5,iv a)] [] [])) w_z
  ·rw [Zy0 w2];refine pI func33 rfl ntmps33 results33 call33 ?_
   (refine wkad (w_1 hla) (w_1 ca) (w_1 (w_d 3 [(5,iv a)] [] [])) (w_s ?_);intros)
   rename_i g2;refine Zab (ι:=Nat) (λi e m=>i≤ar.length∧e 1=iv n∧e 2=.pbox 2 g2 0∧m 2=some (.box g2 80 [iv k,ivs ar,.v (.bool r),lim rl,lim rd] false)∧e 19=ivs ar∧e 20=iv ar.length∧e 21=iv i∧outB n (ar.take i)=false) (λi=>ar.length - i) 0 zr ?_ ?_
   ·rintro i e m ⟨hi,e1,e2,m2,ea,en,ei,hno⟩
    by_cases hlt:i < ar.length
    ·have hg:=Zac iv hlt;have hst:=Zkt (n:=n) hlt;have hat:=Zqt (n:=n) hlt;rw [hno,Bool.false_or] at hst;generalize ar[i]=x at *;by_cases hx:x < 0∨(n:Int)≤x
     ·have hb:(decide (x < 0) || decide ((n:Int)≤x))=true:=by simpa using hx
      rw [Zy1 (hat hb)];clear hat hst hb;rcases hx with hx | hx
      ·exact wkld (w_8 e1 e2 m2 ea en ei hg hla) w_t w_t w_t w_z
      ·exact wkld (w_8 e1 e2 m2 ea en ei hg hla) w_t w_t w_t w_z
     ·have hb:(decide (x < 0) || decide ((n:Int)≤x))=false:=by simpa using hx
      rw [hb] at hst;clear hat hb
      (refine wkad (w_8 e1 e2 m2 ea en ei hg hla) w_t w_t (w_s ?_);intros)
      exact⟨i+1,⟨zo,gW e1,gW e2,gW m2,gW ea,gW en,gS,hst⟩,zo⟩
    ·have hi2:i=ar.length:=zo;subst hi2;rw [ZAw] at hno;rw [hno,Zy0 zd];by_cases hk:k=9
     ·subst hk;cases ok
      ·rw [Zy1 zs];exact wkld (w_7 e1 e2 m2 ea en ei hla) (w_2 cr cn) w_t w_t w_z
      ·rw [Zy0 zs];exact wkld (w_7 e1 e2 m2 ea en ei hla) (w_2 cr cn) w_t w_t w_z
     ·cases no
      ·rw [Zy1 (by simp [hk])];exact wkld (w_7 e1 e2 m2 ea en ei hla) (w_2 cr cn) w_t w_t w_z
      ·rw [Zy0 (by simp [hk])];exact wkld (w_7 e1 e2 m2 ea en ei hla) (w_2 cr cn) w_t w_t w_z
   ·exact⟨Zzb _,gC,gC,gC,gC,gW hla,gC,by simp [outB]⟩
theorem Zq9 (ss:List RS) (gs:List RG) (h1:ss.length≤1000000000) (h2:gs.length≤1000000000) (hs:∀s∈ss,s.sm) (hg:∀g∈gs,g.sm):Pure prog 34 [figA ss gs] (iv (figE ss gs)):=by
 have hls:(ss.map RS.av).length=ss.length:=Zy3 ..;have hlg:(gs.map RG.av).length=gs.length:=Zy3 ..;have eg:∀i (h:i < gs.length),(gs.map RG.av).getD i .u=gs[i].av:=λi h=>Zac RG.av h;have eg2:∀i (h:i < gs.length),gs.getD i ⟨0,[],⟨false,[],[]⟩⟩=gs[i]:=λi h=>by rw [Zzc,Zy4 h];rfl
 have cc:∀i,i < ss.length→Pure prog 74 [.sl 6 (ss.map RS.av),iv i] (iv (errS ss i)):=λi hi=>lwCheck ss i hi h1 hs;have cg:∀i (h:i < gs.length),Pure prog 75 [gs[i].av,iv ss.length] (iv (errG gs[i] ss.length)):=λi h=>prRight gs[i] ss.length h1 (hg _ (Zzm h));unfold figE;show Pure _ _ [.agg [.sl 6 (ss.map RS.av),.sl 5 (gs.map RG.av)]] _;generalize ss.map RS.av=M at *;generalize gs.map RG.av=N at *;by_cases hb:40 < ss.length∨8 < gs.length
 ·rw [Zy1 hb];refine pI func34 rfl ntmps34 results34 call34 ?_;(focus (refine wklp (w_2 hls hlg) w_t w_t (w_r 0) ?_;(repeat' first|exact w_t|apply w_l);all_goals intros))
 ·rw [Zy0 hb];refine pI func34 rfl ntmps34 results34 call34 ?_;(focus (refine wkap (w_2 hls hlg) w_t (w_r 0) ?_;(repeat' first|exact w_t|apply w_l);all_goals intros));rename_i g1;refine Zab (ι:=Nat) (λi e m=>i≤ss.length∧e 1=.pbox 1 g1 0∧m 1=some (.box g1 49 [.sl 6 M,.sl 5 N] false)∧e 20=iv ss.length∧e 21=iv i∧∀j,j < i→errS ss j=0) (λi=>ss.length - i) 0 zr ?_ ?_
  ·rintro i e m ⟨hi,e1,m1,e20,e21,hz⟩
   by_cases hlt:i < ss.length
   ·have c:=cc i hlt;by_cases he:errS ss i=0
    ·rw [he] at c;(focus (refine wkap (w_6 e1 m1 e20 e21 hls hlg) (w_1 c) (w_r 0) ?_;(repeat' first|exact w_t|apply w_l);all_goals intros));exact⟨i+1,⟨zo,gW e1,gW m1,gW e20,gS,λj hj=>by by_cases e:j=i;rw [e];exact he;exact hz j zo⟩,zo⟩
    ·rw [Zlb hz he hlt,Zy1 he];generalize errS ss i=z at *;(focus (refine wklp (w_6 e1 m1 e20 e21 hls hlg) (w_1 c) w_t (w_r 0) ?_;(repeat' first|exact w_t|apply w_l);all_goals intros))
   ·have hi2:i=ss.length:=zo;subst hi2;rw [Ze8 hz,Zy0 zs];(focus (refine wkap (w_6 e1 m1 e20 e21 hls hlg) w_t (w_r 0) ?_;(repeat' first|exact w_t|apply w_l);all_goals intros));refine Zab (ι:=Nat) (λi e m=>i≤gs.length∧e 1=.pbox 1 g1 0∧m 1=some (.box g1 49 [.sl 6 M,.sl 5 N] false)∧e 33=.sl 5 N∧e 34=iv gs.length∧e 35=iv i∧∀j,j < i→errG (gs.getD j ⟨0,[],⟨false,[],[]⟩⟩) ss.length=0) (λi=>gs.length - i) 0 zr ?_ ?_
    ·rintro i e m ⟨hi,e1,m1,e33,e34,e35,hz⟩
     by_cases hlt:i < gs.length
     ·have c:=cg i hlt;have hgi:=eg i hlt;have hgj:=eg2 i hlt;have hfa:=@Zlb (λi=>errG (gs.getD i ⟨0,[],⟨false,[],[]⟩⟩) ss.length) i hz;simp only [hgj] at hfa;generalize gs[i]=G at *;by_cases he:errG G ss.length=0
      ·rw [he] at c;clear hfa;obtain⟨k,ar,r,rl,rd⟩:=G;(focus (refine wkap (w_8 e1 m1 e33 e34 e35 hls hlg hgi) (w_1 c) (w_r 0) ?_;(repeat' first|exact w_t|apply w_l);all_goals intros));exact⟨i+1,⟨zo,gW e1,gW m1,gW e33,gW e34,gS,λj hj=>by by_cases e:j=i;rw [e,hgj];exact he;exact hz j zo⟩,zo⟩
      ·rw [hfa he hlt];clear hfa;generalize errG G ss.length=z at *;obtain⟨k,ar,r,rl,rd⟩:=G;(focus (refine wklp (w_8 e1 m1 e33 e34 e35 hls hlg hgi) (w_1 c) w_t (w_r 0) ?_;(repeat' first|exact w_t|apply w_l);all_goals intros))
     ·have hi2:i=gs.length:=zo;subst hi2;rw [Ze8 hz];(focus (refine wklp (w_7 e1 m1 e33 e34 e35 hls hlg) w_t w_t (w_r 0) ?_;(repeat' first|exact w_t|apply w_l);all_goals intros))
    ·exact⟨Zzb _,gW e1,gW m1,gC,gW hlg,gC,λj hj=>zo⟩
  ·exact⟨Zzb _,gC,gC,gW hls,gC,λj hj=>zo⟩
theorem rlCheck (ss:List RS) (i:Nat) (hi:i < ss.length) (hl:ss.length≤1000000000) (hs:∀s∈ss,s.sm):Pure prog 32 [.sl 6 (ss.map RS.av),iv i] (iv (errS ss i)):=by
 have hg:=Zac RS.av hi;have hsm:=hs _ (Zzm hi);unfold errS;rw [show ss.getD i RS.zero=ss[i] from by rw [Zzc,Zy4 hi];rfl];have hgt:∀k,k < i→∃t:RS,((ss.map RS.av).take i).getD k .u=t.av∧(ss.take i)[k]?=some t:=λk hk=>by
  refine⟨ss[k],?_,?_⟩
  ·rw [Zzc,ZAx,Zy1 hk,ZAb,Zy4 zo];rfl
  ·rw [ZAx,Zy1 hk,Zy4 zo]
 have hlm:(ss.map RS.av).length=ss.length:=Zy3 ..;have hlt:(ss.take i).length=i:=by rw [Zzh];omega
 generalize ss.map RS.av=M at *;generalize ss[i]=s at *;generalize ss.take i=T at *;clear hs;obtain⟨h1,h2,h3⟩:=hsm;have ca:=rlAr s.k;have cr:Pure prog 16 [s.r.av] (.v (.bool s.r.ok)):=Zop s.r.s s.r.l s.r.d h1.1 h1.2.1 (Zzg h1.2.2.1 zd) (Zzg h1.2.2.2 zd);have cn:=rlNone s.r;have cm:=Zr2 s.nm h2;have hst:=Zi0 s.nm;have hla:(s.ar.map iv).length=s.ar.length:=Zy3 ..;obtain⟨k,nm,ar,r,rl,rd⟩:=s;simp only at *;generalize arS k=a at *;generalize RQ.ok ⟨r,rl,rd⟩=ok at *;generalize RQ.none ⟨r,rl,rd⟩=no at *;generalize namB nm=nb at *;by_cases w1:a < 0
 ·rw [Zy1 w1];refine pI func32 rfl ntmps32 results32 call32 ?_;exact wkld (w_3 hg hlm hla) (w_1 ca) w_t w_t w_z
 ·rw [Zy0 w1];by_cases w2:(ar.length:Int)≠a
  ·rw [Zy1 w2];refine pI func32 rfl ntmps32 results32 call32 ?_;exact wkld (w_3 hg hlm hla) (w_1 ca) w_t (w_1 (w_d 4 [(5,iv a)] [] [])) w_z
  ·rw [Zy0 w2];refine pI func32 rfl ntmps32 results32 call32 ?_
   (refine wkad (w_3 hg hlm hla) (w_1 ca) (w_1 (w_d 4 [(5,iv a)] [] [])) (w_s ?_);intros)
   rename_i g5;refine Zab (ι:=Nat) (λx e m=>x≤ar.length∧e 0=.sl 6 M∧e 1=iv i∧e 5=.pbox 5 g5 0∧m 5=some (.box g5 78 [iv k,strA nm,ivs ar,.v (.bool r),lim rl,lim rd] false)∧e 26=ivs ar∧e 27=iv ar.length∧e 28=iv x∧outB i (ar.take x)=false) (λx=>ar.length - x) 0 zr ?_ ?_
   ·rintro x e m ⟨hx,e0,e1,e5,m5,e26,e27,e28,hno⟩
    by_cases hlt2:x < ar.length
    ·have hga:=Zac iv hlt2;have hso:=Zkt (n:=(i:Int)) hlt2;have hat:=Zqt (n:=(i:Int)) hlt2;rw [hno,Bool.false_or] at hso;generalize ar[x]=y at *;by_cases hy:y < 0∨(i:Int)≤y
     ·have hb:(decide (y < 0) || decide ((i:Int)≤y))=true:=by simpa using hy
      rw [Zy1 (hat hb)];clear hat hso hb;rcases hy with hy | hy
      ·exact wkld (w_9 e0 e1 e5 m5 e26 e27 e28 hga hla) w_t w_t w_t w_z
      ·exact wkld (w_9 e0 e1 e5 m5 e26 e27 e28 hga hla) w_t w_t w_t w_z
     ·have hb:(decide (y < 0) || decide ((i:Int)≤y))=false:=by simpa using hy
      rw [hb] at hso;clear hat hb
      (refine wkad (w_9 e0 e1 e5 m5 e26 e27 e28 hga hla) w_t w_t (w_s ?_);intros)
      exact⟨x+1,⟨zo,gW e0,gW e1,gW e5,gW m5,gW e26,gW e27,gS,hso⟩,zo⟩
    ·have hi2:x=ar.length:=zo;subst hi2;rw [ZAw] at hno;rw [hno,Zy0 zd];by_cases w3:(k=2∧ok=false)∨(k≠2∧no=false)
     ·rw [Zy1 w3];rcases w3 with⟨hk,rfl⟩ | ⟨hk,rfl⟩
      ·subst hk;exact wkld (w_8 e0 e1 e5 m5 e26 e27 e28 hla) (w_1 cr) w_t w_t w_z
      ·exact wkld (w_8 e0 e1 e5 m5 e26 e27 e28 hla) (w_1 cn) w_t w_t w_z
     ·rw [Zy0 w3]
      have w4:(k=2∧ok=true)∨(k≠2∧no=true):=by
       by_cases hk:k=2
       ·cases ok
        ·exact absurd (.inl ⟨hk,rfl⟩) w3
        ·exact .inl ⟨hk,rfl⟩
       ·cases no
        ·exact absurd (.inr ⟨hk,rfl⟩) w3
        ·exact .inr ⟨hk,rfl⟩
      clear w3;have rest:∀(e:Nat→AV) (m:Mem),e 0=.sl 6 M→e 1=iv i→e 5=.pbox 5 g5 0→m 5=some (.box g5 78 [iv k,strA nm,ivs ar,.v (.bool r),lim rl,lim rd] false)→True:=λ_ _ _ _ _ _=>trivial;clear rest;by_cases w5:nm.size=0
      ·rw [Zy1 w5];rw [Zy6 w5] at hst;rcases w4 with⟨hk,rfl⟩ | ⟨hk,rfl⟩
       ·subst hk;exact wkld (w_9 e0 e1 e5 m5 e26 e27 e28 hla hst) (w_1 cr) w_t w_t w_z
       ·exact wkld (w_9 e0 e1 e5 m5 e26 e27 e28 hla hst) (w_1 cn) w_t w_t w_z
      ·rw [Zy0 w5];rw [Zy2 w5] at hst
       cases nb with
       | false =>
         rw [Zy1 rfl];rcases w4 with⟨hk,rfl⟩ | ⟨hk,rfl⟩
         ·subst hk;exact wkld (w_9 e0 e1 e5 m5 e26 e27 e28 hla hst) (w_2 cr cm) w_t w_t w_z
         ·exact wkld (w_9 e0 e1 e5 m5 e26 e27 e28 hla hst) (w_2 cn cm) w_t w_t w_z
       | true =>
         rw [Zy0 zd];rcases w4 with⟨hk,rfl⟩ | ⟨hk,rfl⟩
         all_goals first|(subst hk;(refine wkad (w_12 e0 e1 e5 m5 e26 e27 e28 hla hlm hst @Zgw @l_take) (w_2 cr cm) w_t (w_s ?_);intros))|(refine wkad (w_12 e0 e1 e5 m5 e26 e27 e28 hla hlm hst @Zgw @l_take) (w_2 cn cm) w_t (w_s ?_);intros)
         all_goals
          refine Zab (ι:=Nat) (λx e m=>x≤i∧e 5=.pbox 5 g5 0∧(∃k,m 5=some (.box g5 78 [iv k,strA nm,ivs ar,.v (.bool r),lim rl,lim rd] false))∧e 69=.sl 6 (M.take i)∧e 70=iv i∧e 71=iv x∧(T.take x).any (λt=>t.nm.toList == nm.toList)=false) (λx=>i - x) 0 zr ?_ ?_
          ·rintro x e m ⟨hx,e5,⟨k,m5⟩,e69,e70,e71,hnq⟩
           by_cases hlt2:x < i
           ·obtain⟨t,ht,ht2⟩:=hgt x hlt2;have htl:x < T.length:=zo;have htx:T[x]=t:=by rw [Zy4 htl] at ht2;cases ht2;rfl
            have hsn:T.take (x+1)=T.take x++[t]:=by rw [ZCe htl,htx]
            have hmem:t∈T:=by rw [←htx];exact Zzm htl
            obtain⟨tk,tn,ta,tr,tl,td⟩:=t;have hll:(M.take i).length=i:=by rw [Zzh];omega
            cases hw:(tn.toList == nm.toList) with
            | true =>
              have hany:T.any (λt=>t.nm.toList == nm.toList)=true:=List.any_eq_true.2 ⟨_,hmem,hw⟩;rw [Zy1 hany];exact wkld (w_8 e5 m5 e69 e70 e71 ht hw hll) w_t w_t w_t w_z
            | false =>
              (refine wkad (w_8 e5 m5 e69 e70 e71 ht hw hll) w_t w_t (w_s ?_);intros)
              exact⟨x+1,⟨zo,gW e5,⟨k,gW m5⟩,gW e69,gW e70,gS,by rw [hsn,List.any_append,hnq];simp [hw]⟩,zo⟩
           ·have hxi:x=i:=zo;subst hxi;rw [show T.take x=T from by rw [←hlt,ZAw]] at hnq;rw [hnq,Zy0 zd];exact wkld (w_5 e5 m5 e69 e70 e71) w_t w_t w_t w_z
          ·exact⟨Zzb _,gW e5,⟨_,gW m5⟩,gC,by(simp (disch:=omega) only [go_sem,Zzh,hlm,ZAy]<;>repeat' first|rfl|refine⟨?_,?_⟩),gC,by simp⟩
   ·exact⟨Zzb _,gC,gC,gC,gC,gC,gW hla,gC,by simp [outB]⟩
theorem Zv3 (ss:List RS) (gs:List RG) (h1:ss.length≤1000000000) (h2:gs.length≤1000000000) (hs:∀s∈ss,s.sm) (hg:∀g∈gs,g.sm):Pure prog 13 [figA ss gs] (iv (figE ss gs)):=by
 have hls:(ss.map RS.av).length=ss.length:=Zy3 ..;have hlg:(gs.map RG.av).length=gs.length:=Zy3 ..;have eg:∀i (h:i < gs.length),(gs.map RG.av).getD i .u=gs[i].av:=λi h=>Zac RG.av h;have eg2:∀i (h:i < gs.length),gs.getD i ⟨0,[],⟨false,[],[]⟩⟩=gs[i]:=λi h=>by rw [Zzc,Zy4 h];rfl
 have cc:∀i,i < ss.length→Pure prog 32 [.sl 6 (ss.map RS.av),iv i] (iv (errS ss i)):=λi hi=>rlCheck ss i hi h1 hs;have cg:∀i (h:i < gs.length),Pure prog 33 [gs[i].av,iv ss.length] (iv (errG gs[i] ss.length)):=λi h=>Zvz gs[i] ss.length h1 (hg _ (Zzm h));unfold figE;show Pure _ _ [.agg [.sl 6 (ss.map RS.av),.sl 5 (gs.map RG.av)]] _;generalize ss.map RS.av=M at *;generalize gs.map RG.av=N at *;by_cases hb:40 < ss.length∨8 < gs.length
 ·rw [Zy1 hb];refine pI func13 rfl ntmps13 results13 call13 ?_;exact wklp (w_2 hls hlg) w_t w_t (w_r 0) w_z
 ·rw [Zy0 hb];refine pI func13 rfl ntmps13 results13 call13 ?_
  (refine wkap (w_2 hls hlg) w_t (w_r 0) (w_s ?_);intros)
  rename_i g1;refine Zab (ι:=Nat) (λi e m=>i≤ss.length∧e 1=.pbox 1 g1 0∧m 1=some (.box g1 49 [.sl 6 M,.sl 5 N] false)∧e 20=iv ss.length∧e 21=iv i∧∀j,j < i→errS ss j=0) (λi=>ss.length - i) 0 zr ?_ ?_
  ·rintro i e m ⟨hi,e1,m1,e20,e21,hz⟩
   by_cases hlt:i < ss.length
   ·have c:=cc i hlt;by_cases he:errS ss i=0
    ·rw [he] at c
     (refine wkap (w_6 e1 m1 e20 e21 hls hlg) (w_1 c) (w_r 0) (w_s ?_);intros)
     exact⟨i+1,⟨zo,gW e1,gW m1,gW e20,gS,λj hj=>by by_cases e:j=i;rw [e];exact he;exact hz j zo⟩,zo⟩
    ·rw [Zlb hz he hlt,Zy1 he];generalize errS ss i=z at *;exact wklp (w_6 e1 m1 e20 e21 hls hlg) (w_1 c) w_t (w_r 0) w_z
   ·have hi2:i=ss.length:=zo;subst hi2;rw [Ze8 hz,Zy0 zs]
    (refine wkap (w_6 e1 m1 e20 e21 hls hlg) w_t (w_r 0) (w_s ?_);intros)
    refine Zab (ι:=Nat) (λi e m=>i≤gs.length∧e 1=.pbox 1 g1 0∧m 1=some (.box g1 49 [.sl 6 M,.sl 5 N] false)∧e 33=.sl 5 N∧e 34=iv gs.length∧e 35=iv i∧∀j,j < i→errG (gs.getD j ⟨0,[],⟨false,[],[]⟩⟩) ss.length=0) (λi=>gs.length - i) 0 zr ?_ ?_
    ·rintro i e m ⟨hi,e1,m1,e33,e34,e35,hz⟩
     by_cases hlt:i < gs.length
     ·have c:=cg i hlt;have hgi:=eg i hlt;have hgj:=eg2 i hlt;have hfa:=@Zlb (λi=>errG (gs.getD i ⟨0,[],⟨false,[],[]⟩⟩) ss.length) i hz;simp only [hgj] at hfa;generalize gs[i]=G at *;by_cases he:errG G ss.length=0
      ·rw [he] at c;clear hfa;obtain⟨k,ar,r,rl,rd⟩:=G
       (refine wkap (w_8 e1 m1 e33 e34 e35 hls hlg hgi) (w_1 c) (w_r 0) (w_s ?_);intros)
       exact⟨i+1,⟨zo,gW e1,gW m1,gW e33,gW e34,gS,λj hj=>by by_cases e:j=i;rw [e,hgj];exact he;exact hz j zo⟩,zo⟩
      ·rw [hfa he hlt];clear hfa;generalize errG G ss.length=z at *;obtain⟨k,ar,r,rl,rd⟩:=G;exact wklp (w_8 e1 m1 e33 e34 e35 hls hlg hgi) (w_1 c) w_t (w_r 0) w_z
     ·have hi2:i=gs.length:=zo;subst hi2;rw [Ze8 hz];exact wklp (w_7 e1 m1 e33 e34 e35 hls hlg) w_t w_t (w_r 0) w_z
    ·exact⟨Zzb _,gW e1,gW m1,gC,gW hlg,gC,λj hj=>zo⟩
  ·exact⟨Zzb _,gC,gC,gW hls,gC,λj hj=>zo⟩
theorem Zx7 (σ:Mem) (K:Nat) (sv:Value) (L:List Pr) (hK:σ K=some (.row sv 54 2 (L.map prA) 0)) (hl:L.length < 256) (hs:∀p∈L,smP p):ACall prog 38 [.own K sv] σ λr σ'=>∃l':List Pr,l'.Perm L∧l'.Pairwise (λx y=>cmpP x y≤0)∧CmpR K sv l' (upd σ K (some (.row sv 54 2 (l'.map prA) 0))) r σ':=by
 refine Zbi (tok:=0) func38 rfl ntmps38 results38 call38 zr zs ?_;have cs:=ppSort σ K sv L hK hl hs;(focus (refine wkad w_t w_t w_t ?_;(repeat' first|exact w_t|apply w_l);all_goals intros));refine Znd cs ?_
 rintro _ _ ⟨l',h1,h2,rfl,rfl⟩
 have cc:=Zws (upd σ K (some (.row sv 54 2 (l'.map prA) 0))) K sv l' (by rw [Zal,Zy1 rfl]) (by rw [h1.length_eq];exact hl);obtain⟨σ1,hσ1⟩:∃σ1,upd σ K (some (.row sv 54 2 (l'.map prA) 0))=σ1:=⟨_,rfl⟩;rw [hσ1] at cc ⊢;(focus (refine wkad w_t w_t w_t ?_;(repeat' first|exact w_t|apply w_l);all_goals intros));refine Znd cc ?_;intro r σ2 hr;(focus (refine wkad w_t w_t w_t ?_;(repeat' first|exact w_t|apply w_l);all_goals intros));exact⟨l',h1,h2,by rw [hσ1];exact hr⟩
theorem sides_in {k:Int} {p:Pr} (h:p∈Zdi k):p.1 < arS k∧p.2 < arS k:=by
 unfold Zdi at h;split at h
 ·rename_i hk;simp only [ZAp,List.not_mem_nil,or_false] at h;subst h;rcases hk with rfl | rfl | rfl | rfl<;>decide
 ·split at h
  ·rename_i hk;simp only [ZAp,List.not_mem_nil,or_false] at h;subst h;subst hk;decide
  ·split at h
   ·rename_i hk;simp only [ZAp,List.not_mem_nil,or_false] at h;rcases h with rfl | rfl<;>rcases hk with rfl | rfl | rfl<;>decide
   ·split at h
    ·rename_i hk;simp only [ZAp,List.not_mem_nil,or_false] at h;subst hk;rcases h with rfl | rfl<;>decide
    ·split at h
     ·rename_i hk;simp only [ZAp,List.not_mem_nil,or_false] at h;subst hk;rcases h with rfl | rfl | rfl<;>decide
     ·cases h
theorem parts_in {k:Int} {p:Pr} (h:p∈Zdj k):0≤p.1∧p.1 < arG k∧0≤p.2∧p.2 < arG k:=by
 unfold Zdj at h;split at h
 ·rename_i hk;simp only [ZAp,List.not_mem_nil,or_false] at h;subst hk;rcases h with rfl | rfl<;>decide
 ·split at h
  ·rename_i hk;simp only [ZAp,List.not_mem_nil,or_false] at h;rcases h with rfl | rfl<;>rcases hk with rfl | rfl | rfl | rfl<;>decide
  ·split at h
   ·rename_i hk;simp only [ZAp,List.not_mem_nil,or_false] at h;subst h;subst hk;decide
   ·split at h
    ·rename_i hk;simp only [ZAp,List.not_mem_nil,or_false] at h;subst hk;rcases h with rfl | rfl | rfl | rfl<;>decide
    ·cases h
theorem sidesN_3 (k:Int):(Zdi k).length≤3:=by
 unfold Zdi
 repeat' split
 all_goals simp
theorem partsN_4 (k:Int):(Zdj k).length≤4:=by
 unfold Zdj
 repeat' split
 all_goals simp
theorem Zkg (ss:List RS):∀i,(Zbg ss i).length≤3*i
 | 0=>Zy5 _
 | i+1=>by
   have ih:=Zkg ss i;unfold Zbg;rw [Zzq];split
   ·rename_i s _;have:=sidesN_3 s.k;unfold Zho;rw [Zy3];omega
   ·simp;omega
theorem Zk8 (gs:List RG):∀i,(Zc2 gs i).length≤4*i
 | 0=>Zy5 _
 | i+1=>by
   have ih:=Zk8 gs i;unfold Zc2;rw [Zzq];split
   ·rename_i s _;have:=partsN_4 s.k;unfold Zht;rw [Zy3];omega
   ·simp;omega
theorem Zl3 {ss:List RS} {p:Pr}:∀{i:Nat},p∈Zbg ss i→∃j,∃h:j < ss.length,p∈Zho j ss[j]
 | 0,h=>by cases h
 | i+1,h=>by
   unfold Zbg at h;rcases List.mem_append.1 h with h | h
   ·exact Zl3 h
   ·split at h
    ·rename_i s hs;obtain⟨hj,e⟩:=List.getElem?_eq_some_iff.1 hs;exact⟨i,hj,by rw [e];exact h⟩
    ·cases h
theorem Zmi {gs:List RG} {p:Pr}:∀{i:Nat},p∈Zc2 gs i→∃g∈gs,p∈Zht g
 | 0,h=>by cases h
 | i+1,h=>by
   unfold Zc2 at h;rcases List.mem_append.1 h with h | h
   ·exact Zmi h
   ·split at h
    ·rename_i s hs;exact⟨s,ZBo hs,h⟩
    ·cases h
structure LnOk (ss:List RS) (gs:List RG):Prop where
 l1:ss.length≤40
 l2:gs.length≤8
 hs:∀i (h:i < ss.length),∀p∈Zdi ss[i].k,p.1 < (ss[i].ar.length:Int)∧p.2 < (ss[i].ar.length:Int)
 hg:∀i (h:i < gs.length),∀p∈Zdj gs[i].k,0≤p.1∧p.1 < (gs[i].ar.length:Int)∧0≤p.2∧p.2 < (gs[i].ar.length:Int)
 b:∀p∈Zcg ss gs,0≤p.1∧p.1 < ss.length∧0≤p.2∧p.2 < ss.length
 len:(Zcg ss gs).length≤152
theorem Zx6 {g:RG} {n:Nat} (h:errG g n=0):(g.ar.length:Int)=arG g.k∧∀i,i < g.ar.length→0≤gI g.ar i∧gI g.ar i < (n:Int):=by
 unfold errG at h;split at h
 ·cases h
 ·split at h
  ·cases h
  ·rename_i h1;split at h
   ·cases h
   ·rename_i h2;exact⟨by simpa using h1,λi hi=>Zw0 (by simpa using h2) hi⟩
theorem lnOk {ss:List RS} {gs:List RG} (h:figE ss gs=0):LnOk ss gs:=by
 unfold figE at h;split at h
 ·cases h
 ·rename_i h0;split at h
  ·rename_i h1;exact absurd h h1
  ·rename_i h1;have h1:fstE (errS ss) ss.length=0:=by simpa using h1
   have e1:∀i,i < ss.length→errS ss i=0:=Ziq h1;have e2:∀i (hi:i < gs.length),errG gs[i] ss.length=0:=λi hi=>by
    have:=Ziq h i hi
    rwa [show gs.getD i ⟨0,[],⟨false,[],[]⟩⟩=gs[i] from by rw [Zzc,Zy4 hi];rfl] at this
   have k1:∀i (h:i < ss.length),∀p∈Zdi ss[i].k,p.1 < (ss[i].ar.length:Int)∧p.2 < (ss[i].ar.length:Int):=λi hi p hp=>by
    obtain⟨_,a,_⟩:=Zle hi (e1 i hi);rw [a];exact sides_in hp
   have k2:∀i (h:i < gs.length),∀p∈Zdj gs[i].k,0≤p.1∧p.1 < (gs[i].ar.length:Int)∧0≤p.2∧p.2 < (gs[i].ar.length:Int):=λi hi p hp=>by
    obtain⟨a,_⟩:=Zx6 (e2 i hi);rw [a];exact parts_in hp
   refine⟨zo,zo,k1,k2,λp hp=>?_,?_⟩
   ·unfold Zcg at hp;rcases List.mem_append.1 hp with hp | hp
    ·obtain⟨i,hi,hp⟩:=Zl3 hp;unfold Zho at hp;obtain⟨q,hq,rfl⟩:=List.mem_map.1 hp;obtain⟨_,_,a,_⟩:=Zle hi (e1 i hi);obtain⟨b1,b2⟩:=k1 i hi q hq;have at_in:∀k:Int,k < (ss[i].ar.length:Int)→0≤atN i ss[i].ar k∧atN i ss[i].ar k < ss.length:=λk hk=>by
      unfold atN;split
      ·omega
      ·have:=a k.toNat zo;omega
     have c1:=at_in _ b1;have c2:=at_in _ b2;exact⟨c1.1,c1.2,c2.1,c2.2⟩
    ·obtain⟨g,hg,hp⟩:=Zmi hp;obtain⟨i,hi,rfl⟩:=List.mem_iff_getElem.1 hg;unfold Zht at hp;obtain⟨q,hq,rfl⟩:=List.mem_map.1 hp;obtain⟨_,a⟩:=Zx6 (e2 i hi);obtain⟨b1,b2,b3,b4⟩:=k2 i hi q hq;have c1:=a q.1.toNat zo;have c2:=a q.2.toNat zo;exact⟨c1.1,c1.2,c2.1,c2.2⟩
   ·have a:=Zkg ss ss.length;have b:=Zk8 gs gs.length;unfold Zcg;rw [Zzq];omega
theorem ori_len (p:Pr):(ori p).length≤1:=by
 unfold ori
 repeat' split
 all_goals simp
theorem Zm8:∀(l:List Pr),(oris l).length≤l.length
 | []=>Zy5 _
 | p :: l=>by
   have ih:=Zm8 l;have:=ori_len p;show(ori p++oris l).length≤_;rw [Zzq,Zze];omega
theorem Zw1 {l:List Pr} {j:Nat} {p:Pr} (h:l[j]?=some p):oris (l.take (j+1))=oris (l.take j)++ori p:=by
 unfold oris;rw [ZCi,h,List.flatMap_append];simp
def AgrB (t:Nat) (m σ:Mem):Prop:=∀k,k+1000≠t→m (k+1000)=(σ k).map Ent.sh
theorem AgrB.of {t:Nat} {m σ:Mem} (h:Agr m σ):AgrB t m σ:=λk _=>h k
theorem AgrB.own {t:Nat} {m σ:Mem} (h:AgrB t m σ) {j:Nat} {x:Option Ent} (hj:j < 1000):AgrB t (upd m j x) σ:=λk hk=>by
 rw [Zal,Zy0 zo];exact h k hk
theorem AgrB.at {t:Nat} {m σ:Mem} (h:AgrB t m σ) {x:Option Ent}:AgrB t (upd m t x) σ:=λk hk=>by
 rw [Zal,Zy0 hk];exact h k hk
theorem AgrB.put {t:Nat} {m σ:Mem} (h:AgrB t m σ) {j k:Nat} {e e':Ent} (hj:j=k+1000) (he:e'=e.sh):AgrB t (upd m j (some e')) (upd σ k (some e)):=λq hq=>by
 subst hj;subst he;rw [Zal,Zal];by_cases hc:q=k
 ·subst hc;rw [Zy1 rfl,Zy1 rfl];rfl
 ·rw [Zy0 zo,Zy0 hc];exact h q hq
theorem AgrB.close {t:Nat} {m σ:Mem} (h:AgrB t m σ) {k:Nat} {e e':Ent} (hk:σ k=some e) (ht:t=k+1000) (he:e'=e.sh):Agr (upd m t (some e')) σ:=λq=>by
 rw [Zal];by_cases hc:q+1000=t
 ·have:q=k:=zo;subst this;rw [Zy1 hc,hk,he];rfl
 ·rw [Zy0 hc];exact h q hc
theorem aE {P:Program} {n p t:Nat} {code:Code} {K:AE→St→Prop} {x X:AV} {m:Mem} {E:Nat→AV} (h5:E t=X) (h:∀E',E' t=X→Zaw P 0 n code K ⟨upd E' p x,m⟩):Zaw P 0 n code K ⟨upd E p x,m⟩:=h E h5
theorem Znw (ss:List RS) (gs:List RG) (cR:Pure prog 34 [figA ss gs] (iv 0)) (ok:LnOk ss gs):Pure prog 14 [figA ss gs] (.tup [.sl 2 ((Zgp (Zcg ss gs) ss.length ss.length).map prA),iv 0]):=by
 have cR:Pure prog 34 [.agg [.sl 6 (ss.map RS.av),.sl 5 (gs.map RG.av)]] (iv 0):=cR;have cP:=drPairs (ss.map RS.av) (gs.map RG.av) 36 37;have cI:=λl σ J=>prIt l ss gs σ J ok.l1 ok.l2 ok.hs ok.hg;show Pure _ _ [.agg [.sl 6 (ss.map RS.av),.sl 5 (gs.map RG.av)]] _;generalize ss.map RS.av=M at *;generalize gs.map RG.av=N at *;refine Zt2 200 func14 rfl ntmps14 results14 call14 zs ?_;refine Zmr zr ?_;(focus (refine wkad w_t w_t w_t ?_;(repeat' first|exact w_t|apply w_l);all_goals intros));refine Zmr zr ?_;(focus (refine wkad w_t (w_1 cR) w_t ?_;(repeat' first|exact w_t|apply w_l);all_goals intros))
 refine Zmr zr ?_;(focus (refine wkad w_t w_t w_t ?_;(repeat' first|exact w_t|apply w_l);all_goals intros));refine xw_seq ?_;refine Zmr zr ?_;(focus (refine wkad w_t (w_1 cP) w_t ?_;(repeat' first|exact w_t|apply w_l);all_goals intros));rename_i g1 g5;refine xw_block ?_;refine xw_frz (Frz.nilBox (k:=5) (g:=g5) (bt:=40) (cs:=[.v (.slice none 0 0)]) 0 105 2 54 (gC) rfl zd) ?_;refine xw_loop 200 201 zd (gC) zd zr zr ?_;intro D l RR RB hround;have hAll:∀j,(Zcg ss gs).take j=(Zcg ss gs).take j:=λ_=>rfl;refine(Zyw (.cons (Sub.refl _) (.cons (Sub.refl _) (.cons (Zvg _) (.cons (Zvg _) .nil)))) (cI l _ (λj σ'=>∃sv,σ' 5=some (.box g5 40 [.own 105 sv] false)∧σ' 105=some (.row sv 54 2 ((oris ((Zcg ss gs).take j)).map prA) 0)∧σ' 200=some (.obj D (.deferred (some [])))∧σ' 201=some (.obj l RR)) ?_ ?_)).mono ?_
 ·intro j p hp m σ' hAg ⟨sv,h5,h105,h200,h201⟩;have ho:=Zw1 hp;have hl0:=Zm8 ((Zcg ss gs).take j);have hl1:((Zcg ss gs).take j).length≤152:=by rw [Zzh];have:=ok.len;omega
  have hl2:((oris ((Zcg ss gs).take j)).map prA).length≤152:=by rw [Zy3];omega
  have at_:∀{k:Nat} {e:Ent},σ' k=some e→m (k+1000)=some e.sh:=λhk=>by rw [hAg,hk];rfl
  have m5:=at_ h5;have m105:=at_ h105;have m201:=at_ h201;have L5:=Za8 m5;have L105:=Za8 m105;have L201:=Za8 m201;simp only [Ent.sh,AV.shL,AV.sh,Nat.reduceAdd] at m5 m105 m201 L5 L105 L201;refine hround m (prA p) _ m201 ?_;clear hround cI cR cP ok;refine aE (t:=5) (X:=.pbox 2005 g5 0) rfl λE e5=>?_;obtain⟨a,b⟩:=p;show Zaw _ _ _ _ _ ⟨upd E 14 (.agg [iv a,iv b]),_⟩;have fin:∀(sv2:Value) (M1:Mem),oris ((Zcg ss gs).take (j+1))=oris ((Zcg ss gs).take (j+1))→True:=λ_ _ _=>trivial;generalize hT:oris ((Zcg ss gs).take j)=T at *;obtain⟨mm,hmm⟩:∃mm,mm=lents m:=⟨_,rfl⟩;rw [←hmm] at L5 L105 L201 ⊢
  by_cases hab:a < b
  ·(repeat' (first|(with_reducible first|refine stp ?_|apply gx1|apply gx2|apply gx3|apply gx4|apply gx5|apply gx6|apply gx7|apply gy8|apply gz2|apply gz3)|(with_reducible refine Zch ?_;intro _)|((with_reducible refine gE ?_);(try simp (disch:=omega) only [go_sem,e5,L5,L105,L201,hab,hl2,Zy6,Zy2,Zy1,Zy0,Int.reduceAdd,Int.reduceSub,Int.reduceToNat,Zzd])<;>first|rfl|omega)|with_reducible refine Zai zd ?_|((with_reducible apply gy1);iterate 3 focus rfl)|((with_reducible apply gy2);iterate 3 focus rfl)|((with_reducible apply gy3);iterate 2 focus rfl)|((with_reducible apply gy4);iterate 1 focus rfl)|((with_reducible apply gy5);iterate 4 focus rfl)|((with_reducible apply gy5c);iterate 4 focus rfl)|((with_reducible apply gy6);iterate 4 focus rfl)|((with_reducible apply Zf0);iterate 3 focus rfl)|((with_reducible apply Zfu);iterate 1 focus rfl)|((with_reducible apply gy7);iterate 1 focus rfl)|((with_reducible apply gy9);(focus ((with_reducible refine gE ?_);(try simp (disch:=omega) only [go_sem,e5,L5,L105,L201,hab,hl2,Zy6,Zy2,Zy1,Zy0,Int.reduceAdd,Int.reduceSub,Int.reduceToNat,Zzd])<;>rfl)))|((with_reducible apply gz1);(focus first|rfl|(simp (disch:=omega) only [go_sem,e5,L5,L105,L201,hab,hl2,Zy6,Zy2,Zy1,Zy0,Int.reduceAdd,Int.reduceSub,Int.reduceToNat,Zzd];done)))|((with_reducible apply Zas (Zbu []) [] []);(focus kernel_rfl);(focus rfl);(focus kernel_rfl);(focus (simp only [Zze,Zzi,Nat.reduceAdd];rfl)))|((with_reducible first|apply Zcv|apply Zda|apply Zcy);all_goals (intro hc;(try simp only [bool_to_prop] at hc);try (exfalso;omega)))))
   refine⟨rfl,by(simp (disch:=omega) only [go_sem,L201]<;>repeat' first|rfl|refine⟨?_,?_⟩),?_⟩
   (repeat' (first|(with_reducible first|refine stp ?_|apply gx1|apply gx2|apply gx3|apply gx4|apply gx5|apply gx6|apply gx7|apply gy8|apply gz2|apply gz3)|(with_reducible refine Zch ?_;intro _)|((with_reducible refine gE ?_);(try simp (disch:=omega) only [go_sem,e5,L5,L105,L201,hab,hl2,Zy6,Zy2,Zy1,Zy0,Int.reduceAdd,Int.reduceSub,Int.reduceToNat,Zzd])<;>first|rfl|omega)|with_reducible refine Zai zd ?_|((with_reducible apply gy1);iterate 3 focus rfl)|((with_reducible apply gy2);iterate 3 focus rfl)|((with_reducible apply gy3);iterate 2 focus rfl)|((with_reducible apply gy4);iterate 1 focus rfl)|((with_reducible apply gy5);iterate 4 focus rfl)|((with_reducible apply gy5c);iterate 4 focus rfl)|((with_reducible apply gy6);iterate 4 focus rfl)|((with_reducible apply Zf0);iterate 3 focus rfl)|((with_reducible apply Zfu);iterate 1 focus rfl)|((with_reducible apply gy7);iterate 1 focus rfl)|((with_reducible apply gy9);(focus ((with_reducible refine gE ?_);(try simp (disch:=omega) only [go_sem,e5,L5,L105,L201,hab,hl2,Zy6,Zy2,Zy1,Zy0,Int.reduceAdd,Int.reduceSub,Int.reduceToNat,Zzd])<;>rfl)))|((with_reducible apply gz1);(focus first|rfl|(simp (disch:=omega) only [go_sem,e5,L5,L105,L201,hab,hl2,Zy6,Zy2,Zy1,Zy0,Int.reduceAdd,Int.reduceSub,Int.reduceToNat,Zzd];done)))|((with_reducible apply Zas (Zbu []) [] []);(focus kernel_rfl);(focus rfl);(focus kernel_rfl);(focus (simp only [Zze,Zzi,Nat.reduceAdd];rfl)))|((with_reducible first|apply Zcv|apply Zda|apply Zcy);all_goals (intro hc;(try simp only [bool_to_prop] at hc);try (exfalso;omega)))))
   rename_i g6 r23 sv2;have ho:oris ((Zcg ss gs).take (j+1))=T++[(a,b)]:=by rw [ho];unfold ori;simp only;first|rw [Zy1 hab]|rw [Zy0 hab,Zy1 hba]
   refine⟨rfl,gC,.v (.bool true),upd (upd m 1105 (some (.row sv2 54 2 (T.map prA++[prA (a,b)]) 0))) 1005 (some (.box g5 40 [.own 1105 sv2] false)),Sub.refl _,⟨rfl,upd (upd σ' 105 (some (.row sv2 54 2 (T.map prA++[prA (a,b)]) 0))) 5 (some (.box g5 40 [.own 105 sv2] false)),by(refine Agr.put ?_ rfl rfl;refine Agr.put hAg rfl rfl),sv2,by rw [Zal,Zy1 rfl],by rw [Zal,Zy0 zd,Zal,Zy1 rfl,ho,Zzz];rfl,by rw [Zal,Zy0 zd,Zal,Zy0 zd];exact h200,by rw [Zal,Zy0 zd,Zal,Zy0 zd];exact h201⟩,?_⟩;refine AgrB.close (k:=1201) (e:=.obj l RR) ?_ (by rw [Zal,Zy0 zd,Zal,Zy0 zd];exact m201) rfl rfl
   refine AgrB.put ?_ rfl rfl;refine AgrB.put ?_ rfl rfl
   (repeat' (first|(exact AgrB.of (by rw [hmm];exact Agr.start m))|(refine AgrB.own ?_ zo)|(refine AgrB.at ?_)))
  ·by_cases hba:a > b
   ·(repeat' (first|(with_reducible first|refine stp ?_|apply gx1|apply gx2|apply gx3|apply gx4|apply gx5|apply gx6|apply gx7|apply gy8|apply gz2|apply gz3)|(with_reducible refine Zch ?_;intro _)|((with_reducible refine gE ?_);(try simp (disch:=omega) only [go_sem,e5,L5,L105,L201,hab,hba,hl2,Zy6,Zy2,Zy1,Zy0,Int.reduceAdd,Int.reduceSub,Int.reduceToNat,Zzd])<;>first|rfl|omega)|with_reducible refine Zai zd ?_|((with_reducible apply gy1);iterate 3 focus rfl)|((with_reducible apply gy2);iterate 3 focus rfl)|((with_reducible apply gy3);iterate 2 focus rfl)|((with_reducible apply gy4);iterate 1 focus rfl)|((with_reducible apply gy5);iterate 4 focus rfl)|((with_reducible apply gy5c);iterate 4 focus rfl)|((with_reducible apply gy6);iterate 4 focus rfl)|((with_reducible apply Zf0);iterate 3 focus rfl)|((with_reducible apply Zfu);iterate 1 focus rfl)|((with_reducible apply gy7);iterate 1 focus rfl)|((with_reducible apply gy9);(focus ((with_reducible refine gE ?_);(try simp (disch:=omega) only [go_sem,e5,L5,L105,L201,hab,hba,hl2,Zy6,Zy2,Zy1,Zy0,Int.reduceAdd,Int.reduceSub,Int.reduceToNat,Zzd])<;>rfl)))|((with_reducible apply gz1);(focus first|rfl|(simp (disch:=omega) only [go_sem,e5,L5,L105,L201,hab,hba,hl2,Zy6,Zy2,Zy1,Zy0,Int.reduceAdd,Int.reduceSub,Int.reduceToNat,Zzd];done)))|((with_reducible apply Zas (Zbu []) [] []);(focus kernel_rfl);(focus rfl);(focus kernel_rfl);(focus (simp only [Zze,Zzi,Nat.reduceAdd];rfl)))|((with_reducible first|apply Zcv|apply Zda|apply Zcy);all_goals (intro hc;(try simp only [bool_to_prop] at hc);try (exfalso;omega)))))
    refine⟨rfl,by(simp (disch:=omega) only [go_sem,L201]<;>repeat' first|rfl|refine⟨?_,?_⟩),?_⟩
    (repeat' (first|(with_reducible first|refine stp ?_|apply gx1|apply gx2|apply gx3|apply gx4|apply gx5|apply gx6|apply gx7|apply gy8|apply gz2|apply gz3)|(with_reducible refine Zch ?_;intro _)|((with_reducible refine gE ?_);(try simp (disch:=omega) only [go_sem,e5,L5,L105,L201,hab,hba,hl2,Zy6,Zy2,Zy1,Zy0,Int.reduceAdd,Int.reduceSub,Int.reduceToNat,Zzd])<;>first|rfl|omega)|with_reducible refine Zai zd ?_|((with_reducible apply gy1);iterate 3 focus rfl)|((with_reducible apply gy2);iterate 3 focus rfl)|((with_reducible apply gy3);iterate 2 focus rfl)|((with_reducible apply gy4);iterate 1 focus rfl)|((with_reducible apply gy5);iterate 4 focus rfl)|((with_reducible apply gy5c);iterate 4 focus rfl)|((with_reducible apply gy6);iterate 4 focus rfl)|((with_reducible apply Zf0);iterate 3 focus rfl)|((with_reducible apply Zfu);iterate 1 focus rfl)|((with_reducible apply gy7);iterate 1 focus rfl)|((with_reducible apply gy9);(focus ((with_reducible refine gE ?_);(try simp (disch:=omega) only [go_sem,e5,L5,L105,L201,hab,hba,hl2,Zy6,Zy2,Zy1,Zy0,Int.reduceAdd,Int.reduceSub,Int.reduceToNat,Zzd])<;>rfl)))|((with_reducible apply gz1);(focus first|rfl|(simp (disch:=omega) only [go_sem,e5,L5,L105,L201,hab,hba,hl2,Zy6,Zy2,Zy1,Zy0,Int.reduceAdd,Int.reduceSub,Int.reduceToNat,Zzd];done)))|((with_reducible apply Zas (Zbu []) [] []);(focus kernel_rfl);(focus rfl);(focus kernel_rfl);(focus (simp only [Zze,Zzi,Nat.reduceAdd];rfl)))|((with_reducible first|apply Zcv|apply Zda|apply Zcy);all_goals (intro hc;(try simp only [bool_to_prop] at hc);try (exfalso;omega)))))
    rename_i g6 r23 sv2;have ho:oris ((Zcg ss gs).take (j+1))=T++[(b,a)]:=by rw [ho];unfold ori;simp only;first|rw [Zy1 hab]|rw [Zy0 hab,Zy1 hba]
    refine⟨rfl,gC,.v (.bool true),upd (upd m 1105 (some (.row sv2 54 2 (T.map prA++[prA (b,a)]) 0))) 1005 (some (.box g5 40 [.own 1105 sv2] false)),Sub.refl _,⟨rfl,upd (upd σ' 105 (some (.row sv2 54 2 (T.map prA++[prA (b,a)]) 0))) 5 (some (.box g5 40 [.own 105 sv2] false)),by(refine Agr.put ?_ rfl rfl;refine Agr.put hAg rfl rfl),sv2,by rw [Zal,Zy1 rfl],by rw [Zal,Zy0 zd,Zal,Zy1 rfl,ho,Zzz];rfl,by rw [Zal,Zy0 zd,Zal,Zy0 zd];exact h200,by rw [Zal,Zy0 zd,Zal,Zy0 zd];exact h201⟩,?_⟩;refine AgrB.close (k:=1201) (e:=.obj l RR) ?_ (by rw [Zal,Zy0 zd,Zal,Zy0 zd];exact m201) rfl rfl
    refine AgrB.put ?_ rfl rfl;refine AgrB.put ?_ rfl rfl
    (repeat' (first|(exact AgrB.of (by rw [hmm];exact Agr.start m))|(refine AgrB.own ?_ zo)|(refine AgrB.at ?_)))
   ·(repeat' (first|(with_reducible first|refine stp ?_|apply gx1|apply gx2|apply gx3|apply gx4|apply gx5|apply gx6|apply gx7|apply gy8|apply gz2|apply gz3)|(with_reducible refine Zch ?_;intro _)|((with_reducible refine gE ?_);(try simp (disch:=omega) only [go_sem,e5,L5,L105,L201,hab,hba,hl2,Zy6,Zy2,Zy1,Zy0,Int.reduceAdd,Int.reduceSub,Int.reduceToNat,Zzd])<;>first|rfl|omega)|with_reducible refine Zai zd ?_|((with_reducible apply gy1);iterate 3 focus rfl)|((with_reducible apply gy2);iterate 3 focus rfl)|((with_reducible apply gy3);iterate 2 focus rfl)|((with_reducible apply gy4);iterate 1 focus rfl)|((with_reducible apply gy5);iterate 4 focus rfl)|((with_reducible apply gy5c);iterate 4 focus rfl)|((with_reducible apply gy6);iterate 4 focus rfl)|((with_reducible apply Zf0);iterate 3 focus rfl)|((with_reducible apply Zfu);iterate 1 focus rfl)|((with_reducible apply gy7);iterate 1 focus rfl)|((with_reducible apply gy9);(focus ((with_reducible refine gE ?_);(try simp (disch:=omega) only [go_sem,e5,L5,L105,L201,hab,hba,hl2,Zy6,Zy2,Zy1,Zy0,Int.reduceAdd,Int.reduceSub,Int.reduceToNat,Zzd])<;>rfl)))|((with_reducible apply gz1);(focus first|rfl|(simp (disch:=omega) only [go_sem,e5,L5,L105,L201,hab,hba,hl2,Zy6,Zy2,Zy1,Zy0,Int.reduceAdd,Int.reduceSub,Int.reduceToNat,Zzd];done)))|((with_reducible apply Zas (Zbu []) [] []);(focus kernel_rfl);(focus rfl);(focus kernel_rfl);(focus (simp only [Zze,Zzi,Nat.reduceAdd];rfl)))|((with_reducible first|apply Zcv|apply Zda|apply Zcy);all_goals (intro hc;(try simp only [bool_to_prop] at hc);try (exfalso;omega)))))
    refine⟨rfl,by(simp (disch:=omega) only [go_sem,L201]<;>repeat' first|rfl|refine⟨?_,?_⟩),?_⟩
    (repeat' (first|(with_reducible first|refine stp ?_|apply gx1|apply gx2|apply gx3|apply gx4|apply gx5|apply gx6|apply gx7|apply gy8|apply gz2|apply gz3)|(with_reducible refine Zch ?_;intro _)|((with_reducible refine gE ?_);(try simp (disch:=omega) only [go_sem,e5,L5,L105,L201,hab,hba,hl2,Zy6,Zy2,Zy1,Zy0,Int.reduceAdd,Int.reduceSub,Int.reduceToNat,Zzd])<;>first|rfl|omega)|with_reducible refine Zai zd ?_|((with_reducible apply gy1);iterate 3 focus rfl)|((with_reducible apply gy2);iterate 3 focus rfl)|((with_reducible apply gy3);iterate 2 focus rfl)|((with_reducible apply gy4);iterate 1 focus rfl)|((with_reducible apply gy5);iterate 4 focus rfl)|((with_reducible apply gy5c);iterate 4 focus rfl)|((with_reducible apply gy6);iterate 4 focus rfl)|((with_reducible apply Zf0);iterate 3 focus rfl)|((with_reducible apply Zfu);iterate 1 focus rfl)|((with_reducible apply gy7);iterate 1 focus rfl)|((with_reducible apply gy9);(focus ((with_reducible refine gE ?_);(try simp (disch:=omega) only [go_sem,e5,L5,L105,L201,hab,hba,hl2,Zy6,Zy2,Zy1,Zy0,Int.reduceAdd,Int.reduceSub,Int.reduceToNat,Zzd])<;>rfl)))|((with_reducible apply gz1);(focus first|rfl|(simp (disch:=omega) only [go_sem,e5,L5,L105,L201,hab,hba,hl2,Zy6,Zy2,Zy1,Zy0,Int.reduceAdd,Int.reduceSub,Int.reduceToNat,Zzd];done)))|((with_reducible apply Zas (Zbu []) [] []);(focus kernel_rfl);(focus rfl);(focus kernel_rfl);(focus (simp only [Zze,Zzi,Nat.reduceAdd];rfl)))|((with_reducible first|apply Zcv|apply Zda|apply Zcy);all_goals (intro hc;(try simp only [bool_to_prop] at hc);try (exfalso;omega)))))
    have ho:oris ((Zcg ss gs).take (j+1))=T:=by rw [ho];unfold ori;simp only;rw [Zy0 hab,Zy0 hba,ZAh]
    refine⟨rfl,gC,.v (.bool true),m,Sub.refl _,⟨rfl,σ',hAg,sv,h5,by rw [ho];exact h105,h200,h201⟩,?_⟩;refine AgrB.close (k:=1201) (e:=.obj l RR) ?_ m201 rfl rfl
    (repeat' (first|(exact AgrB.of (by rw [hmm];exact Agr.start m))|(refine AgrB.own ?_ zo)|(refine AgrB.at ?_)))
 ·have e0:oris ((Zcg ss gs).take 0)=[]:=rfl;exact⟨.slice none 0 0,gC,by rw [e0];exact gC,gC,gC⟩
 ·rintro r σ' ⟨sv,h5,h105,h200,h201⟩
  rw [ZAw] at h105;refine⟨h201,?_⟩;refine xw_flat zr ?_;have hsm:∀p∈oris (Zcg ss gs),smP p:=λp hp=>by
   have hl:=ok.l1;obtain⟨_,h | h⟩:=Zsg.1 hp
   ·obtain⟨a,b,c,d⟩:=ok.b _ h;exact⟨a,zo,c,zo⟩
   ·obtain⟨a,b,c,d⟩:=ok.b _ h;simp only at a b c d;exact⟨c,zo,a,zo⟩
  have hlen:(oris (Zcg ss gs)).length < 256:=by have:=Zm8 (Zcg ss gs);have:=ok.len;omega
  have q5:upd σ' 201 none 5=some (.box g5 40 [.own 105 sv] false):=by rw [Zal,Zy0 zd];exact h5
  have q105:upd σ' 201 none 105=some (.row sv 54 2 ((oris (Zcg ss gs)).map prA) 0):=by rw [Zal,Zy0 zd];exact h105
  have q200:upd σ' 201 none 200=some (.obj D (.deferred (some []))):=by rw [Zal,Zy0 zd];exact h200
  clear hround cI cR cP hAll;generalize upd σ' 201 none=σ1 at *;have co:=Zx7 σ1 105 sv _ q105 hlen hsm;(focus (refine wkad (w_1 q5) w_t w_t ?_;(repeat' first|exact w_t|apply w_l);all_goals intros));refine Znd co ?_
  rintro r2 σ2 ⟨l',p1,p2,hC⟩
  have hln:=lines_eq ok.b p1 p2;rw [←hln];rcases hC with⟨hd,rfl,rfl⟩ | ⟨hle,rfl,rfl⟩
  ·rw [hd];(focus (refine wkad w_t w_t w_t ?_;(repeat' first|exact w_t|apply w_l);all_goals intros));refine .inr ⟨D,rfl,gW q200,?_⟩;generalize l'.map prA=LA at *;clear q5 q105 q200 co;(focus (refine wkad w_t w_t w_t ?_;(repeat' first|exact w_t|apply w_l);all_goals intros));all_goals exact gL
  ·(focus (refine wkad w_t w_t w_t ?_;(repeat' first|exact w_t|apply w_l);all_goals intros));refine .inr ⟨D,rfl,gW q200,?_⟩
   have hz:((Za1 l').map prA++List.replicate (l'.length - (Za1 l').length) (AV.agg [iv 0,iv 0])).take (Za1 l').length=(Za1 l').map prA:=by
    rw [List.take_append_of_le_length (by rw [Zy3];exact Zy5 _),ZA4 (by rw [Zy3];exact Zy5 _)]
   generalize hF:(Za1 l').map prA++List.replicate (l'.length - (Za1 l').length) (AV.agg [iv 0,iv 0])=F at *;clear q5 q105 q200 co;generalize (Za1 l').length=w at *;generalize (Za1 l').map prA=LA at *;have hz0:F.take (0+w)=LA:=by rw [Zzv];exact hz
   (focus (refine wkad (w_1 hz0) w_t w_t ?_;(repeat' first|exact w_t|apply w_l);all_goals intros));all_goals exact gM (w_1 hz0)
def Zis (s:RS):Bool:=!(decide (8 < s.ar.length) || decide (4 < s.r.l.length) || decide (4 < s.r.d.length))
def Zit (g:RG):Bool:=!(decide (12 < g.ar.length) || decide (4 < g.r.l.length) || decide (4 < g.r.d.length))
def fit45 (ss:List RS) (gs:List RG):Bool:=ss.all Zis && (gs.all Zit && (decide (ss.length≤60) && decide (gs.length≤12)))
theorem Zyt {α:Type} {p:α→Bool} {l:List α} {i:Nat} (h:i < l.length) (hp:p l[i]=false):l.all p=false:=by
 rw [Bool.eq_false_iff];intro ha;rw [ZBb] at ha;rw [ha _ (Zzm h)] at hp;cases hp
theorem Zys {α:Type} {p:α→Bool} {l:List α} (h:∀j (hj:j < l.length),p l[j]=true):l.all p=true:=by
 rw [ZBb];intro x hx;obtain⟨j,hj,rfl⟩:=List.mem_iff_getElem.1 hx;exact h j hj
theorem lwFit45 (ss:List RS) (gs:List RG) (h1:ss.length≤maxLen) (h2:gs.length≤maxLen):Pure prog 12 [figA ss gs] (.v (.bool (fit45 ss gs))):=by
 have h1:ss.length≤9223372036854775807:=h1;have h2:gs.length≤9223372036854775807:=h2;have hls:(ss.map RS.av).length=ss.length:=Zy3 ..;have hlg:(gs.map RG.av).length=gs.length:=Zy3 ..;have kS:∀i (h:i < ss.length),(ss.map RS.av).getD i .u=ss[i].av:=λi h=>Zac RS.av h;have kG:∀i (h:i < gs.length),(gs.map RG.av).getD i .u=gs[i].av:=λi h=>Zac RG.av h;show Pure _ _ [.agg [.sl 6 (ss.map RS.av),.sl 5 (gs.map RG.av)]] _;generalize ss.map RS.av=M at *;generalize gs.map RG.av=N at *;unfold fit45;refine pI func12 rfl ntmps12 results12 call12 ?_;(focus (refine wkad (w_1 hls) w_t w_t ?_;(repeat' first|exact w_t|apply w_l);all_goals intros))
 rename_i g1;refine Zab (ι:=Nat) (λi e m=>i≤ss.length∧(e 1=.pbox 1 g1 0∧m 1=some (.box g1 49 [.sl 6 M,.sl 5 N] false))∧e 8=.sl 6 M∧e 9=iv ss.length∧e 10=iv i∧∀j (h:j < ss.length),j < i→Zis ss[j]=true) (λi=>ss.length - i) 0 zr ?_ ?_
 ·rintro i e m ⟨hi,⟨e1,m1⟩,e8,e9,e10,hn⟩
  by_cases hlt:i < ss.length
  ·have gi:=kS i hlt;have hw:IntKind.i64.wrap ((i:Int)+1)=((i+1:Nat):Int):=by rw [Zdl zo zo];omega
   have hlt2:(i:Int) < (ss.length:Int):=zo;by_cases hc:Zis ss[i]=true
   ·have hne:∀j (h:j < ss.length),j < i+1→Zis ss[j]=true:=λj h hj=>by
     by_cases e:j=i
     ·subst e;exact hc
     ·exact hn j h zo
    generalize ss[i]=s at *;obtain⟨k,nm,ar,⟨bo,l,d⟩⟩:=s;unfold Zis at hc;simp only [ZAv,ZBq,ZBe] at hc;obtain⟨⟨d1,d2⟩,d3⟩:=hc;have hll:(ar.map iv).length=ar.length:=Zy3 ..;(focus (refine wkad (w_11 e1 m1 e8 e9 e10 gi hls hll @Zau hw hlt2) w_t w_t ?_;(repeat' first|exact w_t|apply w_l);all_goals intros));exact⟨i+1,⟨zo,⟨gW e1,gW m1⟩,gW e8,gW e9,gW hw,hne⟩,zo⟩
   ·have hc:=Bool.eq_false_iff.2 hc;rw [Zyt hlt hc,Zzr];generalize ss[i]=s at *;obtain⟨k,nm,ar,⟨bo,l,d⟩⟩:=s;unfold Zis at hc;simp only [Bool.not_eq_false',ZAn,Zzu] at hc;have hll:(ar.map iv).length=ar.length:=Zy3 ..;by_cases c1:8 < ar.length
    ·(focus (refine wkad (w_10 e1 m1 e8 e9 e10 gi hls hll @Zau hlt2) w_t w_t ?_;(repeat' first|exact w_t|apply w_l);all_goals intros));all_goals exact gL
    ·by_cases c2:4 < l.length
     ·(focus (refine wkad (w_10 e1 m1 e8 e9 e10 gi hls hll @Zau hlt2) w_t w_t ?_;(repeat' first|exact w_t|apply w_l);all_goals intros));all_goals exact gL
     ·have c3:4 < d.length:=zo;(focus (refine wkad (w_10 e1 m1 e8 e9 e10 gi hls hll @Zau hlt2) w_t w_t ?_;(repeat' first|exact w_t|apply w_l);all_goals intros));all_goals exact gL
  ·have hii:i=ss.length:=zo;subst hii;rw [Zys (p:=Zis) λj hj=>hn j hj hj,ZAz];have hnl:¬(ss.length:Int) < (ss.length:Int):=zo;(focus (refine wkad (w_8 e1 m1 e8 e9 e10 hls hlg hnl) w_t w_t ?_;(repeat' first|exact w_t|apply w_l);all_goals intros));refine Zab (ι:=Nat) (λi e m=>i≤gs.length∧(e 1=.pbox 1 g1 0∧m 1=some (.box g1 49 [.sl 6 M,.sl 5 N] false))∧e 35=.sl 5 N∧e 36=iv gs.length∧e 37=iv i∧∀j (h:j < gs.length),j < i→Zit gs[j]=true) (λi=>gs.length - i) 0 zr ?_ ?_
   ·rintro i e m ⟨hi,⟨e1,m1⟩,e35,e36,e37,hn⟩
    by_cases hlt:i < gs.length
    ·have gi:=kG i hlt;have hw:IntKind.i64.wrap ((i:Int)+1)=((i+1:Nat):Int):=by rw [Zdl zo zo];omega
     have hlt2:(i:Int) < (gs.length:Int):=zo;by_cases hc:Zit gs[i]=true
     ·have hne:∀j (h:j < gs.length),j < i+1→Zit gs[j]=true:=λj h hj=>by
       by_cases e:j=i
       ·subst e;exact hc
       ·exact hn j h zo
      generalize gs[i]=s at *;obtain⟨k,ar,⟨bo,l,d⟩⟩:=s;unfold Zit at hc;simp only [ZAv,ZBq,ZBe] at hc;obtain⟨⟨d1,d2⟩,d3⟩:=hc;have hll:(ar.map iv).length=ar.length:=Zy3 ..;(focus (refine wkad (w_11 e1 m1 e35 e36 e37 gi hlg hll @Zau hw hlt2) w_t w_t ?_;(repeat' first|exact w_t|apply w_l);all_goals intros));exact⟨i+1,⟨zo,⟨gW e1,gW m1⟩,gW e35,gW e36,gW hw,hne⟩,zo⟩
     ·have hc:=Bool.eq_false_iff.2 hc;rw [Zyt hlt hc,Zzr];generalize gs[i]=s at *;obtain⟨k,ar,⟨bo,l,d⟩⟩:=s;unfold Zit at hc;simp only [Bool.not_eq_false',ZAn,Zzu] at hc;have hll:(ar.map iv).length=ar.length:=Zy3 ..;by_cases c1:12 < ar.length
      ·(focus (refine wkad (w_10 e1 m1 e35 e36 e37 gi hlg hll @Zau hlt2) w_t w_t ?_;(repeat' first|exact w_t|apply w_l);all_goals intros));all_goals exact gL
      ·by_cases c2:4 < l.length
       ·(focus (refine wkad (w_10 e1 m1 e35 e36 e37 gi hlg hll @Zau hlt2) w_t w_t ?_;(repeat' first|exact w_t|apply w_l);all_goals intros));all_goals exact gL
       ·have c3:4 < d.length:=zo;(focus (refine wkad (w_10 e1 m1 e35 e36 e37 gi hlg hll @Zau hlt2) w_t w_t ?_;(repeat' first|exact w_t|apply w_l);all_goals intros));all_goals exact gL
    ·have hii:i=gs.length:=zo;subst hii;rw [Zys (p:=Zit) λj hj=>hn j hj hj,ZAz];have hnl:¬(gs.length:Int) < (gs.length:Int):=zo;by_cases c1:ss.length≤60
     ·rw [Zy6 c1,ZAz];by_cases c2:gs.length≤12
      ·rw [Zy6 c2];(focus (refine wkad (w_8 e1 m1 e35 e36 e37 hlg hls hnl) w_t w_t ?_;(repeat' first|exact w_t|apply w_l);all_goals intros));all_goals exact gL
      ·rw [Zy2 c2];(focus (refine wkad (w_8 e1 m1 e35 e36 e37 hlg hls hnl) w_t w_t ?_;(repeat' first|exact w_t|apply w_l);all_goals intros));all_goals exact gL
     ·rw [Zy2 c1,Zzr];(focus (refine wkad (w_8 e1 m1 e35 e36 e37 hlg hls hnl) w_t w_t ?_;(repeat' first|exact w_t|apply w_l);all_goals intros));all_goals exact gL
   ·exact⟨Zzb _,⟨gW e1,gW m1⟩,gC,gW hlg,gC,λj h hj=>zo⟩
 ·exact⟨Zzb _,⟨gC,gC⟩,gC,gW hls,gC,λj h hj=>zo⟩
theorem Zq8 (l:List Pr) (hl:l.length≤10000):Pure prog 11 [.sl 2 (l.map prA),.sl 2 (l.map prA)] (.v (.bool true)):=by
 have hll:(l.map prA).length=l.length:=Zy3 ..;have kA:∀j (h:j < l.length),(l.map prA).getD j .u=.agg [iv l[j].1,iv l[j].2]:=λj h=>Zac prA h;generalize hM:l.map prA=M at *;refine pI func11 rfl ntmps11 results11 call11 ?_;(focus (refine wkad (w_1 hll) w_t w_t ?_;(repeat' first|exact w_t|apply w_l);all_goals intros));refine Zab (ι:=Nat) (λi e m=>i≤l.length∧e 0=.sl 2 M∧e 1=.sl 2 M∧e 12=iv l.length∧e 13=iv i) (λi=>l.length - i) 0 zr ?_ ?_
 ·rintro i e m ⟨hi,e0,e1,e12,e13⟩
  by_cases hlt:i < l.length
  ·have gi:=kA i hlt;(focus (refine wkad (w_6 e0 e1 e12 e13 gi hll) w_t w_t ?_;(repeat' first|exact w_t|apply w_l);all_goals intros));exact⟨i+1,⟨zo,gW e0,gW e1,gW e12,gS⟩,zo⟩
  ·have hii:i=l.length:=zo;subst hii;(focus (refine wkad (w_5 e0 e1 e12 e13 hll) w_t w_t ?_;(repeat' first|exact w_t|apply w_l);all_goals intros));all_goals exact gL
 ·exact⟨Zzb _,gC,gC,gW hll,gC⟩
theorem lwParts1 (M N:List AV) (k:Int) (A:List Pr) (Lp:Nat→List Pr) (hM:M.length≤60) (hk:0≤k∧k < 256) (hA:A.length≤10000) (hL:∀m,m≤M.length→(Lp m).length≤10000) (hg:∀m,m≤M.length→grI (Lp m) 0 A=(Lp m).length)
 (cf:Pure prog 12 [.agg [.sl 6 M,.sl 5 N]] (.v (.bool true))) (cR:Pure prog 13 [.agg [.sl 6 M,.sl 5 N]] (iv 0))
 (cA:Pure prog 14 [.agg [.sl 6 M,.sl 5 N]] (.tup [.sl 2 (A.map prA),iv 0]))
 (cL:∀m,m≤M.length→Pure prog 14 [.agg [.sl 6 (M.take m),.v (.slice none 0 0)]] (.tup [.sl 2 ((Lp m).map prA),iv 0]))
 (cW:Pure prog 8 [] (.v (.bool true))):Pure prog 4 [.agg [.sl 6 M,.sl 5 N],.v (.int .u8 k)] (.v (.bool true)):=by
 refine pI func4 rfl ntmps4 results4 call4 ?_
 obtain⟨q,hq,hqn⟩:∃q:Nat,k.tmod (M.length+1)=(q:Int)∧q≤M.length:=by
  have h1:=Int.tmod_nonneg (b:=(M.length:Int)+1) (a:=k) hk.1;have h2:=Int.tmod_lt_of_pos k (b:=(M.length:Int)+1) zo;exact⟨(k.tmod (M.length+1)).toNat,zo,zo⟩
 have hwk:IntKind.i64.wrap k=k:=Zdl zo zo;(focus (refine wkad (w_2 hwk hq) (w_3 cf cR cA) w_t ?_;(repeat' first|exact w_t|apply w_l);all_goals intros));rename_i g2 zR;clear cf cR cA;have hAl:(A.map prA).length=A.length:=Zy3 ..;have gA:∀j (h:j < A.length),(A.map prA).getD j .u=.agg [iv A[j].1,iv A[j].2]:=λj h=>Zac prA h;refine Zab (ι:=Nat) (λr e m=>r≤2∧(e 2=.pbox 2 g2 0∧m 2=some (.box g2 49 [.sl 6 M,.sl 5 N] false))∧e 5=.sl 2 (A.map prA)∧e 40=.own 40 zR∧m 40=some (.row zR 3 1 [iv M.length,iv q] 0)∧e 41=iv 2∧e 42=iv r) (λr=>2 - r) 0 zr ?_ ?_
 ·rintro r e m ⟨hr,⟨e2,m2⟩,e5,e40,m40,e41,e42⟩
  by_cases hlt:r < 2
  ·obtain⟨p,gp,hp⟩:∃p:Nat,[iv M.length,iv q].getD r .u=iv p∧p≤M.length:=by
    match r,hlt with
    | 0,_=>exact⟨M.length,rfl,Zy5 _⟩
    | 1,_=>exact⟨q,rfl,hqn⟩
   have c:=cL p hp;have hgp:=hg p hp;have hLp:=hL p hp;clear cL hg hL;generalize Lp p=l at *;have hll:(l.map prA).length=l.length:=Zy3 ..;have gl:∀j (h:j < l.length),(l.map prA).getD j .u=.agg [iv l[j].1,iv l[j].2]:=λj h=>Zac prA h;generalize hX:l.map prA=X at *;generalize hY:A.map prA=Y at *;have hlt2:(r:Int) < 2:=zo;(focus (refine wkad (w_10 e2 m2 e5 e40 m40 e41 e42 gp hAl hlt2) (w_1 c) w_t ?_;(repeat' first|exact w_t|apply w_l);all_goals intros));refine Zab (ι:=Nat) (λt e m=>t≤A.length∧(e 2=.pbox 2 g2 0∧m 2=some (.box g2 49 [.sl 6 M,.sl 5 N] false))∧e 5=.sl 2 Y∧e 10=.sl 2 X∧e 40=.own 40 zR∧m 40=some (.row zR 3 1 [iv M.length,iv q] 0)∧e 41=iv 2∧e 42=iv r∧e 57=.sl 2 Y∧e 58=iv A.length∧e 59=iv t∧e 12=iv (grI l 0 (A.take t))) (λt=>A.length - t) 0 zr ?_ ?_
   ·rintro t e m ⟨ht,⟨e2,m2⟩,e5,e10,e40,m40,e41,e42,e57,e58,e59,e12⟩
    by_cases hta:t < A.length
    ·have ga:=gA t hta;have hsn:A.take (t+1)=A.take t++[A[t]]:=by rw [ZCi,Zy4 hta];rfl
     have hgs:=Zsx l A[t] (A.take t) 0;rw [←hsn] at hgs;have hgl:=grI_le l (A.take t) 0 (Zzb _);generalize grI l 0 (A.take t)=i1 at e12 hgs hgl;generalize A[t]=pa at *;by_cases hi:i1 < l.length
     ·have gi:=gl i1 hi;rw [Zy4 hi] at hgs;generalize l[i1]=pl at *;obtain⟨a1,a2⟩:=pa;obtain⟨b1,b2⟩:=pl;simp only at ga gi;by_cases he:b1=a1∧b2=a2
      ·obtain⟨rfl,rfl⟩:=he;rw [Zy1 rfl] at hgs;(focus (refine wkad (w_16 e2 m2 e5 e10 e40 m40 e41 e42 e57 e58 e59 e12 ga gi hAl hll) w_t w_t ?_;(repeat' first|exact w_t|apply w_l);all_goals intros));exact⟨t+1,⟨zo,⟨gW e2,gW m2⟩,gW e5,gW e10,gW e40,gW m40,gW e41,gW e42,gW e57,gW e58,gS,by rw [hgs];exact gV e12⟩,zo⟩
      ·rw [Zy0 (by intro h;injection h with h;injection h with h1 h2;exact he ⟨h1,h2⟩)] at hgs;(focus (refine wkad (w_17 e2 m2 e5 e10 e40 m40 e41 e42 e57 e58 e59 e12 ga gi hAl hll he) w_t w_t ?_;(repeat' first|exact w_t|apply w_l);all_goals intros));exact⟨t+1,⟨zo,⟨gW e2,gW m2⟩,gW e5,gW e10,gW e40,gW m40,gW e41,gW e42,gW e57,gW e58,gS,by rw [hgs];exact gV e12⟩,zo⟩
     ·rw [ZAf zo,Zy0 (by intro h;cases h)] at hgs;(focus (refine wkad (w_16 e2 m2 e5 e10 e40 m40 e41 e42 e57 e58 e59 e12 ga hAl hll hi) w_t w_t ?_;(repeat' first|exact w_t|apply w_l);all_goals intros));exact⟨t+1,⟨zo,⟨gW e2,gW m2⟩,gW e5,gW e10,gW e40,gW m40,gW e41,gW e42,gW e57,gW e58,gS,by rw [hgs];exact gV e12⟩,zo⟩
    ·have htt:t=A.length:=zo;subst htt;rw [ZAw,hgp] at e12;(focus (refine wkad (w_15 e2 m2 e5 e10 e40 m40 e41 e42 e57 e58 e59 e12 hAl hll @Zbh) w_t w_t ?_;(repeat' first|exact w_t|apply w_l);all_goals intros));exact⟨r+1,⟨zo,⟨gW e2,gW m2⟩,gW e5,gW e40,gW m40,gW e41,gS⟩,zo⟩
   ·exact⟨Zzb _,⟨gW e2,gW m2⟩,gW e5,gC,gW e40,gW m40,gW e41,gW e42,gW e5,by(simp (disch:=omega) only [go_sem,hAl]<;>repeat' first|rfl|refine⟨?_,?_⟩),gC,gC⟩
  ·have e42:e 42=iv 2:=by rw [e42,show r=2 from by omega];rfl
   (focus (refine wkad (w_7 e2 m2 e5 e40 m40 e41 e42) (w_1 cW) w_t ?_;(repeat' first|exact w_t|apply w_l);all_goals intros));all_goals exact gL
 ·exact⟨Zzb _,⟨gC,gC⟩,gC,gC,gC,gC,gC⟩
end Go.Proofs.YtjbjejmmnbdbiaaGreat
