/- Contracts of the functions that the law reaches, and the rules by which they are walked. They say what a call hands back for every input within the bounds that each names; no other condition. -/
import Derived.Test.YtkefeinbjbeidaaGreatDoorBt8
import Derived.Sort.AssemblyPlain
import Derived.Shelf.SlSortCmp.NoneTotal
import Derived.Sort.LotD5
set_option linter.unusedSimpArgs false
set_option linter.unusedVariables false
set_option maxRecDepth 20000
set_option maxHeartbeats 16000000
namespace Go.Proofs.YtkefeinbjbeidaaGreatDoor
open Go Go.RowKit Go.Pg Go.Pol Go.Proofs.Tryz
def tS (ss:List ByteArray) (p:List Qt) (s0:ByteArray):Nat→ByteArray
 | 0=>s0
 | i+1=>(if (tS ss p s0 i).size=0 then tS ss p s0 i else tS ss p s0 i++⟨#[42]⟩)++(p.getD i Qt.zero).txt ss
def chkP (n:Int):List Qt→Int
 | []=>0
 | q :: l=>if Qt.chk q n 64=0 then chkP n l else Qt.chk q n 64
def absR (a:Rat):Rat:=if a.num < 0 then -a else a
def tTxt (ss:List ByteArray) (t:Rat × List Qt):ByteArray:=tS ss t.2 (if t.2.length≠0∧absR t.1=1 then ⟨#[]⟩ else decQ (absR t.1)) t.2.length
def eS (ss:List ByteArray) (l:QTs):Nat→ByteArray
 | 0=>⟨#[]⟩
 | i+1=>(if i=0 then (if (l.getD i (0,[])).1.num < 0 then ⟨#[45]⟩ else ⟨#[]⟩) else eS ss l i++(if (l.getD i (0,[])).1.num < 0 then ⟨#[32,45,32]⟩ else ⟨#[32,43,32]⟩))++tTxt ss (l.getD i (0,[]))
def chkE (n:Int):QTs→Int
 | []=>0
 | t :: l=>if chkP n t.2=0 then chkE n l else chkP n t.2
def eTxt (ss:List ByteArray) (l:QTs):ByteArray:=if l.length=0 then ⟨#[48]⟩ else eS ss l l.length
theorem Zon {n:Int}:∀{p:List Qt},(∀j (h:j < p.length),Qt.chk p[j] n 64=0)→chkP n p=0
 | [],_=>rfl
 | q :: l,h=>by
   have h0:Qt.chk q n 64=0:=h 0 zs;unfold chkP;rw [ZBv h0];exact Zon λj hj=>h (j+1) (by simpa using hj)
theorem Zsx {n:Int}:∀{p:List Qt} {i:Nat} (hi:i < p.length),(∀j (h:j < p.length),j < i→Qt.chk p[j] n 64=0)→Qt.chk p[i] n 64≠0→chkP n p=Qt.chk p[i] n 64
 | q :: l,0,_,_,h2=>by
   have h2:Qt.chk q n 64≠0:=h2;unfold chkP;rw [ZBu h2];rfl
 | q :: l,i+1,hi,h,h2=>by
   have h0:Qt.chk q n 64=0:=h 0 zs zo;unfold chkP;rw [ZBv h0];exact Zsx (by simpa using hi) (λj hj hji=>h (j+1) (by simpa using hj) zo) h2
theorem Zoo {n:Int}:∀{l:QTs},(∀j (h:j < l.length),chkP n l[j].2=0)→chkE n l=0
 | [],_=>rfl
 | q :: l,h=>by
   have h0:chkP n q.2=0:=h 0 zs;unfold chkE;rw [ZBv h0];exact Zoo λj hj=>h (j+1) (by simpa using hj)
theorem Zsy {n:Int}:∀{l:QTs} {i:Nat} (hi:i < l.length),(∀j (h:j < l.length),j < i→chkP n l[j].2=0)→chkP n l[i].2≠0→chkE n l=chkP n l[i].2
 | q :: l,0,_,_,h2=>by
   have h2:chkP n q.2≠0:=h2;unfold chkE;rw [ZBu h2];rfl
 | q :: l,i+1,hi,h,h2=>by
   have h0:chkP n q.2=0:=h 0 zs zo;unfold chkE;rw [ZBv h0];exact Zsy (by simpa using hi) (λj hj hji=>h (j+1) (by simpa using hj) zo) h2
theorem txt_pos (q:Qt) (ss:List ByteArray):0 < (q.txt ss).size:=by
 unfold Qt.txt;split<;>simp only [ZCn]<;>(have:(⟨#[41]⟩:ByteArray).size=1:=rfl;omega)
theorem txt_size (q:Qt) (ss:List ByteArray) (hs:∀s∈ss,s.size≤1000) (ha:q.a < 64):(q.txt ss).size≤4000:=by
 have h1:=Zeg hs q.a.toNat;have h2:=Zeg hs q.b.toNat;have h3:=Zeg hs q.c.toNat;have z:=Zdu q.a.toNat;have zl:(toL q.a.toNat).length≤1:=Zae.2 zo;have s1:(⟨#[83,40]⟩:ByteArray).size=2:=rfl;have s2:(⟨#[80,40]⟩:ByteArray).size=2:=rfl;have s3:(⟨#[44,32]⟩:ByteArray).size=2:=rfl;have s4:(⟨#[41]⟩:ByteArray).size=1:=rfl;have s5:(⟨#[116,40]⟩:ByteArray).size=2:=rfl;unfold Qt.txt;split
 ·simp only [ZCn];omega
 ·split<;>simp only [ZCn]<;>omega
theorem Zsw {q:Qt} {n:Int} (ss:List ByteArray) (hs:∀s∈ss,s.size≤1000) (h:Qt.chk q n 64=0):(q.txt ss).size≤4000:=by
 unfold Qt.txt;by_cases hk:q.k=3
 ·have ha:q.a < 64:=by
   rcases Zu4 (k:=q.k) (a:=q.a) (b:=q.b) (c:=q.c) h with h1 | h1
   ·exact h1.2.2.1
   ·exact absurd hk h1.1
  exact txt_size q ss hs ha
 ·have h1:=Zeg hs q.a.toNat;have h2:=Zeg hs q.b.toNat;have h3:=Zeg hs q.c.toNat;have s1:(⟨#[83,40]⟩:ByteArray).size=2:=rfl;have s2:(⟨#[80,40]⟩:ByteArray).size=2:=rfl;have s3:(⟨#[44,32]⟩:ByteArray).size=2:=rfl;have s4:(⟨#[41]⟩:ByteArray).size=1:=rfl;rw [ZBu hk];split<;>simp only [ZCn]<;>omega
theorem Zxb (ss:List ByteArray) (p:List Qt) (s0:ByteArray) (i:Nat) (h:0 < i):0 < (tS ss p s0 i).size:=by
 obtain⟨j,rfl⟩:∃j,i=j+1:=⟨i - 1,zo⟩;unfold tS;rw [ZCn];have:=txt_pos (p.getD j Qt.zero) ss;omega
theorem Zq4 {ss:List ByteArray} {p:List Qt} {s0:ByteArray} {n:Int} (hs:∀s∈ss,s.size≤1000) {i:Nat} (hi:i≤p.length) (h:∀j (h:j < p.length),j < i→Qt.chk p[j] n 64=0):(tS ss p s0 i).size≤s0.size+i*4001:=by
 induction i with
 | zero=>unfold tS;omega
 | succ i ih =>
   have h1:=ih zo λj hj hji=>h j hj zo;have h2:=Zsw ss hs (h i zo zo);have e:p.getD i Qt.zero=p[i]:=by rw [ZCb,ZB6 zo];rfl
   unfold tS;rw [ZCn,e];have s1:(⟨#[42]⟩:ByteArray).size=1:=rfl;split
   ·omega
   ·rw [ZCn];omega
theorem Zlv {q:Rat} {k:Nat} (h:Sz q k):(decQ q).size≤10*k+4:=by
 have h1:=h.1;have h2:=h.2;have z1:=Zlu q.num;have z2:=Zdu q.den;have h47:(Zes [47]).size=1:=Zc0 _;unfold decQ;split
 ·omega
 ·rw [ZCn,ZCn];omega
theorem Zil {q:Rat} {k:Nat} (h:Sz q k):Sz (absR q) k:=by
 unfold absR;split
 ·exact⟨by rw [show(-q).num=-q.num from rfl,ZG0];exact h.1,h.2⟩
 ·exact h
theorem Zs5 (q:Rat):ratQ (absR q)=.agg [.v (.bool false),lim (toL q.num.natAbs),lim (toL q.den)]:=by
 unfold absR;split
 ·rename_i h;unfold ratQ;rw [show(-q).num=-q.num from rfl,show(-q).den=q.den from rfl,ZG0,ZB3 zo]
 ·rename_i h;unfold ratQ;rw [ZB3 h]
end Go.Proofs.YtkefeinbjbeidaaGreatDoor
namespace Go.Pol
open Go.Sort
def ltC {α:Type} (cmp:α→α→Int) (x y:α):Bool:=decide (cmp x y < 0)
theorem Zt3 {α β:Type} {cmp:α→α→Int} (o:CO cmp) (f:β→α):∀{l m:List β},(∀s∈l,∀t∈l,f s=f t→s=t)→(l.Pairwise λs t=>cmp (f s) (f t)≤0)→(m.Pairwise λs t=>cmp (f s) (f t)≤0)→l.Perm m→l=m
 | [],m,_,_,_,p=>(List.nil_perm.1 p).symm
 | a :: l,[],_,_,_,p=>by have:=p.length_eq;simp at this
 | a :: l,b :: m,hi,hl,hm,p=>by
   have hl':=List.pairwise_cons.1 hl;have hm':=List.pairwise_cons.1 hm
   have hab:a=b:=by
    have h1:a∈b :: m:=p.mem_iff.1 (.head _);have h2:b∈a :: l:=p.mem_iff.2 (.head _);rcases List.mem_cons.1 h1 with h | h1
    ·exact h
    ·rcases List.mem_cons.1 h2 with h | h2
     ·exact h.symm
     ·exact hi a (.head _) b (.tail _ h2) (o.anti (hl'.1 b h2) (hm'.1 a h1))
   subst hab;rw [Zt3 o f (λs hs t ht=>hi s (.tail _ hs) t (.tail _ ht)) hl'.2 hm'.2 (List.Perm.cons_inv p)]
theorem dst_inj {κ:Type} {l:List (Rat × κ)} (h:Dst l):∀s∈l,∀t∈l,s.2=t.2→s=t:=by
 induction l with
 | nil=>intro s hs;cases hs
 | cons a l ih =>
   have h':=List.pairwise_cons.1 h;intro s hs t ht e;rcases List.mem_cons.1 hs with rfl | hs
   ·rcases List.mem_cons.1 ht with rfl | ht
    ·rfl
    ·exact absurd e (h'.1 t ht)
   ·rcases List.mem_cons.1 ht with ht | ht
    ·rw [ht] at e;exact absurd e.symm (h'.1 s hs)
    ·exact ih h'.2 s hs t ht e
section
variable {α:Type} {β:Type} (f:α→β)
variable [Inhabited α]
end
section
variable {α:Type} [Inhabited α] {lt:α→α→Bool}
theorem bitsLen_256 {x:Nat} (h:256≤x):bitsLen x=8+bitsLen (x/256):=by
 have h1:=lt_two_pow_bitsLen x;have h2:=lt_two_pow_bitsLen (x/256)
 have h3:8 < bitsLen x:=by
  rcases ZCg 8 (bitsLen x) with h | h
  ·exact h
  ·have:=(bitsLen_le_iff x 8).1 h;omega
 have a:bitsLen x≤8+bitsLen (x/256):=(bitsLen_le_iff _ _).2 (by rw [ZDb];omega);have b:bitsLen (x/256)≤bitsLen x - 8:=(bitsLen_le_iff _ _).2 (by
  obtain⟨m,hm⟩:∃m,bitsLen x=8+m:=⟨bitsLen x - 8,zo⟩;rw [hm] at h1 ⊢;rw [ZDb] at h1;rw [show 8+m - 8=m by omega];exact Nat.div_lt_of_lt_mul h1)
 omega
def hintN (n:Nat):Hint:=if n=0 then .increasing else if n=12 then .decreasing else .unknown
section
variable {d d1 d2:Array α} {a b lim lim1 pv:Nat} {wb wp:Bool} {c:Nat × Hint} {hint:Hint} {pi:Array α × Bool}
end
end
end Go.Pol
namespace Go.Proofs.YtkefeinbjbeidaaGreatDoor
open Go Go.RowKit Go.Pg Go.Pol Go.Proofs.Tryz
attribute [-bool_to_prop] Bool.and_eq_decide Bool.or_eq_decide Bool.decide_beq_decide decide_eq_decide
theorem Zc2 {P:Program} {t:TypeId} {w:World} (h:(P.underlying t).map Zf2=some false):(isAgg t).run P w=.ok false w:=by
 obtain⟨d,hd,h⟩:=Option.map_eq_some_iff.1 h;simp only [isAgg,ZCe,ZCi hd,ZCc];cases d<;>first|rfl|cases h
theorem ag_st {P:Program} {t:TypeId} {w:World} (h:(P.underlying t).map Zf2=some true):(isAgg t).run P w=.ok true w:=by
 obtain⟨d,hd,h⟩:=Option.map_eq_some_iff.1 h;simp only [isAgg,ZCe,ZCi hd,ZCc];cases d<;>first|rfl|cases h
def sqR:Go.Shelf.Ren:=⟨fun | 14=>226 | 15=>227 | 20=>263 | 21=>264 | 22=>265 | 23=>266 | 24=>267 | 25=>268 | 26=>269 | 27=>270 | 28=>271 | 29=>272 | 46=>302 | 47=>303 | 48=>304 | 49=>305 | 50=>306 | 57=>313 | n=>n,fun | 0=>0 | 3=>3 | 4=>4 | 5=>5 | 9=>9 | 22=>76 | 24=>91 | 25=>125 | 39=>190 | 45=>286 | 46=>287 | 50=>229 | 53=>189 | 55=>121 | 66=>313 | 70=>317 | 76=>323 | 77=>324 | n=>n,λn=>n⟩
theorem sqL:Go.Proofs.SlLaysF0.n14 prog sqR:={
 mixed:=by kernel_rfl
 f14:=⟨f226.name,by decide,by kernel_rfl⟩
 f15:=by kernel_rfl
 f20:=⟨f263.name,by decide,by kernel_rfl⟩
 f21:=⟨f264.name,by decide,by kernel_rfl⟩
 f22:=⟨f265.name,by decide,by kernel_rfl⟩
 f23:=⟨f266.name,by decide,by kernel_rfl⟩
 f24:=⟨f267.name,by decide,by kernel_rfl⟩
 f25:=⟨f268.name,by decide,by kernel_rfl⟩
 f26:=⟨f269.name,by decide,by kernel_rfl⟩
 f27:=⟨f270.name,by decide,by kernel_rfl⟩
 f28:=by kernel_rfl
 f29:=by kernel_rfl
 f46:=⟨f302.name,by decide,by kernel_rfl⟩
 f47:=by kernel_rfl
 f48:=by kernel_rfl
 f49:=⟨f305.name,by decide,by kernel_rfl⟩
 f50:=⟨f306.name,by decide,by kernel_rfl⟩
 f57:=⟨f313.name,by decide,by kernel_rfl⟩
 t0:=by kernel_rfl
 a0:=λ_=>Zc2 (t:=0) zk
 z0:=λ_=>Zac zk
 v0:=λ_=>Zab zk
 t3:=by kernel_rfl
 a3:=λ_=>Zc2 (t:=3) zk
 z3:=λ_=>Zac zk
 v3:=λ_=>Zab zk
 t4:=by kernel_rfl
 a4:=λ_=>Zc2 (t:=4) zk
 z4:=λ_=>Zac zk
 v4:=λ_=>Zab zk
 t5:=by kernel_rfl
 a5:=λ_=>Zc2 (t:=5) zk
 z5:=λ_=>Zac zk
 v5:=λ_=>Zab zk
 t9:=by kernel_rfl
 a9:=λ_=>Zc2 (t:=9) zk
 z9:=λ_=>Zac zk
 v9:=λ_=>Zab zk
 t22:=by kernel_rfl
 a22:=λ_=>Zc2 (t:=76) zk
 z22:=λ_=>Zac zk
 v22:=λ_=>Zab zk
 t25:=by kernel_rfl
 a25:=λ_=>Zc2 (t:=125) zk
 z25:=λ_=>Zac zk
 v25:=λ_=>Zab zk
 t39:=by kernel_rfl
 a39:=λ_=>Zc2 (t:=190) zk
 z39:=λ_=>Zac zk
 v39:=λ_=>Zab zk
 t45:=by kernel_rfl
 a45:=λ_=>Zc2 (t:=286) zk
 z45:=λ_=>Zac zk
 v45:=λ_=>Zab zk
 t46:=by kernel_rfl
 a46:=λ_=>Zc2 (t:=287) zk
 z46:=λ_=>Zac zk
 v46:=λ_=>Zab zk
 t50:=by kernel_rfl
 a50:=λ_=>Zc2 (t:=229) zk
 z50:=λ_=>Zac zk
 v50:=λ_=>Zab zk
 t53:=by kernel_rfl
 a53:=λ_=>Zc2 (t:=189) zk
 z53:=λ_=>Zac zk
 v53:=λ_=>Zab zk
 t55:=by kernel_rfl
 a55:=λ_=>Zc2 (t:=121) zk
 z55:=λ_=>Zac zk
 v55:=λ_=>Zab zk
 t66:=by kernel_rfl
 a66:=λ_=>Zc2 (t:=313) zk
 z66:=λ_=>Zac zk
 v66:=λ_=>Zab zk
 t70:=by kernel_rfl
 a70:=λ_=>Zc2 (t:=317) zk
 z70:=λ_=>Zac zk
 v70:=λ_=>Zab zk
 t76:=by kernel_rfl
 a76:=λ_=>Zc2 (t:=323) zk
 z76:=λ_=>Zac zk
 v76:=λ_=>Zab zk
 t77:=by kernel_rfl
 a77:=λ_=>Zc2 (t:=324) zk
 z77:=λ_=>Zac zk
 v77:=λ_=>Zab zk
}
def stR:Go.Shelf.Ren:=⟨fun | 14=>250 | 15=>227 | 20=>287 | 21=>288 | 22=>289 | 23=>290 | 24=>291 | 25=>292 | 26=>293 | 27=>294 | 28=>271 | 29=>272 | 46=>308 | 47=>303 | 48=>304 | 49=>309 | 50=>310 | 57=>314 | n=>n,fun | 0=>0 | 3=>3 | 4=>4 | 5=>5 | 9=>9 | 22=>33 | 24=>78 | 25=>232 | 39=>190 | 45=>286 | 46=>287 | 50=>229 | 53=>189 | 55=>121 | 66=>313 | 70=>317 | 76=>323 | 77=>324 | n=>n,λn=>n⟩
theorem stL:Go.Proofs.SlLaysF0.n14 prog stR:={
 mixed:=by kernel_rfl
 f14:=⟨f250.name,by decide,by kernel_rfl⟩
 f15:=by kernel_rfl
 f20:=⟨f287.name,by decide,by kernel_rfl⟩
 f21:=⟨f288.name,by decide,by kernel_rfl⟩
 f22:=⟨f289.name,by decide,by kernel_rfl⟩
 f23:=⟨f290.name,by decide,by kernel_rfl⟩
 f24:=⟨f291.name,by decide,by kernel_rfl⟩
 f25:=⟨f292.name,by decide,by kernel_rfl⟩
 f26:=⟨f293.name,by decide,by kernel_rfl⟩
 f27:=⟨f294.name,by decide,by kernel_rfl⟩
 f28:=by kernel_rfl
 f29:=by kernel_rfl
 f46:=⟨f308.name,by decide,by kernel_rfl⟩
 f47:=by kernel_rfl
 f48:=by kernel_rfl
 f49:=⟨f309.name,by decide,by kernel_rfl⟩
 f50:=⟨f310.name,by decide,by kernel_rfl⟩
 f57:=⟨f314.name,by decide,by kernel_rfl⟩
 t0:=by kernel_rfl
 a0:=λ_=>Zc2 (t:=0) zk
 z0:=λ_=>Zac zk
 v0:=λ_=>Zab zk
 t3:=by kernel_rfl
 a3:=λ_=>Zc2 (t:=3) zk
 z3:=λ_=>Zac zk
 v3:=λ_=>Zab zk
 t4:=by kernel_rfl
 a4:=λ_=>Zc2 (t:=4) zk
 z4:=λ_=>Zac zk
 v4:=λ_=>Zab zk
 t5:=by kernel_rfl
 a5:=λ_=>Zc2 (t:=5) zk
 z5:=λ_=>Zac zk
 v5:=λ_=>Zab zk
 t9:=by kernel_rfl
 a9:=λ_=>Zc2 (t:=9) zk
 z9:=λ_=>Zac zk
 v9:=λ_=>Zab zk
 t22:=by kernel_rfl
 a22:=λ_=>Zc2 (t:=33) zk
 z22:=λ_=>Zac zk
 v22:=λ_=>Zab zk
 t25:=by kernel_rfl
 a25:=λ_=>Zc2 (t:=232) zk
 z25:=λ_=>Zac zk
 v25:=λ_=>Zab zk
 t39:=by kernel_rfl
 a39:=λ_=>Zc2 (t:=190) zk
 z39:=λ_=>Zac zk
 v39:=λ_=>Zab zk
 t45:=by kernel_rfl
 a45:=λ_=>Zc2 (t:=286) zk
 z45:=λ_=>Zac zk
 v45:=λ_=>Zab zk
 t46:=by kernel_rfl
 a46:=λ_=>Zc2 (t:=287) zk
 z46:=λ_=>Zac zk
 v46:=λ_=>Zab zk
 t50:=by kernel_rfl
 a50:=λ_=>Zc2 (t:=229) zk
 z50:=λ_=>Zac zk
 v50:=λ_=>Zab zk
 t53:=by kernel_rfl
 a53:=λ_=>Zc2 (t:=189) zk
 z53:=λ_=>Zac zk
 v53:=λ_=>Zab zk
 t55:=by kernel_rfl
 a55:=λ_=>Zc2 (t:=121) zk
 z55:=λ_=>Zac zk
 v55:=λ_=>Zab zk
 t66:=by kernel_rfl
 a66:=λ_=>Zc2 (t:=313) zk
 z66:=λ_=>Zac zk
 v66:=λ_=>Zab zk
 t70:=by kernel_rfl
 a70:=λ_=>Zc2 (t:=317) zk
 z70:=λ_=>Zac zk
 v70:=λ_=>Zab zk
 t76:=by kernel_rfl
 a76:=λ_=>Zc2 (t:=323) zk
 z76:=λ_=>Zac zk
 v76:=λ_=>Zab zk
 t77:=by kernel_rfl
 a77:=λ_=>Zc2 (t:=324) zk
 z77:=λ_=>Zac zk
 v77:=λ_=>Zab zk
}
theorem co_h1 {α:Type} {cmp:α→α→Int} (o:CO cmp) (x y:α):cmp x x=0∧(cmp x y < 0↔0 < cmp y x):=⟨o.refl x,o.flip x y⟩
theorem co_h2 {α:Type} {cmp:α→α→Int} (o:CO cmp) (a b c:α) (h1:cmp a b≤0) (h2:cmp b c≤0):cmp a c≤0:=o.le_tr h1 h2
theorem sqPdqK (σ:Mem) (K:Nat) (sv:Value) (L:List Qt) (lm:Nat) (hK:σ K=some (.row sv 91 4 (L.map Qt.av) 0)) (hl:L.length≤1000000000) (hlim:lm≤1000000000):ACall prog 226 [.own K sv,iv 0,iv L.length,iv lm,.fn 164 []] σ λr σ'=>r=.tup []∧σ'=upd σ K (some (.row sv 91 4 ((srtQ Qt.cmp L).map Qt.av) 0)):=by
 refine(Zmj sqL (k:=4) (λ_=>ag_st (t:=91) zk) (λ_=>Zac zk) zo (λq:Qt=>[iv q.k,iv q.a,iv q.b,iv q.c]) Qt.cmp (g:=164) L (λ_=>rfl) hK zo (co_h1 qtO) (co_h2 qtO) (λx _ y _=>quCmp x.k x.a x.b x.c y.k y.a y.b y.c) call226 lm zo λp cap w=>Go.Proofs.AnyF.pdqsortCmpFunc_none sqL p cap lm _ w).mono λr σ' h=>?_;obtain⟨l',hp,hs,rfl,rfl⟩:=h;have e:l'=srtQ Qt.cmp L:=Zft qtO hs (Zb6 qtO.cp _) (hp.trans (Za2 _).symm);rw [e];exact⟨rfl,rfl⟩
theorem stPdqK (σ:Mem) (K:Nat) (sv:Value) (L:List (Rat × List Qt)) (lm:Nat) (hK:σ K=some (.row sv 78 4 (L.map qtA) 0)) (hl:L.length≤1000000000) (hq:∀t∈L,t.2.length≤1000000) (hd:Dst L) (hlim:lm≤1000000000):ACall prog 250 [.own K sv,iv 0,iv L.length,iv lm,.fn 198 []] σ λr σ'=>r=.tup []∧σ'=upd σ K (some (.row sv 78 4 ((srtQ ordT L).map qtA) 0)):=by
 refine(Zmj stL (k:=4) (λ_=>ag_st (t:=78) zk) (λ_=>Zac zk) zo (λt:Rat × List Qt=>[.v (.bool (decide (t.1.num < 0))),lim (toL t.1.num.natAbs),lim (toL t.1.den),.sl 4 (t.2.map Qt.av)]) ordT (g:=198) L (λ_=>rfl) hK zo (λs t=>co_h1 Zbo s.2 t.2) (λs t u=>co_h2 Zbo s.2 t.2 u.2) (λs hs t ht=>exCmpT s t (hq s hs) (hq t ht)) call250 lm zo λp cap w=>Go.Proofs.AnyF.pdqsortCmpFunc_none stL p cap lm _ w).mono λr σ' h=>?_;obtain⟨l',hp,hs,rfl,rfl⟩:=h;have e:l'=srtQ ordT L:=Zt3 Zbo (λs:Rat × List Qt=>s.2) (λs hs' t ht' e=>dst_inj hd s (hp.mem_iff.1 hs') t (hp.mem_iff.1 ht') e) hs (Zb6 (Zbo.cp.key λs:Rat × List Qt=>s.2) L) (hp.trans (Za2 _).symm)
 rw [e];exact⟨rfl,rfl⟩
attribute [go_sem] underlying313 underlying323 szXs byXs zXs
theorem Zra (a:Nat) (s:Nat) (hs:s < 64):shrI .u64 (a:Int) (s:Int)=((a/2 ^ s:Nat):Int):=by
 unfold shrI;rw [show min ((s:Int).toNat) IntKind.u64.bits=s by rw [ZEk];exact ZEb (by show s≤64;omega),ZG8 _ (Int.le_of_lt (Int.pow_pos zd))];simp
def hintI:Go.Sort.Hint→Int
 | .unknown=>0
 | .increasing=>1
 | .decreasing=>2
abbrev u64A (n:Nat):AV:=.v (.int .u64 (n:Int))
theorem Zn5 (i:Nat):len8 i=Go.Sort.bitsLen i:=rfl
theorem bLen64 (x:Nat) (hx:x≤1000000000):Pure prog 272 [u64A x] (iv (Go.Sort.bitsLen x:Nat)):=by
 have n32:¬(4294967296:Int)≤(x:Int):=zo;by_cases h16:65536≤x
 ·have g16:(65536:Int)≤(x:Int):=zo;have b1:=Go.Pol.bitsLen_256 (x:=x) zo;have b2:=Go.Pol.bitsLen_256 (x:=x/256) zo;rw [ZGx] at b2;have b2:Go.Sort.bitsLen (x/256)=8+Go.Sort.bitsLen (x/65536):=b2;have s16:shrI .u64 (x:Int) 16=((x/65536:Nat):Int):=Zra x 16 zo;have hy:x/65536≤15258:=zo;rw [b1,b2];clear b1 b2;generalize x/65536=y at *;have s8:shrI .u64 (y:Int) 8=((y/256:Nat):Int):=Zra y 8 zo;by_cases h8:256≤y
  ·have g8:(256:Int)≤(y:Int):=zo;rw [Go.Pol.bitsLen_256 h8];have hz:y/256 < 256:=zo;generalize y/256=z at *;rw [←Zn5];have b:=Zgg hz;refine pI func272 rfl ntmps272 results272 call272 ?_
   (repeat' (first|(apply Zrz (g:=len8) (n:=256) zk zk zo)|(with_reducible first|refine stp ?_|apply gx1|apply gx2|apply gx3|apply gx4|apply gx5|apply gx6|apply gx7)|(with_reducible refine Zcm ?_;intro _)|((with_reducible refine gE ?_);(try simp (disch:=omega) only [go_sem,n32,g16,s16,s8,g8])<;>first|rfl|omega)|with_reducible refine Zak zd ?_))
   (all_goals (try simp (disch:=omega) only [go_sem,ZB4,ZB3,ZBv,ZBu,Int.reduceAdd,Int.reduceSub,Int.reduceToNat,ZB9]));(all_goals first|done|rfl|(congr 2;first|done|omega|(rw [ZCk];simp only [bool_to_prop,ZB8,ZCt,ZCu,ZCv,ZCw];omega))|skip)
  ·have g8:¬(256:Int)≤(y:Int):=zo;rw [←Zn5];have b:=Zgg (i:=y) zo;refine pI func272 rfl ntmps272 results272 call272 ?_
   (repeat' (first|(apply Zrz (g:=len8) (n:=256) zk zk zo)|(with_reducible first|refine stp ?_|apply gx1|apply gx2|apply gx3|apply gx4|apply gx5|apply gx6|apply gx7)|(with_reducible refine Zcm ?_;intro _)|((with_reducible refine gE ?_);(try simp (disch:=omega) only [go_sem,n32,g16,s16,s8,g8])<;>first|rfl|omega)|with_reducible refine Zak zd ?_))
   (all_goals (try simp (disch:=omega) only [go_sem,ZB4,ZB3,ZBv,ZBu,Int.reduceAdd,Int.reduceSub,Int.reduceToNat,ZB9]));(all_goals first|done|rfl|(congr 2;first|done|omega|(rw [ZCk];simp only [bool_to_prop,ZB8,ZCt,ZCu,ZCv,ZCw];omega))|skip)
 ·have g16:¬(65536:Int)≤(x:Int):=zo;have s8:shrI .u64 (x:Int) 8=((x/256:Nat):Int):=Zra x 8 zo;by_cases h8:256≤x
  ·have g8:(256:Int)≤(x:Int):=zo;rw [Go.Pol.bitsLen_256 h8];have hz:x/256 < 256:=zo;generalize x/256=z at *;rw [←Zn5];have b:=Zgg hz;refine pI func272 rfl ntmps272 results272 call272 ?_
   (repeat' (first|(apply Zrz (g:=len8) (n:=256) zk zk zo)|(with_reducible first|refine stp ?_|apply gx1|apply gx2|apply gx3|apply gx4|apply gx5|apply gx6|apply gx7)|(with_reducible refine Zcm ?_;intro _)|((with_reducible refine gE ?_);(try simp (disch:=omega) only [go_sem,n32,g16,s8,g8])<;>first|rfl|omega)|with_reducible refine Zak zd ?_))
   (all_goals (try simp (disch:=omega) only [go_sem,ZB4,ZB3,ZBv,ZBu,Int.reduceAdd,Int.reduceSub,Int.reduceToNat,ZB9]));(all_goals first|done|rfl|(congr 2;first|done|omega|(rw [ZCk];simp only [bool_to_prop,ZB8,ZCt,ZCu,ZCv,ZCw];omega))|skip)
  ·have g8:¬(256:Int)≤(x:Int):=zo;rw [←Zn5];have b:=Zgg (i:=x) zo;refine pI func272 rfl ntmps272 results272 call272 ?_
   (repeat' (first|(apply Zrz (g:=len8) (n:=256) zk zk zo)|(with_reducible first|refine stp ?_|apply gx1|apply gx2|apply gx3|apply gx4|apply gx5|apply gx6|apply gx7)|(with_reducible refine Zcm ?_;intro _)|((with_reducible refine gE ?_);(try simp (disch:=omega) only [go_sem,n32,g16,s8,g8])<;>first|rfl|omega)|with_reducible refine Zak zd ?_))
   (all_goals (try simp (disch:=omega) only [go_sem,ZB4,ZB3,ZBv,ZBu,Int.reduceAdd,Int.reduceSub,Int.reduceToNat,ZB9]));(all_goals first|done|rfl|(congr 2;first|done|omega|(rw [ZCk];simp only [bool_to_prop,ZB8,ZCt,ZCu,ZCv,ZCw];omega))|skip)
theorem bLen (x:Nat) (hx:x≤1000000000):Pure prog 227 [u64A x] (iv (Go.Sort.bitsLen x:Nat)):=by
 have c:=bLen64 x hx;generalize ((Go.Sort.bitsLen x:Nat):Int)=r at *;refine pI func227 rfl ntmps227 results227 call227 ?_
 (refine wkap w_t (w_1 c) (w_r 0) (w_s ?_);intros)
 all_goals exact gL
theorem Zm5 {x:Nat} (h:x≤1000000000):Go.Sort.bitsLen x≤30:=(Go.Sort.bitsLen_le_iff x 30).2 zo
attribute [local go_sem] Zah Zaq Zai Bool.and_self Zal Zba Za9
theorem Zxl (σ:Mem) (K:Nat) (sv:Value) (L:List Qt) (hK:σ K=some (.row sv 91 4 (L.map Qt.av) 0)) (hl:L.length≤1000000000):ACall prog 163 [.own K sv,.fn 164 []] σ λr σ'=>r=.tup []∧σ'=upd σ K (some (.row sv 91 4 ((srtQ Qt.cmp L).map Qt.av) 0)):=by
 refine Zjr (args':=[.own (K+1000) sv,.fn 164 []]) func163 rfl ntmps163 results163 call163 zr zs (.cons (Sub.own _ _ _) (.cons (Sub.refl _) .nil)) ?_;have hL:∀k,lent σ (k+1000)=σ k:=λk=>by unfold lent;rw [ZBu zo,ZFb]
 generalize lent σ=m0 at *;have m0K:m0 (K+1000)=some (.row sv 91 4 (L.map Qt.av) 0):=by rw [hL,hK]
 have cb:=bLen L.length hl;have hb:=Zm5 hl;have hml:(L.map Qt.av).length=L.length:=ZB2 ..;have ci:=fun(σ:Mem) h=>sqPdqK σ (K+1000) sv L (Go.Sort.bitsLen L.length) h hl zo;generalize (srtQ Qt.cmp L).map Qt.av=V at *;generalize Go.Sort.bitsLen L.length=lim at *;have ci:∀(σ:Mem),σ (K+1000)=some (.row sv 91 4 (L.map Qt.av) 0)→ACall prog 226 [.own (K+1000) sv,iv 0,iv L.length,iv lim,.fn 164 []] σ _:=ci;generalize L.map Qt.av=LA at *
 (refine wkap (w_2 m0K hml) (w_1 cb) (w_r 0) (w_s ?_);intros)
 refine Zgz (ci _ (by(simp (disch:=omega) only [go_sem,m0K]<;>repeat' first|rfl|refine⟨?_,?_⟩))) ?_
 (refine wkap w_t w_t (w_r 0) (w_s ?_);intros)
 simp (disch:=omega) only [go_sem];refine Zqs (Sub.refl _) ⟨rfl,rfl⟩ λk hk=>?_;by_cases e:k=K
 ·subst e;rw [Zan,ZBv rfl,Zan,ZBv rfl]
 ·rw [Zan,ZBu zo,Zan,ZBu e,hL]
theorem stSortN (σ:Mem) (K:Nat) (sv:Value) (L:List (Rat × List Qt)) (hK:σ K=some (.row sv 78 4 (L.map qtA) 0)) (hl:L.length≤1000000000) (hq:∀t∈L,t.2.length≤1000000) (hd:Dst L):ACall prog 197 [.own K sv,.fn 198 []] σ λr σ'=>r=.tup []∧σ'=upd σ K (some (.row sv 78 4 ((srtQ ordT L).map qtA) 0)):=by
 refine Zjr (args':=[.own (K+1000) sv,.fn 198 []]) func197 rfl ntmps197 results197 call197 zr zs (.cons (Sub.own _ _ _) (.cons (Sub.refl _) .nil)) ?_;have hL:∀k,lent σ (k+1000)=σ k:=λk=>by unfold lent;rw [ZBu zo,ZFb]
 generalize lent σ=m0 at *;have m0K:m0 (K+1000)=some (.row sv 78 4 (L.map qtA) 0):=by rw [hL,hK]
 have cb:=bLen L.length hl;have hb:=Zm5 hl;have hml:(L.map qtA).length=L.length:=ZB2 ..;have ci:=fun(σ:Mem) h=>stPdqK σ (K+1000) sv L (Go.Sort.bitsLen L.length) h hl hq hd zo;generalize (srtQ ordT L).map qtA=V at *;generalize Go.Sort.bitsLen L.length=lim at *;have ci:∀(σ:Mem),σ (K+1000)=some (.row sv 78 4 (L.map qtA) 0)→ACall prog 250 [.own (K+1000) sv,iv 0,iv L.length,iv lim,.fn 198 []] σ _:=ci;generalize L.map qtA=LA at *
 (refine wkap (w_2 m0K hml) (w_1 cb) (w_r 0) (w_s ?_);intros)
 refine Zgz (ci _ (by(simp (disch:=omega) only [go_sem,m0K]<;>repeat' first|rfl|refine⟨?_,?_⟩))) ?_
 (refine wkap w_t w_t (w_r 0) (w_s ?_);intros)
 simp (disch:=omega) only [go_sem];refine Zqs (Sub.refl _) ⟨rfl,rfl⟩ λk hk=>?_;by_cases e:k=K
 ·subst e;rw [Zan,ZBv rfl,Zan,ZBv rfl]
 ·rw [Zan,ZBu zo,Zan,ZBu e,hL]
def maxQ:Nat:=1000
theorem qSort (σ:Mem) (K:Nat) (sv:Value) (L:List Qt) (hK:σ K=some (.row sv 91 4 (L.map Qt.av) 0)) (hl:L.length≤maxQ):ACall prog 163 [.own K sv,.fn 164 []] σ λr σ'=>r=.tup []∧σ'=upd σ K (some (.row sv 91 4 ((srtQ Qt.cmp L).map Qt.av) 0)):=Zxl σ K sv L hK (by unfold maxQ at hl;omega)
theorem Zjf:maxQ≤1000:=by unfold maxQ;omega
theorem Zzs:12≤maxQ:=by unfold maxQ;omega
def maxT:Nat:=100000000
theorem Zuf:maxT=100000000:=rfl
theorem Zn1:maxT≤100000000:=by unfold maxT;omega
theorem Zzr:12≤maxT:=by unfold maxT;omega
theorem stSortT (σ:Mem) (K:Nat) (sv:Value) (L:List (Rat × List Qt)) (hK:σ K=some (.row sv 78 4 (L.map qtA) 0)) (hl:L.length≤maxT) (hq:∀t∈L,t.2.length≤1000000) (hd:Dst L):ACall prog 197 [.own K sv,.fn 198 []] σ λr σ'=>r=.tup []∧σ'=upd σ K (some (.row sv 78 4 ((srtQ ordT L).map qtA) 0)):=stSortN σ K sv L hK (by unfold maxT at hl;omega) hq hd
attribute [go_sem] underlying227 underlying164 underlying225 zSum zMap
attribute [local go_sem] Zas Zaw Zav Zo5 Zjx Zou Zo7 Za8
def mpN:QTs→Nat→List (MKey × AV)
 | [],_=>[]
 | t :: l,n=>(MKey.s (keyS t.2),iv n) :: mpN l (n+1)
abbrev mpE (T:QTs):List (MKey × AV):=mpN T 0
def B8 (T:QTs):Prop:=∀t∈T,∀q∈t.2,q.b8
theorem Zsa (s:ByteArray):∀(T:QTs) (n:Nat),Ze8 (.s s) (mpN T n)=true
 | [],_=>rfl
 | t :: T,n=>by
   show(MKey.like (.s s) (.s (keyS t.2)) && Ze8 (.s s) (mpN T (n+1)))=true;rw [Zsa s T (n+1)];rfl
theorem Zza (l:QTs) (t:Rat × List Qt):∀n,mpN (l++[t]) n=mpN l n++[(MKey.s (keyS t.2),iv ((n+l.length:Nat)))]:=by
 induction l with
 | nil=>intro n;rfl
 | cons a l ih =>
   intro n;show(MKey.s (keyS a.2),iv n) :: mpN (l++[t]) (n+1)=_;rw [ih];show _=(MKey.s (keyS a.2),iv n) :: (mpN l (n+1)++_);rw [show n+1+l.length=n+(a :: l).length by simp only [ZCd];omega]
theorem Zub {l m:QTs} (h:l.map (λt=>t.2)=m.map λt=>t.2):∀n,mpN l n=mpN m n:=by
 induction l generalizing m with
 | nil=>intro n;cases m with
   | nil=>rfl
   | cons b m=>simp at h
 | cons a l ih=>intro n;cases m with
   | nil=>simp at h
   | cons b m =>
     simp only [ZC1,List.cons.injEq] at h;show(MKey.s (keyS a.2),iv n) :: mpN l (n+1)=(MKey.s (keyS b.2),iv n) :: mpN m (n+1);rw [h.1,ih h.2]
theorem Zsb:∀{T:QTs} {p:List Qt} {i:Nat} (hi:i < T.length) (n:Nat),B8 T→(∀q∈p,q.b8)→T[i].2=p→(∀j (h:j < T.length),j < i→T[j].2≠p)→Zci (.s (keyS p)) (mpN T n)=some (iv ((n+i:Nat)))
 | [],p,i,hi,_,_,_,_,_=>by simp at hi
 | t :: T,p,0,hi,n,hb,hp,he,_=>by
   show(if MKey.s (keyS t.2)=MKey.s (keyS p) then _ else _)=_;have he:t.2=p:=he;rw [ZBv (by rw [he])];rfl
 | t :: T,p,i+1,hi,n,hb,hp,he,hn=>by
   show(if MKey.s (keyS t.2)=MKey.s (keyS p) then _ else Zci (.s (keyS p)) (mpN T (n+1)))=_;have h0:t.2≠p:=hn 0 zs zo;rw [ZBu (λh=>h0 (Zuk (hb t (.head _)) hp (by injection h))),Zsb (by simpa using hi) (n+1) (λu hu=>hb u (.tail _ hu)) hp he (λj h hj=>hn (j+1) (by simpa using h) zo)];rw [show n+1+i=n+(i+1) by omega]
theorem Zll:∀{T:QTs} {p:List Qt} (n:Nat),B8 T→(∀q∈p,q.b8)→(∀j (h:j < T.length),T[j].2≠p)→Zci (.s (keyS p)) (mpN T n)=none∧∀x,Zcq (.s (keyS p)) x (mpN T n)=mpN T n++[(MKey.s (keyS p),x)]
 | [],p,_,_,_,_=>⟨rfl,λ_=>rfl⟩
 | t :: T,p,n,hb,hp,hn=>by
   have h0:t.2≠p:=hn 0 zs;have hk:¬MKey.s (keyS t.2)=MKey.s (keyS p):=λh=>h0 (Zuk (hb t (.head _)) hp (by injection h));obtain⟨h1,h2⟩:=Zll (n+1) (λu hu=>hb u (.tail _ hu)) hp (λj h=>hn (j+1) (by simpa using h));refine⟨?_,λx=>?_⟩
   ·show(if MKey.s (keyS t.2)=MKey.s (keyS p) then _ else Zci (.s (keyS p)) (mpN T (n+1)))=_;rw [ZBu hk,h1]
   ·show(if MKey.s (keyS t.2)=MKey.s (keyS p) then _ else _ :: Zcq (.s (keyS p)) x (mpN T (n+1)))=_;rw [ZBu hk,h2];rfl
theorem ZBl:∀{T:QTs} {t:Rat × List Qt} {i:Nat} (hi:i < T.length),T[i].2=t.2→(∀j (h:j < T.length),j < i→T[j].2≠t.2)→addC T t=T.set i (T[i].1+t.1,T[i].2)
 | [],t,i,hi,_,_=>by simp at hi
 | s :: T,t,0,hi,he,_=>by
   have he:s.2=t.2:=he;show(if s.2=t.2 then _ else _)=_;rw [ZBv he];rfl
 | s :: T,t,i+1,hi,he,hn=>by
   show(if s.2=t.2 then _ else s :: addC T t)=_;have h0:s.2≠t.2:=hn 0 zs zo;rw [ZBu h0,ZBl (i:=i) (by simpa using hi) he (λj h hj=>hn (j+1) (by simpa using h) zo)];rfl
theorem ZBm:∀{T:QTs} {t:Rat × List Qt},(∀j (h:j < T.length),T[j].2≠t.2)→addC T t=T++[t]
 | [],t,_=>rfl
 | s :: T,t,hn=>by
   show(if s.2=t.2 then _ else s :: addC T t)=_;have h0:s.2≠t.2:=hn 0 zs;rw [ZBu h0,ZBm (λj h=>hn (j+1) (by simpa using h))];rfl
theorem Zuu (T:QTs) (p:List Qt):(∃i,∃h:i < T.length,T[i].2=p∧∀j (h:j < T.length),j < i→T[j].2≠p)∨∀j (h:j < T.length),T[j].2≠p:=by
 induction T with
 | nil=>exact .inr λj h=>by simp at h
 | cons t T ih =>
   by_cases h:t.2=p
   ·exact .inl ⟨0,by simp,h,λj _ hj=>zo⟩
   ·rcases ih with⟨i,hi,h1,h2⟩ | h2
    ·refine .inl ⟨i+1,by simpa using hi,h1,λj hj hji=>?_⟩
     cases j with
     | zero=>exact h
     | succ j=>exact h2 j (by simpa using hj) zo
    ·refine .inr λj hj=>?_
     cases j with
     | zero=>exact h
     | succ j=>exact h2 j (by simpa using hj)
theorem exNew (σ:Mem) (KB KM:Nat) (hne:KM≠KB):ACall prog 117 [] σ λr σ'=>∃g h,r=.pbox KB g 0∧σ'=upd (upd σ KM (some (.map h []))) KB (some (.box g 227 [.mp KM h,.v (.slice none 0 0)] false)):=by
 refine Zs4 (args':=[]) func117 rfl ntmps117 results117 call117 zr zs .nil ?_;have hL:∀k,lent σ (k+1000)=σ k:=λk=>by unfold lent;rw [ZBu zo,ZFb]
 generalize lent σ=m0 at *
 (refine wkap w_t w_t (w_r 0) (w_s ?_);intros)
 simp (disch:=omega) only [go_sem];rename_i h g;refine⟨.pbox KB g 0,_,λk=>if k=KB then 3 else if k=KM then 1 else k+1000,Sub.pbox _ _ _ _,⟨g,h,rfl,rfl⟩,λk e hk=>?_,λk k' _ _ he=>?_⟩
 ·by_cases h1:k=KB
  ·subst h1;rw [Zan,ZBv rfl] at hk;injection hk with hk
   subst hk;refine⟨.box g 227 [.mp 1 h,.v (.slice none 0 0)] false,by simp (disch:=omega) only [go_sem,ZBv];rfl,EntSub.box rfl (λx hx=>?_) λj a b ha hb=>?_⟩
   ·simp only [ZFi,List.not_mem_nil,or_false] at hx;rcases hx with rfl | rfl<;>rfl
   ·match j,ha,hb with
    | 0,ha,hb=>simp only [ZEv,Option.some.injEq] at ha hb;subst ha;subst hb;exact Sub.mp _ _ _
    | 1,ha,hb=>simp only [ZF0,ZEv,Option.some.injEq] at ha hb;subst ha;subst hb;exact Sub.refl _
    | j+2,ha,hb=>simp at ha
  ·rw [Zan,ZBu h1] at hk;simp only [ZBu h1];by_cases h2:k=KM
   ·subst h2;rw [Zan,ZBv rfl] at hk;injection hk with hk
    subst hk;simp only [ZC0];exact⟨.map h [],by simp (disch:=omega) only [go_sem,ZBv,ZBu],EntSub.refl _⟩
   ·rw [Zan,ZBu h2] at hk;simp only [ZBu h2];exact⟨e,by rw [←hk,←hL k];simp (disch:=omega) only [go_sem,ZBu],EntSub.refl _⟩
 ·simp only at he;split at he<;>split at he<;>(try split at he)<;>(try split at he)<;>first|omega|(subst_vars;rfl)
theorem exAdd (σ:Mem) (KB KM KT g h:Nat) (sv:Value) (T:QTs) (a:Rat) (p:List Qt) {j k:Nat} (hB:σ KB=some (.box g 227 [.mp KM h,.own KT sv] false)) (hM:σ KM=some (.map h (mpE T))) (hT:σ KT=some (.row sv 78 4 (T.map qtA) 0))
 (n1:KB≠KM) (n2:KB≠KT) (n3:KM≠KT) (hl:T.length≤100000000) (hp:p.length≤1000) (b1:B8 T) (b2:∀q∈p,q.b8) (hs:∀t∈T,Sz t.1 j) (ha:Sz a k) (hj:j≤1000000) (hk:k≤1000000) :
 ACall prog 118 [.pbox KB g 0,ratQ a,qsA p] σ λr σ'=>∃sv',r=.tup []∧σ'=upd (upd (upd σ KM (some (.map h (mpE (addC T (a,p)))))) KT (some (.row sv' 78 4 ((addC T (a,p)).map qtA) 0))) KB (some (.box g 227 [.mp KM h,.own KT sv'] false)):=by
 have mB:=Zay hB;have mM:=Zay hM;have mT:=Zay hT;simp only [Ent.sh,AV.shL,AV.sh] at mB mM mT;have ck:=exKey p hp;have hlT:(T.map qtA).length=T.length:=ZB2 ..;have hal:Ze8 (.s (keyS p)) (mpE T)=true:=Zsa _ T 0;rcases Zuu T p with⟨i,hi,he,hf⟩ | hf
 ·have hget:Zci (.s (keyS p)) (mpE T)=some (iv i):=by have:=Zsb hi 0 b1 b2 he hf;rwa [ZCl] at this
  have hadd:=ZBl (t:=(a,p)) hi he hf
  have hkeys:mpE (addC T (a,p))=mpE T:=by
   refine Zub ?_ 0;rw [hadd,List.map_set];show(T.map _).set i T[i].2=_;rw [←ZF9 (f:=λt:Rat × List Qt=>t.2) (h:=by rw [ZB2];exact hi)];exact List.set_getElem_self _
  have hgi:(T.map qtA).getD i .u=qtA T[i]:=Zam qtA hi;have hst:(T.map qtA).set i (qtA (T[i].1+a,T[i].2))=(addC T (a,p)).map qtA:=by rw [hadd,List.map_set]
  have ca:=Ztt T[i].1 a (hs _ (ZB7 hi)) ha zo zo;rw [hkeys];clear hs ha b1 b2 hf hadd hkeys;generalize T[i]=t at *;obtain⟨t1,t2⟩:=t;simp only at *;refine Zbc func118 rfl ntmps118 results118 call118 zr zs ?_;generalize hRR:(addC T (a,p)).map qtA=R at *;generalize T.map qtA=TA at *;generalize mpE T=es at *
  (refine wkad (w_9 mB mM mT @Zcd @Zcv hget hal hgi hlT) (w_2 ck ca) (w_1 (w_d 4 [(14,ratQ (t1+a))] [17] [])) (w_s ?_);intros)
  simp (disch:=omega) only [go_sem];have e1:upd σ KM (some (.map h es))=σ:=Zd9 hM;have e2:upd (upd σ KT (some (.row sv 78 4 R 0))) KB (some (.box g 227 [.mp KM h,.own KT sv] false))=upd σ KT (some (.row sv 78 4 R 0)):=Zd9 (by rw [Zan,ZBu n2];exact hB);refine Zik (Sub.refl _) ⟨sv,rfl,rfl⟩ ?_;rw [e1,e2];exact((Agr.start σ).own zo).put rfl (by rw [←hst];rfl)
 ·have hget:Zci (.s (keyS p)) (mpE T)=none:=(Zll 0 b1 b2 hf).1;have hput:∀x,Zcq (.s (keyS p)) x (mpE T)=mpE T++[(MKey.s (keyS p),x)]:=(Zll 0 b1 b2 hf).2;have hadd:=ZBm (t:=(a,p)) hf;have hmp:mpE (addC T (a,p))=mpE T++[(MKey.s (keyS p),iv T.length)]:=by rw [hadd];show mpN _ 0=_;rw [Zza,ZCl]
  have hrow:(addC T (a,p)).map qtA=T.map qtA++[.agg [.v (.bool (decide (a.num < 0))),lim (toL a.num.natAbs),lim (toL a.den),.sl 4 (p.map Qt.av)]]:=by rw [hadd,ZCp];rfl
  rw [hmp,hrow];clear hs ha b1 b2 hf hadd hmp hrow;refine Zbc func118 rfl ntmps118 results118 call118 zr zs ?_;generalize T.map qtA=TA at *;generalize mpE T=es at *
  (refine wkax (w_9 mB mM mT @Zcd @Zcv hget hal hput hlT) (w_1 ck) (w_2 (w_d 5 [] [10] []) (w_d 6 [] [9,2009,12] [])) w_t w_t w_t w_y (w_r 0) (w_s ?_);intros)
  simp (disch:=omega) only [go_sem];rename_i x1 x2 x3;refine Zik (Sub.refl _) ⟨x3,rfl,rfl⟩ ?_;refine Agr.put ?_ rfl rfl;refine Agr.put ?_ rfl rfl;refine Agr.own ?_ zo;refine Agr.put ?_ rfl rfl;refine Agr.own ?_ zo;exact Agr.start σ
def nzT (T:QTs):QTs:=T.filter λt=>decide (t.1≠0)
theorem nzT_y {T:QTs} {i:Nat} (h:i < T.length) (h0:T[i].1≠0):nzT (T.take (i+1))=nzT (T.take i)++[T[i]]:=by
 unfold nzT;rw [ZFu,ZB6 h,ZEz];show _++List.filter _ [T[i]]=_;rw [ZFc,ZBv (ZB4 h0)];rfl
theorem nzT_n {T:QTs} {i:Nat} (h:i < T.length) (h0:T[i].1=0):nzT (T.take (i+1))=nzT (T.take i):=by
 unfold nzT;rw [ZFu,ZB6 h,ZEz];show _++List.filter _ [T[i]]=_;rw [ZFc,ZBu (by simp [h0])];simp
theorem Zr0 (T:QTs):(nzT T).length≤T.length:=ZGm _ _
theorem exExpr (σ:Mem) (KB KM KT KP g h:Nat) (sv:Value) (T:QTs) {j n:Nat} (hB:σ KB=some (.box g 227 [.mp KM h,.own KT sv] false)) (hT:σ KT=some (.row sv 78 4 (T.map qtA) 0))
 (hl:T.length≤maxT) (hd:Dst T) (hs:QK T j n) (hj:j≤1000000) (hn:n≤1000000) :
 ACall prog 120 [.pbox KB g 0] σ λr σ'=>∃sv',r=.own KP sv'∧σ'=upd σ KP (some (.row sv' 78 4 ((srtQ ordT (nzT T)).map qtA) 0)):=by
 have hMT:=Zn1;have mB:=Zay hB;have mT:=Zay hT;simp only [Ent.sh,AV.shL,AV.sh] at mB mT;have hlT:(T.map qtA).length=T.length:=ZB2 ..;have hg:∀i (h:i < T.length),(T.map qtA).getD i .u=qtA T[i]:=λi h=>Zam qtA h;refine Zhc func120 rfl ntmps120 results120 call120 zr zs ?_;have hL:∀k,Zee σ (k+1000)=(σ k).map Ent.sh:=Agr.start σ;have h0:∀k,k < 1000→Zee σ k=none:=λk hk=>Zcd hk;generalize Zee σ=m0 at *;generalize T.map qtA=A at *
 (refine wkap (w_3 mB mT hlT) w_t (w_r 0) (w_s ?_);intros)
 refine Zfb (Frz.nilOwn (d:=3) 22 4 78 (gC)) ?_;refine Zad (ι:=Nat) (λi e m=>i≤T.length∧e 9=.own (KT+1000) sv∧e 10=iv T.length∧e 11=iv i∧m (KT+1000)=some (.row sv 78 4 A 0)∧(∀k,m (k+1000)=m0 (k+1000))∧∃sv,e 3=.own 22 sv∧m 22=some (.row sv 78 4 ((nzT (T.take i)).map qtA) 0)) (λi=>T.length - i) 0 zr ?_ ?_
 ·rintro i e m ⟨hi,e9,e10,e11,mT,hm,sv',e3,m22⟩
  have hol:((nzT (T.take i)).map qtA).length≤100000000:=by rw [ZB2];have:=Zr0 (T.take i);rw [ZCh] at this;omega
  by_cases hlt:i < T.length
  ·have hgi:=hg i hlt;have ms:=hs _ (ZB7 hlt);have hy:=nzT_y hlt;have hnn:=nzT_n hlt;clear hg hs;generalize T[i]=t at *;have cz:=Zdd t.1 ms.1 zo;by_cases hz:t.1=0
   ·have hnz:=hnn hz;clear hnn;have hz2:t.1.num.sign=0:=by rw [Zdv];exact hz
    rw [hz2] at cz;clear hy ms hz2;obtain⟨t1,t2⟩:=t;simp only at *;generalize hO:(nzT (T.take i)).map qtA=O at *;generalize t2.map Qt.av=S2 at *;generalize toL t1.num.natAbs=a at *;generalize toL t1.den=b at *
    (refine wkap (w_8 e9 e10 e11 mT e3 m22 hlT hgi) (w_1 cz) (w_r 0) (w_s ?_);intros)
    exact⟨i+1,⟨zo,gW e9,gW e10,gS,by(simp (disch:=omega) only [go_sem,mT]<;>repeat' first|rfl|refine⟨?_,?_⟩),λk=>by rw [←hm k];try simp (disch:=omega) [Zan,marks,mark],_,gW e3,by rw [hnz,hO];exact gW m22⟩,zo⟩
   ·have hy:=hy hz;have hz2:¬t.1.num.sign=0:=by rw [Zdv];exact hz
    have hmp:(nzT (T.take (i+1))).map qtA=(nzT (T.take i)).map qtA++[qtA t]:=by rw [hy,ZCp];rfl
    clear hnn ms hy;obtain⟨t1,t2⟩:=t;simp only at *;generalize t1.num.sign=z at *;generalize (nzT (T.take i)).map qtA=O at *;have hmp:(nzT (T.take (i+1))).map qtA=O++[.agg [.v (.bool (decide (t1.num < 0))),lim (toL t1.num.natAbs),lim (toL t1.den),.sl 4 (t2.map Qt.av)]]:=hmp;have hgi:A.getD i .u=.agg [.v (.bool (decide (t1.num < 0))),lim (toL t1.num.natAbs),lim (toL t1.den),.sl 4 (t2.map Qt.av)]:=hgi;have cz:Pure prog 18 [.agg [.v (.bool (decide (t1.num < 0))),lim (toL t1.num.natAbs),lim (toL t1.den)]] (iv z):=cz;generalize t2.map Qt.av=S2 at *;generalize toL t1.num.natAbs=a at *;generalize toL t1.den=b at *
    (refine wkap (w_9 e9 e10 e11 mT e3 m22 hlT hgi hz2) (w_1 cz) (w_r 0) (w_s ?_);intros)
    exact⟨i+1,⟨zo,gW e9,gW e10,gS,by(simp (disch:=omega) only [go_sem,mT]<;>repeat' first|rfl|refine⟨?_,?_⟩),λk=>by rw [←hm k];try simp (disch:=omega) [Zan,marks,mark],_,gC,by rw [hmp];exact gC⟩,zo⟩
  ·have hil:i=T.length:=zo;subst hil;rw [ZDg] at m22 hol;rw [ZB2] at hol;have hmem:∀t,t∈nzT T→t∈T:=λt ht=>(List.mem_filter.1 ht).1;have ci:=fun(m:Mem) h=>stSortT m 22 sv' (nzT T) h (by have:=Zr0 T;omega) (λt ht=>by have:=(hs t (hmem t ht)).2;omega) (hd.sublist List.filter_sublist);clear hg hs
   (refine wkap (w_7 e9 e10 e11 mT e3 m22 hlT) w_t (w_r 0) (w_s ?_);intros)
   refine Zgz (ci _ (gW m22)) ?_
   (refine wkap (w_1 e3) w_t (w_r 0) (w_s ?_);intros)
   simp (disch:=omega) only [go_sem];refine Zi6 (σ:=σ) (r:=.own KP sv') 22 KP zo (Sub.own _ _ _) ⟨sv',rfl,rfl⟩ ?_ ?_
   ·simp only [Zan,ZBv]
   ·intro k hk _;rw [Zan,ZBu zo,hm k,hL k,Zan,ZBu hk]
 ·exact⟨ZB5 _,gC,gC,gC,by(simp (disch:=omega) only [go_sem,mT]<;>repeat' first|rfl|refine⟨?_,?_⟩),λk=>by try simp (disch:=omega) [Zan,marks,mark],_,gC,gC⟩
attribute [go_sem] underlying275
theorem exGrow (σ:Mem) (KP n:Nat) (h0:0 < n) (hn:n≤2000000) :
 ACall prog 249 [.v (.slice none 0 0),iv n] σ λr σ'=>∃sv L,r=.view KP sv 4 0 0∧σ'=upd σ KP (some (.row sv 91 4 L 0)):=by
 refine Zhc func249 rfl ntmps249 results249 call249 zr zs ?_;have h1:¬((n:Nat):Int) < 0:=zo;have h2:(0:Int) < ((n:Nat):Int):=zo;have hm:∀k,Zee σ (k+1000)=(σ k).map Ent.sh:=λk=>by unfold Zee;rw [ZBu zo];rfl
 generalize Zee σ=m0 at *
 (refine wkap (w_2 h1 h2) w_t (w_r 0) (w_s ?_);intros)
 simp (disch:=omega) only [go_sem];rename_i sv;refine Zi6 (σ:=σ) (σ':=upd σ KP (some (.row sv 91 4 (List.replicate ((n:Int) - 0).toNat (.agg [iv 0,iv 0,iv 0,iv 0])) 0))) 22 KP zo (Sub.view _ _ _ _ _ _) ⟨_,_,rfl,rfl⟩ ?_ ?_
 ·simp only [Zan,ZBv]
 ·intro k hk _;rw [Zan,ZBu zo,hm k,Zan,ZBu hk]
theorem exGrow0:Pure prog 249 [.v (.slice none 0 0),iv 0] (.v (.slice none 0 0)):=by
 refine pI func249 rfl ntmps249 results249 call249 ?_
 (refine wkap w_t w_t (w_r 0) (w_s ?_);intros)
 all_goals exact gL
theorem exConcat (σ:Mem) (KC KP:Nat) (svc:Value) (A B:List AV) (hC:σ KC=some (.row svc 76 1 [.sl 4 A,.sl 4 B] 0)) (hk:KC≠KP) (ha:A.length≤1000000) (hb:B.length≤1000000) :
 ACall prog 196 [.own KC svc] σ λr σ'=>∃sv,r=.own KP sv∧σ'=upd σ KP (some (.row sv 91 4 (A++B) 0)):=by
 have mC:=Zay hC;simp only [Ent.sh,AV.shL,AV.sh] at mC;have hm:∀k,Zee σ (k+1000)=(σ k).map Ent.sh:=λk=>by unfold Zee;rw [ZBu zo];rfl
 refine Zhc func196 rfl ntmps196 results196 call196 zr zs ?_;generalize Zee σ=m0 at *;have h1:¬((A.length:Nat):Int) < 0:=zo;have h2:¬((A.length:Nat):Int)+(B.length:Int) < 0:=zo;have e1:(0:Int)+((A.length:Nat):Int)=(A.length:Int):=zo;have e2:((A.length:Nat):Int)+(B.length:Int)=((A.length+B.length:Nat):Int):=zo;by_cases hn:0 < A.length+B.length
 ·have cg:=fun(m:Mem)=>exGrow m 40 (A.length+B.length) hn zo
  (refine wkap (w_5 mC h1 h2 e1 e2) w_t (w_r 3) (w_s ?_);intros)
  refine Zds (cg _) ?_
  rintro _ _ ⟨sv,L,rfl,rfl⟩
  have hz:(L.take 0++A)=A:=rfl
  (refine wkap (w_2 mC hz) w_t (w_r 3) (w_s ?_);intros)
  simp (disch:=omega) only [go_sem];rename_i sv1 sv2;refine Zi6 (σ:=σ) (σ':=upd σ KP (some (.row sv2 91 4 (A++B) 0))) 40 KP zo (Sub.own _ _ _) ⟨_,rfl,rfl⟩ ?_ ?_
  ·simp (disch:=omega) only [go_sem,ZBv]
  ·intro k hk _;rw [show upd σ KP (some (.row sv2 91 4 (A++B) 0)) k=σ k from by rw [Zan,ZBu hk],←hm k];simp (disch:=omega) only [go_sem]
 ·have hA:A=[]:=List.length_eq_zero_iff.1 zo;have hB:B=[]:=List.length_eq_zero_iff.1 zo;subst hA hB;have cg:=exGrow0;have e4:((0:Nat):Int)+((0:Nat):Int)=0:=rfl;have e5:(0:Int)+((0:Nat):Int)=((0:Nat):Int):=rfl
  (refine wkap (w_3 mC e4 e5) w_t (w_r 3) (w_s ?_);intros)
  refine o_c cg rfl ?_
  (refine wkap (w_1 mC) w_t (w_r 0) (w_s ?_);intros)
  refine Zfb (Frz.nilOwn (d:=6) 40 4 91 (gC)) ?_
  (refine wkap (w_1 mC) w_t (w_r 3) (w_s ?_);intros)
  simp (disch:=omega) only [go_sem];rename_i sv1 sv2;refine Zi6 (σ:=σ) (σ':=upd σ KP (some (.row sv2 91 4 [] 0))) 40 KP zo (Sub.own _ _ _) ⟨_,rfl,rfl⟩ ?_ ?_
  ·simp (disch:=omega) only [go_sem,ZBv]
  ·intro k hk _;rw [show upd σ KP (some (.row sv2 91 4 [] 0)) k=σ k from by rw [Zan,ZBu hk],←hm k];simp (disch:=omega) only [go_sem]
abbrev muQ (a b:List Qt):List Qt:=srtQ Qt.cmp (a++b)
theorem exTimes (a b:List Qt) (hm:a.length+b.length≤maxQ):Pure prog 119 [qsA a,qsA b] (qsA (muQ a b)):=by
 have hM:=Zjf;have cs:=fun(m:Mem) (sv:Value) h=>qSort m 300 sv (a++b) h (by rw [ZCr];exact hm);have cc:=fun(m:Mem) (svc:Value) h=>exConcat m 8 300 svc (a.map Qt.av) (b.map Qt.av) h zo (by rw [ZB2];omega) (by rw [ZB2];omega);rw [←ZCp] at cc;show Pure _ _ [.sl 4 (a.map Qt.av),.sl 4 (b.map Qt.av)] (.sl 4 ((muQ a b).map Qt.av));generalize (muQ a b).map Qt.av=R at *;generalize (a++b).map Qt.av=AB at *;generalize a.map Qt.av=A at *;generalize b.map Qt.av=B at *;refine pI func119 rfl ntmps119 results119 call119 ?_
 (refine wkap w_t w_t (w_r 0) (w_s ?_);intros)
 refine Zds (cc _ _ (gC)) ?_
 rintro _ _ ⟨sv,rfl,rfl⟩
 (refine wkap w_t w_t (w_r 0) (w_s ?_);intros)
 refine Zgz (cs _ _ (gC)) ?_
 (refine wkap w_t w_t (w_r 0) (w_s ?_);intros)
 all_goals exact gL
end Go.Proofs.YtkefeinbjbeidaaGreatDoor
namespace Go.Proofs.YtkefeinbjbeidaaGreatDoor
attribute [-bool_to_prop] Bool.and_eq_decide Bool.or_eq_decide Bool.decide_beq_decide decide_eq_decide
section
open Go Go.RowKit Go.Pg
end
end Go.Proofs.YtkefeinbjbeidaaGreatDoor
namespace Go.Proofs.YtkefeinbjbeidaaGreatDoor
open Go Go.RowKit Go.Pg Go.Proofs.Tryz
attribute [-bool_to_prop] Bool.and_eq_decide Bool.or_eq_decide Bool.decide_beq_decide decide_eq_decide
theorem r_frzD {P:Program} {n:Nat} {Q:AE→St→Prop} {id:Nat} {ops:Array Oper} {st st':St} (h:Frz n st st') (k:Za4 P 0 n (.region id ops true) Q st'):Za4 P 0 n (.region id ops true) Q st:=λc a w imm hr=>by
 obtain⟨i,h1⟩:=h c a w imm hr;exact k c a w i h1
end Go.Proofs.YtkefeinbjbeidaaGreatDoor
namespace Go.Proofs.YtkefeinbjbeidaaGreatDoor
open Go Go.RowKit Go.Pg Go.Pol Go.Proofs.Tryz
attribute [-bool_to_prop] Bool.and_eq_decide Bool.or_eq_decide Bool.decide_beq_decide decide_eq_decide
attribute [local go_sem] Zas Zaw Zav Zah Zaq Zai Bool.and_self Zal Zba Za9 Zo5 Zjx Zou Zo7 Za8
theorem exAddO (σ:Mem) (KB KM KT KP g h:Nat) (sv svP:Value) (T:QTs) (a:Rat) (p:List Qt) {j k:Nat} (hB:σ KB=some (.box g 227 [.mp KM h,.own KT sv] false)) (hM:σ KM=some (.map h (mpE T))) (hT:σ KT=some (.row sv 78 4 (T.map qtA) 0)) (hP:σ KP=some (.row svP 91 4 (p.map Qt.av) 0)) (n4:KP≠KB) (n5:KP≠KM) (n6:KP≠KT)
 (n1:KB≠KM) (n2:KB≠KT) (n3:KM≠KT) (hl:T.length≤100000000) (hp:p.length≤1000) (b1:B8 T) (b2:∀q∈p,q.b8) (hs:∀t∈T,Sz t.1 j) (ha:Sz a k) (hj:j≤1000000) (hk:k≤1000000) :
 ACall prog 118 [.pbox KB g 0,ratQ a,.own KP svP] σ λr σ'=>∃sv' eP,r=.tup []∧σ'=upd (upd (upd (upd σ KP eP) KM (some (.map h (mpE (addC T (a,p)))))) KT (some (.row sv' 78 4 ((addC T (a,p)).map qtA) 0))) KB (some (.box g 227 [.mp KM h,.own KT sv'] false)):=by
 have mB:=Zay hB;have mM:=Zay hM;have mT:=Zay hT;have mP:=Zay hP;simp only [Ent.sh,AV.shL,AV.sh] at mB mM mT mP;have ck:=exKey p hp;have ck:Pure prog 195 [.sl 4 (p.map Qt.av)] (strA (keyS p)):=ck;have hlT:(T.map qtA).length=T.length:=ZB2 ..;have hal:Ze8 (.s (keyS p)) (mpE T)=true:=Zsa _ T 0;rcases Zuu T p with⟨i,hi,he,hf⟩ | hf
 ·have hget:Zci (.s (keyS p)) (mpE T)=some (iv i):=by have:=Zsb hi 0 b1 b2 he hf;rwa [ZCl] at this
  have hadd:=ZBl (t:=(a,p)) hi he hf
  have hkeys:mpE (addC T (a,p))=mpE T:=by
   refine Zub ?_ 0;rw [hadd,List.map_set];show(T.map _).set i T[i].2=_;rw [←ZF9 (f:=λt:Rat × List Qt=>t.2) (h:=by rw [ZB2];exact hi)];exact List.set_getElem_self _
  have hgi:(T.map qtA).getD i .u=qtA T[i]:=Zam qtA hi;have hst:(T.map qtA).set i (qtA (T[i].1+a,T[i].2))=(addC T (a,p)).map qtA:=by rw [hadd,List.map_set]
  have ca:=Ztt T[i].1 a (hs _ (ZB7 hi)) ha zo zo;rw [hkeys];clear hs ha b1 b2 hf hadd hkeys;generalize T[i]=t at *;obtain⟨t1,t2⟩:=t;simp only at *;refine Zbc func118 rfl ntmps118 results118 call118 zr zs ?_;generalize hRR:(addC T (a,p)).map qtA=R at *;generalize T.map qtA=TA at *;generalize mpE T=es at *;generalize hPA:p.map Qt.av=PA at *
  (repeat' (first|(with_reducible first|refine stp ?_|apply gx1|apply gx2|apply gx3|apply gx4|apply gx5|apply gx6|apply gx7|apply gy8|apply gz2|apply gz3|apply gw2 (ck)|refine gw0 (ca) ?_ ?_|refine gw3 (ca) ?_ ?_ ?_)|(with_reducible refine Zcm ?_;intro _)|((with_reducible refine gE ?_);(try simp (disch:=omega) only [go_sem,mB,mM,mT,mP,Zcd,Zcv,hget,hal,hgi,hlT,ZB4,ZB3,ZBv,ZBu,Int.reduceAdd,Int.reduceSub,Int.reduceToNat,ZB9])<;>first|rfl|omega)|with_reducible refine Zak zd ?_|((with_reducible apply gy1);iterate 3 focus rfl)|((with_reducible apply gy2);iterate 3 focus rfl)|((with_reducible apply gy3);iterate 2 focus rfl)|((with_reducible apply gy4);iterate 1 focus rfl)|((with_reducible apply gy5);iterate 4 focus rfl)|((with_reducible apply gy5c);iterate 4 focus rfl)|((with_reducible apply gy6);iterate 4 focus rfl)|((with_reducible apply Zjm);iterate 3 focus rfl)|((with_reducible apply Zjd);iterate 1 focus rfl)|((with_reducible apply gy7);iterate 1 focus rfl)|((with_reducible apply gy9);(focus ((with_reducible refine gE ?_);(try simp (disch:=omega) only [go_sem,mB,mM,mT,mP,Zcd,Zcv,hget,hal,hgi,hlT,ZB4,ZB3,ZBv,ZBu,Int.reduceAdd,Int.reduceSub,Int.reduceToNat,ZB9])<;>rfl)))|((with_reducible apply gz1);(focus first|rfl|(simp (disch:=omega) only [go_sem,mB,mM,mT,mP,Zcd,Zcv,hget,hal,hgi,hlT,ZB4,ZB3,ZBv,ZBu,Int.reduceAdd,Int.reduceSub,Int.reduceToNat,ZB9];done)))|((with_reducible apply Zcp (id:=4) (Zfc [(14,ratQ (t1+a))]) [17] []);(focus kernel_rfl);(focus rfl);(focus kernel_rfl);(focus (simp only [ZCd,ZCq,Nat.reduceAdd];rfl)))|((with_reducible first|apply Zev|apply Zi4|apply Zex);all_goals (intro hc;(try simp only [bool_to_prop] at hc);try (exfalso;omega)))))
  simp (disch:=omega) only [go_sem];have e1:upd σ KM (some (.map h es))=σ:=Zd9 hM;have e2:upd (upd σ KT (some (.row sv 78 4 R 0))) KB (some (.box g 227 [.mp KM h,.own KT sv] false))=upd σ KT (some (.row sv 78 4 R 0)):=Zd9 (by rw [Zan,ZBu n2];exact hB);refine Zik (Sub.refl _) ⟨sv,some (.row svP 91 4 PA 0),rfl,rfl⟩ ?_;have e0:upd σ KP (some (.row svP 91 4 PA 0))=σ:=Zd9 hP;rw [e0,e1,e2];exact((Agr.start σ).own zo).put rfl (by rw [←hst];rfl)
 ·have hget:Zci (.s (keyS p)) (mpE T)=none:=(Zll 0 b1 b2 hf).1;have hput:∀x,Zcq (.s (keyS p)) x (mpE T)=mpE T++[(MKey.s (keyS p),x)]:=(Zll 0 b1 b2 hf).2;have hadd:=ZBm (t:=(a,p)) hf;have hmp:mpE (addC T (a,p))=mpE T++[(MKey.s (keyS p),iv T.length)]:=by rw [hadd];show mpN _ 0=_;rw [Zza,ZCl]
  have hrow:(addC T (a,p)).map qtA=T.map qtA++[.agg [.v (.bool (decide (a.num < 0))),lim (toL a.num.natAbs),lim (toL a.den),.sl 4 (p.map Qt.av)]]:=by rw [hadd,ZCp];rfl
  rw [hmp,hrow];clear hs ha b1 b2 hf hadd hmp hrow;refine Zbc func118 rfl ntmps118 results118 call118 zr zs ?_;generalize T.map qtA=TA at *;generalize mpE T=es at *;generalize hPA:p.map Qt.av=PA at *
  (repeat' (first|(with_reducible first|refine stp ?_|apply gx1|apply gx2|apply gx3|apply gx4|apply gx5|apply gx6|apply gx7|apply gy8|apply gz2|apply gz3|apply gw2 (ck))|(with_reducible refine Zcm ?_;intro _)|((with_reducible refine gE ?_);(try simp (disch:=omega) only [go_sem,mB,mM,mT,mP,Zcd,Zcv,hget,hal,hput,hlT,ZB4,ZB3,ZBv,ZBu,Int.reduceAdd,Int.reduceSub,Int.reduceToNat,ZB9])<;>first|rfl|omega)|with_reducible refine Zak zd ?_|((with_reducible apply gy1);iterate 3 focus rfl)|((with_reducible apply gy2);iterate 3 focus rfl)|((with_reducible apply gy3);iterate 2 focus rfl)|((with_reducible apply gy4);iterate 1 focus rfl)|((with_reducible apply gy5);iterate 4 focus rfl)|((with_reducible apply gy5c);iterate 4 focus rfl)|((with_reducible apply gy6);iterate 4 focus rfl)|((with_reducible apply Zjm);iterate 3 focus rfl)|((with_reducible apply Zjd);iterate 1 focus rfl)|((with_reducible apply gy7);iterate 1 focus rfl)|((with_reducible apply gy9);(focus ((with_reducible refine gE ?_);(try simp (disch:=omega) only [go_sem,mB,mM,mT,mP,Zcd,Zcv,hget,hal,hput,hlT,ZB4,ZB3,ZBv,ZBu,Int.reduceAdd,Int.reduceSub,Int.reduceToNat,ZB9])<;>rfl)))|((with_reducible apply gz1);(focus first|rfl|(simp (disch:=omega) only [go_sem,mB,mM,mT,mP,Zcd,Zcv,hget,hal,hput,hlT,ZB4,ZB3,ZBv,ZBu,Int.reduceAdd,Int.reduceSub,Int.reduceToNat,ZB9];done)))|((with_reducible apply Zcp (id:=4) (Zfc []) [] []);(focus kernel_rfl);(focus rfl);(focus kernel_rfl);(focus (simp only [ZCd,ZCq,Nat.reduceAdd];rfl)))|((with_reducible first|apply Zev|apply Zi4|apply Zex);all_goals (intro hc;(try simp only [bool_to_prop] at hc);try (exfalso;omega)))))
  refine r_frzD (Frz.own (d:=2) (k:=KP+1000) (sv:=svP) (ty:=91) (mm:=4) (es:=PA) (pub:=0) (gC) (by(simp (disch:=omega) only [go_sem,mP]<;>repeat' first|rfl|refine⟨?_,?_⟩))) ?_
  (refine wkax (w_10 mB mM mT mP @Zcd @Zcv hget hal hput hlT) w_t (w_2 (w_d 5 [] [10] []) (w_d 6 [] [9,2009,12] [])) w_t w_t w_t w_y (w_r 0) (w_s ?_);intros)
  simp (disch:=omega) only [go_sem];rename_i x1 x2 x3;refine Zik (Sub.refl _) ⟨x3,some (.row svP 91 4 PA PA.length),rfl,rfl⟩ ?_;refine Agr.put ?_ rfl rfl;refine Agr.put ?_ rfl rfl;refine Agr.own ?_ zo;refine Agr.put ?_ rfl rfl;rw [mP];refine Agr.put ?_ rfl rfl;refine Agr.own ?_ zo;exact Agr.start σ
def nsP (l:List Qt):List Qt:=l.map λq=>q.norm.1
abbrev accS (L:QTs):QTs:=L.foldl addC []
theorem sgP_ne {l:List Qt} (h:sgP l≠0):∀q∈l,q.norm.2≠0:=by
 have key:∀(l:List Qt) (s:Int),l.foldl (λs q=>s*q.norm.2) s≠0→s≠0∧∀q∈l,q.norm.2≠0:=by
  intro l
  induction l with
  | nil=>intro s h;exact⟨h,λq hq=>by cases hq⟩
  | cons a l ih =>
    intro s h;obtain⟨h1,h2⟩:=ih _ h;have ha:a.norm.2≠0:=λe=>h1 (by show s*a.norm.2=0;rw [e,Int.mul_zero]);have hs:s≠0:=λe=>h1 (by show s*a.norm.2=0;rw [e,Int.zero_mul]);exact⟨hs,λq hq=>by rcases List.mem_cons.1 hq with rfl | hq;exact ha;exact h2 q hq⟩
 exact(key l 1 h).2
theorem Zxk {l:List Qt} (h:sgP l≠0):srtQ Qt.cmp (nsP l)=putP l:=by
 unfold putP;rw [Zqe qtO];congr 1;unfold nzP nsP;rw [List.filter_eq_self.2 λq hq=>ZB4 (sgP_ne h q hq)]
theorem norm_b8 {q:Qt} (h:q.ok=true):q.norm.1.b8:=by
 have hb:=ok_b8 h;unfold Qt.b8 at hb;unfold Qt.norm Zek Zfp;rw [ZBv h]
 repeat' split
 all_goals (unfold Qt.b8;simp only;omega)
theorem Zyj {l:List Qt} (h:l.all Qt.ok=true):∀q∈putP l,q.b8:=by
 intro q hq;unfold putP at hq;have:=(Zfq (cmp:=Qt.cmp) (nzP l) []).mem_iff.1 hq;rw [ZDf] at this;unfold nzP at this;obtain⟨x,hx,rfl⟩:=List.mem_map.1 this;exact norm_b8 (List.all_eq_true.1 h x (List.mem_filter.1 hx).1)
theorem Zl5 (L:QTs) (t:Rat × List Qt):accS (L++[t])=addC (accS L) t:=by unfold accS;rw [ZGe];rfl
theorem Zvc (l:QTs) (t:Rat × List Qt):(addC l t).length≤l.length+1:=by
 induction l with
 | nil=>exact ZBw _
 | cons s l ih=>unfold addC;split<;>simp only [ZCd]<;>omega
theorem Zot {l:QTs} {t u:Rat × List Qt} (h:u∈addC l t):u∈l∨u=t∨∃s∈l,u=(s.1+t.1,s.2):=by
 induction l with
 | nil=>exact .inr (.inl (List.mem_singleton.1 h))
 | cons s l ih =>
   unfold addC at h;split at h
   ·rcases List.mem_cons.1 h with rfl | h
    ·exact .inr (.inr ⟨s,.head _,rfl⟩)
    ·exact .inl (.tail _ h)
   ·rcases List.mem_cons.1 h with rfl | h
    ·exact .inl (.head _)
    ·rcases ih h with h | h | ⟨v,hv,e⟩
     ·exact .inl (.tail _ h)
     ·exact .inr (.inl h)
     ·exact .inr (.inr ⟨v,.tail _ hv,e⟩)
structure AccOk (S:QTs) (i j n:Nat):Prop where
 len:S.length≤i
 b8:B8 S
 qk:QK S (i*(j+2)) n
theorem AccOk.nil (j n:Nat):AccOk [] 0 j n:=⟨ZBw _,λt ht=>by(cases ht),λt ht=>by(cases ht)⟩
theorem AccOk.mono {S:QTs} {i k j n:Nat} (h:AccOk S i j n) (hk:i≤k):AccOk S k j n:=⟨ZB1 h.len hk,h.b8,h.qk.mono (ZCf _ hk) (ZBw _)⟩
theorem AccOk.add {S:QTs} {i j n:Nat} (h:AccOk S i j n) {t:Rat × List Qt} (h1:Sz t.1 j) (h2:t.2.length≤n) (h3:∀q∈t.2,q.b8):AccOk (addC S t) (i+1) j n:=by
 have e:(i+1)*(j+2)=i*(j+2)+(j+2):=ZDt _ _;refine⟨ZB1 (Zvc S t) (by have:=h.len;omega),λu hu=>?_,λu hu=>?_⟩
 ·rcases Zot hu with hu | rfl | ⟨s,hs,rfl⟩
  ·exact h.b8 u hu
  ·exact h3
  ·exact h.b8 s hs
 ·rcases Zot hu with hu | rfl | ⟨s,hs,rfl⟩
  ·exact⟨(h.qk u hu).1.mono zo,(h.qk u hu).2⟩
  ·exact⟨h1.mono zo,h2⟩
  ·exact⟨((h.qk s hs).1.add h1).mono zo,(h.qk s hs).2⟩
theorem acc_fin (L:QTs):srtQ ordT (nzT (accS (nzT L)))=gatM L:=by
 have h1:srtQ ordT (nzT (accS (nzT L)))=Go.Pol.sumC ordQ (nzT L):=rfl;rw [h1,Znf Zbo];refine Zjc Zbo.ko (Znd Zbo _) (Znd Zbo _) λx=>?_;rw [Zne Zbo,Zne Zbo];exact Zm3 L x
theorem Zmn {z:Int} (h:z=-1∨z=0∨z=1):Pure prog 27 [iv z] (ratQ (z:Rat)):=by
 rcases h with rfl | rfl | rfl
 ·exact ratOfM
 ·exact Zpg 0 zo
 ·exact Zpg 1 zo
theorem Zuv (l:List RE) {J JA nQ:Nat} (hl:l.length≤1000000) (hr:∀t∈l,t.r.lm J) (hq:∀t∈l,t.q.length≤nQ) (hnQ:nQ≤maxQ) (hJ:J≤900000) (hJA:JA≤1000000)
 (hA:∀i,i≤l.length→(l.take i).all RE.ok=true→QK (accS (nzT ((l.take i).map RE.t))) JA nQ∧B8 (accS (nzT ((l.take i).map RE.t)))∧(accS (nzT ((l.take i).map RE.t))).length≤maxT):Pure prog 100 [.sl 4 (l.map RE.av)] (nrmR l):=by
 have hMq0:=Zjf;have hMT:=Zn1;have hlm:(l.map RE.av).length=l.length:=ZB2 ..;have hg:∀i (h:i < l.length),(l.map RE.av).getD i .u=RE.av l[i]:=λi h=>Zam RE.av h;generalize l.map RE.av=A at *;refine pI func100 rfl ntmps100 results100 call100 ?_
 (refine wkad w_t w_t w_t (w_s ?_);intros)
 refine Zds (exNew _ 200 201 zo) ?_
 rintro _ _ ⟨g,h,rfl,rfl⟩
 (refine wkad (w_1 hlm) w_t w_t (w_s ?_);intros)
 refine Zfb (Frz.nilBox (k:=200) 1 202 4 78 (gC) rfl zo) ?_;refine Zad (ι:=Nat) (λi e m=>i≤l.length∧(l.take i).all RE.ok=true∧e 3=.pbox 200 g 0∧m 201=some (.map h (mpE (accS (nzT ((l.take i).map RE.t)))))∧(∃sv,m 200=some (.box g 227 [.mp 201 h,.own 202 sv] false)∧m 202=some (.row sv 78 4 ((accS (nzT ((l.take i).map RE.t))).map qtA) 0))∧e 13=.sl 4 A∧e 14=iv l.length∧e 15=iv i) (λi=>l.length - i) 0 zr ?_ ?_
 ·rintro i e m ⟨hi,ha,e3,m201,⟨sv,m200,m202⟩,e13,e14,e15⟩
  have hacc:=hA i hi ha;by_cases hlt:i < l.length
  ·have hgi:=hg i hlt;have hri:=hr _ (ZB7 hlt);have hqi:=hq _ (ZB7 hlt);have hta:(l.take (i+1)).map RE.t=(l.take i).map RE.t++[l[i].t]:=by rw [ZFu,ZB6 hlt,ZCp];rfl
   have hok:=Zl4 (p:=RE.ok) hlt ha;have hbr:RE.ok l[i]=false→nrmR l=.v (.slice none 0 0):=λh=>by unfold nrmR;rw [Zva (p:=RE.ok) hlt h];rfl
   have hny:(l[i].t).1≠0→accS (nzT ((l.take (i+1)).map RE.t))=addC (accS (nzT ((l.take i).map RE.t))) l[i].t:=λh=>by
    rw [hta];unfold nzT;rw [ZEz];rw [show List.filter (λt:Rat × List Qt=>decide (t.1≠0)) [l[i].t]=[l[i].t] from by rw [ZFc,ZBv (ZB4 h)];rfl];exact Zl5 _ _
   have hnn:(l[i].t).1=0→accS (nzT ((l.take (i+1)).map RE.t))=accS (nzT ((l.take i).map RE.t)):=λh=>by
    rw [hta];unfold nzT;rw [ZEz];rw [show List.filter (λt:Rat × List Qt=>decide (t.1≠0)) [l[i].t]=[] from by rw [ZFc,ZBu (by simp [h])];rfl,ZDf]
   clear hg hr hq ha hta;generalize l[i]=t at *;generalize hNR:nrmR l=NR at *;generalize accS (nzT ((l.take i).map RE.t))=S at *;obtain⟨r,q⟩:=t;simp only at hri hqi;have hgi:A.getD i .u=.agg [.v (.bool r.s),lim r.l,lim r.d,.sl 4 (q.map Qt.av)]:=hgi;have crq:=Zrh r ⟨hri.1,hri.2.1,by have:=hri.2.2.1;omega,by have:=hri.2.2.2;omega⟩;have crq:Pure prog 62 [.agg [.v (.bool r.s),lim r.l,lim r.d]] (.v (.bool r.ok)):=crq
   cases hro:r.ok with
   | false =>
     rw [hro] at crq;rw [hbr (by unfold RE.ok;rw [hro];rfl)];clear hbr hok hny hnn hacc;obtain⟨s,x,d⟩:=r;simp only at *;generalize q.map Qt.av=Q at *
     (refine wkad (w_9 e3 m200 m201 m202 e13 e14 e15 hlm hgi) (w_1 crq) w_t (w_s ?_);intros)
     all_goals exact gL
   | true =>
     rw [hro] at crq;have hz:=(RQ.ok_av hri hro).2;have hre:=RQ.ok_eq hri hro;have hqm:(q.map Qt.av).length=q.length:=ZB2 ..;have hgq:∀k (h:k < q.length),(q.map Qt.av).getD k .u=Qt.av q[k]:=λk h=>Zam Qt.av h;have hbq:∀k (h:k < q.length),Qt.ok q[k]=false→NR=.v (.slice none 0 0):=λk h h2=>hbr (by unfold RE.ok;rw [Zva (p:=Qt.ok) h h2,ZGa]);have hqk:q.all Qt.ok=true→RE.ok ⟨r,q⟩=true:=λh=>by unfold RE.ok;rw [hro,h];rfl
     have het1:(RE.t ⟨r,q⟩).1=r.q*(sgP q:Rat):=rfl;have het:RE.t ⟨r,q⟩=(r.q*(sgP q:Rat),putP q):=rfl;rw [het] at hny;rw [het1] at hnn;clear het het1 hbr;generalize hx:r.q=x at *;subst hre;clear hro;simp only at *;generalize hQ:q.map Qt.av=Q at *
     (refine wkad (w_10 e3 m200 m201 m202 e13 e14 e15 hlm hgi hqm) (w_1 crq) w_t (w_s ?_);intros)
     rename_i g5 g6 s28;clear crq;have hw0:x*((sgP (q.take 0):Int):Rat)=x:=by show x*((1:Int):Rat)=x;exact ZGc x
     refine Zad (ι:=Nat) (λk e m=>k≤q.length∧(q.take k).all Qt.ok=true∧(e 3=.pbox 200 g 0∧m 201=some (.map h (mpE S))∧m 200=some (.box g 227 [.mp 201 h,.own 202 sv] false)∧m 202=some (.row sv 78 4 (S.map qtA) 0))∧(e 13=.sl 4 A∧e 14=iv l.length∧e 15=iv i)∧(e 30=.sl 4 Q∧e 31=iv q.length∧e 32=iv k)∧(e 6=.pbox 6 g6 0∧m 6=some (.box g6 28 [.v (.bool (decide ((x*((sgP (q.take k):Int):Rat)).num < 0))),lim (toL (x*((sgP (q.take k):Int):Rat)).num.natAbs),lim (toL (x*((sgP (q.take k):Int):Rat)).den)] false))∧∃sv,e 7=.own 28 sv∧m 28=some (.row sv 91 4 ((nsP (q.take k)).map Qt.av) 0)) (λk=>q.length - k) 0 zr ?_ ?_
     ·rintro k e m ⟨hk,hak,⟨e3,m201,m200,m202⟩,⟨e13,e14,e15⟩,⟨e30,e31,e32⟩,⟨e6,m6⟩,s7,e7,m28⟩
      have hwz:Sz (x*((sgP (q.take k):Int):Rat)) (J+1):=hz.mul (Zvr (sgP_sg _));have hnl:((nsP (q.take k)).map Qt.av).length=k:=by unfold nsP;rw [ZB2,ZB2,ZCh];omega
      by_cases hkt:k < q.length
      ·have hgk:=hgq k hkt;have hok2:=Zl4 (p:=Qt.ok) hkt hak;have hbk:=hbq k hkt;have htk:q.take (k+1)=q.take k++[q[k]]:=by rw [ZFu,ZB6 hkt];rfl
       have s1:x*((sgP (q.take (k+1)):Int):Rat)=x*((sgP (q.take k):Int):Rat)*(q[k].norm.2:Rat):=by rw [htk,sgP_snoc,Rat.intCast_mul,Rat.mul_assoc]
       have s2:(nsP (q.take (k+1))).map Qt.av=(nsP (q.take k)).map Qt.av++[Qt.av q[k].norm.1]:=by rw [htk];unfold nsP;rw [ZCp,ZCp];rfl
       have hns:=Zib q[k];have c1:=Zlc q[k].k q[k].a q[k].b q[k].c;have c2:=Zyh q[k].k q[k].a q[k].b q[k].c;have c3:=Zmn hns;have c4:=Zyb _ _ hwz (Zvr hns) zo zo;have c4:Pure prog 51 [.agg [.v (.bool (decide ((x*((sgP (q.take k):Int):Rat)).num < 0))),lim (toL (x*((sgP (q.take k):Int):Rat)).num.natAbs),lim (toL (x*((sgP (q.take k):Int):Rat)).den)],ratQ (q[k].norm.2:Rat)] (ratQ (x*((sgP (q.take k):Int):Rat)*(q[k].norm.2:Rat))):=c4;rw [←s1] at c4;clear hgq hbq hqk hny hnn hok htk hak s1 hwz;generalize q[k]=y at *;generalize hW1:x*((sgP (q.take (k+1)):Int):Rat)=w1 at *;generalize x*((sgP (q.take k):Int):Rat)=w0 at *
       generalize (nsP (q.take k)).map Qt.av=PR at *;generalize toL w0.num.natAbs=wn at *;generalize toL w0.den=wd at *;generalize decide (w0.num < 0)=ws at *;generalize S.map qtA=SA at *;generalize mpE S=SM at *;generalize hn1:y.norm.1=nn at *;generalize hn2:y.norm.2=ns at *;obtain⟨y1,y2,y3,y4⟩:=y;simp only at *
       cases hyo:Qt.ok ⟨y1,y2,y3,y4⟩with
       | false =>
         rw [hyo] at c1;rw [hbk hyo];clear s2 c2 c3 c4 hok2 hbk
         (refine wkad (w_16 e3 m200 m201 m202 e13 e14 e15 e30 e31 e32 e6 m6 e7 m28 hqm hgk) (w_1 c1) w_t (w_s ?_);intros)
         all_goals exact gL
       | true =>
         rw [hyo] at c1;have hok3:=hok2 hyo;clear hbk hok2;obtain⟨n1,n2,n3,n4⟩:=nn
         (refine wkad (w_17 e3 m200 m201 m202 e13 e14 e15 e30 e31 e32 e6 m6 e7 m28 hqm hgk hnl) (w_4 c1 c2 c3 c4) (w_1 (w_d 15 [(2,ratQ (ns:Rat)),(3,ratQ w1)] [4] [])) (w_s ?_);intros)
         exact⟨k+1,⟨zo,hok3,⟨gW e3,gW m201,gW m200,gW m202⟩,⟨gW e13,gW e14,gW e15⟩,⟨gW e30,gW e31,gS⟩,⟨gW e6,by rw [hW1];exact gC⟩,_,gC,by rw [s2];exact gC⟩,zo⟩
      ·have hkl:k=q.length:=zo;subst hkl;rw [ZDg] at hak m6 m28 hwz;have hok3:=hok (hqk hak);clear hgq hbq hqk hok;have cz:=Zdd _ hwz zo;generalize hW:x*((sgP q:Int):Rat)=w at *;have cz:Pure prog 18 [.agg [.v (.bool (decide (w.num < 0))),lim (toL w.num.natAbs),lim (toL w.den)]] (iv w.num.sign):=cz;by_cases hw:w=0
       ·have hnn:=hnn hw;have hz2:w.num.sign=0:=by rw [Zdv];exact hw
        rw [hz2] at cz;clear hny hz2;rw [←hnn] at m201 m202;generalize toL w.num.natAbs=wn at *;generalize toL w.den=wd at *;generalize decide (w.num < 0)=ws at *
        (refine wkad (w_15 e3 m200 m201 m202 e13 e14 e15 e30 e31 e32 e6 m6 e7 m28 hqm) (w_1 cz) w_t (w_s ?_);intros)
        exact⟨i+1,⟨zo,hok3,gW e3,gW m201,⟨sv,gW m200,gW m202⟩,gW e13,gW e14,gS⟩,zo⟩
       ·have hny:=hny hw;have hz2:¬w.num.sign=0:=by rw [Zdv];exact hw
        have hsg:sgP q≠0:=λe=>hw (by rw [←hW,e];exact ZGd x);have hsr:=Zxk hsg;have hpl:=Zty q;have hbb:=Zyj hak;have hSl:=hacc.2.2;have hSq:=λt ht=>(hacc.1 t ht).1;have hSb:=hacc.2.1;have hMq:=Zjf;have ci:=fun(m:Mem) h=>qSort m 28 s7 (nsP q) h (by unfold nsP;rw [ZB2];exact(show q.length≤maxQ by omega));rw [hsr] at ci;clear hnn hsg hak hacc;have cad:=fun(m:Mem) a b c d=>exAddO m 200 201 202 28 g h sv s7 S w (putP q) a b c d zo zo zo zo zo zo zo zo hSb hbb hSq hwz zo zo;rw [←hny] at cad;have cad:∀(m:Mem),m 200=some (.box g 227 [.mp 201 h,.own 202 sv] false)→m 201=some (.map h (mpE S))→m 202=some (.row sv 78 4 (S.map qtA) 0)→m 28=some (.row s7 91 4 ((putP q).map Qt.av) 0)→ACall prog 118 [.pbox 200 g 0,.agg [.v (.bool (decide (w.num < 0))),lim (toL w.num.natAbs),lim (toL w.den)],.own 28 s7] m _:=cad
        generalize w.num.sign=z at *;generalize toL w.num.natAbs=wn at *;generalize toL w.den=wd at *;generalize decide (w.num < 0)=ws at *
        (refine wkad (w_16 e3 m200 m201 m202 e13 e14 e15 e30 e31 e32 e6 m6 e7 m28 hqm hz2) (w_1 cz) w_t (w_s ?_);intros)
        refine Zgz (ci _ (gW m28)) ?_
        (refine wkad (w_11 e3 m200 m201 m202 e13 e14 e15 e6 m6 e7 hqm) w_t w_t (w_s ?_);intros)
        refine Zds (cad _ (gW m200) (gW m201) (gW m202) (gC)) ?_
        rintro _ _ ⟨sv2,eP,rfl,rfl⟩
        (refine wkad (w_4 e3 e13 e14 e15) w_t w_t (w_s ?_);intros)
        exact⟨i+1,⟨zo,hok3,gW e3,gC,⟨sv2,gC,gC⟩,gW e13,gW e14,gS⟩,zo⟩
     ·exact⟨ZB5 _,rfl,⟨gW e3,gW m201,gW m200,gW m202⟩,⟨gW e13,gW e14,gW e15⟩,⟨gC,gW hqm,gC⟩,⟨gC,by rw [hw0];exact gC⟩,_,gC,gC⟩
  ·have hil:i=l.length:=zo;subst hil;have hacc:=hA l.length (ZBw _) ha;rw [ZDg] at ha hacc m201 m202;have hfin:nrmR l=.sl 4 ((srtQ ordT (nzT (accS (nzT (l.map RE.t))))).map qtA):=by unfold nrmR;rw [ZBv ha,acc_fin]
   have hlen:=hacc.2.2;have hMq:=Zjf;have ce:=fun(m:Mem) a b=>exExpr m 200 201 202 300 g h sv (accS (nzT (l.map RE.t))) a b zo (Zfr _ [] .nil) hacc.1 zo zo;rw [hfin];clear hg hr hq ha hacc hfin;generalize accS (nzT (l.map RE.t))=S at *;generalize (srtQ ordT (nzT S)).map qtA=R at *
   (refine wkad (w_8 e3 m200 m201 m202 e13 e14 e15 hlm) w_t w_t (w_s ?_);intros)
   refine Zg0 (ce _ (gW m200) (gW m202)) ?_;intro sv3
   (refine wkad w_t w_t w_t (w_s ?_);intros)
   all_goals exact gL
 ·refine⟨ZB5 _,rfl,gC,gC,⟨_,gC,gC⟩,gC,gW hlm,gC⟩
theorem ZBo (l:List RE) {J:Nat} (hr:∀t∈l,t.r.lm J) (hq:∀t∈l,t.q.length≤12):∀i,i≤l.length→(l.take i).all RE.ok=true→AccOk (accS (nzT ((l.take i).map RE.t))) i (J+1) 12
 | 0,_,_=>AccOk.nil _ _
 | i+1,hi,ha=>by
   have hlt:i < l.length:=hi;have hta:l.take (i+1)=l.take i++[l[i]]:=by rw [ZEe hlt]
   rw [hta,List.all_append,ZCm] at ha;have ih:=ZBo l hr hq i zo ha.1;have hok:RE.ok l[i]=true:=by have:=ha.2;simpa using this
   have hri:=hr _ (ZB7 hlt);have hqi:=hq _ (ZB7 hlt);rw [hta,ZCp];unfold nzT at *;rw [ZEz];unfold RE.ok at hok;rw [ZCm] at hok;by_cases h0:(RE.t l[i]).1=0
   ·rw [ZC1,ZDv,ZFd (by simpa using h0),List.filter_nil,ZDf];exact ih.mono zo
   ·rw [ZC1,ZDv,ZFe (by simpa using h0),List.filter_nil,Zl5];exact ih.add (((RQ.ok_av hri hok.1).2).mul (Zvr (sgP_sg _))) (ZB1 (Zty _) hqi) (Zyj hok.2)
theorem exNorm (l:List RE) {J:Nat} (hl:l.length≤12) (hr:∀t∈l,t.r.lm J) (hq:∀t∈l,t.q.length≤12) (hJ:J≤1000):Pure prog 100 [.sl 4 (l.map RE.av)] (nrmR l) :=
 Zuv l (J:=J) (JA:=12*(J+1+2)) (nQ:=12) zo hr hq Zzs zo zo λi hi ha=>by
  have h:=ZBo l hr hq i hi ha;have h2:i*(J+1+2)≤12*(J+1+2):=ZCf _ zo;exact⟨h.qk.mono h2 (ZBw _),h.b8,by have:=h.len;have:=Zzr;omega⟩
theorem exNormG (l:List RE) {J JA nQ:Nat} (hl:l.length≤1000000) (hr:∀t∈l,t.r.lm J) (hq:∀t∈l,t.q.length≤nQ) (hnQ:nQ≤maxQ) (hJ:J≤900000) (hJA:JA≤1000000)
 (hA:∀i,i≤l.length→(l.take i).all RE.ok=true→QK (accS (nzT ((l.take i).map RE.t))) JA nQ∧B8 (accS (nzT ((l.take i).map RE.t)))∧(accS (nzT ((l.take i).map RE.t))).length≤100000000):Pure prog 100 [.sl 4 (l.map RE.av)] (nrmR l) :=
 Zuv l hl hr hq hnQ hJ hJA λi hi ha=>by have h:=hA i hi ha;exact⟨h.1,h.2.1,by rw [Zuf];exact h.2.2⟩
attribute [local go_sem] List.append_eq
theorem ratNegN (a:Rat) {k:Nat} (h:Sz a k) (hk:k≤1000000) (h0:a.num < 0):Pure prog 109 [ratQ a] (.agg [.v (.bool false),lim (toL a.num.natAbs),lim (toL a.den)]):=by
 have cp:=Zgc a h zo;have h1:=h.1;have h2:=h.2;have cr:=Zfx false a.num.natAbs a.den zo zo a.den_nz
 have e:mkRat (zI false a.num.natAbs) a.den=-a:=by
  rw [show zI false a.num.natAbs=-a.num from by simp only [zI];simp;omega,←Rat.neg_mkRat,ZFt]
 have e2:absR a=-a:=by unfold absR;rw [ZBv h0]
 rw [e,←e2,Zs5] at cr;have e3:ratQ a=.agg [.v (.bool true),lim (toL a.num.natAbs),lim (toL a.den)]:=by unfold ratQ;rw [ZB4 h0]
 have e4:intZ a.num=.agg [.v (.bool true),lim (toL a.num.natAbs)]:=by unfold intZ intA;rw [ZB4 h0]
 have e5:intA false a.num.natAbs=.agg [.v (.bool false),lim (toL a.num.natAbs)]:=rfl;rw [e3,e4] at cp;rw [e5] at cr;rw [e3];clear e e2 e3 e4 e5;refine pI func109 rfl ntmps109 results109 call109 ?_
 (refine wkvp w_t (w_2 cp cr) (w_s ?_);intros)
 simp (disch:=omega) only [go_sem]
theorem Zcj {α:Type} {l:List α} {i:Nat} {d:α} (h:i < l.length):l.getD i d=l[i]:=by
 rw [ZCb,ZB6 h];rfl
theorem exTerm (a:Rat) (p:List Qt) (ss:List ByteArray) (hl:ss.length≤1000000000) (hs:∀s∈ss,s.size≤1000) (hp:p.length≤1000) {k:Nat} (ha:Sz a k) (hk:k≤1000000) :
 Pure prog 60 [qtA (a,p),.sl 1 (ss.map strA)] (if chkP ss.length p=0 then .tup [strA (tTxt ss (a,p)),iv 0] else .tup [strA ⟨#[]⟩,iv (chkP ss.length p)]):=by
 have cs:=Zdd a ha zo;have cn:=ratNegN a ha hk;have cx:=ratText (absR a) (Zil ha) hk;have c1:Pure prog 27 [iv 1] (ratQ 1):=Zpg 1 zo;have ce:=ratEqual (absR a) 1 (Zil ha) (k:=1) ⟨by show(toL 1).length≤1;rw [Zed];omega,by show(toL 1).length≤1;rw [Zed];omega⟩ hk zo;have hz:=Zlv (Zil ha);have hpl:(p.map Qt.av).length=p.length:=ZB2 ..;have hq:∀i (h:i < p.length),(p.map Qt.av).getD i .u=Qt.av p[i]:=λi h=>Zam Qt.av h;have hx:tTxt ss (a,p)=tS ss p (if p.length≠0∧absR a=1 then ⟨#[]⟩ else decQ (absR a)) p.length:=rfl;have e0:decide (a.num.sign < 0)=decide (a.num < 0):=by rw [ZBx];exact Int.sign_neg_iff
 rw [Zs5] at cx ce;rw [hx,show qtA (a,p)=.agg [.v (.bool (decide (a.num < 0))),lim (toL a.num.natAbs),lim (toL a.den),.sl 4 (p.map Qt.av)] from rfl];have hne:(ratQ a)=.agg [.v (.bool (decide (a.num < 0))),lim (toL a.num.natAbs),lim (toL a.den)]:=rfl;rw [hne] at cs cn;have hng:decide (a.num < 0)=true→a.num < 0:=ZHc;have cn:=λh=>cn (hng h);generalize decide (a.num < 0)=sg at *;clear hng;generalize toL a.num.natAbs=An at *;generalize toL a.den=Ad at *;generalize hS:a.num.sign=sn at *;generalize decQ (absR a)=D at *;clear hS hx hne;have hemp:(⟨#[]⟩:ByteArray).size=0:=rfl;generalize hPA:p.map Qt.av=PA at *
 generalize hX:decide (absR a=1)=x at *;have hb:p.length=0→p=[]:=List.length_eq_zero_iff.1;have q1:∀c,chkP ss.length p=c→chkP ss.length p=c:=λ_ h=>h;have cq:∀i (h:i < p.length),Pure prog 112 [Qt.av p[i],.sl 1 (ss.map strA)] (if Qt.chk p[i] ss.length 64=0 then .tup [strA (p[i].txt ss),iv 0] else .tup [strA ⟨#[]⟩,iv (Qt.chk p[i] ss.length 64)]):=λi h=>quText p[i].k p[i].a p[i].b p[i].c ss hl hs;generalize ss.map strA=N at *;generalize hR:(if chkP ss.length p=0 then AV.tup [strA (tS ss p (if p.length≠0∧absR a=1 then ⟨#[]⟩ else D) p.length),iv 0] else .tup [strA ⟨#[]⟩,iv (chkP ss.length p)])=R at *
 refine pI func60 rfl ntmps60 results60 call60 ?_
 (refine wkvp w_t (w_1 cs) (w_s ?_);intros)
 refine r_cgX (λe m=>e 1=.sl 1 N∧(∃g2,e 2=.pbox 2 g2 0∧m 2=some (.box g2 78 [.v (.bool sg),lim An,lim Ad,.sl 4 PA] false))∧∃g6,e 6=.pbox 6 g6 0∧m 6=some (.box g6 28 [.v (.bool false),lim An,lim Ad] false)) ?_ ?_
 ·rw [e0]
  cases sg with
  | true =>
    have cn:=cn rfl;refine c_t ?_
    (refine wkad w_t (w_1 cn) w_t (w_s ?_);intros)
    exact⟨rfl,gC,⟨_,gC,gC⟩,_,gC,gC⟩
  | false =>
    refine c_f ?_
    (refine wkad w_t w_t w_t (w_s ?_);intros)
    exact⟨rfl,gC,⟨_,gC,gC⟩,_,gC,gC⟩
 ·rintro e m ⟨e1,⟨g2,e2,m2⟩,g6,e6,m6⟩
  by_cases hp0:p.length=0
  ·obtain rfl:=hb hp0;have hR:AV.tup [strA D,iv 0]=R:=hR;have hpl:PA.length=0:=hpl;rw [←hR]
   (refine wkax (w_7 e1 e2 m2 e6 m6 hpl @ZDp) (w_1 cx) (w_1 (w_d 5 [] [] [])) w_t w_t w_t w_y (w_r 1) (w_s ?_);intros)
   all_goals exact gL
  ·have hpp:0 < p.length:=ZDl hp0
   have hsx:(if p.length≠0∧absR a=1 then ⟨#[]⟩ else D:ByteArray)=if x=true then ⟨#[]⟩ else D:=by
    by_cases h1:absR a=1
    ·rw [ZBv ⟨hp0,h1⟩,ZBv (by rw [←hX];exact ZB4 h1)]
    ·rw [ZBu (λh=>h1 h.2),ZBu (by rw [←hX,ZB3 h1];decide)]
   rw [hsx] at hR;clear hsx;clear hX hb
   (repeat' (first|(with_reducible first|refine stp ?_|apply gx1|apply gx2|apply gx3|apply gx4|apply gx5|apply gx6|apply gx7|apply gy8|apply gz2|apply gz3|refine gw0 (cx) ?_ ?_|refine gw3 (cx) ?_ ?_ ?_|refine gw0 (c1) ?_ ?_|refine gw3 (c1) ?_ ?_ ?_|refine gw0 (ce) ?_ ?_|refine gw3 (ce) ?_ ?_ ?_)|(with_reducible refine Zcm ?_;intro _)|((with_reducible refine gE ?_);(try simp (disch:=omega) only [go_sem,e1,e2,m2,e6,m6,hpl])<;>first|rfl|omega)|with_reducible refine Zak zd ?_|((with_reducible apply gy1);iterate 3 focus rfl)|((with_reducible apply gy2);iterate 3 focus rfl)|((with_reducible apply gy3);iterate 2 focus rfl)|((with_reducible apply gy4);iterate 1 focus rfl)|((with_reducible apply gy5);iterate 4 focus rfl)|((with_reducible apply gy5c);iterate 4 focus rfl)|((with_reducible apply gy6);iterate 4 focus rfl)|((with_reducible apply Zjm);iterate 3 focus rfl)|((with_reducible apply Zjd);iterate 1 focus rfl)|((with_reducible apply gy7);iterate 1 focus rfl)|((with_reducible apply gy9);(focus ((with_reducible refine gE ?_);(try simp (disch:=omega) only [go_sem,e1,e2,m2,e6,m6,hpl])<;>rfl)))|((with_reducible apply gz1);(focus first|rfl|(simp (disch:=omega) only [go_sem,e1,e2,m2,e6,m6,hpl];done)))|((with_reducible apply Zcp (id:=5) (Zfc [(6,ratQ 1),(7,.v (.bool x))]) [] []);(focus kernel_rfl);(focus rfl);(focus kernel_rfl);(focus (simp only [ZCd,ZCq,Nat.reduceAdd];rfl)))))
   refine r_cgX (λe m=>e 1=.sl 1 N∧(e 2=.pbox 2 g2 0∧m 2=some (.box g2 78 [.v (.bool sg),lim An,lim Ad,.sl 4 PA] false))∧e 7=strA (if x=true then ⟨#[]⟩ else D)) ?_ ?_
   ·cases x with
    | true =>
      refine c_t ?_
      (refine wkad (w_3 e1 e2 m2) w_t w_t (w_s ?_);intros)
      exact⟨rfl,gW e1,⟨gW e2,gW m2⟩,gC⟩
    | false =>
      refine c_f ?_;exact⟨rfl,gW e1,⟨gW e2,gW m2⟩,gC⟩
   ·have hz2:(if x=true then ⟨#[]⟩ else D:ByteArray).size≤10*k+4:=by split;(rw [hemp];omega);exact hz
    clear hz cs cn c1 ce e0 cx;generalize (if x=true then ⟨#[]⟩ else D:ByteArray)=s0 at *;clear e1 e2 m2 e6 m6
    rintro e m ⟨e1,⟨e2,m2⟩,e7⟩
    (refine wkad (w_5 e1 e2 m2 e7 hpl) w_t w_t (w_s ?_);intros)
    refine Zad (ι:=Nat) (λi e m=>i≤p.length∧(e 1=.sl 1 N∧e 31=.sl 4 PA∧e 32=iv p.length∧e 33=iv i)∧e 7=strA (tS ss p s0 i)∧∀j (h:j < p.length),j < i→Qt.chk p[j] ss.length 64=0) (λi=>p.length - i) 0 zr ?_ ?_
    ·rintro i e m ⟨hi,⟨e1,e31,e32,e33⟩,e7,hc⟩
     by_cases hlt:i < p.length
     ·have cqi:=cq i hlt;have hqi:=hq i hlt;have hsz:=Zq4 (s0:=s0) hs zo hc;by_cases hch:Qt.chk p[i] ss.length 64=0
      ·rw [ZBv hch] at cqi;have ht:=Zsw ss hs hch;have hnx:tS ss p s0 (i+1)=(if (tS ss p s0 i).size=0 then tS ss p s0 i else tS ss p s0 i++⟨#[42]⟩)++p[i].txt ss:=by rw [←Zcj (d:=Qt.zero) hlt];rfl
       have hpo:0 < i→0 < (tS ss p s0 i).size:=Zxb ss p s0 i;have hc2:∀j (h:j < p.length),j < i+1→Qt.chk p[j] ss.length 64=0:=λj h hj=>by
        rcases ZCg j i with h1 | h1
        ·exact hc j h h1
        ·have:j=i:=zo;subst this;exact hch
       have h42:(⟨#[42]⟩:ByteArray).size=1:=rfl;have h43:=ZCn (a:=tS ss p s0 i) (b:=⟨#[42]⟩);have qe:Qt.av p[i]=.agg [iv p[i].k,iv p[i].a,iv p[i].b,iv p[i].c]:=rfl;rw [qe] at cqi hqi;clear hc hch;generalize p[i].txt ss=T at *;generalize tS ss p s0 i=S at *;generalize p[i].k=qk at *;generalize p[i].a=qa at *;generalize p[i].b=qb at *;generalize p[i].c=qc at *;by_cases hS:S.size=0
       ·have hi0:decide ((0:Int) < (i:Int))=false:=ZB3 zo;have hSz:=ZB4 hS;rw [ZBv hS] at hnx
        (refine wkad (w_10 e1 e31 e32 e33 e7 hpl hqi @Zeh hi0 hSz) (w_1 cqi) w_t (w_s ?_);intros)
        exact⟨i+1,⟨zo,⟨gW e1,gW e31,gW e32,gS⟩,by rw [hnx];exact gC,hc2⟩,zo⟩
       ·have hSz:=ZB3 hS;rw [ZBu hS] at hnx;by_cases hi0:i=0
        ·have hi0:decide ((0:Int) < (i:Int))=false:=ZB3 zo
         (refine wkad (w_12 e1 e31 e32 e33 e7 hpl hqi @Zeh hi0 hSz h42 h43) (w_1 cqi) w_t (w_s ?_);intros)
         exact⟨i+1,⟨zo,⟨gW e1,gW e31,gW e32,gS⟩,by rw [hnx];exact gC,hc2⟩,zo⟩
        ·have hi0:decide ((0:Int) < (i:Int))=true:=ZB4 zo
         (refine wkad (w_11 e1 e31 e32 e33 e7 hpl hqi @Zeh hi0 h42 h43) (w_1 cqi) w_t (w_s ?_);intros)
         exact⟨i+1,⟨zo,⟨gW e1,gW e31,gW e32,gS⟩,by rw [hnx];exact gC,hc2⟩,zo⟩
      ·rw [ZBu hch] at cqi;have hat:=Zsx hlt hc hch;rw [hat,ZBu hch] at hR;have qe:Qt.av p[i]=.agg [iv p[i].k,iv p[i].a,iv p[i].b,iv p[i].c]:=rfl;rw [qe] at cqi hqi;generalize Qt.chk p[i] ss.length 64=ch at *;generalize p[i].k=qk at *;generalize p[i].a=qa at *;generalize p[i].b=qb at *;generalize p[i].c=qc at *;rw [←hR]
       (refine wkad (w_7 e1 e31 e32 e33 e7 hpl hqi) (w_1 cqi) w_t (w_s ?_);intros)
       all_goals exact gL
     ·have:i=p.length:=zo;subst this;rw [ZBv (Zon λj h=>hc j h h)] at hR;rw [←hR]
      (refine wkad (w_6 e1 e31 e32 e33 e7 hpl) w_t w_t (w_s ?_);intros)
      all_goals exact gL
    ·exact⟨ZB5 _,⟨gW e1,gC,gW hpl,gC⟩,gW e7,λj h hj=>zo⟩
theorem rxTerm (a:Rat) (p:List Qt) (ss:List ByteArray) (hl:ss.length≤1000000000) (hs:∀s∈ss,s.size≤1000) (hp:p.length≤1000) {k:Nat} (ha:Sz a k) (hk:k≤1000000) :
 Pure prog 88 [qtA (a,p),.sl 1 (ss.map strA)] (if chkP ss.length p=0 then .tup [strA (tTxt ss (a,p)),iv 0] else .tup [strA ⟨#[]⟩,iv (chkP ss.length p)]):=by
 have cx:=qText (absR a) (Zil ha) hk;have c1:Pure prog 39 [iv 1] (ratQ 1):=qOf 1 zo;have ce:=qEqual (absR a) 1 (Zil ha) (k:=1) ⟨by show(toL 1).length≤1;rw [Zed];omega,by show(toL 1).length≤1;rw [Zed];omega⟩ hk zo;have hz:=Zlv (Zil ha);have hpl:(p.map Qt.av).length=p.length:=ZB2 ..;have hq:∀i (h:i < p.length),(p.map Qt.av).getD i .u=Qt.av p[i]:=λi h=>Zam Qt.av h;have hx:tTxt ss (a,p)=tS ss p (if p.length≠0∧absR a=1 then ⟨#[]⟩ else decQ (absR a)) p.length:=rfl;rw [Zs5] at cx ce;rw [hx,show qtA (a,p)=.agg [.v (.bool (decide (a.num < 0))),lim (toL a.num.natAbs),lim (toL a.den),.sl 4 (p.map Qt.av)] from rfl]
 generalize decide (a.num < 0)=sg at *;generalize toL a.num.natAbs=An at *;generalize toL a.den=Ad at *;generalize decQ (absR a)=D at *;clear hx;have hemp:(⟨#[]⟩:ByteArray).size=0:=rfl;generalize hPA:p.map Qt.av=PA at *;generalize hX:decide (absR a=1)=x at *;have hb:p.length=0→p=[]:=List.length_eq_zero_iff.1;have cq:∀i (h:i < p.length),Pure prog 146 [Qt.av p[i],.sl 1 (ss.map strA)] (if Qt.chk p[i] ss.length 64=0 then .tup [strA (p[i].txt ss),iv 0] else .tup [strA ⟨#[]⟩,iv (Qt.chk p[i] ss.length 64)]):=λi h=>rqText p[i].k p[i].a p[i].b p[i].c ss hl hs;generalize ss.map strA=N at *;generalize hR:(if chkP ss.length p=0 then AV.tup [strA (tS ss p (if p.length≠0∧absR a=1 then ⟨#[]⟩ else D) p.length),iv 0] else .tup [strA ⟨#[]⟩,iv (chkP ss.length p)])=R at *
 refine pI func88 rfl ntmps88 results88 call88 ?_;by_cases hp0:p.length=0
 ·obtain rfl:=hb hp0;have hR:AV.tup [strA D,iv 0]=R:=hR;have hpl:PA.length=0:=hpl;rw [←hR];(focus (refine wkax (w_2 hpl @ZDp) (w_1 cx) (w_1 (w_d 4 [] [] [])) w_t w_t w_t w_y (w_r 1) ?_;(repeat' first|exact w_t|apply w_l);all_goals intros));all_goals exact gL
 ·have hpp:0 < p.length:=ZDl hp0
  have hsx:(if p.length≠0∧absR a=1 then ⟨#[]⟩ else D:ByteArray)=if x=true then ⟨#[]⟩ else D:=by
   by_cases h1:absR a=1
   ·rw [ZBv ⟨hp0,h1⟩,ZBv (by rw [←hX];exact ZB4 h1)]
   ·rw [ZBu (λh=>h1 h.2),ZBu (by rw [←hX,ZB3 h1];decide)]
  rw [hsx] at hR;clear hsx hX hb
  (repeat' (first|(with_reducible first|refine stp ?_|apply gx1|apply gx2|apply gx3|apply gx4|apply gx5|apply gx6|apply gx7|apply gy8|apply gz2|apply gz3|refine gw0 (c1) ?_ ?_|refine gw3 (c1) ?_ ?_ ?_|refine gw0 (ce) ?_ ?_|refine gw3 (ce) ?_ ?_ ?_)|(with_reducible refine Zcm ?_;intro _)|((with_reducible refine gE ?_);(try simp (disch:=omega) only [go_sem,hpl])<;>first|rfl|omega)|with_reducible refine Zak zd ?_|((with_reducible apply gy1);iterate 3 focus rfl)|((with_reducible apply gy2);iterate 3 focus rfl)|((with_reducible apply gy3);iterate 2 focus rfl)|((with_reducible apply gy4);iterate 1 focus rfl)|((with_reducible apply gy5);iterate 4 focus rfl)|((with_reducible apply gy5c);iterate 4 focus rfl)|((with_reducible apply gy6);iterate 4 focus rfl)|((with_reducible apply Zjm);iterate 3 focus rfl)|((with_reducible apply Zjd);iterate 1 focus rfl)|((with_reducible apply gy7);iterate 1 focus rfl)|((with_reducible apply gy9);(focus ((with_reducible refine gE ?_);(try simp (disch:=omega) only [go_sem,hpl])<;>rfl)))|((with_reducible apply gz1);(focus first|rfl|(simp (disch:=omega) only [go_sem,hpl];done)))|((with_reducible apply Zcp (id:=4) (Zfc [(6,ratQ 1),(7,.v (.bool x))]) [] []);(focus kernel_rfl);(focus rfl);(focus kernel_rfl);(focus (simp only [ZCd,ZCq,Nat.reduceAdd];rfl)))))
  refine r_cgX (λe m=>e 1=.sl 1 N∧(∃g2,e 2=.pbox 2 g2 0∧m 2=some (.box g2 78 [.v (.bool sg),lim An,lim Ad,.sl 4 PA] false))∧e 7=strA (if x=true then ⟨#[]⟩ else D)) ?_ ?_
  ·cases x with
   | true =>
     refine c_f ?_;exact⟨rfl,gC,⟨_,gC,gC⟩,gC⟩
   | false =>
     refine c_t ?_;(focus (refine wkad w_t (w_1 cx) w_t ?_;(repeat' first|exact w_t|apply w_l);all_goals intros));exact⟨rfl,gC,⟨_,gC,gC⟩,gC⟩
  ·have hz2:(if x=true then ⟨#[]⟩ else D:ByteArray).size≤10*k+4:=by split;(rw [hemp];omega);exact hz
   clear hz c1 ce cx;generalize (if x=true then ⟨#[]⟩ else D:ByteArray)=s0 at *
   rintro e m ⟨e1,⟨g2,e2,m2⟩,e7⟩
   (focus (refine wkad (w_5 e1 e2 m2 e7 hpl) w_t w_t ?_;(repeat' first|exact w_t|apply w_l);all_goals intros));refine Zad (ι:=Nat) (λi e m=>i≤p.length∧(e 1=.sl 1 N∧e 2=.pbox 2 g2 0∧m 2=some (.box g2 78 [.v (.bool sg),lim An,lim Ad,.sl 4 PA] false)∧e 8=iv i)∧e 7=strA (tS ss p s0 i)∧∀j (h:j < p.length),j < i→Qt.chk p[j] ss.length 64=0) (λi=>p.length - i) 0 zr ?_ ?_
   ·rintro i e m ⟨hi,⟨e1,e2,m2,e8⟩,e7,hc⟩
    by_cases hlt:i < p.length
    ·have cqi:=cq i hlt;have hqi:=hq i hlt;have hsz:=Zq4 (s0:=s0) hs zo hc;by_cases hch:Qt.chk p[i] ss.length 64=0
     ·rw [ZBv hch] at cqi;have ht:=Zsw ss hs hch;have hnx:tS ss p s0 (i+1)=(if (tS ss p s0 i).size=0 then tS ss p s0 i else tS ss p s0 i++⟨#[42]⟩)++p[i].txt ss:=by rw [←Zcj (d:=Qt.zero) hlt];rfl
      have hpo:0 < i→0 < (tS ss p s0 i).size:=Zxb ss p s0 i;have hc2:∀j (h:j < p.length),j < i+1→Qt.chk p[j] ss.length 64=0:=λj h hj=>by
       rcases ZCg j i with h1 | h1
       ·exact hc j h h1
       ·have:j=i:=zo;subst this;exact hch
      have h42:(⟨#[42]⟩:ByteArray).size=1:=rfl;have h43:=ZCn (a:=tS ss p s0 i) (b:=⟨#[42]⟩);have qe:Qt.av p[i]=.agg [iv p[i].k,iv p[i].a,iv p[i].b,iv p[i].c]:=rfl;rw [qe] at cqi hqi;clear hc hch;generalize p[i].txt ss=T at *;generalize tS ss p s0 i=S at *;generalize p[i].k=qk at *;generalize p[i].a=qa at *;generalize p[i].b=qb at *;generalize p[i].c=qc at *;by_cases hS:S.size=0
      ·have hi0:decide ((0:Int) < (i:Int))=false:=ZB3 zo;have hSz:=ZB4 hS;rw [ZBv hS] at hnx;(focus (refine wkad (w_10 e1 e2 m2 e8 e7 hpl hqi @Zeh hi0 hSz) (w_1 cqi) w_t ?_;(repeat' first|exact w_t|apply w_l);all_goals intros));exact⟨i+1,⟨zo,⟨gW e1,gW e2,gW m2,gS⟩,by rw [hnx];exact gC,hc2⟩,zo⟩
      ·have hSz:=ZB3 hS;rw [ZBu hS] at hnx;(focus (refine wkad (w_11 e1 e2 m2 e8 e7 hpl hqi @Zeh hSz h42 h43) (w_1 cqi) w_t ?_;(repeat' first|exact w_t|apply w_l);all_goals intros));exact⟨i+1,⟨zo,⟨gW e1,gW e2,gW m2,gS⟩,by rw [hnx];exact gC,hc2⟩,zo⟩
     ·rw [ZBu hch] at cqi;have hat:=Zsx hlt hc hch;rw [hat,ZBu hch] at hR;have qe:Qt.av p[i]=.agg [iv p[i].k,iv p[i].a,iv p[i].b,iv p[i].c]:=rfl;rw [qe] at cqi hqi;generalize Qt.chk p[i] ss.length 64=ch at *;generalize p[i].k=qk at *;generalize p[i].a=qa at *;generalize p[i].b=qb at *;generalize p[i].c=qc at *;rw [←hR];(focus (refine wkad (w_7 e1 e2 m2 e8 e7 hpl hqi) (w_1 cqi) w_t ?_;(repeat' first|exact w_t|apply w_l);all_goals intros));all_goals exact gL
    ·have:i=p.length:=zo;subst this;rw [ZBv (Zon λj h=>hc j h h)] at hR;rw [←hR];(focus (refine wkad (w_6 e1 e2 m2 e8 e7 hpl) w_t w_t ?_;(repeat' first|exact w_t|apply w_l);all_goals intros));all_goals exact gL
   ·exact⟨ZB5 _,⟨gW e1,gW e2,gW m2,gC⟩,gW e7,λj h hj=>zo⟩
theorem decS_pos (n:Nat):0 < (decS n).size:=by
 by_cases h:n=0
 ·subst h;exact Nat.zero_lt_succ 0
 ·rw [Zu1 h];have:=Zoh (n:=n);show 0 < (dig n).toArray.size;rw [ZGo];omega
theorem decQ_pos (q:Rat):0 < (decQ q).size:=by
 have hz:∀z:Int,0 < (decZ z).size:=λz=>by
  have:=decS_pos z.natAbs;unfold decZ;split
  ·rw [ZCn];omega
  ·exact this
 have:=hz q.num;unfold decQ;split
 ·exact this
 ·rw [ZCn,ZCn];omega
theorem tTxt_pos (ss:List ByteArray) (t:Rat × List Qt):0 < (tTxt ss t).size:=by
 unfold tTxt;by_cases h:t.2.length=0
 ·rw [h,ZBu zs];exact decQ_pos _
 ·exact Zxb ss _ _ _ zo
theorem Zkv {ss:List ByteArray} {t:Rat × List Qt} (hs:∀s∈ss,s.size≤1000) (hp:t.2.length≤1000) {k:Nat} (ha:Sz t.1 k) (hk:k≤1000000) (h:chkP ss.length t.2=0):(tTxt ss t).size≤15000000:=by
 have hz:=Zlv (Zil ha)
 have hall:∀j (h:j < t.2.length),Qt.chk t.2[j] ss.length 64=0:=by
  generalize t.2=p at h;clear hp
  induction p with
  | nil=>intro j hj;simp at hj
  | cons q l ih =>
    unfold chkP at h;by_cases h0:Qt.chk q ss.length 64=0
    ·rw [ZBv h0] at h;intro j hj
     cases j with
     | zero=>exact h0
     | succ j=>exact ih h j (by simpa using hj)
    ·rw [ZBu h0] at h;exact absurd h h0
 have hemp:(⟨#[]⟩:ByteArray).size=0:=rfl;unfold tTxt;have h2:=Zq4 (s0:=if t.2.length≠0∧absR t.1=1 then ⟨#[]⟩ else decQ (absR t.1)) hs (ZBw t.2.length) λj h _=>hall j h
 have h3:(if t.2.length≠0∧absR t.1=1 then ⟨#[]⟩ else decQ (absR t.1):ByteArray).size≤10*k+4:=by
  split
  ·rw [hemp];omega
  ·exact hz
 omega
theorem Zsv {ss:List ByteArray} {p:QTs} {i:Nat} (hi:i≤p.length) (h:∀j (h:j < p.length),j < i→(tTxt ss p[j]).size≤15000000):(eS ss p i).size≤i*15000003:=by
 induction i with
 | zero=>exact ZB5 _
 | succ i ih =>
   have h1:=ih zo λj hj hji=>h j hj zo;have h2:=h i zo zo;have e:p.getD i (0,[])=p[i]:=Zcj zo;unfold eS;rw [ZCn,e];have s0:(⟨#[]⟩:ByteArray).size=0:=rfl;have s1:(⟨#[45]⟩:ByteArray).size=1:=rfl;have s2:(⟨#[32,45,32]⟩:ByteArray).size=3:=rfl;have s3:(⟨#[32,43,32]⟩:ByteArray).size=3:=rfl;split
   ·split<;>omega
   ·rw [ZCn];split<;>omega
theorem eS_pos {ss:List ByteArray} {p:QTs} {i:Nat} (hi:0 < i):0 < (eS ss p i).size:=by
 obtain⟨j,rfl⟩:∃j,i=j+1:=⟨i - 1,zo⟩;unfold eS;rw [ZCn];have:=tTxt_pos ss (p.getD j (0,[]));omega
def OkT (p:QTs) (k:Nat):Prop:=∀t∈p,t.2.length≤1000∧Sz t.1 k
theorem Zqi (p:QTs) (ss:List ByteArray) (hl:ss.length≤1000000000) (hs:∀s∈ss,s.size≤1000) (hp:p.length≤100000) {k:Nat} (hk:k≤1000000) (ho:OkT p k) :
 Pure prog 21 [.sl 4 (p.map qtA),.sl 1 (ss.map strA)] (if chkE ss.length p=0 then .tup [strA (eTxt ss p),iv 0] else .tup [strA ⟨#[]⟩,iv (chkE ss.length p)]):=by
 have hpl:(p.map qtA).length=p.length:=ZB2 ..;have hq:∀i (h:i < p.length),(p.map qtA).getD i .u=.agg [.v (.bool (decide (p[i].1.num < 0))),lim (toL p[i].1.num.natAbs),lim (toL p[i].1.den),.sl 4 (p[i].2.map Qt.av)]:=λi h=>Zam qtA h;have ct:∀i (h:i < p.length),Pure prog 60 [.agg [.v (.bool (decide (p[i].1.num < 0))),lim (toL p[i].1.num.natAbs),lim (toL p[i].1.den),.sl 4 (p[i].2.map Qt.av)],.sl 1 (ss.map strA)] (if chkP ss.length p[i].2=0 then .tup [strA (tTxt ss p[i]),iv 0] else .tup [strA ⟨#[]⟩,iv (chkP ss.length p[i].2)]):=λi h=>exTerm p[i].1 p[i].2 ss hl hs (ho _ (ZB7 h)).1 (ho _ (ZB7 h)).2 hk
 have cs:∀i (h:i < p.length),Pure prog 18 [.agg [.v (.bool (decide (p[i].1.num < 0))),lim (toL p[i].1.num.natAbs),lim (toL p[i].1.den)]] (iv p[i].1.num.sign):=λi h=>Zdd p[i].1 (ho _ (ZB7 h)).2 zo;have hsz:∀i (h:i < p.length),chkP ss.length p[i].2=0→(tTxt ss p[i]).size≤15000000:=λi h h2=>Zkv hs (ho _ (ZB7 h)).1 (ho _ (ZB7 h)).2 hk h2;clear ho hk;generalize ss.map strA=N at *;generalize p.map qtA=P at *;generalize hR:(if chkE ss.length p=0 then AV.tup [strA (eTxt ss p),iv 0] else .tup [strA ⟨#[]⟩,iv (chkE ss.length p)])=R at *;have hemp:(⟨#[]⟩:ByteArray).size=0:=rfl
 refine pI func21 rfl ntmps21 results21 call21 ?_;by_cases hp0:p.length=0
 ·obtain rfl:=List.length_eq_zero_iff.1 hp0;have hR:AV.tup [strA ⟨#[48]⟩,iv 0]=R:=hR;have hpl:P.length=0:=hpl;rw [←hR]
  (refine wkap (w_2 hpl @ZDp) w_t (w_r 0) (w_s ?_);intros)
  all_goals exact gL
 ·have hpi:¬((p.length:Nat):Int)=0:=zo;have eTx:eTxt ss p=eS ss p p.length:=ZBu hp0;rw [eTx] at hR
  (refine wkap (w_2 hpl hpi) w_t (w_r 0) (w_s ?_);intros)
  refine Zad (ι:=Nat) (λi e m=>i≤p.length∧(e 1=.sl 1 N∧e 15=.sl 4 P∧e 16=iv p.length∧e 17=iv i)∧e 6=strA (eS ss p i)∧∀j (h:j < p.length),j < i→chkP ss.length p[j].2=0) (λi=>p.length - i) 0 zr ?_ ?_
  ·rintro i e m ⟨hi,⟨e1,e15,e16,e17⟩,e6,hc⟩
   by_cases hlt:i < p.length
   ·have cti:=ct i hlt;have csi:=cs i hlt;have hqi:=hq i hlt;have hes:=Zsv (ss:=ss) (p:=p) hi λj h hj=>hsz j h (hc j h hj);by_cases hch:chkP ss.length p[i].2=0
    ·rw [ZBv hch] at cti;have ht:=hsz i hlt hch;have hnx:eS ss p (i+1)=(if i=0 then (if p[i].1.num < 0 then ⟨#[45]⟩ else ⟨#[]⟩) else eS ss p i++(if p[i].1.num < 0 then ⟨#[32,45,32]⟩ else ⟨#[32,43,32]⟩))++tTxt ss p[i]:=by rw [←Zcj (d:=((0:Rat),([]:List Qt))) hlt];rfl
     have hc2:∀j (h:j < p.length),j < i+1→chkP ss.length p[j].2=0:=λj h hj=>by
      rcases ZCg j i with h1 | h1
      ·exact hc j h h1
      ·have:j=i:=zo;subst this;exact hch
     have e0s:eS ss p 0=⟨#[]⟩:=rfl;have hn0:decide (p[i].1.num.sign < 0)=decide (p[i].1.num < 0):=by rw [ZBx];exact Int.sign_neg_iff
     have s45:(⟨#[45]⟩:ByteArray).size=1:=rfl;have s3:(⟨#[32,45,32]⟩:ByteArray).size=3:=rfl;have s4:(⟨#[32,43,32]⟩:ByteArray).size=3:=rfl;have z3:=ZCn (a:=eS ss p i) (b:=⟨#[32,45,32]⟩);have z4:=ZCn (a:=eS ss p i) (b:=⟨#[32,43,32]⟩);clear hc hch ct cs hsz hq;generalize tTxt ss p[i]=T at *;generalize p[i].2.map Qt.av=qs at *;by_cases hng:p[i].1.num < 0
     ·rw [ZBv hng,ZBv hng] at hnx;rw [ZB4 hng] at hn0 csi cti hqi;clear hng;generalize p[i].1.num.sign=sn at *;generalize toL p[i].1.num.natAbs=An at *;generalize toL p[i].1.den=Ad at *;by_cases hi0:i=0
      ·subst hi0;rw [ZBv rfl] at hnx;rw [e0s] at e6;have e45:(⟨#[]⟩++⟨#[45]⟩:ByteArray)=⟨#[45]⟩:=rfl
       (refine wkap (w_12 e1 e15 e16 e17 hpl e6 hqi hn0 e45 hemp s45 @ZDp) (w_2 cti csi) (w_r 0) (w_s ?_);intros)
       exact⟨0+1,⟨zo,⟨gW e1,gW e15,gW e16,gS⟩,by rw [hnx];exact gC,hc2⟩,zo⟩
      ·rw [ZBu hi0] at hnx;have hi1:decide ((0:Int) < (i:Int))=true:=ZB4 zo;have hi2:¬(i:Int)=0:=zo
       (refine wkap (w_12 e1 e15 e16 e17 hpl e6 hqi hn0 hi1 hi2 z3 s3) (w_2 cti csi) (w_r 0) (w_s ?_);intros)
       exact⟨i+1,⟨zo,⟨gW e1,gW e15,gW e16,gS⟩,by rw [hnx];exact gC,hc2⟩,zo⟩
     ·rw [ZBu hng,ZBu hng] at hnx;rw [ZB3 hng] at hn0 csi cti hqi;clear hng;generalize p[i].1.num.sign=sn at *;generalize toL p[i].1.num.natAbs=An at *;generalize toL p[i].1.den=Ad at *;by_cases hi0:i=0
      ·subst hi0;rw [ZBv rfl] at hnx;rw [e0s] at e6
       (refine wkap (w_10 e1 e15 e16 e17 hpl e6 hqi hn0 hemp @ZDp) (w_2 cti csi) (w_r 0) (w_s ?_);intros)
       exact⟨0+1,⟨zo,⟨gW e1,gW e15,gW e16,gS⟩,by rw [hnx];exact gC,hc2⟩,zo⟩
      ·rw [ZBu hi0] at hnx;have hi1:decide ((0:Int) < (i:Int))=true:=ZB4 zo;have hi2:¬(i:Int)=0:=zo
       (refine wkap (w_12 e1 e15 e16 e17 hpl e6 hqi hn0 hi1 hi2 z4 s4) (w_2 cti csi) (w_r 0) (w_s ?_);intros)
       exact⟨i+1,⟨zo,⟨gW e1,gW e15,gW e16,gS⟩,by rw [hnx];exact gC,hc2⟩,zo⟩
    ·rw [ZBu hch] at cti;have hat:=Zsy hlt hc hch;rw [hat,ZBu hch] at hR;generalize chkP ss.length p[i].2=ch at *;generalize p[i].2.map Qt.av=qs at *;generalize decide (p[i].1.num < 0)=ng at *;generalize toL p[i].1.num.natAbs=An at *;generalize toL p[i].1.den=Ad at *;rw [←hR]
     (refine wkap (w_7 e1 e15 e16 e17 hpl e6 hqi) (w_1 cti) (w_r 0) (w_s ?_);intros)
     all_goals exact gL
   ·have:i=p.length:=zo;subst this;rw [ZBv (Zoo λj h=>hc j h h)] at hR;rw [←hR]
    (refine wkap (w_6 e1 e15 e16 e17 hpl e6) w_t (w_r 0) (w_s ?_);intros)
    all_goals exact gL
  ·exact⟨ZB5 _,⟨gC,gC,gW hpl,gC⟩,gC,λj h hj=>zo⟩
theorem rxText (p:QTs) (ss:List ByteArray) (hl:ss.length≤1000000000) (hs:∀s∈ss,s.size≤1000) (hp:p.length≤100000) {k:Nat} (hk:k≤1000000) (ho:OkT p k) :
 Pure prog 48 [.sl 4 (p.map qtA),.sl 1 (ss.map strA)] (if chkE ss.length p=0 then .tup [strA (eTxt ss p),iv 0] else .tup [strA ⟨#[]⟩,iv (chkE ss.length p)]):=by
 have hpl:(p.map qtA).length=p.length:=ZB2 ..;have hq:∀i (h:i < p.length),(p.map qtA).getD i .u=.agg [.v (.bool (decide (p[i].1.num < 0))),lim (toL p[i].1.num.natAbs),lim (toL p[i].1.den),.sl 4 (p[i].2.map Qt.av)]:=λi h=>Zam qtA h;have ct:∀i (h:i < p.length),Pure prog 88 [.agg [.v (.bool (decide (p[i].1.num < 0))),lim (toL p[i].1.num.natAbs),lim (toL p[i].1.den),.sl 4 (p[i].2.map Qt.av)],.sl 1 (ss.map strA)] (if chkP ss.length p[i].2=0 then .tup [strA (tTxt ss p[i]),iv 0] else .tup [strA ⟨#[]⟩,iv (chkP ss.length p[i].2)]):=λi h=>rxTerm p[i].1 p[i].2 ss hl hs (ho _ (ZB7 h)).1 (ho _ (ZB7 h)).2 hk
 have cs:∀i (h:i < p.length),Pure prog 75 [.agg [.v (.bool (decide (p[i].1.num < 0))),lim (toL p[i].1.num.natAbs),lim (toL p[i].1.den)]] (iv p[i].1.num.sign):=λi h=>qSign p[i].1 (ho _ (ZB7 h)).2 zo;have hsz:∀i (h:i < p.length),chkP ss.length p[i].2=0→(tTxt ss p[i]).size≤15000000:=λi h h2=>Zkv hs (ho _ (ZB7 h)).1 (ho _ (ZB7 h)).2 hk h2;clear ho hk;generalize ss.map strA=N at *;generalize p.map qtA=P at *;generalize hR:(if chkE ss.length p=0 then AV.tup [strA (eTxt ss p),iv 0] else .tup [strA ⟨#[]⟩,iv (chkE ss.length p)])=R at *;have hemp:(⟨#[]⟩:ByteArray).size=0:=rfl
 refine pI func48 rfl ntmps48 results48 call48 ?_;(focus (refine wkap w_t w_t (w_r 0) ?_;(repeat' first|exact w_t|apply w_l);all_goals intros));refine Zad (ι:=Nat) (λi e m=>i≤p.length∧(e 0=.sl 4 P∧e 1=.sl 1 N∧e 7=iv i)∧e 6=strA (eS ss p i)∧∀j (h:j < p.length),j < i→chkP ss.length p[j].2=0) (λi=>p.length - i) 0 zr ?_ ?_
 ·rintro i e m ⟨hi,⟨e0,e1,e7⟩,e6,hc⟩
  by_cases hlt:i < p.length
  ·have cti:=ct i hlt;have csi:=cs i hlt;have hqi:=hq i hlt;have hes:=Zsv (ss:=ss) (p:=p) hi λj h hj=>hsz j h (hc j h hj);by_cases hch:chkP ss.length p[i].2=0
   ·rw [ZBv hch] at cti;have ht:=hsz i hlt hch;have hnx:eS ss p (i+1)=(if i=0 then (if p[i].1.num < 0 then ⟨#[45]⟩ else ⟨#[]⟩) else eS ss p i++(if p[i].1.num < 0 then ⟨#[32,45,32]⟩ else ⟨#[32,43,32]⟩))++tTxt ss p[i]:=by rw [←Zcj (d:=((0:Rat),([]:List Qt))) hlt];rfl
    have hc2:∀j (h:j < p.length),j < i+1→chkP ss.length p[j].2=0:=λj h hj=>by
     rcases ZCg j i with h1 | h1
     ·exact hc j h h1
     ·have:j=i:=zo;subst this;exact hch
    have e0s:eS ss p 0=⟨#[]⟩:=rfl;have hn0:decide (p[i].1.num.sign < 0)=decide (p[i].1.num < 0):=by rw [ZBx];exact Int.sign_neg_iff
    have s45:(⟨#[45]⟩:ByteArray).size=1:=rfl;have s3:(⟨#[32,45,32]⟩:ByteArray).size=3:=rfl;have s4:(⟨#[32,43,32]⟩:ByteArray).size=3:=rfl;have z3:=ZCn (a:=eS ss p i) (b:=⟨#[32,45,32]⟩);have z4:=ZCn (a:=eS ss p i) (b:=⟨#[32,43,32]⟩);clear hc hch ct cs hsz hq;generalize tTxt ss p[i]=T at *;generalize p[i].2.map Qt.av=qs at *;by_cases hng:p[i].1.num < 0
    ·rw [ZBv hng,ZBv hng] at hnx;rw [ZB4 hng] at hn0 csi cti hqi;clear hng;generalize p[i].1.num.sign=sn at *;generalize toL p[i].1.num.natAbs=An at *;generalize toL p[i].1.den=Ad at *;by_cases hi0:i=0
     ·subst hi0;rw [ZBv rfl] at hnx;rw [e0s] at e6;have e45:(⟨#[]⟩++⟨#[45]⟩:ByteArray)=⟨#[45]⟩:=rfl;(focus (refine wkap (w_11 e0 e1 e7 hpl e6 hqi hn0 e45 hemp s45 @ZDp) (w_2 cti csi) (w_r 0) ?_;(repeat' first|exact w_t|apply w_l);all_goals intros));exact⟨0+1,⟨zo,⟨gW e0,gW e1,gS⟩,by rw [hnx];exact gC,hc2⟩,zo⟩
     ·rw [ZBu hi0] at hnx;have hi1:decide ((0:Int) < (i:Int))=true:=ZB4 zo;have hi2:¬(i:Int)=0:=zo;(focus (refine wkap (w_11 e0 e1 e7 hpl e6 hqi hn0 hi1 hi2 z3 s3) (w_2 cti csi) (w_r 0) ?_;(repeat' first|exact w_t|apply w_l);all_goals intros));exact⟨i+1,⟨zo,⟨gW e0,gW e1,gS⟩,by rw [hnx];exact gC,hc2⟩,zo⟩
    ·rw [ZBu hng,ZBu hng] at hnx;rw [ZB3 hng] at hn0 csi cti hqi;clear hng;generalize p[i].1.num.sign=sn at *;generalize toL p[i].1.num.natAbs=An at *;generalize toL p[i].1.den=Ad at *;by_cases hi0:i=0
     ·subst hi0;rw [ZBv rfl] at hnx;rw [e0s] at e6;(focus (refine wkap (w_9 e0 e1 e7 hpl e6 hqi hn0 hemp @ZDp) (w_2 cti csi) (w_r 0) ?_;(repeat' first|exact w_t|apply w_l);all_goals intros));exact⟨0+1,⟨zo,⟨gW e0,gW e1,gS⟩,by rw [hnx];rw [show(⟨#[]⟩++T:ByteArray)=T from ByteArray.empty_append];exact gC,hc2⟩,zo⟩
     ·rw [ZBu hi0] at hnx;have hi1:decide ((0:Int) < (i:Int))=true:=ZB4 zo;have hi2:¬(i:Int)=0:=zo;(focus (refine wkap (w_11 e0 e1 e7 hpl e6 hqi hn0 hi1 hi2 z4 s4) (w_2 cti csi) (w_r 0) ?_;(repeat' first|exact w_t|apply w_l);all_goals intros));exact⟨i+1,⟨zo,⟨gW e0,gW e1,gS⟩,by rw [hnx];exact gC,hc2⟩,zo⟩
   ·rw [ZBu hch] at cti;have hat:=Zsy hlt hc hch;rw [hat,ZBu hch] at hR;generalize chkP ss.length p[i].2=ch at *;generalize p[i].2.map Qt.av=qs at *;generalize decide (p[i].1.num < 0)=ng at *;generalize toL p[i].1.num.natAbs=An at *;generalize toL p[i].1.den=Ad at *;rw [←hR];(focus (refine wkap (w_6 e0 e1 e7 hpl e6 hqi) (w_1 cti) (w_r 0) ?_;(repeat' first|exact w_t|apply w_l);all_goals intros));all_goals exact gL
  ·have:i=p.length:=zo;subst this;rw [ZBv (Zoo λj h=>hc j h h)] at hR;rw [←hR];by_cases hp0:p.length=0
   ·have e6:e 6=strA ⟨#[]⟩:=by rw [e6,hp0];rfl
    have eTx:eTxt ss p=⟨#[48]⟩:=ZBv hp0;rw [eTx];(focus (refine wkap (w_5 e0 e1 e7 hpl e6) w_t (w_r 0) ?_;(repeat' first|exact w_t|apply w_l);all_goals intros));all_goals exact gL
   ·have hpo:=eS_pos (ss:=ss) (p:=p) (ZDl hp0);have eTx:eTxt ss p=eS ss p p.length:=ZBu hp0;rw [eTx];generalize eS ss p p.length=S at *;have hSz:=ZB3 (show ¬S.size=0 by omega);(focus (refine wkap (w_7 e0 e1 e7 hpl e6 @Zeh hSz) w_t (w_r 0) ?_;(repeat' first|exact w_t|apply w_l);all_goals intros));all_goals exact gL
 ·exact⟨ZB5 _,⟨gC,gC,gC⟩,gC,λj h hj=>zo⟩
def okQ (l:List Qt):Prop:=Asc Qt.cmp l∧∀q∈l,q.norm=(q,1)
theorem Zr2 {q:Qt} (h:q.norm=(q,1)):q.ok=true:=by
 cases e:q.ok with
 | true=>rfl
 | false =>
   unfold Qt.norm at h;rw [e,ZBu zs] at h;have:=ZDi Prod.snd h;simp at this
theorem okQ.b8 {l:List Qt} (h:okQ l):∀q∈l,q.b8:=λq hq=>ok_b8 (Zr2 (h.2 q hq))
theorem rgQ:Go.Pol.RG okQ ordQ muQ [] where
 o:=Zbo
 comm a b:=Zft qtO (Zb6 qtO.cp _) (Zb6 qtO.cp _) ((Za2 _).trans (List.perm_append_comm.trans (Za2 _).symm))
 assoc a b c:=Zft qtO (Zb6 qtO.cp _) (Zb6 qtO.cp _) ((Za2 _).trans ((((Za2 _).append_right c).trans (by rw [ZDd])).trans (((Za2 (b++c)).symm.append_left a).trans (Za2 _).symm)))
 one a ha:=Zft qtO (Zb6 qtO.cp _) ha.1 (by show(srtQ Qt.cmp (a++[])).Perm a;rw [ZDf];exact Za2 _)
 cl a b ha hb:=⟨Zb6 qtO.cp _,λq hq=>by
  rcases List.mem_append.1 ((Za2 _).mem_iff.1 hq) with h | h
  ·exact ha.2 q h
  ·exact hb.2 q h⟩
 de:=⟨.nil,λq hq=>by cases hq⟩
abbrev EX (p:QTs):Prop:=SQ okQ ordQ p
abbrev mulX (p q:QTs):QTs:=mlG ordQ muQ p q
def XB (p:QTs) (k n:Nat):Prop:=EX p∧(∀t∈p,t.2.length≤n)∧∃D B,D≠0∧D < 65536 ^ k∧B < 65536 ^ k∧NB D B p
theorem XB.mono {p:QTs} {k n j m:Nat} (h:XB p k n) (hk:k≤j) (hn:n≤m):XB p j m:=by
 obtain⟨a,b,D,B,c,d,e,f⟩:=h;have hp:65536 ^ k≤65536 ^ j:=ZDk zo hk;exact⟨a,λt ht=>ZB1 (b t ht) hn,D,B,c,zo,zo,f⟩
theorem XB.qk {p:QTs} {k n:Nat} (h:XB p k n):QK p (k+k) n:=by
 obtain⟨a,b,D,B,c,d,e,f⟩:=h;exact nb_qk f c d e b
theorem XB.nz {p:QTs} {k n:Nat} (h:XB p k n):∀t∈p,t.1≠0:=λt ht=>(h.1.1 t ht).1
theorem mu_len (a b:List Qt):(muQ a b).length=a.length+b.length:=by rw [srtQ_len,ZCr]
theorem Zle {p q:QTs} {m n:Nat} (hp:∀t∈p,t.2.length≤m) (hq:∀t∈q,t.2.length≤n):∀t∈prodL muQ p q,t.2.length≤m+n:=λu hu=>by
 obtain⟨s,hs,t,ht,rfl⟩:=Zfz hu;show(muQ s.2 t.2).length≤_;rw [mu_len];have:=hp s hs;have:=hq t ht;omega
theorem XB.mul {p q:QTs} {j k m n:Nat} (hp:XB p j m) (hq:XB q k n):XB (mulX p q) (j+k) (m+n):=by
 obtain⟨a,b,D,B,c,d,e,f⟩:=hp;obtain⟨a',b',D',B',c',d',e',f'⟩:=hq;refine⟨Zbi rgQ a a',Zkl (Zle b b'),D*D',B*B',ZE3 c c',?_,?_,(f.prodL f').sumG⟩
 ·rw [ZDb];exact ZGb d d'
 ·rw [ZDb];exact ZGb e e'
theorem XB.add {p q:QTs} {j k m n:Nat} (hp:XB p j m) (hq:XB q k n):XB (Zbf p q) (j+k+1) (max m n):=by
 obtain⟨a,b,D,B,c,d,e,f⟩:=hp;obtain⟨a',b',D',B',c',d',e',f'⟩:=hq;have h1:65536 ^ j≤65536 ^ (j+k):=ZDk zo zo;have h2:65536 ^ k≤65536 ^ (j+k):=ZDk zo zo;have h3:65536 ^ (j+k+1)=65536 ^ (j+k)*65536:=ZC5 ..;have h4:D*D' < 65536 ^ (j+k):=by rw [ZDb];exact ZGb d d'
 refine⟨Zgl Zbo a a',λt ht=>?_,D*D',B+B',ZE3 c c',zo,zo,(f.mono (ZFv ..) (ZBw _)).addP (f'.mono (ZHl ..) (ZBw _))⟩;rcases Zg1 ht with h | h | ⟨s,hs,u,hu,rfl⟩
 ·exact ZB1 (b t h) (Nat.le_max_left ..)
 ·exact ZB1 (b' t h) (Nat.le_max_right ..)
 ·exact ZB1 (b s hs) (Nat.le_max_left ..)
theorem Zd3 (p q:QTs):(mulX p q).length≤p.length*q.length:=by
 have:∀l:QTs,(gatM l).length≤l.length:=λl=>by
  obtain⟨j,hj⟩:∃j,QK l j ((l.map λt=>t.2.length).sum):=by
   induction l with
   | nil=>exact⟨0,λt ht=>by cases ht⟩
   | cons a l ih =>
     obtain⟨j,hj⟩:=ih;refine⟨max j (max (toL a.1.num.natAbs).length (toL a.1.den).length),λt ht=>?_⟩;rw [ZC1,List.sum_cons];rcases List.mem_cons.1 ht with rfl | ht
     ·exact⟨⟨zo,zo⟩,zo⟩
     ·exact⟨(hj t ht).1.mono zo,by have:=(hj t ht).2;omega⟩
  exact(Zz6 _ l rfl hj).2
 have h:=this (prodL muQ p q)
 rwa [Zlf] at h
theorem Zt1 {mu:List Qt→List Qt→List Qt} {q:QTs}:∀{p:QTs} {i j:Nat} (hi:i < p.length) (hj:j < q.length),(prodL mu p q)[i*q.length+j]?=some (p[i].1*q[j].1,mu p[i].2 q[j].2)
 | a :: p,0,j,_,hj=>by
   rw [Zf0,ZDq (by rw [ZB2];omega),ZEp,ZCl,ZC4,ZB6 hj];rfl
 | a :: p,i+1,j,hi,hj=>by
   rw [Zf0,ZDr (by rw [ZB2,ZDt];omega),ZB2,show(i+1)*q.length+j - q.length=i*q.length+j by rw [ZDt];omega];exact Zt1 (by simpa using hi) hj
theorem Zw9 {α:Type} {l:List α} {c:Nat} {x:α} (h:l[c]?=some x):l.take (c+1)=l.take c++[x]:=by
 rw [ZFu,h];rfl
theorem acc_nb {D:Nat} (L:QTs):∀{B C:Nat} (acc:QTs),NB D B acc→NB D C L→NB D (B+C) (L.foldl addC acc):=by
 induction L with
 | nil=>intro B C acc h _;exact h.mono (ZD6 _) (ZG2 _ _)
 | cons t L ih =>
   intro B C acc h k;have h1:=h.addC (C:=cl t.1) (k.1 t (.head _)) (ZBw _);have h2:NB D (C - cl t.1) L:=⟨λu hu=>k.1 u (.tail _ hu),by have:=k.2;rw [Zbh] at this;omega⟩;have h3:cl t.1≤C:=by have:=k.2;rw [Zbh] at this;omega
   exact(ih _ h1 h2).mono (ZD6 _) zo
theorem Zjp {P:List Qt→Prop} (L:QTs):∀(acc:QTs),(∀t∈acc,P t.2)→(∀t∈L,P t.2)→∀t∈L.foldl addC acc,P t.2:=by
 induction L with
 | nil=>intro acc h _;exact h
 | cons s L ih =>
   intro acc h k;refine ih _ (λt ht=>?_) λt ht=>k t (.tail _ ht);rcases Zot ht with h1 | rfl | ⟨v,hv,rfl⟩
   ·exact h t h1
   ·exact k _ (.head _)
   ·exact h v hv
theorem ZBp (L:QTs):∀(acc:QTs),(L.foldl addC acc).length≤acc.length+L.length:=by
 induction L with
 | nil=>intro acc;exact ZBw _
 | cons s L ih =>
   intro acc;refine ZB1 (ih _) ?_;have:=Zvc acc s;rw [ZCd];omega
theorem Zr8 (L:QTs):srtQ ordT (nzT (accS L))=gatM L:=Znf Zbo L
theorem exMulT (p q:QTs) {j k m n:Nat} (hp:XB p j m) (hq:XB q k n) (hmn:m+n≤maxQ) (hl:p.length*q.length≤maxT) (hpl:p.length≤100000000) (hql:q.length≤100000000) (hj:j≤100000) (hk:k≤100000):Pure prog 66 [qpA p,qpA q] (qpA (mulX p q)):=by
 have hMT:=Zn1;have hM:=Zjf;have hpm:(p.map qtA).length=p.length:=ZB2 ..;have hqm:(q.map qtA).length=q.length:=ZB2 ..;have gp:∀i (h:i < p.length),(p.map qtA).getD i .u=qtA p[i]:=λi h=>Zam qtA h;have gq:∀i (h:i < q.length),(q.map qtA).getD i .u=qtA q[i]:=λi h=>Zam qtA h;have kp:=hp.qk;have kq:=hq.qk;have hop:∀t∈p,okQ t.2:=hp.1.dom;have hoq:∀t∈q,okQ t.2:=hq.1.dom
 have hacc:∀c,c≤p.length*q.length→QK (accS ((prodL muQ p q).take c)) (j+k+(j+k)) (m+n)∧B8 (accS ((prodL muQ p q).take c))∧(accS ((prodL muQ p q).take c)).length≤maxT:=by
  intro c hc;obtain⟨a,b,D,B,c1,d,e,f⟩:=hp;obtain⟨a',b',D',B',c',d',e',f'⟩:=hq;have hn:=acc_nb ((prodL muQ p q).take c) [] (NB.nil _ 0) ((f.prodL f').take c);rw [ZCl] at hn;have hmem:∀t∈(prodL muQ p q).take c,t.2.length≤m+n∧okQ t.2:=λt ht=>by
   have ht:=ZDc ht;refine⟨Zle b b' t ht,?_⟩;obtain⟨s,hs,u,hu,rfl⟩:=Zfz ht;exact rgQ.cl _ _ (hop s hs) (hoq u hu)
  refine⟨nb_qk hn (ZE3 c1 c') (by rw [ZDb];exact ZGb d d') (by rw [ZDb];exact ZGb e e') ?_,?_,?_⟩
  ·exact Zjp (P:=λx=>x.length≤m+n) _ [] (λt ht=>by cases ht) λt ht=>(hmem t ht).1
  ·exact Zjp (P:=λx=>∀q∈x,q.b8) _ [] (λt ht=>by cases ht) λt ht=>(hmem t ht).2.b8
  ·refine ZB1 (ZBp _ _) ?_;rw [ZCq,ZCh,Zlf];omega
 have hstep:∀i l (h1:i < p.length) (h2:l < q.length),accS ((prodL muQ p q).take (i*q.length+l+1))=addC (accS ((prodL muQ p q).take (i*q.length+l))) (p[i].1*q[l].1,muQ p[i].2 q[l].2):=λi l h1 h2=>by
  rw [Zw9 (Zt1 h1 h2)];exact Zl5 _ _
 have hfin:mulX p q=srtQ ordT (nzT (accS ((prodL muQ p q).take (p.length*q.length)))):=by
  rw [Zr8,ZD3 (by rw [Zlf];exact ZBw _)];rfl
 have hdst:Dst (accS ((prodL muQ p q).take (p.length*q.length))):=Zfr _ [] .nil;have hac0:accS ((prodL muQ p q).take 0)=[]:=by rw [ZFk];rfl
 have hq0:∀t∈q,t.2.length≤n:=λt ht=>(kq t ht).2;rw [hfin];clear hfin hp hq;generalize hPR:(λc=>accS ((prodL muQ p q).take c))=PR at *;have hPR:∀c,accS ((prodL muQ p q).take c)=PR c:=λc=>by rw [←hPR]
 simp only [hPR] at hacc hstep hdst hac0 ⊢;clear hPR;show Pure _ _ [.sl 4 (p.map qtA),.sl 4 (q.map qtA)] (.sl 4 ((srtQ ordT (nzT (PR (p.length*q.length)))).map qtA));generalize p.map qtA=A at *;generalize q.map qtA=B at *;refine pI func66 rfl ntmps66 results66 call66 ?_
 (refine wkad w_t w_t w_t (w_s ?_);intros)
 refine Zds (exNew _ 200 201 zo) ?_
 rintro _ _ ⟨g,h,rfl,rfl⟩
 (refine wkad (w_1 hpm) w_t w_t (w_s ?_);intros)
 refine Zfb (Frz.nilBox (k:=200) 1 202 4 78 (gC) rfl zo) ?_;refine Zad (ι:=Nat) (λi e M=>i≤p.length∧e 1=.sl 4 B∧e 5=.pbox 200 g 0∧M 201=some (.map h (mpE (PR (i*q.length))))∧(∃sv,M 200=some (.box g 227 [.mp 201 h,.own 202 sv] false)∧M 202=some (.row sv 78 4 ((PR (i*q.length)).map qtA) 0))∧e 11=.sl 4 A∧e 12=iv p.length∧e 13=iv i) (λi=>p.length - i) 0 zr ?_ ?_
 ·rintro i e M ⟨hi,e1,e5,m201,⟨sv,m200,m202⟩,e11,e12,e13⟩
  by_cases hlt:i < p.length
  ·have gpi:=gp i hlt;have kpi:=kp _ (ZB7 hlt);have hsti:=λl h2=>hstep i l hlt h2;have hopi:=hop _ (ZB7 hlt);have hci:∀l,l≤q.length→i*q.length+l≤p.length*q.length:=λl h=>by
    have:=ZCf q.length (show i+1≤p.length from hlt);rw [ZDt] at this;omega
   have hsucc:(i+1)*q.length=i*q.length+q.length:=ZDt ..;clear gp kp hstep hop;generalize p[i]=u at *;generalize i*q.length=ci at *;obtain⟨u1,u2⟩:=u;simp only at kpi hsti hopi;have gpi:A.getD i .u=.agg [.v (.bool (decide (u1.num < 0))),lim (toL u1.num.natAbs),lim (toL u1.den),.sl 4 (u2.map Qt.av)]:=gpi;have cm0:=fun(v:Rat) (hv:Sz v (k+k))=>Zyb u1 v kpi.1 hv zo zo;have cm0:∀v:Rat,Sz v (k+k)→Pure prog 51 [.agg [.v (.bool (decide (u1.num < 0))),lim (toL u1.num.natAbs),lim (toL u1.den)],ratQ v] (ratQ (u1*v)):=cm0;have ct0:=fun(v:List Qt) (hv:v.length≤n)=>exTimes u2 v (by have:=kpi.2;omega)
   have ct0:∀v:List Qt,v.length≤n→Pure prog 119 [.sl 4 (u2.map Qt.av),qsA v] (qsA (muQ u2 v)):=ct0;have hmq:∀v:List Qt,v.length≤n→(muQ u2 v).length≤1000:=λv hv=>by rw [mu_len];have:=kpi.2;omega
   have hmo:∀v:List Qt,okQ v→∀q∈muQ u2 v,q.b8:=λv hv=>(rgQ.cl _ _ hopi hv).b8;have hsu:∀v:Rat,Sz v (k+k)→Sz (u1*v) (j+j+(k+k)):=λv hv=>kpi.1.mul hv;clear kpi hopi;generalize toL u1.num.natAbs=un at *;generalize toL u1.den=ud at *;generalize decide (u1.num < 0)=us at *;generalize u2.map Qt.av=UQ at *
   (refine wkad (w_11 e1 e5 m200 m201 m202 e11 e12 e13 hpm hqm gpi) w_t w_t (w_s ?_);intros)
   rename_i g7;refine Zad (ι:=Nat) (λl e M=>l≤q.length∧(e 1=.sl 4 B∧e 5=.pbox 200 g 0∧e 11=.sl 4 A∧e 12=iv p.length∧e 13=iv i)∧(M 201=some (.map h (mpE (PR (ci+l))))∧∃sv,M 200=some (.box g 227 [.mp 201 h,.own 202 sv] false)∧M 202=some (.row sv 78 4 ((PR (ci+l)).map qtA) 0))∧(e 7=.pbox 7 g7 0∧M 7=some (.box g7 78 [.v (.bool us),lim un,lim ud,.sl 4 UQ] false))∧e 17=.sl 4 B∧e 18=iv q.length∧e 19=iv l) (λl=>q.length - l) 0 zr ?_ ?_
   ·rintro l e M ⟨hl2,⟨e1,e5,e11,e12,e13⟩,⟨m201,sv,m200,m202⟩,⟨e7,m7⟩,e17,e18,e19⟩
    by_cases hlq:l < q.length
    ·have gql:=gq l hlq;have kql:=kq _ (ZB7 hlq);have hst:=hsti l hlq;have hoql:=hoq _ (ZB7 hlq);obtain⟨a1,a2,a3⟩:=hacc (ci+l) (by have:=hci (l+1) zo;omega);clear gq kq hsti hoq hacc hac0 hdst;generalize q[l]=v at *;obtain⟨v1,v2⟩:=v;simp only at kql hst hoql;have gql:B.getD l .u=.agg [.v (.bool (decide (v1.num < 0))),lim (toL v1.num.natAbs),lim (toL v1.den),.sl 4 (v2.map Qt.av)]:=gql;have cm:=cm0 v1 kql.1;have ct:=ct0 v2 kql.2;have hb:=hmo v2 hoql;have hsz:=hsu v1 kql.1;have hml:=hmq v2 kql.2;have cad:=fun(m:Mem) a b c=>exAdd m 200 201 202 g h sv (PR (ci+l)) (u1*v1) (muQ u2 v2) a b c zo zo zo (ZB1 a3 Zn1) hml a2 hb (λt ht=>(a1 t ht).1) hsz zo zo
     rw [←hst] at cad;have cm:Pure prog 51 [.agg [.v (.bool us),lim un,lim ud],.agg [.v (.bool (decide (v1.num < 0))),lim (toL v1.num.natAbs),lim (toL v1.den)]] (ratQ (u1*v1)):=cm;have ct:Pure prog 119 [.sl 4 UQ,.sl 4 (v2.map Qt.av)] (.sl 4 ((muQ u2 v2).map Qt.av)):=ct;have cad:∀m:Mem,m 200=some (.box g 227 [.mp 201 h,.own 202 sv] false)→m 201=some (.map h (mpE (PR (ci+l))))→m 202=some (.row sv 78 4 ((PR (ci+l)).map qtA) 0)→ACall prog 118 [.pbox 200 g 0,ratQ (u1*v1),.sl 4 ((muQ u2 v2).map Qt.av)] m _:=cad;clear cm0 ct0 hmo hmq hsu a1 a2 a3 hst hb hml hsz kql;generalize u1*v1=w at *
     generalize (muQ u2 v2).map Qt.av=MQ at *;generalize toL v1.num.natAbs=vn at *;generalize toL v1.den=vd at *;generalize decide (v1.num < 0)=vs at *;generalize v2.map Qt.av=VQ at *
     (refine wkad (w_15 e1 e5 m200 m201 m202 e11 e12 e13 e7 m7 e17 e18 e19 hqm gql) (w_2 cm ct) (w_1 (w_d 8 [(5,ratQ w),(10,.sl 4 MQ)] [11] [])) (w_s ?_);intros)
     refine Zds (cad _ (gW m200) (gW m201) (gW m202)) ?_
     rintro _ _ ⟨sv2,rfl,rfl⟩
     (refine wkad (w_9 e1 e5 e11 e12 e13 e7 e17 e18 e19) w_t w_t (w_s ?_);intros)
     exact⟨l+1,⟨zo,⟨gW e1,gW e5,gW e11,gW e12,gW e13⟩,⟨gC,sv2,gC,gC⟩,⟨gW e7,gW m7⟩,gW e17,gW e18,gS⟩,zo⟩
    ·have hle:l=q.length:=zo;subst hle;rw [←hsucc] at m201 m202
     (refine wkad (w_14 e1 e5 m200 m201 m202 e11 e12 e13 e7 m7 e17 e18 e19 hqm) w_t w_t (w_s ?_);intros)
     exact⟨i+1,⟨zo,gW e1,gW e5,gW m201,⟨sv,gW m200,gW m202⟩,gW e11,gW e12,gS⟩,zo⟩
   ·exact⟨ZB5 _,⟨gW e1,gW e5,gW e11,gW e12,gW e13⟩,⟨gW m201,sv,gW m200,gW m202⟩,⟨gC,gC⟩,gC,gW hqm,gC⟩
  ·have hil:i=p.length:=zo;subst hil;obtain⟨a1,a2,a3⟩:=hacc (p.length*q.length) (ZBw _);have ce:=fun(m:Mem) a b=>exExpr m 200 201 202 300 g h sv (PR (p.length*q.length)) a b a3 hdst a1 zo zo;clear hacc hstep gp gq kp kq hop hoq;generalize PR (p.length*q.length)=S at *;generalize (srtQ ordT (nzT S)).map qtA=R at *
   (refine wkad (w_9 e1 e5 m200 m201 m202 e11 e12 e13 hpm) w_t w_t (w_s ?_);intros)
   refine Zg0 (ce _ (gW m200) (gW m202)) ?_;intro sv3
   (refine wkad w_t w_t w_t (w_s ?_);intros)
   all_goals exact gL
 ·exact⟨ZB5 _,gC,gC,by rw [ZEp,hac0];exact gC,⟨_,gC,by rw [ZEp,hac0];exact gC⟩,gC,gW hpm,gC⟩
theorem ZAf (p q:QTs) {j k m n:Nat} (hp:XB p j m) (hq:XB q k n) (hmn:m+n≤maxQ) (hl:p.length*q.length≤100000000) (hpl:p.length≤100000000) (hql:q.length≤100000000) (hj:j≤100000) (hk:k≤100000):Pure prog 66 [qpA p,qpA q] (qpA (mulX p q)) :=
 exMulT p q hp hq hmn (by rw [Zuf];exact hl) hpl hql hj hk
section
attribute [local go_sem] underlying3 underlying4 underlying161 underlying24 underlying26 underlying28 underlying91 underlying76 underlying78 underlying33 underlying34 sz3 by3 z3 szB zB Zas zRat Zaw zInt Zav zNat Zah Zaq Zai Bool.and_self Zal Zba zSlQ szQT byQT zQT Za9 zSlT szQP zQP underlying346 underlying47 szFr byFr zFr Zca Zcb zSQP
end
attribute [local go_sem] undFnR
def rawQ (a:Rat):RQ:=⟨decide (a.num < 0),toL a.num.natAbs,toL a.den⟩
theorem Zrm {a:Rat} {k:Nat} (h:Sz a k):(rawQ a).lm k:=⟨Zar _,Zar _,h.1,h.2⟩
theorem Zrl (a:Rat):(rawQ a).ok=true:=by
 unfold rawQ RQ.ok RQ.zok;simp only [ZCm,ZCs,ZEd,ZDw,Zap];refine⟨⟨⟨⟨(Zin (Zar _)).2 (by rw [Zap]),?_⟩,(Zin (Zar _)).2 (by rw [Zap])⟩,a.reduced⟩,Za6.2 (ZDl a.den_nz)⟩;by_cases h:a.num < 0
 ·have:(toL a.num.natAbs).length≠0:=by have:=Za6.2 (show 0 < a.num.natAbs by omega);omega
  simp [h,this]
 ·simp [h]
theorem Zx9 (a:Rat):(rawQ a).q=a:=by
 unfold rawQ RQ.q;simp only [Zap];rw [show zI (decide (a.num < 0)) a.num.natAbs=a.num from by unfold zI;by_cases h:a.num < 0<;>simp [h]<;>omega];exact ZFt a
def cstE (a:Rat):List RE:=[⟨rawQ a,[]⟩]
def ofE (q:Qt):List RE:=[⟨rawQ 1,[q]⟩]
theorem nrm_or (l:List RE):(∃G,nrmR l=.sl 4 G)∨nrmR l=.v (.slice none 0 0):=by
 unfold nrmR;split
 ·exact .inl ⟨_,rfl⟩
 ·exact .inr rfl
theorem norm_nil {f:Nat} {s:Bool} {x d:List Nat} {NR:AV} (c:Pure prog f [.sl 4 [RE.av ⟨⟨s,x,d⟩,[]⟩]] NR):Pure prog f [.sl 4 [.agg [.v (.bool s),lim x,lim d,.v (.slice none 0 0)]]] NR:=by
 refine Zir c (.cons (Vk.slL rfl (λe he=>by rw [List.mem_singleton.1 he];rfl) (λe he=>by rw [List.mem_singleton.1 he];rfl) ?_) .nil);exact .cons (.refl _) (.cons (.refl _) (.cons (.refl _) (.cons (.nil 4) .nil)))
theorem Zsq (a:Rat) {J:Nat} (ha:Sz a J) (hJ:J≤1000):Pure prog 55 [ratQ a] (nrmR (cstE a)):=by
 have c:=norm_nil (exNorm (cstE a) (J:=J) (by simp [cstE]) (λt ht=>by rw [List.mem_singleton.1 ht];exact Zrm ha) (λt ht=>by rw [List.mem_singleton.1 ht];simp) hJ);show Pure _ _ [.agg [.v (.bool (decide (a.num < 0))),lim (toL a.num.natAbs),lim (toL a.den)]] _;rcases nrm_or (cstE a) with⟨G,h⟩ | h
 all_goals
  rw [h] at c ⊢;clear h ha;generalize toL a.num.natAbs=x at *;generalize toL a.den=d at *;refine pI func55 rfl ntmps55 results55 call55 ?_
  (refine wkax w_t w_t w_t (w_1 c) w_t w_t w_y (w_r 0) (w_s ?_);intros)
  all_goals exact gL
theorem exOf (q:Qt):Pure prog 64 [q.av] (nrmR (ofE q)):=by
 have c:Pure prog 100 [.sl 4 [.agg [.v (.bool (decide ((1:Rat).num < 0))),lim (toL (1:Rat).num.natAbs),lim (toL (1:Rat).den),.sl 4 [.agg [iv q.k,iv q.a,iv q.b,iv q.c]]]]] (nrmR (ofE q)):=exNorm (ofE q) (J:=1) (by simp [ofE]) (λt ht=>by rw [List.mem_singleton.1 ht];exact Zrm (Zvr (.inr (.inr rfl)))) (λt ht=>by rw [List.mem_singleton.1 ht];simp) zo;have c1:Pure prog 27 [iv 1] (.agg [.v (.bool (decide ((1:Rat).num < 0))),lim (toL (1:Rat).num.natAbs),lim (toL (1:Rat).den)]):=Zpg 1 zo;generalize decide ((1:Rat).num < 0)=s1 at *;generalize toL (1:Rat).num.natAbs=x1 at *;generalize toL (1:Rat).den=d1 at *
 obtain⟨k,a,b,cc⟩:=q;simp only at *;rcases nrm_or (ofE ⟨k,a,b,cc⟩) with⟨G,h⟩ | h
 ·rw [h] at c ⊢;clear h;refine pI func64 rfl ntmps64 results64 call64 ?_
  (refine wkad w_t (w_2 c1 c) (w_1 (w_d 1 [(0,.agg [.v (.bool s1),lim x1,lim d1]),(2,.sl 4 [.agg [iv k,iv a,iv b,iv cc]]),(4,.sl 4 [.agg [.v (.bool s1),lim x1,lim d1,.sl 4 [.agg [iv k,iv a,iv b,iv cc]]]]),(5,.sl 4 G)] [] [])) (w_s ?_);intros)
  all_goals exact gL
 ·rw [h] at c ⊢;clear h;refine pI func64 rfl ntmps64 results64 call64 ?_
  (refine wkad w_t (w_2 c1 c) (w_1 (w_d 1 [(0,.agg [.v (.bool s1),lim x1,lim d1]),(2,.sl 4 [.agg [iv k,iv a,iv b,iv cc]]),(4,.sl 4 [.agg [.v (.bool s1),lim x1,lim d1,.sl 4 [.agg [iv k,iv a,iv b,iv cc]]]]),(5,.v (.slice none 0 0))] [] [])) (w_s ?_);intros)
  all_goals exact gL
theorem Ztl (q:QTs):sclT 1 q=q:=by
 unfold sclT;have:(λt:Rat × List Qt=>((1*t.1,t.2):Rat × List Qt))=id:=by funext t;show(1*t.1,t.2)=t;rw [ZFw]
 rw [this,List.map_id]
theorem exPlus (p q:QTs) {j k n:Nat} (hp:QK p j n) (hq:QK q k n) (np:∀t∈p,t.1≠0) (nq:∀t∈q,t.1≠0) (lp:p.length≤100000000) (lq:q.length≤100000000) (hj:j≤900000) (hk:k≤900000) (hn:n≤1000000):Pure prog 69 [qpA p,qpA q] (qpA (Zbf p q)):=by
 have c:=ZAg _ _ opAdd p q hp hq np nq lp lq hj hk hn;rw [Ztl] at c;have c:Pure prog 116 [.agg [.fn 52 []],.sl 4 (p.map qtA),.sl 4 (q.map qtA)] (.sl 4 ((Zbf p q).map qtA)):=c;show Pure _ _ [.sl 4 (p.map qtA),.sl 4 (q.map qtA)] (.sl 4 ((Zbf p q).map qtA));generalize (Zbf p q).map qtA=R at *;generalize p.map qtA=A at *;generalize q.map qtA=B at *;refine pI func69 rfl ntmps69 results69 call69 ?_
 (refine wkap w_t (w_1 c) (w_r 0) (w_s ?_);intros)
 all_goals exact gL
theorem exMinus (p q:QTs) {j k n:Nat} (hp:QK p j n) (hq:QK q k n) (np:∀t∈p,t.1≠0) (nq:∀t∈q,t.1≠0) (lp:p.length≤100000000) (lq:q.length≤100000000) (hj:j≤900000) (hk:k≤900000) (hn:n≤1000000):Pure prog 65 [qpA p,qpA q] (qpA (Zbf p (sclT (-1) q))):=by
 have c:=ZAg _ _ opSub p q hp hq np nq lp lq hj hk hn;have c:Pure prog 116 [.agg [.fn 115 []],.sl 4 (p.map qtA),.sl 4 (q.map qtA)] (.sl 4 ((Zbf p (sclT (-1) q)).map qtA)):=c;show Pure _ _ [.sl 4 (p.map qtA),.sl 4 (q.map qtA)] (.sl 4 ((Zbf p (sclT (-1) q)).map qtA));generalize (Zbf p (sclT (-1) q)).map qtA=R at *;generalize p.map qtA=A at *;generalize q.map qtA=B at *;refine pI func65 rfl ntmps65 results65 call65 ?_
 (refine wkap w_t (w_1 c) (w_r 0) (w_s ?_);intros)
 all_goals exact gL
attribute [go_sem] underlying346 underlying47 szFr byFr zFr zSQP
attribute [local go_sem] Zca Zcb
theorem xbC (p:QTs) (n:Nat) (h:(∀t∈p,t.1≠0∧(t.2.Pairwise λa b=>Qt.cmp a b≤0)∧(∀q∈t.2,q.norm=(q,1))∧t.2.length≤n∧t.1.den ∣ 1)∧(p.Pairwise λs t=>ordQ s.2 t.2 < 0)∧n1 p≤65535):XB p 1 n :=
 ⟨⟨λt ht=>⟨(h.1 t ht).1,(h.1 t ht).2.1,(h.1 t ht).2.2.1⟩,h.2.1⟩,λt ht=>(h.1 t ht).2.2.2.1,1,65535,by decide,by decide,by decide,⟨λt ht=>(h.1 t ht).2.2.2.2,h.2.2⟩⟩
theorem Zy3 {l:List RE} (h:l.all RE.ok=true):nrmR l=qpA (gatM (l.map RE.t)):=by unfold nrmR;rw [ZBv h]
theorem add_C {p q r:QTs} (hp:EX p) (hq:EX q) (h:Go.Pol.sumC ordQ (p++q)=r):Zbf p q=r:=by
 rw [←h,Znf Zbo];exact Zig (D:=okQ) Zbo (Zgl Zbo hp hq) (Zgt Zbo λt ht=>(List.mem_append.1 ht).elim (hp.dom t) (hq.dom t)) λφ=>by rw [Zst Zbo,Zux Zbo,ZAl]
theorem Zld (l:List Qt):qtA ((1:Rat),l)=.agg [.v (.bool false),lim [1],lim [1],qsA l]:=by
 show AV.agg [.v (.bool (decide ((1:Rat).num < 0))),lim (toL (1:Rat).num.natAbs),lim (toL (1:Rat).den),qsA l]=_;rw [show(1:Rat).num=1 from rfl,show(1:Rat).den=1 from rfl,show(1:Int).natAbs=1 from rfl,Zqz];rfl
theorem Zjw:Sz (1:Rat) 1:=Zvr (.inr (.inr rfl))
theorem Znp:ratQ (1:Rat)=.agg [.v (.bool false),lim [1],lim [1]]:=by
 show AV.agg [.v (.bool (decide ((1:Rat).num < 0))),lim (toL (1:Rat).num.natAbs),lim (toL (1:Rat).den)]=_;rw [show(1:Rat).num=1 from rfl,show(1:Rat).den=1 from rfl,show(1:Int).natAbs=1 from rfl,Zqz];rfl
abbrev oneE (q:List Qt):RE:=⟨rawQ 1,q⟩
theorem oneE_t {q:List Qt} (h1:sgP q=1) (h2:putP q=q):RE.t (oneE q)=(1,q):=by
 show((rawQ 1).q*(sgP q:Rat),putP q)=_;rw [Zx9,h1,h2,show((1:Int):Rat)=1 from rfl,ZGc]
theorem awConst1:Pure prog 55 [.agg [.v (.bool false),lim [1],lim [1]]] (.sl 4 [.agg [.v (.bool false),lim [1],lim [1],.sl 4 []]]):=by
 have c:=Zsq 1 Zjw zo;rw [Zy3 (by show(RE.ok (oneE []) && true)=true;rw [ZGj];show((rawQ 1).ok && true)=true;rw [Zrl];rfl)] at c
 have e:gatM ((cstE 1).map RE.t)=[((1:Rat),[])]:=by
  show gatM [RE.t (oneE [])]=_;rw [oneE_t rfl rfl,Zn8,ZBu zd]
 rw [e,Znp] at c;simp only [qpA,ZC1,ZDv,Zld] at c;exact c
theorem toL_two:toL 2=[2]:=by rw [Ze3 zo,show 2/65536=0 from rfl,Zax]
theorem Zo4:Sz (2:Rat) 1:=⟨by show(toL 2).length≤1;rw [toL_two];decide,by show(toL 1).length≤1;rw [Zed];omega⟩
theorem sz_m1:Sz (-1:Rat) 1:=⟨by show(toL 1).length≤1;rw [Zed];omega,by show(toL 1).length≤1;rw [Zed];omega⟩
def Zl9 (q:List Qt) (i:Nat):Bool:=decide ((q.getD i Qt.zero).norm=(q.getD i Qt.zero,1)) && (decide (i=0) || decide (Qt.cmp (q.getD (i - 1) Qt.zero) (q.getD i Qt.zero)≤0))
def Zns (q:List Qt):Bool:=(List.range q.length).all (Zl9 q)
def RE.zero:RE:=⟨⟨false,[],[]⟩,[]⟩
def Zhy (l:List RE) (i:Nat):Bool:=(l.getD i RE.zero).r.ok && (!decide ((l.getD i RE.zero).r.q=0) && (Zns (l.getD i RE.zero).q && (decide (i=0) || decide (ordQ (l.getD (i - 1) RE.zero).q (l.getD i RE.zero).q < 0))))
def rgtB (l:List RE):Bool:=(List.range l.length).all (Zhy l)
theorem Zph {n i:Nat} {p:Nat→Bool} (h:i < n) (hp:p i=false):(List.range n).all p=false:=by
 rw [List.all_eq_false];exact⟨i,List.mem_range.2 h,by simp [hp]⟩
theorem Zmo {n:Nat} {p:Nat→Bool} (h:∀i,i < n→p i=true):(List.range n).all p=true:=by
 rw [ZEu];exact λi hi=>h i (List.mem_range.1 hi)
theorem qt_atD {l:List Qt} {i:Nat} (h:i < l.length):(l.map Qt.av).getD i .u=Qt.av (l.getD i Qt.zero):=qt_at h
theorem rxProd (q:List Qt) (hl:q.length≤1000000):Pure prog 85 [qsA q] (.v (.bool (Zns q))):=by
 have hlm:(q.map Qt.av).length=q.length:=ZB2 ..;have hg:∀j,j < q.length→(q.map Qt.av).getD j .u=Qt.av (q.getD j Qt.zero):=λj h=>qt_atD h;have hbad:∀i,i < q.length→Zl9 q i=false→Zns q=false:=λi h hp=>Zph h hp;have hgood:(∀i,i < q.length→Zl9 q i=true)→Zns q=true:=Zmo;show Pure _ _ [.sl 4 (q.map Qt.av)] _;generalize q.map Qt.av=A at *;generalize hB:Zns q=B at *;refine pI func85 rfl ntmps85 results85 call85 ?_
 (refine wkad w_t w_t w_t (w_s ?_);intros)
 refine Zad (ι:=Nat) (λi e _=>i≤q.length∧(∀j,j < i→Zl9 q j=true)∧e 0=.sl 4 A∧e 3=iv i) (λi=>q.length - i) 0 zr ?_ ?_
 ·rintro i e m ⟨hi,hj,e0,e3⟩
  by_cases hlt:i < q.length
  ·have g1:=hg i hlt;have hb:=hbad i hlt;have hnx:Zl9 q i=true→∀j,j < i+1→Zl9 q j=true:=λh j hji=>by
    by_cases e:j=i
    ·rw [e];exact h
    ·exact hj j zo
   clear hgood hbad hj;have c1:=rqNorm (q.getD i Qt.zero).k (q.getD i Qt.zero).a (q.getD i Qt.zero).b (q.getD i Qt.zero).c;have c2:=rqCmp (q.getD i Qt.zero).norm.1.k (q.getD i Qt.zero).norm.1.a (q.getD i Qt.zero).norm.1.b (q.getD i Qt.zero).norm.1.c (q.getD i Qt.zero).k (q.getD i Qt.zero).a (q.getD i Qt.zero).b (q.getD i Qt.zero).c
   cases i with
   | zero =>
     have hv:Zl9 q 0=decide ((q.getD 0 Qt.zero).norm=(q.getD 0 Qt.zero,1)):=by unfold Zl9;simp
     rw [hv] at hb hnx;clear hv hg;generalize q.getD 0 Qt.zero=y at *;generalize hn:y.norm=nn at *;obtain⟨nn,ns⟩:=nn;obtain⟨y1,y2,y3,y4⟩:=y;obtain⟨n1,n2,n3,n4⟩:=nn;simp only at *;by_cases h1:ns=1
     ·by_cases h2:(⟨n1,n2,n3,n4⟩:Qt)=⟨y1,y2,y3,y4⟩
      ·rw [h2,qtO.refl] at c2;have hny:=hnx (by rw [h1,h2];exact ZB4 rfl);rw [h2] at c1;clear hb h2 hn;subst h1
       (refine wkad (w_4 e0 e3 hlm g1) (w_2 c1 c2) (w_1 (w_d 5 [(8,iv 0)] [] [])) (w_s ?_);intros)
       exact⟨1,⟨zo,hny,gW e0,gC⟩,zo⟩
      ·have hz:Qt.cmp ⟨n1,n2,n3,n4⟩ ⟨y1,y2,y3,y4⟩≠0:=λh=>h2 (qtO.eqz _ _ h);have hb:=hb (by rw [h1];exact ZB3 λh=>h2 (ZDi Prod.fst h));subst hb;clear hnx h2 hn;subst h1;generalize Qt.cmp _ _=z at *
       (refine wkad (w_5 e0 e3 hlm g1 hz) (w_2 c1 c2) (w_1 (w_d 5 [(8,iv z)] [] [])) (w_s ?_);intros)
       all_goals exact gL
     ·have hb:=hb (ZB3 λh=>h1 (ZDi Prod.snd h));subst hb;clear hnx hn c2
      (refine wkad (w_5 e0 e3 hlm g1 h1) (w_1 c1) w_t (w_s ?_);intros)
      all_goals exact gL
   | succ i =>
     have g2:=hg i zo;have hv:Zl9 q (i+1)=(decide ((q.getD (i+1) Qt.zero).norm=(q.getD (i+1) Qt.zero,1)) && decide (Qt.cmp (q.getD i Qt.zero) (q.getD (i+1) Qt.zero)≤0)):=by unfold Zl9;simp
     rw [hv] at hb hnx;have c3:=rqCmp (q.getD i Qt.zero).k (q.getD i Qt.zero).a (q.getD i Qt.zero).b (q.getD i Qt.zero).c (q.getD (i+1) Qt.zero).k (q.getD (i+1) Qt.zero).a (q.getD (i+1) Qt.zero).b (q.getD (i+1) Qt.zero).c;clear hv hg;have ei:(i:Int)+1 - 1=(i:Int):=zo;have en:((i+1:Nat):Int) - 1=(i:Int):=zo;have ek:i+1 - 1=i:=rfl;generalize q.getD (i+1) Qt.zero=y at *;generalize q.getD i Qt.zero=x at *;generalize hn:y.norm=nn at *;obtain⟨nn,ns⟩:=nn;obtain⟨y1,y2,y3,y4⟩:=y;obtain⟨x1,x2,x3,x4⟩:=x;obtain⟨n1,n2,n3,n4⟩:=nn;simp only at *;by_cases h1:ns=1
     ·by_cases h2:(⟨n1,n2,n3,n4⟩:Qt)=⟨y1,y2,y3,y4⟩
      ·rw [h2,qtO.refl] at c2;by_cases h3:Qt.cmp ⟨x1,x2,x3,x4⟩ ⟨y1,y2,y3,y4⟩≤0
       ·have hny:=hnx (by rw [h1,h2,ZB4 rfl,ZB4 h3];rfl);rw [h2] at c1;clear hb h2 hn;subst h1;generalize Qt.cmp _ _=z at *;have h4:¬0 < z:=zo
        (refine wkad (w_10 e0 e3 hlm g1 g2 h3 h4 ei en ek) (w_3 c1 c2 c3) (w_1 (w_d 5 [(8,iv 0),(24,iv z)] [] [])) (w_s ?_);intros)
        exact⟨i+1+1,⟨zo,hny,gW e0,gS⟩,zo⟩
       ·have hb:=hb (by rw [ZB3 h3,ZGa]);subst hb;rw [h2] at c1;clear hnx h2 hn;subst h1;generalize Qt.cmp _ _=z at *;have h4:0 < z:=zo
        (refine wkad (w_9 e0 e3 hlm g1 g2 h4 ei en ek) (w_3 c1 c2 c3) (w_1 (w_d 5 [(8,iv 0),(24,iv z)] [] [])) (w_s ?_);intros)
        all_goals exact gL
      ·have hz:Qt.cmp ⟨n1,n2,n3,n4⟩ ⟨y1,y2,y3,y4⟩≠0:=λh=>h2 (qtO.eqz _ _ h);have hb:=hb (by rw [h1,ZB3 λh=>h2 (ZDi Prod.fst h)];rfl);subst hb;clear hnx h2 hn c3;subst h1;generalize Qt.cmp ⟨n1,n2,n3,n4⟩ _=z at *
       (refine wkad (w_5 e0 e3 hlm g1 hz) (w_2 c1 c2) (w_1 (w_d 5 [(8,iv z)] [] [])) (w_s ?_);intros)
       all_goals exact gL
     ·have hb:=hb (by rw [ZB3 λh=>h1 (ZDi Prod.snd h)];rfl);subst hb;clear hnx hn c2 c3
      (refine wkad (w_5 e0 e3 hlm g1 h1) (w_1 c1) w_t (w_s ?_);intros)
      all_goals exact gL
  ·have hil:i=q.length:=zo;subst hil;have hb:=hgood hj;subst hb;clear hgood hbad hj hg
   (refine wkad (w_3 e0 e3 hlm) w_t w_t (w_s ?_);intros)
   all_goals exact gL
 ·exact⟨ZB5 _,λj h=>zo,gC,gC⟩
theorem re_atD {l:List RE} {i:Nat} (h:i < l.length):(l.map RE.av).getD i .u=RE.av (l.getD i RE.zero):=by
 rw [ZCb,ZCb,ZB6 (by rw [ZB2];exact h),ZB6 h,ZF9];rfl
theorem Zx8 {l:List RE} {i:Nat} (h:i < l.length):l.getD i RE.zero∈l:=by
 rw [ZCb,ZB6 h];exact ZB7 h
theorem tOk_r {l:List RE} {i:Nat} (h:(l.getD i RE.zero).r.ok=false):Zhy l i=false:=by unfold Zhy;rw [h];rfl
theorem tOk_z {l:List RE} {i:Nat} (h:(l.getD i RE.zero).r.q=0):Zhy l i=false:=by unfold Zhy;rw [ZB4 h];simp
theorem tOk_p {l:List RE} {i:Nat} (h:Zns (l.getD i RE.zero).q=false):Zhy l i=false:=by unfold Zhy;rw [h];simp
theorem tOk_o {l:List RE} {i:Nat} (h:¬ordQ (l.getD i RE.zero).q (l.getD (i+1) RE.zero).q < 0):Zhy l (i+1)=false:=by
 unfold Zhy;rw [show i+1 - 1=i from rfl,ZB3 h];simp
theorem tOk_y {l:List RE} {i:Nat} (h1:(l.getD i RE.zero).r.ok=true) (h2:(l.getD i RE.zero).r.q≠0) (h3:Zns (l.getD i RE.zero).q=true) (h4:i=0∨ordQ (l.getD (i - 1) RE.zero).q (l.getD i RE.zero).q < 0):Zhy l i=true:=by
 unfold Zhy;rw [h1,h3,ZB3 h2];simpa using h4
theorem rxRight (l:List RE) {J:Nat} (hl:l.length≤1000000) (hr:∀t∈l,t.r.lm J) (hq:∀t∈l,t.q.length≤1000000) (hJ:J≤100000):Pure prog 45 [.sl 4 (l.map RE.av)] (.v (.bool (rgtB l))):=by
 have hlm:(l.map RE.av).length=l.length:=ZB2 ..;have hg:∀j,j < l.length→(l.map RE.av).getD j .u=RE.av (l.getD j RE.zero):=λj h=>re_atD h;have hr:∀j,j < l.length→(l.getD j RE.zero).r.lm J:=λj h=>hr _ (Zx8 h);have hq:∀j,j < l.length→(l.getD j RE.zero).q.length≤1000000:=λj h=>hq _ (Zx8 h);have hbad:∀i,i < l.length→Zhy l i=false→rgtB l=false:=λi h hp=>Zph h hp;have hgood:(∀i,i < l.length→Zhy l i=true)→rgtB l=true:=Zmo;generalize l.map RE.av=A at *;generalize hB:rgtB l=B at *;refine pI func45 rfl ntmps45 results45 call45 ?_
 (refine wkad w_t w_t w_t (w_s ?_);intros)
 refine Zad (ι:=Nat) (λi e _=>i≤l.length∧(∀j,j < i→Zhy l j=true)∧e 0=.sl 4 A∧e 3=iv i) (λi=>l.length - i) 0 zr ?_ ?_
 ·rintro i e m ⟨hi,hj,e0,e3⟩
  by_cases hlt:i < l.length
  ·have g1:=hg i hlt;have hri:=hr i hlt;have hqi:=hq i hlt;have hb:=hbad i hlt;have hnx:Zhy l i=true→∀j,j < i+1→Zhy l j=true:=λh j hji=>by
    by_cases e:j=i
    ·rw [e];exact h
    ·exact hj j zo
   clear hgood hbad hj;have g1:A.getD i .u=.agg [.v (.bool (l.getD i RE.zero).r.s),lim (l.getD i RE.zero).r.l,lim (l.getD i RE.zero).r.d,.sl 4 ((l.getD i RE.zero).q.map Qt.av)]:=g1;have crq:=Ztw (l.getD i RE.zero).r.s (l.getD i RE.zero).r.l (l.getD i RE.zero).r.d hri.1 hri.2.1 (by have:=hri.2.2.1;omega) (by have:=hri.2.2.2;omega)
   cases hro:(l.getD i RE.zero).r.ok with
   | false =>
     have crq:Pure prog 71 [.agg [.v (.bool (l.getD i RE.zero).r.s),lim (l.getD i RE.zero).r.l,lim (l.getD i RE.zero).r.d]] (.v (.bool (l.getD i RE.zero).r.ok)):=crq;rw [hro] at crq;have hb:=hb (tOk_r hro);subst hb;clear hnx hg hr hq hro hri hqi;generalize l.getD i RE.zero=t at *;obtain⟨⟨s,x,d⟩,q⟩:=t;simp only at *;generalize q.map Qt.av=Q at *
     (refine wkad (w_4 e0 e3 hlm g1) (w_1 crq) (w_1 (w_d 4 [(5,.v (.bool false))] [] [])) (w_s ?_);intros)
     all_goals exact gL
   | true =>
     have crq:Pure prog 71 [.agg [.v (.bool (l.getD i RE.zero).r.s),lim (l.getD i RE.zero).r.l,lim (l.getD i RE.zero).r.d]] (.v (.bool (l.getD i RE.zero).r.ok)):=crq;rw [hro] at crq;have hz:=(RQ.ok_av hri hro).2;have cz:=qSign _ hz zo;have hre:=RQ.ok_eq hri hro;have cz:Pure prog 75 [.agg [.v (.bool (decide ((l.getD i RE.zero).r.q.num < 0))),lim (toL (l.getD i RE.zero).r.q.num.natAbs),lim (toL (l.getD i RE.zero).r.q.den)]] (iv (l.getD i RE.zero).r.q.num.sign):=cz;have e1:(l.getD i RE.zero).r.s=decide ((l.getD i RE.zero).r.q.num < 0):=ZDi RQ.s hre;have e2:(l.getD i RE.zero).r.l=toL (l.getD i RE.zero).r.q.num.natAbs:=ZDi RQ.l hre
     have e4:(l.getD i RE.zero).r.d=toL (l.getD i RE.zero).r.q.den:=ZDi RQ.d hre;rw [←e1,←e2,←e4] at cz;clear e1 e2 e4 hre hz;have cp:=rxProd (l.getD i RE.zero).q hqi;have cp:Pure prog 85 [.sl 4 ((l.getD i RE.zero).q.map Qt.av)] (.v (.bool (Zns (l.getD i RE.zero).q))):=cp;by_cases hx:(l.getD i RE.zero).r.q=0
     ·have hz2:(l.getD i RE.zero).r.q.num.sign=0:=by rw [Zdv];exact hx
      rw [hz2] at cz;have hb:=hb (tOk_z hx);subst hb;clear hnx hg hr hq hro hri hqi hx hz2 cp;generalize l.getD i RE.zero=t at *;obtain⟨⟨s,x,d⟩,q⟩:=t;simp only at *;generalize q.map Qt.av=Q at *
      (refine wkad (w_4 e0 e3 hlm g1) (w_2 crq cz) (w_1 (w_d 4 [(5,.v (.bool true)),(13,iv 0)] [] [])) (w_s ?_);intros)
      all_goals exact gL
     ·have hz2:¬(l.getD i RE.zero).r.q.num.sign=0:=by rw [Zdv];exact hx
      cases hpb:Zns (l.getD i RE.zero).q with
      | false =>
        rw [hpb] at cp;have hb:=hb (tOk_p hpb);subst hb;clear hnx hg hr hq hro hri hqi hx hpb;generalize (l.getD i RE.zero).r.q.num.sign=z at *;generalize l.getD i RE.zero=t at *;obtain⟨⟨s,x,d⟩,q⟩:=t;simp only at *;generalize q.map Qt.av=Q at *
        (refine wkad (w_5 e0 e3 hlm g1 hz2) (w_3 crq cz cp) (w_1 (w_d 4 [(5,.v (.bool true)),(13,iv z),(22,.v (.bool false))] [] [])) (w_s ?_);intros)
        all_goals exact gL
      | true =>
        rw [hpb] at cp
        cases i with
        | zero =>
          have hnx:=hnx (tOk_y hro hx hpb (.inl rfl));clear hb hg hr hq hro hri hqi hx hpb;generalize (l.getD 0 RE.zero).r.q.num.sign=z at *;generalize l.getD 0 RE.zero=t at *;obtain⟨⟨s,x,d⟩,q⟩:=t;simp only at *;generalize q.map Qt.av=Q at *
          (refine wkad (w_5 e0 e3 hlm g1 hz2) (w_3 crq cz cp) (w_1 (w_d 4 [(5,.v (.bool true)),(13,iv z),(22,.v (.bool true))] [] [])) (w_s ?_);intros)
          exact⟨1,⟨zo,hnx,gW e0,gC⟩,zo⟩
        | succ i =>
          have g2:=hg i zo;have g2:A.getD i .u=.agg [.v (.bool (l.getD i RE.zero).r.s),lim (l.getD i RE.zero).r.l,lim (l.getD i RE.zero).r.d,.sl 4 ((l.getD i RE.zero).q.map Qt.av)]:=g2;have co:=rxOrder (l.getD i RE.zero).q (l.getD (i+1) RE.zero).q (hq i zo) hqi;have co:Pure prog 42 [.sl 4 ((l.getD i RE.zero).q.map Qt.av),.sl 4 ((l.getD (i+1) RE.zero).q.map Qt.av)] (iv (ordQ (l.getD i RE.zero).q (l.getD (i+1) RE.zero).q)):=co;have en:((i+1:Nat):Int) - 1=(i:Int):=zo;by_cases ho:ordQ (l.getD i RE.zero).q (l.getD (i+1) RE.zero).q < 0
          ·have hnx:=hnx (tOk_y hro hx hpb (.inr ho));clear hb hg hr hq hro hri hqi hx hpb;have ho2:¬0≤ordQ (l.getD i RE.zero).q (l.getD (i+1) RE.zero).q:=zo;generalize (l.getD (i+1) RE.zero).r.q.num.sign=z at *;generalize ordQ (l.getD i RE.zero).q (l.getD (i+1) RE.zero).q=w at *;generalize l.getD (i+1) RE.zero=t at *;generalize l.getD i RE.zero=u at *;obtain⟨⟨s,x,d⟩,q⟩:=t;obtain⟨⟨s',x',d'⟩,q'⟩:=u;simp only at *;generalize q.map Qt.av=Q at *;generalize q'.map Qt.av=Q' at *
           (refine wkad (w_9 e0 e3 hlm g1 g2 hz2 ho ho2 en) (w_4 crq cz cp co) (w_1 (w_d 4 [(5,.v (.bool true)),(13,iv z),(22,.v (.bool true)),(40,iv w)] [] [])) (w_s ?_);intros)
           exact⟨i+1+1,⟨zo,hnx,gW e0,gS⟩,zo⟩
          ·have hb:=hb (tOk_o ho);subst hb;clear hnx hg hr hq hro hri hqi hx hpb;have ho2:0≤ordQ (l.getD i RE.zero).q (l.getD (i+1) RE.zero).q:=zo;generalize (l.getD (i+1) RE.zero).r.q.num.sign=z at *;generalize ordQ (l.getD i RE.zero).q (l.getD (i+1) RE.zero).q=w at *;generalize l.getD (i+1) RE.zero=t at *;generalize l.getD i RE.zero=u at *;obtain⟨⟨s,x,d⟩,q⟩:=t;obtain⟨⟨s',x',d'⟩,q'⟩:=u;simp only at *;generalize q.map Qt.av=Q at *;generalize q'.map Qt.av=Q' at *
           (refine wkad (w_9 e0 e3 hlm g1 g2 hz2 ho ho2 en) (w_4 crq cz cp co) (w_1 (w_d 4 [(5,.v (.bool true)),(13,iv z),(22,.v (.bool true)),(40,iv w)] [] [])) (w_s ?_);intros)
           all_goals exact gL
  ·have hil:i=l.length:=zo;subst hil;have hb:=hgood hj;subst hb;clear hgood hbad hj hg hr hq
   (refine wkad (w_3 e0 e3 hlm) w_t w_t (w_s ?_);intros)
   all_goals exact gL
 ·exact⟨ZB5 _,λj h=>zo,gC,gC⟩
section
attribute [local go_sem] underlying3 underlying4 underlying161 underlying24 underlying26 underlying28 underlying91 underlying76 underlying78 underlying33 underlying34 sz3 by3 z3 szB zB Zas zRat Zaw zInt Zav zNat Zah Zaq Zai Bool.and_self Zal Zba zSlQ szQT byQT zQT Za9 zSlT szQP zQP
end
def nrmT (l:List RE):QTs:=if l.all RE.ok=true then gatM (l.map RE.t) else []
section
attribute [local go_sem] underlying3 underlying4 underlying161 underlying24 underlying26 underlying28 underlying91 underlying76 underlying78 underlying33 underlying34 sz3 by3 z3 szB zB Zas zRat Zaw zInt Zav zNat Zah Zaq Zai Bool.and_self Zal Zba zSlQ szQT byQT zQT Za9 zSlT szQP zQP underlying346 underlying47 szFr byFr zFr Zca Zcb zSQP underlying35 underlying65 underlying9 Za8 zStr
end
section
variable {N n:Nat} {cs:List AV}
theorem shProd (h:Zcc prog N n 76 cs):∃l:List Qt,cs=[qsA l]∧l.length≤N:=by
 obtain⟨bs,rfl,hl,_⟩:=Zcl (g:=λq:Qt=>[iv q.k,iv q.a,iv q.b,iv q.c]) (Q:=λ_=>True) underlying76 h λm x hx=>by
  obtain⟨k,a,b,c,rfl⟩:=shQuantP hx;exact⟨⟨k,a,b,c⟩,rfl,trivial⟩
 refine⟨bs,?_,hl⟩;rw [show prog.cellsOf 91=4 from by kernel_rfl];have:(bs.map λq:Qt=>Zc4 prog 91 [iv q.k,iv q.a,iv q.b,iv q.c])=bs.map Qt.av:=ZEg λb _=>ZBh _;rw [this]
theorem shQTerm (h:Zcc prog N n 78 cs):∃t:RE,cs=[.v (.bool t.r.s),lim t.r.l,lim t.r.d,qsA t.q]∧t.r.lm N∧t.q.length≤N:=by
 obtain⟨m,rfl,hs⟩:=Zb7 underlying78 zk h;obtain⟨x,y,rfl,h1,hs⟩:=hs.inv;obtain⟨x2,y,rfl,h2,hs⟩:=hs.inv;obtain rfl:=hs.inv0;obtain⟨r,rfl,hr⟩:=shRat h1;obtain⟨l,rfl,hl⟩:=shProd h2;exact⟨⟨r,l⟩,rfl,hr,hl⟩
theorem Zxq {T:TypeId} (hu:prog.underlying T=some (.slice 78)) (h:Zcc prog N n T cs):∃l:List RE,cs=[.sl 4 (l.map RE.av)]∧l.length≤N∧(∀t∈l,t.r.lm N)∧∀t∈l,t.q.length≤N:=by
 obtain⟨bs,rfl,hl,hq⟩:=Zcl (g:=λt:RE=>[.v (.bool t.r.s),lim t.r.l,lim t.r.d,qsA t.q]) (Q:=λt=>t.r.lm N∧t.q.length≤N) hu h λm x hx=>by
  obtain⟨t,h1,h2⟩:=shQTerm hx;exact⟨t,h1,h2⟩
 refine⟨bs,?_,hl,λt ht=>(hq t ht).1,λt ht=>(hq t ht).2⟩;rw [show prog.cellsOf 78=4 from by kernel_rfl];have:(bs.map λt:RE=>Zc4 prog 78 [.v (.bool t.r.s),lim t.r.l,lim t.r.d,qsA t.q])=bs.map RE.av:=ZEg λb _=>Zfv underlying78 _;rw [this]
end
def Zfh (Q:Nat) (t:RE):Bool:=decide (t.q.length≤Q) && t.r.tiny
def Zea (T Q:Nat) (l:List RE):Bool:=decide (l.length≤T) && (l.all (Zfh Q) && rgtB l)
def RE.rt (t:RE):Rat × List Qt:=(t.r.q,t.q)
theorem rt_av {Q k:Nat} {l:List RE} (hr:∀t∈l,t.r.lm k) (h:l.all (Zfh Q)=true):l.map RE.av=(l.map RE.rt).map qtA:=by
 rw [List.map_map];refine ZEg λt ht=>?_;have:=List.all_eq_true.1 h t ht;unfold Zfh at this;simp only [ZCm] at this;have e:=(RQ.tiny_av (hr t ht).1 (hr t ht).2.1 this.2).1;have e1:t.r.av=.agg [.v (.bool t.r.s),lim t.r.l,lim t.r.d]:=rfl;have e2:ratQ t.r.q=.agg [.v (.bool (decide (t.r.q.num < 0))),lim (toL t.r.q.num.natAbs),lim (toL t.r.q.den)]:=rfl;rw [e1,e2] at e;simp only [AV.agg.injEq,List.cons.injEq,and_true] at e;show AV.agg [.v (.bool t.r.s),lim t.r.l,lim t.r.d,qsA t.q]=.agg [.v (.bool (decide (t.r.q.num < 0))),lim (toL t.r.q.num.natAbs),lim (toL t.r.q.den),qsA t.q]
 rw [e.1,e.2.1,e.2.2]
theorem rt_qk {Q k:Nat} {l:List RE} (hr:∀t∈l,t.r.lm k) (h:l.all (Zfh Q)=true):QK (l.map RE.rt) 2 Q:=λu hu=>by
 obtain⟨t,ht,rfl⟩:=List.mem_map.1 hu;have:=List.all_eq_true.1 h t ht;unfold Zfh at this;simp only [ZCm,ZCs] at this;exact⟨(RQ.tiny_av (hr t ht).1 (hr t ht).2.1 this.2).2,this.1⟩
theorem Zxw (l:List RE) (T Q:Nat) (hT:T≤100000) (hQ:Q≤100000) (hl:l.length≤9223372036854775807) (hr:∀t∈l,t.r.lm 9223372036854775807) (hq:∀t∈l,t.q.length≤9223372036854775807) :
 Pure prog 12 [.sl 4 (l.map RE.av),iv T,iv Q] (.v (.bool (Zea T Q l))):=by
 have hpl:(l.map RE.av).length=l.length:=ZB2 ..;have hg:∀i (h:i < l.length),(l.map RE.av).getD i .u=.agg [.v (.bool l[i].r.s),lim l[i].r.l,lim l[i].r.d,.sl 4 (l[i].q.map Qt.av)]:=λi h=>Zam RE.av h;have ct:∀i (h:i < l.length),Pure prog 44 [.agg [.v (.bool l[i].r.s),lim l[i].r.l,lim l[i].r.d]] (.v (.bool l[i].r.tiny)):=λi h=>rqTiny l[i].r (hr _ (ZB7 h));have cr:l.length≤T→l.all (Zfh Q)=true→Pure prog 45 [.sl 4 (l.map RE.av)] (.v (.bool (rgtB l))):=λh1 h2=>by
  have h3:∀t∈l,t.q.length≤Q∧t.r.tiny=true:=λt ht=>by
   have:=List.all_eq_true.1 h2 t ht;unfold Zfh at this
   simpa only [ZCm,ZCs] using this
  refine rxRight l (J:=2) zo (λt ht=>?_) (λt ht=>by have:=h3 t ht;omega) zo;have h4:=(h3 t ht).2;unfold RQ.tiny at h4;simp only [ZCm,ZCs] at h4;exact⟨(hr t ht).1,(hr t ht).2.1,h4.1.1,h4.1.2⟩
 clear hr hq;generalize l.map RE.av=L at *;by_cases hlen:l.length≤T
 ·have h1:¬(T:Int) < (l.length:Int):=zo;have hsm:Zea T Q l=(l.all (Zfh Q) && rgtB l):=by unfold Zea;rw [ZB4 hlen,ZDn]
  rw [hsm];refine pI func12 rfl ntmps12 results12 call12 ?_
  (refine wkap (w_2 hpl h1) w_t (w_r 0) (w_s ?_);intros)
  refine Zad (ι:=Nat) (λi e m=>i≤l.length∧(l.take i).all (Zfh Q)=true∧e 0=.sl 4 L∧e 2=iv Q∧e 7=iv i) (λi=>l.length - i) 0 zr ?_ ?_
  ·rintro i e m ⟨hi,hs,e0,e2,e7⟩
   by_cases hlt:i < l.length
   ·have hgi:=hg i hlt;have cti:=ct i hlt;have hql:(l[i].q.map Qt.av).length=l[i].q.length:=ZB2 ..;have hst:Zfh Q l[i]=true→(l.take (i+1)).all (Zfh Q)=true:=Zl4 hlt hs;have hsn:Zfh Q l[i]=false→l.all (Zfh Q)=false:=λh=>List.all_eq_false.2 ⟨l[i],ZB7 hlt,by rw [h];decide⟩;have hsd:Zfh Q l[i]=(decide (l[i].q.length≤Q) && l[i].r.tiny):=rfl;clear hg ct cr hs hsm;generalize l[i].q.map Qt.av=qs at *;generalize l[i].q.length=qn at *;generalize l[i].r.tiny=tn at *;generalize l[i].r.s=ts at *;generalize l[i].r.l=tl at *;generalize l[i].r.d=td at *;by_cases h6:qn≤Q
    ·have g6:¬(Q:Int) < (qn:Int):=zo
     cases tn with
     | true =>
       have hsy:=hst (by rw [hsd,ZB4 h6];rfl)
       (refine wkap (w_7 e0 e2 e7 hpl hgi hql g6) (w_1 cti) (w_r 0) (w_s ?_);intros)
       exact⟨i+1,⟨zo,hsy,gW e0,gW e2,gS⟩,zo⟩
     | false =>
       rw [hsn (by rw [hsd,ZGa]),ZCz]
       (refine wkap (w_7 e0 e2 e7 hpl hgi hql g6) (w_1 cti) (w_r 0) (w_s ?_);intros)
       all_goals exact gL
    ·have g6:(Q:Int) < (qn:Int):=zo;rw [hsn (by rw [hsd,ZB3 h6];rfl),ZCz]
     (refine wkap (w_7 e0 e2 e7 hpl hgi hql g6) w_t (w_r 0) (w_s ?_);intros)
     all_goals exact gL
   ·have:i=l.length:=zo;subst this;rw [ZDg] at hs;have cr:=cr hlen hs;rw [hs,ZDn]
    (refine wkap (w_4 e0 e2 e7 hpl) (w_1 cr) (w_r 0) (w_s ?_);intros)
    all_goals exact gL
  ·exact⟨ZB5 _,rfl,gC,gC,gC⟩
 ·have h1:(T:Int) < (l.length:Int):=zo;have hsm:Zea T Q l=false:=by unfold Zea;rw [ZB3 hlen,ZCz]
  rw [hsm];refine pI func12 rfl ntmps12 results12 call12 ?_
  (refine wkap (w_2 hpl h1) w_t (w_r 0) (w_s ?_);intros)
  all_goals exact gL
def mrgQ:List Qt→List Qt→List Qt
 | a,[]=>a
 | [],y :: b=>y :: b
 | x :: a,y :: b=>if Qt.cmp x y≤0 then x :: mrgQ a (y :: b) else y :: mrgQ (x :: a) b
termination_by a b=>a.length+b.length
section
attribute [local go_sem] underlying3 underlying4 underlying161 underlying24 underlying26 underlying28 underlying91 underlying76 underlying78 underlying33 underlying34 sz3 by3 z3 szB zB Zas zRat Zaw zInt Zav zNat Zah Zaq Zai Bool.and_self Zal Zba zSlQ szQT byQT zQT Za9 zSlT szQP zQP
end
end Go.Proofs.YtkefeinbjbeidaaGreatDoor
