/- Contracts of the functions that the law reaches, and the rules by which they are walked. They say what a call hands back for every input within the bounds that each names; no other condition. -/
import Derived.Test.YtimmnimikmnljaaGreatBd6
set_option linter.unusedSimpArgs false
set_option linter.unusedVariables false
set_option maxRecDepth 20000
set_option maxHeartbeats 16000000
namespace Go.Proofs.YtimmnimikmnljaaGreat
open Go Go.RowKit Go.Pg
attribute [-bool_to_prop] Bool.and_eq_decide Bool.or_eq_decide Bool.decide_beq_decide decide_eq_decide
attribute [local go_sem] Tryz.underlying40 Tryz.underlying3 Tryz.underlying104 Tryz.underlying161 Tryz.underlying115 Tryz.underlying21 Tryz.underlying5 sz3 by3 z3 szL byL zL
theorem Zo5 (σ:Mem) (K:Nat) (sv:Value) (pre w post v:List Nat) (d:Nat) (hσ:σ K=some (.row sv 104 1 (u16s (pre++(w++post))) 0)) (hwv:w.length=v.length+1) (hsz:(pre++(w++post)).length≤1000000000) (lw:Lm w) (lv:Lm v) (hd:d < 65536) :
 ACall Tryz.prog 192 [.view K sv 1 pre.length w.length,lim v,.v (.int .u32 (d:Int))] σ λr σ'=>∃(w':List Nat) (b:Nat),r=.v (.bool (decide (0 < (b:Int))))∧σ'=upd σ K (some (.row sv 104 1 (u16s (pre++(w'++post))) 0))∧w'.length=w.length∧Lm w'∧b≤1∧nv w'+d*nv v=nv w+65536 ^ w.length*b:=by
 have hsz2:pre.length+(w.length+post.length)≤1000000000:=by simpa using hsz
 refine Zck (tok:=0) (rs:=[.tmp 6]) Tryz.func192 rfl Tryz.ntmps192 Tryz.results192 Tryz.call192 (by rfl) (by simp) ?_;(focus (refine wkvp w_t w_t ?_;(repeat' first|exact w_t|apply w_l);all_goals intros));refine Zag (ι:=Nat) (λk e m=>k≤w.length∧(e 0=.view K sv 1 pre.length w.length∧e 1=lim v∧e 2=.v (.int .u32 (d:Int))∧e 12=.v (.int .i64 w.length)∧e 13=.v (.int .i64 (k:Int)))∧∃w' c r,(e 7=.v (.int .u32 (c:Nat))∧e 8=.v (.int .i32 (r:Nat))∧m=upd σ K (some (.row sv 104 1 (u16s (pre++(w'++post))) 0)))∧w'.length=w.length∧Lm w'∧c < 65536∧(v.length < k→c=0)∧r≤1∧(∀j,k≤j→gN w' j=gN w j)∧nv (w'.take k)+d*nv (v.take k)=nv (w.take k)+65536 ^ k*(c+r)) (λk=>w.length - k) 0 (by rfl) ?_ ?_
 ·rintro k e m ⟨hk,⟨e0,e1,e2,e12,e13⟩,w',c,r,⟨e7,e8,rfl⟩,hwl,hLw,hc,hcz,hr,hsame,hv⟩
  by_cases hlt:k < w.length
  ·have gw:=Zbz lw k;have gv:=Zbz lv k;have hgw:=hsame k (Nat.le_refl _);have mid:=gN_mid (pre:=pre) (post:=post) (show k < w'.length by omega);have smid:=λx=>Zse (pre:=pre) (post:=post) (show k < w'.length by omega) x;have hln:(pre++(w'++post)).length=pre.length+(w'.length+post.length):=by simp
   have bd:=Zni hd gv;have step:∀(x r' c1:Nat),c1=c+d*gN v k→x+c1%65536+r=gN w k+65536*r'→x < 65536→r'≤1 →
    (w'.set k x).length=w.length∧Lm (w'.set k x)∧c1/65536 < 65536∧(v.length < k+1→c1/65536=0)∧r'≤1∧(∀j,k+1≤j→gN (w'.set k x) j=gN w j)∧nv ((w'.set k x).take (k+1))+d*nv (v.take (k+1))=nv (w.take (k+1))+65536 ^ (k+1)*(c1/65536+r'):=by
    intro x r' c1 h1 h2 h3 h4;have h5:=Zod hv h1 h2;refine⟨by simpa using hwl,hLw.set k h3,by omega,λh6=>?_,h4,λj hj=>?_,?_⟩
    ·have:gN v k=0:=Zd2 (by omega);rw [this,Nat.mul_zero] at h1;omega
    ·rw [Zfh (by omega),if_neg (by omega)];exact hsame j (by omega)
    ·rw [Zc5 (by omega),Zay,Zay,Nat.pow_succ];exact h5
   by_cases hkv:k < v.length
   ·generalize hxy:d*gN v k=xy at *;by_cases hneg:gN w k < (c+xy)%65536+r
    ·have hs:=step (gN w k+65536 - (c+xy)%65536 - r) 1 (c+xy) rfl (by omega) (by omega) (by omega);have wv:(gN w k:Int) - ((c+xy)%65536:Nat) - r+65536=((gN w k+65536 - (c+xy)%65536 - r:Nat):Int):=by omega
     have wm:(gN w k+65536 - (c+xy)%65536 - r)%65536=gN w k+65536 - (c+xy)%65536 - r:=Nat.mod_eq_of_lt (by omega);(focus (refine wkvp (w_18 e0 e1 e2 e12 e13 e7 e8 hln hwl mid smid hgw @Za0 @Zem @Zbc hxy wv wm) w_t ?_;(repeat' first|exact w_t|apply w_l);all_goals intros));exact⟨k+1,⟨by omega,by exact gV (And.intro e0 (And.intro e1 (And.intro e2 (And.intro e12 e13)))),_,_,1,⟨by exact gC,by exact gC,by(simp (disch:=omega) only [go_sem,Zg7]<;>repeat' first|rfl|refine⟨?_,?_⟩)⟩,hs⟩,by omega⟩
    ·have hs:=step (gN w k - (c+xy)%65536 - r) 0 (c+xy) rfl (by omega) (by omega) (by omega);have wv:(gN w k:Int) - ((c+xy)%65536:Nat) - r=((gN w k - (c+xy)%65536 - r:Nat):Int):=by omega
     have wm:(gN w k - (c+xy)%65536 - r)%65536=gN w k - (c+xy)%65536 - r:=Nat.mod_eq_of_lt (by omega);(focus (refine wkvp (w_18 e0 e1 e2 e12 e13 e7 e8 hln hwl mid smid hgw @Za0 @Zem @Zbc hxy wv wm) w_t ?_;(repeat' first|exact w_t|apply w_l);all_goals intros));exact⟨k+1,⟨by omega,by exact gV (And.intro e0 (And.intro e1 (And.intro e2 (And.intro e12 e13)))),_,_,0,⟨by exact gC,by exact gC,by(simp (disch:=omega) only [go_sem,Zg7]<;>repeat' first|rfl|refine⟨?_,?_⟩)⟩,hs⟩,by omega⟩
   ·have g0:gN v k=0:=Zd2 (by omega);have hcm:c%65536=c:=Nat.mod_eq_of_lt hc;simp only [g0,Nat.mul_zero,Nat.add_zero] at step;by_cases hneg:gN w k < c+r
    ·have hs:=step (gN w k+65536 - c - r) 1 c rfl (by omega) (by omega) (by omega);have wv:(gN w k:Int) - (c:Nat) - r+65536=((gN w k+65536 - c - r:Nat):Int):=by omega
     have wm:(gN w k+65536 - c - r)%65536=gN w k+65536 - c - r:=Nat.mod_eq_of_lt (by omega);(focus (refine wkvp (w_16 e0 e1 e2 e12 e13 e7 e8 hln hwl mid smid hgw @Zbc hcm wv wm) w_t ?_;(repeat' first|exact w_t|apply w_l);all_goals intros));exact⟨k+1,⟨by omega,by exact gV (And.intro e0 (And.intro e1 (And.intro e2 (And.intro e12 e13)))),_,_,1,⟨by exact gC,by exact gC,by(simp (disch:=omega) only [go_sem,Zg7]<;>repeat' first|rfl|refine⟨?_,?_⟩)⟩,hs⟩,by omega⟩
    ·have hs:=step (gN w k - c - r) 0 c rfl (by omega) (by omega) (by omega);have wv:(gN w k:Int) - (c:Nat) - r=((gN w k - c - r:Nat):Int):=by omega
     have wm:(gN w k - c - r)%65536=gN w k - c - r:=Nat.mod_eq_of_lt (by omega);(focus (refine wkvp (w_16 e0 e1 e2 e12 e13 e7 e8 hln hwl mid smid hgw @Zbc hcm wv wm) w_t ?_;(repeat' first|exact w_t|apply w_l);all_goals intros));exact⟨k+1,⟨by omega,by exact gV (And.intro e0 (And.intro e1 (And.intro e2 (And.intro e12 e13)))),_,_,0,⟨by exact gC,by exact gC,by(simp (disch:=omega) only [go_sem,Zg7]<;>repeat' first|rfl|refine⟨?_,?_⟩)⟩,hs⟩,by omega⟩
  ·have hkw:k=w.length:=by omega
   subst hkw;have hc0:=hcz (by omega);subst hc0;rw [Zbl (by omega),Zbl (by omega),Zbl (Nat.le_refl _),Nat.zero_add] at hv;(focus (refine wkvp (w_7 e0 e1 e2 e12 e13 e7 e8) w_t ?_;(repeat' first|exact w_t|apply w_l);all_goals intros));simp (disch:=omega) only [go_sem];refine⟨w',r,?_,?_,hwl,hLw,hr,hv⟩<;>rfl
 ·exact⟨Nat.zero_le _,by exact gC,w,0,0,⟨by exact gC,by exact gC,by rw [Zpr hσ]⟩,rfl,lw,by omega,λ_=>rfl,by omega,λ_ _=>rfl,by simp [nv]⟩
theorem Zrk (σ:Mem) (K:Nat) (sv:Value) (pre w post v:List Nat) (hσ:σ K=some (.row sv 104 1 (u16s (pre++(w++post))) 0)) (hwv:v.length≤w.length) (hsz:(pre++(w++post)).length≤1000000000) (lw:Lm w) (lv:Lm v) :
 ACall Tryz.prog 193 [.view K sv 1 pre.length w.length,lim v] σ λr σ'=>∃(w':List Nat) (c:Nat),r=.tup []∧σ'=upd σ K (some (.row sv 104 1 (u16s (pre++(w'++post))) 0))∧w'.length=w.length∧Lm w'∧c≤1∧nv w'+65536 ^ w.length*c=nv w+nv v:=by
 have hsz2:pre.length+(w.length+post.length)≤1000000000:=by simpa using hsz
 refine Zck (tok:=0) (rs:=[]) Tryz.func193 rfl Tryz.ntmps193 Tryz.results193 Tryz.call193 (by rfl) (by simp) ?_;(focus (refine wkvp w_t w_t ?_;(repeat' first|exact w_t|apply w_l);all_goals intros));refine Zag (ι:=Nat) (λk e m=>k≤w.length∧(e 0=.view K sv 1 pre.length w.length∧e 1=lim v∧e 7=.v (.int .i64 w.length)∧e 8=.v (.int .i64 (k:Int)))∧∃w' c,(e 4=.v (.int .u32 (c:Nat))∧m=upd σ K (some (.row sv 104 1 (u16s (pre++(w'++post))) 0)))∧w'.length=w.length∧Lm w'∧c≤1∧(∀j,k≤j→gN w' j=gN w j)∧nv (w'.take k)+65536 ^ k*c=nv (w.take k)+nv (v.take k)) (λk=>w.length - k) 0 (by rfl) ?_ ?_
 ·rintro k e m ⟨hk,⟨e0,e1,e7,e8⟩,w',c,⟨e4,rfl⟩,hwl,hLw,hc,hsame,hv⟩
  by_cases hlt:k < w.length
  ·have gw:=Zbz lw k;have gv:=Zbz lv k;have hgw:=hsame k (Nat.le_refl _);have mid:=gN_mid (pre:=pre) (post:=post) (show k < w'.length by omega);have smid:=λx=>Zse (pre:=pre) (post:=post) (show k < w'.length by omega) x;have hln:(pre++(w'++post)).length=pre.length+(w'.length+post.length):=by simp
   have hs:=Zmo (x:=gN w k) (y:=gN v k) hv;have w1:(c+gN w k+gN v k)/65536≤1:=by omega
   have w2:(c+gN w k+gN v k)%65536 < 65536:=by omega
   have hsm:∀x j,k+1≤j→gN (w'.set k x) j=gN w j:=λx j hj=>by
    rw [Zfh (by omega),if_neg (by omega)];exact hsame j (by omega)
   rw [←Zc5 (o:=w') (by omega),←Nat.pow_succ,←Zay,←Zay] at hs;by_cases hkv:k < v.length
   ·(focus (refine wkvp (w_12 e0 e1 e7 e8 e4 hln hwl mid smid hgw @Za0 @Zbc) w_t ?_;(repeat' first|exact w_t|apply w_l);all_goals intros));exact⟨k+1,⟨by omega,by exact gV (And.intro e0 (And.intro e1 (And.intro e7 e8))),_,_,⟨by exact gC,by(simp (disch:=omega) only [go_sem,Zg7]<;>repeat' first|rfl|refine⟨?_,?_⟩)⟩,by simpa using hwl,hLw.set k w2,w1,hsm _,hs⟩,by omega⟩
   ·have g0:gN v k=0:=Zd2 (by omega);simp only [g0,Nat.add_zero] at hs w1 w2;(focus (refine wkvp (w_12 e0 e1 e7 e8 e4 hln hwl mid smid hgw @Za0 @Zbc) w_t ?_;(repeat' first|exact w_t|apply w_l);all_goals intros));exact⟨k+1,⟨by omega,by exact gV (And.intro e0 (And.intro e1 (And.intro e7 e8))),_,_,⟨by exact gC,by(simp (disch:=omega) only [go_sem,Zg7]<;>repeat' first|rfl|refine⟨?_,?_⟩)⟩,by simpa using hwl,hLw.set k w2,w1,hsm _,hs⟩,by omega⟩
  ·have hkw:k=w.length:=by omega
   subst hkw;rw [Zbl (by omega),Zbl (Nat.le_refl _),Zbl hwv] at hv;(focus (refine wkvp (w_5 e0 e1 e7 e8 e4) w_t ?_;(repeat' first|exact w_t|apply w_l);all_goals intros));simp (disch:=omega) only [go_sem];refine⟨w',c,?_,hwl,hLw,hc,hv⟩<;>rfl
 ·exact⟨Nat.zero_le _,by exact gC,w,0,⟨by exact gC,by rw [Zpr hσ]⟩,rfl,lw,by omega,λ_ _=>rfl,by simp [nv]⟩
theorem Zo4 (σ:Mem) (sv:Value) (g2 g3 g5 g7 g9 g10:Nat) (U post v:List Nat) (d r j:Nat) (h2:σ 2=some (.box g2 40 [.view 44 sv 1 0 U.length] false)) (h3:σ 3=some (.box g3 40 [lim v] false)) (h5:σ 5=some (.box g5 3 [.v (.int .i64 v.length)] false))
 (h7:σ 7=some (.box g7 3 [.v (.int .i64 (j:Int))] false)) (h9:σ 9=some (.box g9 115 [.v (.int .u64 (d:Int))] false)) (h10:σ 10=some (.box g10 115 [.v (.int .u64 (r:Int))] false)) (h44:σ 44=some (.row sv 104 1 (u16s (U++post)) 0))
 (hn:2≤v.length) (hj:j+v.length < U.length) (hsz:U.length+post.length≤1000000000) (lv:Lm v) (lU:Lm U) (hr:r < 65536) :
 ACall Tryz.prog 191 [.pbox 9 g9 0,.pbox 3 g3 0,.pbox 5 g5 0,.pbox 10 g10 0,.pbox 2 g2 0,.pbox 7 g7 0] σ λx σ'=>x=.v (.bool (decide (65536≤d) || decide (r*65536+gN U (j+v.length - 2) < d*gN v (v.length - 2))))∧σ'=σ:=by
 refine Zck (tok:=0) (rs:=[.tmp 6]) Tryz.func191 rfl Tryz.ntmps191 Tryz.results191 Tryz.call191 (by rfl) (by simp) ?_;by_cases hd:65536≤d
 ·(focus (refine wkvd (w_7 h2 h3 h5 h7 h9 h10 h44) w_t w_t ?_;(repeat' first|exact w_t|apply w_l);all_goals intros));simp (disch:=omega) only [go_sem,decide_eq_true hd]
 ·have gv:=Zbz lv (v.length - 2);have gu:=Zbz lU (j+v.length - 2);have bd:=Zni (x:=d) (by omega) gv;have e1:(v.length:Int) - 2=((v.length - 2:Nat):Int):=by omega
  have e2:((j+v.length:Nat):Int) - 2=((j+v.length - 2:Nat):Int):=by omega
  have hg:gN (U++post) (j+v.length - 2)=gN U (j+v.length - 2):=Zpk (by omega);have hl:(U++post).length=U.length+post.length:=List.length_append;generalize hxy:d*gN v (v.length - 2)=xy at *;by_cases ht:r*65536+gN U (j+v.length - 2) < xy
  ·(focus (refine wkvd (w_15 h2 h3 h5 h7 h9 h10 h44 e1 e2 hg hl @Za0 @Zem hxy @Nat.zero_add) w_t w_t ?_;(repeat' first|exact w_t|apply w_l);all_goals intros));simp (disch:=omega) only [go_sem,decide_eq_true ht]
  ·(focus (refine wkvd (w_15 h2 h3 h5 h7 h9 h10 h44 e1 e2 hg hl @Za0 @Zem hxy @Nat.zero_add) w_t w_t ?_;(repeat' first|exact w_t|apply w_l);all_goals intros));simp (disch:=omega) only [go_sem,decide_eq_false hd,decide_eq_false ht]
attribute [local go_sem] szQ zQ
theorem Zlt {P:Program} {t d f:Nat} {args:List AV} {K:St→Prop} {e:Nat→AV} {m:Mem} {R:AV→Mem→Prop} (c:ACall P f args m R) (h:∀r σ',R r σ'→K ⟨upd e d r,σ'⟩):aRes P t (some d) (.call f args) K ⟨e,m⟩:=c.mono h
theorem Znf {σ:Mem} {K:Nat} {sv:Value} {pre w post v:List Nat} {d i len:Nat} (hi:pre.length=i) (hw:w.length=len) (hσ:σ K=some (.row sv 104 1 (u16s (pre++(w++post))) 0)) (hwv:len=v.length+1) (hsz:(pre++(w++post)).length≤1000000000) (lw:Lm w) (lv:Lm v) (hd:d < 65536) :
 ACall Tryz.prog 192 [.view K sv 1 i len,lim v,.v (.int .u32 (d:Int))] σ λr σ'=>∃(w':List Nat) (b:Nat),r=.v (.bool (decide (0 < (b:Int))))∧σ'=upd σ K (some (.row sv 104 1 (u16s (pre++(w'++post))) 0))∧w'.length=len∧Lm w'∧b≤1∧nv w'+d*nv v=nv w+65536 ^ len*b:=by
 subst hi;subst hw;exact Zo5 σ K sv pre w post v d hσ hwv hsz lw lv hd
theorem Zo6 {σ:Mem} {K:Nat} {sv:Value} {pre w post v:List Nat} {i len:Nat} (hi:pre.length=i) (hw:w.length=len) (hσ:σ K=some (.row sv 104 1 (u16s (pre++(w++post))) 0)) (hwv:v.length≤len) (hsz:(pre++(w++post)).length≤1000000000) (lw:Lm w) (lv:Lm v) :
 ACall Tryz.prog 193 [.view K sv 1 i len,lim v] σ λr σ'=>∃(w':List Nat) (c:Nat),r=.tup []∧σ'=upd σ K (some (.row sv 104 1 (u16s (pre++(w'++post))) 0))∧w'.length=len∧Lm w'∧c≤1∧nv w'+65536 ^ len*c=nv w+nv v:=by
 subst hi;subst hw;exact Zrk σ K sv pre w post v hσ hwv hsz lw lv
structure LongInv (U v q U':List Nat) (k:Nat):Prop where
 ql:q.length=U.length - v.length
 qL:Lm q
 qz:∀j,j < k→gN q j=0
 ul:U'.length=U.length
 uL:Lm U'
 eq:nv U'+nv v*nv (q.drop k)*65536 ^ k=nv U
 lt:nv (U'.drop k) < nv v
theorem LongInv.step {U v q U' w'':List Nat} {j n:Nat} (h:LongInv U v q U' (j+1)) (hn:v.length=n) (lv:Lm v) (hj:j+n < U.length) (hw:w''.length=n+1) (hwL:Lm w'')
 (hwv:nv w''=nv ((U'.drop j).take (n+1))%nv v) (hd:nv ((U'.drop j).take (n+1))/nv v < 65536) :
 LongInv U v (q.set j (nv ((U'.drop j).take (n+1))/nv v)) (U'.take j++(w''++U'.drop (j+n+1))) j:=by
 have hV:0 < nv v:=Nat.lt_of_le_of_lt (Nat.zero_le _) h.lt;have hz:=drop_zero lv hn h.lt;rw [List.drop_drop,show j+1+n=j+n+1 by omega] at hz;have hql:=h.ql;have hul:=h.ul;have hlj:(U'.take j).length=j:=by rw [List.length_take];omega
 have hj1:nv (U'.drop j)=nv ((U'.drop j).take (n+1)):=by
  have:=Zb3 (U'.drop j) (n+1);rw [List.drop_drop,show j+(n+1)=j+n+1 by omega,hz] at this;omega
 have hw2:nv (w''++U'.drop (j+n+1))=nv w'':=by rw [Zdd,hz];omega
 have hdr:nv ((U'.take j++(w''++U'.drop (j+n+1))).drop j)=nv w'':=by
  rw [List.drop_append_of_le_length (by omega),List.drop_eq_nil_of_le (by omega),List.nil_append,hw2]
 refine⟨by simpa using hql,h.qL.set j hd,λi hi=>?_,by simp;omega,(h.uL.take j).append (hwL.append (h.uL.drop _)),?_,by rw [hdr,hwv];exact Nat.mod_lt _ hV⟩
 ·rw [Zfh (by omega),if_neg (by omega)];exact h.qz i (by omega)
 ·have h1:=h.eq;have h2:=Zb3 U' j;have h3:=Nat.div_add_mod (nv ((U'.drop j).take (n+1))) (nv v);rw [Zdd,hlj,hw2,hwv,Zb5 (q.set j _),Zfh (by omega),if_pos rfl,List.drop_set_of_lt (by omega)];rw [←h1,h2,hj1,Nat.mul_add,Nat.add_mul,Nat.pow_succ];generalize nv ((U'.drop j).take (n+1))=W at *;generalize nv (q.drop (j+1))=Q at *
  have e1:nv v*(W/nv v)*65536 ^ j+65536 ^ j*(W%nv v)=65536 ^ j*W:=by
   rw [Nat.mul_comm (nv v*(W/nv v)),←Nat.mul_add,h3]
  have e2:nv v*(65536*Q)*65536 ^ j=nv v*Q*(65536 ^ j*65536):=by
   simp only [Nat.mul_assoc,Nat.mul_left_comm,Nat.mul_comm]
  omega
theorem natLong (σ:Mem) (sv:Value) (U post v:List Nat) (n:Nat) (hvn:v.length=n) (h44:σ 44=some (.row sv 104 1 (u16s (U++post)) 0)) (hn:2≤n) (hlen:n < U.length) (hsz:U.length+post.length≤1000000000) (lU:Lm U) (lp:Lm post) (lv:Lm v)
 (hvt:0 < gN v (n - 1)) (hlt:nv (U.drop (U.length - n)) < nv v) :
 ACall Tryz.prog 177 [.view 44 sv 1 0 U.length,lim v] σ λr σ'=>∃U':List Nat,r=lim (toL (nv U/nv v))∧σ' 44=some (.row sv 104 1 (u16s (U'++post)) 0)∧U'.length=U.length∧Lm U'∧nv U'=nv U%nv v:=by
 have hc:(U.length:Int) - (n:Int)=((U.length - n:Nat):Int):=by omega
 refine Zck (tok:=0) (rs:=[.tmp 4]) Tryz.func177 rfl Tryz.ntmps177 Tryz.results177 Tryz.call177 (by rfl) (by simp) ?_;(focus (refine wkvp (w_2 hvn hc) w_t ?_;(repeat' first|exact w_t|apply w_l);all_goals intros));refine Zag (ι:=Nat) (λk e m=>k≤U.length - n∧∃g2 g3 g5 g7 svo q U',(e 2=.pbox 2 g2 0∧e 3=.pbox 3 g3 0∧e 5=.pbox 5 g5 0∧e 6=.own 18 svo∧e 7=.pbox 7 g7 0)∧m 2=some (.box g2 40 [.view 44 sv 1 0 U.length] false)∧m 3=some (.box g3 40 [lim v] false)∧m 5=some (.box g5 3 [.v (.int .i64 n)] false)∧m 7=some (.box g7 3 [.v (.int .i64 ((k:Int) - 1))] false) ∧
  m 18=some (.row svo 104 1 (u16s q) 0)∧m 44=some (.row sv 104 1 (u16s (U'++post)) 0)∧LongInv U v q U' k) (λk=>k) (U.length - n) (by rfl) ?_ ?_
 ·rintro k e m ⟨hk,g2,g3,g5,g7,svo,q,U',⟨e2,e3,e5,e6,e7⟩,m2,m3,m5,m7,m18,m44,inv⟩
  have hql:=inv.ql;rw [hvn] at hql;have hul:=inv.ul;rcases Nat.eq_zero_or_pos k with h0 | h0
  ·subst h0;have h1:=inv.eq;have h2:=inv.lt;rw [List.drop_zero] at h1 h2;rw [Nat.pow_zero,Nat.mul_one] at h1;have hq:nv U/nv v=nv q:=by rw [←h1,Nat.add_comm,Nat.mul_add_div (by omega),Nat.div_eq_of_lt h2,Nat.add_zero]
   have hr:nv U'=nv U%nv v:=by rw [←h1,Nat.add_comm,Nat.mul_add_mod,Nat.mod_eq_of_lt h2]
   (repeat' (first|(with_reducible first|refine stp ?_|apply gx1|apply gx2|apply gx3|apply gx4|apply gx5|apply gx6|apply gx7|apply gw1 (Za5 q (by omega) inv.qL))|(with_reducible refine Zbf ?_;intro _)|((with_reducible refine gE ?_);(try simp (disch:=omega) only [go_sem,e2,e3,e5,e6,e7,m2,m3,m5,m7,m18,m44])<;>first|rfl|omega)|with_reducible refine Zaf (by decide) ?_))
   simp (disch:=omega) only [go_sem,hq];refine⟨U',?_,hul,inv.uL,hr⟩;simp (disch:=omega) only [go_sem,m44]
  ·obtain⟨j,rfl⟩:∃j,k=j+1:=⟨k - 1,by omega⟩;have ej:((j+1:Nat):Int) - 1=(j:Int):=by omega
   rw [ej] at m7;have g0:=Zbz inv.uL (j+n);have g1:=Zbz inv.uL (j+n - 1);have g2':=Zbz inv.uL (j+n - 2);have gv1:=Zbz lv (n - 1);have gv2:=Zbz lv (n - 2);have hl:(U'++post).length=U'.length+post.length:=List.length_append;have x0:gN (U'++post) (j+n)=gN U' (j+n):=Zpk (by omega);have x1:gN (U'++post) (j+n - 1)=gN U' (j+n - 1):=Zpk (by omega);have ex1:((j+n:Nat):Int) - 1=((j+n - 1:Nat):Int):=by omega
   have ex2:(n:Int) - 1=((n - 1:Nat):Int):=by omega
   have hwl:((U'.drop j).take (n+1)).length=n+1:=by rw [List.length_take,List.length_drop];omega
   have hwL:Lm ((U'.drop j).take (n+1)):=(inv.uL.drop j).take _;have wg:∀i,i≤n→gN ((U'.drop j).take (n+1)) i=gN U' (j+i):=λi hi=>by rw [gN_take (by omega),Ztv]
   have hW:=nv_top3 hwl hn;rw [wg n (Nat.le_refl _),wg (n - 1) (by omega),wg (n - 2) (by omega),show j+(n - 1)=j+n - 1 by omega,show j+(n - 2)=j+n - 2 by omega] at hW;have hwl2:=Zgo hwL (n - 2);have hVt:=nv_top2 hvn hn;have hvl2:=Zgo lv (n - 2);have hV:0 < nv v:=Nat.lt_of_le_of_lt (Nat.zero_le _) inv.lt
   have htop:gN U' (j+n)≤gN v (n - 1):=by
    have:=top_le (inv.uL.drop (j+1)) lv hvn hn inv.lt
    rwa [Ztv,show j+1+(n - 1)=j+n by omega] at this
   have hWV:nv ((U'.drop j).take (n+1))/nv v < 65536:=by
    rw [Nat.div_lt_iff_lt_mul hV];have h1:=Zb3 (U'.drop j) (n+1);have h2:=Zb5 U' j;have h3:=inv.lt;have h4:=Zbz inv.uL j;omega
   obtain⟨high,hhigh⟩:∃h,gN U' (j+n)*65536+gN U' (j+n - 1)=h:=⟨_,rfl⟩;rw [hhigh] at hW;have hinit:=kn_init (Nat.pow_pos (by omega)) hVt hW hwl2 g2' hvt (Nat.div_mul_le_self (nv ((U'.drop j).take (n+1))) (nv v));have hhd:=Nat.div_add_mod high (gN v (n - 1));have hhr:=Nat.mod_lt high hvt;have hhq:=Nat.div_le_self high (gN v (n - 1));rw [Nat.mul_comm] at hhd;have hv1i:(gN v (n - 1):Int)≠0:=by omega
   have hq1:(high:Int)/(gN v (n - 1):Int)≤4294967296:=by
    have:((high/gN v (n - 1):Nat):Int)≤4294967296:=by omega
    exact this
   have wq:IntKind.u64.wrap ((high/gN v (n - 1):Nat):Int)=((high/gN v (n - 1):Nat):Int):=Zfj (Int.natCast_nonneg _) (by omega)
   (repeat' (first|(with_reducible first|refine stp ?_|apply gx1|apply gx2|apply gx3|apply gx4|apply gx5|apply gx6|apply gx7|apply gy8|apply gz2|apply gz3)|(with_reducible refine Zbf ?_;intro _)|((with_reducible refine gE ?_);(try simp (disch:=omega) only [go_sem,e2,e3,e5,e6,e7,m2,m3,m5,m7,m18,m44,hl,hul,hvn,x0,x1,ex1,ex2,hhigh,hv1i,Za0,Zdz,Zek,Nat.zero_add,wq])<;>first|rfl|omega)|with_reducible refine Zaf (by decide) ?_|((with_reducible apply gy1);iterate 3 focus rfl)|((with_reducible apply gy2);iterate 3 focus rfl)|((with_reducible apply gy3);iterate 2 focus rfl)|((with_reducible apply gy4);iterate 1 focus rfl)|((with_reducible apply gy5);iterate 4 focus rfl)|((with_reducible apply gy5c);iterate 4 focus rfl)|((with_reducible apply gy6);iterate 4 focus rfl)|((with_reducible apply Zc0);iterate 3 focus rfl)|((with_reducible apply Zcz);iterate 1 focus rfl)|((with_reducible apply gy7);iterate 1 focus rfl)|((with_reducible apply gy9);(focus ((with_reducible refine gE ?_);(try simp (disch:=omega) only [go_sem,e2,e3,e5,e6,e7,m2,m3,m5,m7,m18,m44,hl,hul,hvn,x0,x1,ex1,ex2,hhigh,hv1i,Za0,Zdz,Zek,Nat.zero_add,wq])<;>rfl)))|((with_reducible apply gz1);(focus first|rfl|(simp (disch:=omega) only [go_sem,e2,e3,e5,e6,e7,m2,m3,m5,m7,m18,m44,hl,hul,hvn,x0,x1,ex1,ex2,hhigh,hv1i,Za0,Zdz,Zek,Nat.zero_add,wq];done)))|((with_reducible apply Za2 (Zcg []) [] [9,10]);(focus kernel_rfl);(focus rfl);(focus kernel_rfl);(focus (simp only [List.length_cons,List.length_nil,Nat.reduceAdd];rfl)))))
   rename_i g9 g10;have hlj:(U'.take j).length=j:=by rw [List.length_take];omega
   have hsplit:U'++post=U'.take j++((U'.drop j).take (n+1)++(U'.drop (j+n+1)++post)):=by
    have e1:U'=U'.take j++((U'.drop j).take (n+1)++U'.drop (j+n+1)):=by
     rw [show j+n+1=j+(n+1) by omega,←List.drop_drop,List.take_append_drop,List.take_append_drop]
    rw [←List.append_assoc ((U'.drop j).take (n+1)),←List.append_assoc,←e1]
   have esub:j+n+1 - j=n+1:=by omega
   obtain⟨W,hWd⟩:∃W,nv ((U'.drop j).take (n+1))=W:=⟨_,rfl⟩;have hstep:=fun(w'':List Nat) hw hwL2 hwv=>inv.step (w'':=w'') hvn lv (by omega) hw hwL2 hwv hWV;rw [hWd] at hinit hWV hW hstep
   have hzz:∀d r,high=d*gN v (n - 1)+r→65536≤r→d < 65536∧d*gN v (n - 2)≤r*65536+gN U' (j+n - 2):=by
    intro d r h1 h2
    have hd:d < 65536:=by
     rcases Nat.lt_or_ge d 65536 with h3 | h3
     ·exact h3
     ·exfalso;have h4:65536*gN v (n - 1)≤d*gN v (n - 1):=Nat.mul_le_mul_right _ h3;omega
    have:=Zni hd gv2;omega
   refine Zag (ι:=Nat) (λd e' m'=>(e' 2=.pbox 2 g2 0∧e' 3=.pbox 3 g3 0∧e' 5=.pbox 5 g5 0∧e' 6=.own 18 svo∧e' 7=.pbox 7 g7 0∧e' 9=.pbox 9 g9 0∧e' 10=.pbox 10 g10 0∧e' 11=.fn 191 [.pbox 9 g9 0,.pbox 3 g3 0,.pbox 5 g5 0,.pbox 10 g10 0,.pbox 2 g2 0,.pbox 7 g7 0]) ∧
    m' 2=some (.box g2 40 [.view 44 sv 1 0 U.length] false)∧m' 3=some (.box g3 40 [lim v] false)∧m' 5=some (.box g5 3 [.v (.int .i64 n)] false)∧m' 7=some (.box g7 3 [.v (.int .i64 (j:Int))] false)∧m' 18=some (.row svo 104 1 (u16s q) 0)∧m' 44=some (.row sv 104 1 (u16s (U'++post)) 0) ∧
    m' 9=some (.box g9 115 [.v (.int .u64 (d:Int))] false)∧∃r:Nat,m' 10=some (.box g10 115 [.v (.int .u64 (r:Int))] false)∧high=d*gN v (n - 1)+r∧W/nv v≤d∧d≤high∧r < 131072) (λd=>d) (high/gN v (n - 1)) (by rfl) ?_ ?_
   ·rintro d e m ⟨⟨e2,e3,e5,e6,e7,e9,e10,e11⟩,m2,m3,m5,m7,m18,m44,m9,r,m10,hhi,hqd,hdh,hr2⟩
    have ct:=λhr=>Zo4 m sv g2 g3 g5 g7 g9 g10 U' post v d r j (by rw [hul];exact m2) m3 (by rw [hvn];exact m5) m7 m9 m10 m44 (by omega) (by omega) (by omega) lv inv.uL hr;rw [hvn] at ct;by_cases hgo:r < 65536∧(65536≤d∨r*65536+gN U' (j+n - 2) < d*gN v (n - 2))
    ·obtain⟨hr,ht⟩:=hgo;have hb:(decide (65536≤d) || decide (r*65536+gN U' (j+n - 2) < d*gN v (n - 2)))=true:=by simpa using ht
     have hd1:1≤d:=by
      rcases Nat.eq_zero_or_pos d with h | h
      ·subst h;omega
      ·exact h
     have ed:(d:Int) - 1=((d - 1:Nat):Int):=by omega
     have hq2:W/nv v≤d - 1:=by
      rcases ht with h | h
      ·omega
      ·have h1:=kn_step hVt hW hwl2 hhi h;rw [←Nat.div_lt_iff_lt_mul hV] at h1;omega
     have hh2:high=(d - 1)*gN v (n - 1)+(r+gN v (n - 1)):=by
      obtain⟨d',rfl⟩:∃d',d=d'+1:=⟨d - 1,by omega⟩;rw [Nat.add_sub_cancel,hhi,Nat.add_mul,Nat.one_mul];omega
     (repeat' (first|(with_reducible first|refine stp ?_|apply gx1|apply gx2|apply gx3|apply gx4|apply gx5|apply gx6|apply gx7|apply gy8|apply gz2|apply gz3|refine Zhs (ct hr) ?_)|(with_reducible refine Zbf ?_;intro _)|((with_reducible refine gE ?_);(try simp (disch:=omega) only [go_sem,e2,e3,e5,e6,e7,e9,e10,e11,m2,m3,m5,m7,m18,m44,m9,m10,hb,ed,ex2,hvn,Za0])<;>first|rfl|omega)|with_reducible refine Zaf (by decide) ?_|((with_reducible apply gy1);iterate 3 focus rfl)|((with_reducible apply gy2);iterate 3 focus rfl)|((with_reducible apply gy3);iterate 2 focus rfl)|((with_reducible apply gy4);iterate 1 focus rfl)|((with_reducible apply gy5);iterate 4 focus rfl)|((with_reducible apply gy5c);iterate 4 focus rfl)|((with_reducible apply gy6);iterate 4 focus rfl)|((with_reducible apply Zc0);iterate 3 focus rfl)|((with_reducible apply Zcz);iterate 1 focus rfl)|((with_reducible apply gy7);iterate 1 focus rfl)|((with_reducible apply gy9);(focus ((with_reducible refine gE ?_);(try simp (disch:=omega) only [go_sem,e2,e3,e5,e6,e7,e9,e10,e11,m2,m3,m5,m7,m18,m44,m9,m10,hb,ed,ex2,hvn,Za0])<;>rfl)))|((with_reducible apply gz1);(focus first|rfl|(simp (disch:=omega) only [go_sem,e2,e3,e5,e6,e7,e9,e10,e11,m2,m3,m5,m7,m18,m44,m9,m10,hb,ed,ex2,hvn,Za0];done)))|((with_reducible apply Za2 (Zcg []) [8] []);(focus kernel_rfl);(focus rfl);(focus kernel_rfl);(focus (simp only [List.length_cons,List.length_nil,Nat.reduceAdd];rfl)))))
     exact⟨d - 1,⟨⟨by exact gW e2,by exact gW e3,by exact gW e5,by exact gW e6,by exact gW e7,by exact gW e9,by exact gW e10,by exact gW e11⟩,by exact gW m2,by exact gW m3,by exact gW m5,by exact gW m7,by exact gW m18,by exact gW m44,by exact gC,_,by exact gC,hh2,hq2,by omega,by omega⟩,by omega⟩
    ·obtain⟨hd,hdv⟩:d < 65536∧d*gN v (n - 2)≤r*65536+gN U' (j+n - 2):=by
      rcases Nat.lt_or_ge r 65536 with h | h
      ·have h2:¬(65536≤d∨r*65536+gN U' (j+n - 2) < d*gN v (n - 2)):=λh2=>hgo ⟨h,h2⟩;omega
      ·exact hzz d r hhi h
     have hb:(decide (65536≤d) || decide (r*65536+gN U' (j+n - 2) < d*gN v (n - 2)))=false:=by
      rw [Bool.or_eq_false_iff,decide_eq_false_iff_not,decide_eq_false_iff_not];omega
     have hnear:=kn_near hV hqd (kn_exit hVt hvl2 hW hhi hvt hd hdv);have csub:=Znf (K:=44) (sv:=sv) (σ:=m) (post:=U'.drop (j+n+1)++post) (v:=v) (d:=d) hlj hwl (by rw [←hsplit];exact m44) (by omega) (by rw [←hsplit];omega) hwL lv hd;rcases Nat.lt_or_ge r 65536 with hr | hr
     all_goals
      (repeat' (first|(with_reducible first|refine stp ?_|apply gx1|apply gx2|apply gx3|apply gx4|apply gx5|apply gx6|apply gx7|apply gy8|apply gz2|apply gz3|refine Zhs (ct hr) ?_)|(with_reducible refine Zbf ?_;intro _)|((with_reducible refine gE ?_);(try simp (disch:=omega) only [go_sem,e2,e3,e5,e6,e7,e9,e10,e11,m2,m3,m5,m7,m18,m44,m9,m10,hb,ex2,hvn,Za0,Zb1,esub,Nat.zero_add])<;>first|rfl|omega)|with_reducible refine Zaf (by decide) ?_|((with_reducible apply gy1);iterate 3 focus rfl)|((with_reducible apply gy2);iterate 3 focus rfl)|((with_reducible apply gy3);iterate 2 focus rfl)|((with_reducible apply gy4);iterate 1 focus rfl)|((with_reducible apply gy5);iterate 4 focus rfl)|((with_reducible apply gy5c);iterate 4 focus rfl)|((with_reducible apply gy6);iterate 4 focus rfl)|((with_reducible apply Zc0);iterate 3 focus rfl)|((with_reducible apply Zcz);iterate 1 focus rfl)|((with_reducible apply gy7);iterate 1 focus rfl)|((with_reducible apply gy9);(focus ((with_reducible refine gE ?_);(try simp (disch:=omega) only [go_sem,e2,e3,e5,e6,e7,e9,e10,e11,m2,m3,m5,m7,m18,m44,m9,m10,hb,ex2,hvn,Za0,Zb1,esub,Nat.zero_add])<;>rfl)))|((with_reducible apply gz1);(focus first|rfl|(simp (disch:=omega) only [go_sem,e2,e3,e5,e6,e7,e9,e10,e11,m2,m3,m5,m7,m18,m44,m9,m10,hb,ex2,hvn,Za0,Zb1,esub,Nat.zero_add];done)))|((with_reducible apply Za2 (Zcg []) [10] []);(focus kernel_rfl);(focus rfl);(focus kernel_rfl);(focus (simp only [List.length_cons,List.length_nil,Nat.reduceAdd];rfl)))))
      refine Zlt csub ?_
      rintro _ _ ⟨w',b,rfl,rfl,hwl',hwL',hb1,heq⟩
      rw [hWd] at heq;have hw'p:nv w' < 65536 ^ (n+1):=by have:=Zgz hwL';rwa [hwl'] at this
      have hcase:=subDone hV hw'p hb1 heq hnear;have ej2:(j:Int) - 1=(j:Int) - 1:=rfl;rcases hcase with⟨rfl,hdq,hwm⟩ | ⟨rfl,hdq⟩
      ·have inv':=hstep w' hwl' hwL' hwm;rw [←hdq] at inv';have hdm:d%65536=d:=Nat.mod_eq_of_lt hd
       (repeat' (first|(with_reducible first|refine stp ?_|apply gx1|apply gx2|apply gx3|apply gx4|apply gx5|apply gx6|apply gx7|apply gy8|apply gz2|apply gz3)|(with_reducible refine Zbf ?_;intro _)|((with_reducible refine gE ?_);(try simp (disch:=omega) only [go_sem,e2,e3,e5,e6,e7,e9,e10,e11,m2,m3,m5,m7,m18,m44,m9,m10,hql,Zbc,hdm,Int.natCast_zero,Int.lt_irrefl])<;>first|rfl|omega)|with_reducible refine Zaf (by decide) ?_|((with_reducible apply gy1);iterate 3 focus rfl)|((with_reducible apply gy2);iterate 3 focus rfl)|((with_reducible apply gy3);iterate 2 focus rfl)|((with_reducible apply gy4);iterate 1 focus rfl)|((with_reducible apply gy5);iterate 4 focus rfl)|((with_reducible apply gy5c);iterate 4 focus rfl)|((with_reducible apply gy6);iterate 4 focus rfl)|((with_reducible apply Zc0);iterate 3 focus rfl)|((with_reducible apply Zcz);iterate 1 focus rfl)|((with_reducible apply gy7);iterate 1 focus rfl)|((with_reducible apply gy9);(focus ((with_reducible refine gE ?_);(try simp (disch:=omega) only [go_sem,e2,e3,e5,e6,e7,e9,e10,e11,m2,m3,m5,m7,m18,m44,m9,m10,hql,Zbc,hdm,Int.natCast_zero,Int.lt_irrefl])<;>rfl)))|((with_reducible apply gz1);(focus first|rfl|(simp (disch:=omega) only [go_sem,e2,e3,e5,e6,e7,e9,e10,e11,m2,m3,m5,m7,m18,m44,m9,m10,hql,Zbc,hdm,Int.natCast_zero,Int.lt_irrefl];done)))|((with_reducible apply Za2 (Zcg []) [10] []);(focus kernel_rfl);(focus rfl);(focus kernel_rfl);(focus (simp only [List.length_cons,List.length_nil,Nat.reduceAdd];rfl)))))
       exact⟨j,⟨by omega,g2,g3,g5,_,svo,q.set j d,U'.take j++(w'++U'.drop (j+n+1)),⟨by exact gW e2,by exact gW e3,by exact gW e5,by exact gW e6,by exact gC⟩,by exact gW m2,by exact gW m3,by exact gW m5,by exact gC,by exact gC,by(simp (disch:=omega) only [go_sem,List.append_assoc]<;>repeat' first|rfl|refine⟨?_,?_⟩),inv'⟩,by omega⟩
      ·have crest:=fun(σ:Mem) h=>Zo6 (σ:=σ) (K:=44) (sv:=sv) (post:=U'.drop (j+n+1)++post) (v:=v) hlj hwl' h (by omega) (by rw [hsplit] at hl;simp only [List.length_append] at hl ⊢;omega) hwL' lv;have hd1:1≤d:=by rw [hdq];exact Nat.le_add_left 1 _
       have ed:(d:Int) - 1=((d - 1:Nat):Int):=by omega
       have one:(0:Int) < ((1:Nat):Int):=by omega
       (repeat' (first|(with_reducible first|refine stp ?_|apply gx1|apply gx2|apply gx3|apply gx4|apply gx5|apply gx6|apply gx7|apply gy8|apply gz2|apply gz3)|(with_reducible refine Zbf ?_;intro _)|((with_reducible refine gE ?_);(try simp (disch:=omega) only [go_sem,e2,e3,e5,e6,e7,e9,e10,e11,m2,m3,m5,m7,m18,m44,m9,m10,ed,one,Za0,Zb1,esub,Nat.zero_add])<;>first|rfl|omega)|with_reducible refine Zaf (by decide) ?_|((with_reducible apply gy1);iterate 3 focus rfl)|((with_reducible apply gy2);iterate 3 focus rfl)|((with_reducible apply gy3);iterate 2 focus rfl)|((with_reducible apply gy4);iterate 1 focus rfl)|((with_reducible apply gy5);iterate 4 focus rfl)|((with_reducible apply gy5c);iterate 4 focus rfl)|((with_reducible apply gy6);iterate 4 focus rfl)|((with_reducible apply Zc0);iterate 3 focus rfl)|((with_reducible apply Zcz);iterate 1 focus rfl)|((with_reducible apply gy7);iterate 1 focus rfl)|((with_reducible apply gy9);(focus ((with_reducible refine gE ?_);(try simp (disch:=omega) only [go_sem,e2,e3,e5,e6,e7,e9,e10,e11,m2,m3,m5,m7,m18,m44,m9,m10,ed,one,Za0,Zb1,esub,Nat.zero_add])<;>rfl)))|((with_reducible apply gz1);(focus first|rfl|(simp (disch:=omega) only [go_sem,e2,e3,e5,e6,e7,e9,e10,e11,m2,m3,m5,m7,m18,m44,m9,m10,ed,one,Za0,Zb1,esub,Nat.zero_add];done)))|((with_reducible apply Za2 (Zcg []) [8] []);(focus kernel_rfl);(focus rfl);(focus kernel_rfl);(focus (simp only [List.length_cons,List.length_nil,Nat.reduceAdd];rfl)))))
       refine Zlt (crest _ (by exact gC)) ?_
       rintro _ _ ⟨w'',c,rfl,rfl,hwl'',hwL'',hc1,heq2⟩
       have hw''p:nv w'' < 65536 ^ (n+1):=by have:=Zgz hwL'';rwa [hwl''] at this
       have hVp:nv v≤65536 ^ (n+1):=by
        have h1:=Zgz lv;rw [hvn] at h1;have h2:65536 ^ n≤65536 ^ (n+1):=Nat.pow_le_pow_right (by omega) (by omega);omega
       have hwm:=resDone hV hVp hw''p hc1 (by rw [←hdq];exact heq) heq2;have inv':=hstep w'' hwl'' hwL'' hwm;have hdq2:d - 1=W/nv v:=by rw [hdq,Nat.add_sub_cancel]
       rw [←hdq2] at inv';have hdm:(d - 1)%65536=d - 1:=Nat.mod_eq_of_lt (by omega);(focus (refine wkvd (w_19 e2 e3 e5 e6 e7 e9 e10 e11 m2 m3 m5 m7 m18 m44 m9 m10 hql @Zbc hdm) w_t w_t ?_;(repeat' first|exact w_t|apply w_l);all_goals intros));exact⟨j,⟨by omega,g2,g3,g5,_,svo,q.set j (d - 1),U'.take j++(w''++U'.drop (j+n+1)),⟨by exact gW e2,by exact gW e3,by exact gW e5,by exact gW e6,by exact gC⟩,by exact gW m2,by exact gW m3,by exact gW m5,by exact gC,by exact gC,by(simp (disch:=omega) only [go_sem,List.append_assoc]<;>repeat' first|rfl|refine⟨?_,?_⟩),inv'⟩,by omega⟩
   ·exact⟨⟨by exact gW e2,by exact gW e3,by exact gW e5,by exact gW e6,by exact gW e7,by exact gC,by exact gC,by exact gC⟩,by exact gW m2,by exact gW m3,by exact gW m5,by exact gW m7,by exact gW m18,by exact gW m44,by exact gC,_,by exact gC,by omega,hinit,by omega,by omega⟩
 ·refine⟨Nat.le_refl _,_,_,_,_,_,List.replicate (U.length - n) 0,U,⟨by exact gC,by exact gC,by exact gC,by exact gC,by exact gC⟩,by exact gC,by exact gC,by exact gC,by exact gC,by exact gC,by exact gW h44,⟨by rw [hvn];simp,Lm.zeros _,λ_ _=>Zgs _ _,rfl,lU,?_,hlt⟩⟩;rw [List.drop_eq_nil_of_le (by simp)];simp [nv]
theorem Zte (i:Nat):i < 2 ^ len8 i:=by
 unfold len8;split
 ·rename_i h;subst h;decide
 ·exact Nat.lt_log2_self
theorem len16_lt (x:Nat):x < 2 ^ Zes x:=by
 unfold Zes;split
 ·have:=Zte (x/256);rw [Nat.pow_add];have e:(2:Nat) ^ 8=256:=rfl;omega
 ·exact Zte x
theorem Zps (a:List Nat):u16s a++[.v (.int .u16 0),.v (.int .u16 0)]=u16s (a++[0,0]):=by simp [u16s]
theorem Wk.three {a a' b b' c:AV} (h1:Wk a a') (h2:Wk b b'):Wk (.tup [a,b,c]) (.tup [a',b',c]):=by
 refine .tup _ _ rfl λj x y h3 h4=>?_
 match j with
 | 0=>simp at h3 h4;subst h3;subst h4;exact h1
 | 1=>simp at h3 h4;subst h3;subst h4;exact h2
 | 2=>simp at h3 h4;subst h3;subst h4;exact .refl _
 | j+3=>simp at h3
theorem Zog {b s n:Nat} (h0:b≠0) (hn:(toL b).length=n) (hs:s=16 - Zes (gN (toL b) (n - 1))):(toL (b*2 ^ s)).length=n:=by
 have h1:=(Zdw h0).1;have ht:=Zbz (Zau b) (n - 1);have hbd:=Zhw ht;have hlt:=len16_lt (gN (toL b) (n - 1));have hp:=Nat.two_pow_pos s;have h3:(toL b).length≤(toL (b*2 ^ s)).length:=Za9 (Nat.le_mul_of_pos_right _ hp)
 have h4:(toL (b*2 ^ s)).length≤n:=by
  rw [Zai];have h5:=Zb3 (toL b) (n - 1);rw [Zat,Zb5,show n - 1+1=n by omega,List.drop_eq_nil_of_le (by omega)] at h5;simp only [nv,Nat.mul_zero,Nat.add_zero] at h5;have h6:=Zgo (Zau b) (n - 1);generalize gN (toL b) (n - 1)=t at *
  have h7:b < 65536 ^ (n - 1)*2 ^ Zes t:=by
   have h10:65536 ^ (n - 1)*(t+1)≤65536 ^ (n - 1)*2 ^ Zes t:=Nat.mul_le_mul_left _ hlt;rw [Nat.mul_add,Nat.mul_one] at h10;omega
  have h8:b*2 ^ s < 65536 ^ (n - 1)*2 ^ Zes t*2 ^ s:=Nat.mul_lt_mul_of_pos_right h7 hp
  have h9:2 ^ Zes t*2 ^ s=65536:=by
   rw [←Nat.pow_add,hs,show Zes t+(16 - Zes t)=16 by omega]
  rw [Nat.mul_assoc,h9,←Nat.pow_succ,Nat.succ_eq_add_one,show n - 1+1=n by omega] at h8;exact h8
 omega
theorem Znh (a b:List Nat) (ha:a.length≤200000000) (hb:b.length≤200000000) (la:Lm a) (lb:Lm b) (h0:nv b≠0):Pure Tryz.prog 144 [lim a,lim b] (.tup [lim (toL (nv a/nv b)),lim (toL (nv a%nv b)),.v (.int .i64 0)]):=by
 have h1:=Zax la;have h2:=Zax lb;have va:=Zat (nv a);have vb:=Zat (nv b);have ma:=Zau (nv a);have mb:=Zau (nv b);obtain⟨hb1,hb2⟩:=Zdw h0;have cc:=Zqh (toL (nv a)) (toL (nv b)) (by omega) (by omega) ma mb;rw [va,vb] at cc;by_cases hlt:nv a < nv b
 ·rw [show toL (nv a/nv b)=[] by rw [Nat.div_eq_of_lt hlt,Za3],Nat.mod_eq_of_lt hlt];refine Pure.wk ?_ (Wk.three (.nil 1) (.refl _));have hcm:cmpN (nv a) (nv b)=-1:=if_pos hlt;have cn:=Zlw (toL (nv a)) (by omega) ma;rw [va] at cn;refine Zaa (tok:=0) (rs:=[.tmp 4,.tmp 5,.tmp 6]) Tryz.func144 rfl Tryz.ntmps144 Tryz.results144 Tryz.call144 (by rfl) (by simp) ?_;(focus (refine wkvp (w_1 hcm) (w_4 (Za5 a (by omega) la) (Za5 b (by omega) lb) cc cn) ?_;(repeat' first|exact w_t|apply w_l);all_goals intros));simp (disch:=omega) only [go_sem]
 ·have hcm:0≤cmpN (nv a) (nv b):=by unfold cmpN;rw [if_neg hlt];split<;>omega
  by_cases hone:(toL (nv b)).length=1
  ·have e0:nv b=gN (toL (nv b)) 0:=by
    have:=Zb3 (toL (nv b)) 0;rw [Zb5,List.drop_eq_nil_of_le (by omega),vb] at this
    simpa [nv] using this
   have gb:=Zbz mb 0;have cb:=Zs8 (toL (nv a)) (gN (toL (nv b)) 0) (by omega) ma (by omega) gb;rw [va,←e0] at cb;have hr:=Nat.mod_lt (nv a) (Nat.pos_of_ne_zero h0);have co:=natOf (nv a%nv b) (by omega);refine Zaa (tok:=0) (rs:=[.tmp 4,.tmp 5,.tmp 6]) Tryz.func144 rfl Tryz.ntmps144 Tryz.results144 Tryz.call144 (by rfl) (by simp) ?_;have wr:IntKind.u64.wrap ((nv a%nv b:Nat):Int)=((nv a%nv b:Nat):Int):=Zfj (Int.natCast_nonneg _) (by omega);(focus (refine wkvp (w_3 hone (Eq.symm e0) wr) (w_5 (Za5 a (by omega) la) (Za5 b (by omega) lb) cc cb co) ?_;(repeat' first|exact w_t|apply w_l);all_goals intros))
   simp (disch:=omega) only [go_sem]
  ·
   obtain⟨n,hn⟩:∃n,(toL (nv b)).length=n:=⟨_,rfl⟩;rw [hn] at hb1 hb2 hone h2;have ht:=Zbz mb (n - 1);have hbd:=Zhw ht;obtain⟨s,hs⟩:∃s,16 - Zes (gN (toL (nv b)) (n - 1))=s:=⟨_,rfl⟩;have hs15:s≤15:=by omega
   have hvl:=Zog h0 hn hs.symm;have ha0:nv a≠0:=by omega
   have hab:n≤(toL (nv a)).length:=by rw [←hn];exact Za9 (by omega)
   have clz:=bitsLz16 (gN (toL (nv b)) (n - 1)) ht;rw [hs] at clz;have en:(n:Int) - 1=((n - 1:Nat):Int):=by omega
   have hp:=Nat.two_pow_pos s;obtain⟨A,hA⟩:∃A,toL (nv a)=A:=⟨_,rfl⟩;rw [hA] at va ma h1 hab cc;have hVlen:A.length≤(toL (nv a*2 ^ s)).length:=by rw [←hA];exact Za9 (Nat.le_mul_of_pos_right _ hp)
   have hV2:nv a*2 ^ s < 65536 ^ (A.length+1):=by
    have h3:=Zgz ma;rw [va] at h3;have h4:(2:Nat) ^ s≤2 ^ 16:=Nat.pow_le_pow_right (by omega) (by omega);rw [Nat.pow_succ];exact Nat.lt_of_lt_of_le (Nat.mul_lt_mul_of_pos_right h3 hp) (Nat.mul_le_mul_left _ h4)
   have hVlen2:(toL (nv a*2 ^ s)).length≤A.length+1:=Zai.2 hV2
   have hdl:nv a*2 ^ s/65536 ^ (A.length+1 - n) < nv b*2 ^ s:=by
    rw [Nat.div_lt_iff_lt_mul (Nat.pow_pos (by omega))];have h3:=Zgz ma;rw [va] at h3
    have h5:65536 ^ (n - 1)≤nv b:=by
     rcases Nat.lt_or_ge (nv b) (65536 ^ (n - 1)) with h | h
     ·have:=Zai.2 h;omega
     ·exact h
    have h6:65536 ^ A.length=65536 ^ (n - 1)*65536 ^ (A.length+1 - n):=by rw [←Nat.pow_add];congr 1;omega
    have h7:65536 ^ (n - 1)*65536 ^ (A.length+1 - n)≤nv b*65536 ^ (A.length+1 - n):=Nat.mul_le_mul_right _ h5;have h8:nv a < nv b*65536 ^ (A.length+1 - n):=by omega
    have h9:=Nat.mul_lt_mul_of_pos_right h8 hp
    rwa [Nat.mul_right_comm] at h9
   have qe:nv a*2 ^ s/(nv b*2 ^ s)=nv a/nv b:=Nat.mul_div_mul_right _ _ hp;have re:nv a*2 ^ s%(nv b*2 ^ s)=(nv a%nv b)*2 ^ s:=Nat.mul_mod_mul_right _ _ _;have cv:=natShl (toL (nv b)) s (by omega) mb (by omega);rw [vb] at cv;refine Zaa (tok:=0) (rs:=[.tmp 4,.tmp 5,.tmp 6]) Tryz.func144 rfl Tryz.ntmps144 Tryz.results144 Tryz.call144 (by rfl) (by simp) ?_;(focus (refine wkvp (w_3 hn hA en) (w_4 (Za5 a (by omega) la) (Za5 b (by omega) lb) cc clz) ?_;(repeat' first|exact w_t|apply w_l);all_goals intros));refine Zlt (Zng _ A s (by omega) ma (by omega) (by rw [va];exact ha0)) ?_
   rintro _ _ ⟨sv,o,rfl,rfl,hol,hLo,hov⟩
   rw [va] at hov;rw [va];have hlen:=Zax hLo;rw [hov] at hlen;obtain⟨L,hL⟩:∃L,o.take (toL (nv a*2 ^ s)).length++[0,0]=L:=⟨_,rfl⟩;have hLl:L.length=(toL (nv a*2 ^ s)).length+2:=by rw [←hL,List.length_append,List.length_take];simp;omega
   have hot:o.take (toL (nv a*2 ^ s)).length=toL (nv a*2 ^ s):=by
    obtain⟨k,h3,h4⟩:=Zla hLo;rw [hov] at h4;have h5:k=(toL (nv a*2 ^ s)).length:=by rw [←h4,List.length_take];omega
    rw [←h5,h4]
   have hLn:nv L=nv a*2 ^ s:=by rw [←hL,hot,Zdd,Zat];simp [nv]
   have hLL:Lm L:=by rw [←hL,hot];exact(Zau _).append λy hy=>by simp at hy;omega
   have hes:u16s o=u16s o:=rfl;have e3:((A.length:Nat):Int)+1=((A.length+1:Nat):Int):=by omega
   (focus (refine wkvp (w_6 hol @Zps hL hLl e3 (Eq.symm hvl)) (w_1 cv) ?_;(repeat' first|exact w_t|apply w_l);all_goals intros));have hUl:(L.take (A.length+1)).length=A.length+1:=by rw [List.length_take];omega
   have hUn:nv (L.take (A.length+1))=nv a*2 ^ s:=by
    have h3:=Zb3 L (A.length+1);rw [hLn] at h3;rcases Nat.eq_zero_or_pos (nv (L.drop (A.length+1))) with h4 | h4
    ·rw [h4,Nat.mul_zero,Nat.add_zero] at h3;exact h3.symm
    ·have:=Nat.le_mul_of_pos_right (65536 ^ (A.length+1)) h4;omega
   rename_i sv2 sv';have vn:nv (toL (nv b*2 ^ s))=nv b*2 ^ s:=Zat _
   have hb20:nv b*2 ^ s≠0:=by
    have:=Nat.mul_pos (Nat.pos_of_ne_zero h0) hp;omega
   have htop:=(Zdw hb20).2;rw [hvl] at htop;have hTD:(L.take (A.length+1))++(L.drop (A.length+1))=L:=List.take_append_drop _ _;have clong:=fun(σ:Mem) h44=>natLong σ sv' (L.take (A.length+1)) (L.drop (A.length+1)) (toL (nv b*2 ^ s)) n hvl h44 (by omega) (by rw [hUl];omega) (by rw [hUl,List.length_drop];omega) (hLL.take _) (hLL.drop _) (Zau _) htop
    (by rw [hUl,←Zs5 (hLL.take _),hUn,vn];exact hdl)
   rw [hUl,hUn,vn,qe,re] at clong;refine Zlt (clong _ (by rw [hTD];(simp (disch:=omega) only [go_sem,Zps,hL]<;>repeat' first|rfl|refine⟨?_,?_⟩))) ?_
   rintro _ σ' ⟨U',rfl,h44',hUl',hUL',hUn'⟩
   have ct:=Za5 U' (by omega) hUL';rw [hUn'] at ct;have htk:(U'++L.drop (A.length+1)).take (A.length+1)=U':=by rw [←hUl'];exact List.take_left
   rcases Nat.eq_zero_or_pos s with hs0 | hs0
   ·subst hs0;have cr:=natShl (toL ((nv a%nv b)*2 ^ 0)) 0 (by have:=Zax hUL';rw [hUn'] at this;omega) (Zau _) (by omega);rw [Zat,Nat.pow_zero,Nat.mul_one,Nat.mul_one] at cr;rw [Nat.pow_zero,Nat.mul_one] at ct;have ez:(0:Int) - ((0:Nat):Int)=((0:Nat):Int):=by omega
    (repeat' (first|(with_reducible first|refine stp ?_|apply gx1|apply gx2|apply gx3|apply gx4|apply gx5|apply gx6|apply gx7|apply gw1 (ct)|refine gw0 (cr) ?_ ?_)|(with_reducible refine Zbf ?_;intro _)|((with_reducible refine gE ?_);(try simp (disch:=omega) only [go_sem,h44',htk,Nat.zero_add,Nat.sub_zero,List.drop_zero,ez])<;>first|rfl|omega)|with_reducible refine Zaf (by decide) ?_))
    simp (disch:=omega) only [go_sem]
   ·have cr:=natShr (toL ((nv a%nv b)*2 ^ s)) s (by have:=Zax hUL';rw [hUn'] at this;omega) (Zau _) hs0 (by omega);rw [Zat,Nat.mul_div_cancel _ hp] at cr;have ez:(0:Int) - (s:Int)=-(s:Int):=by omega
    (repeat' (first|(with_reducible first|refine stp ?_|apply gx1|apply gx2|apply gx3|apply gx4|apply gx5|apply gx6|apply gx7|apply gw1 (ct)|refine gw0 (cr) ?_ ?_)|(with_reducible refine Zbf ?_;intro _)|((with_reducible refine gE ?_);(try simp (disch:=omega) only [go_sem,h44',htk,Nat.zero_add,Nat.sub_zero,List.drop_zero,ez])<;>first|rfl|omega)|with_reducible refine Zaf (by decide) ?_))
    simp (disch:=omega) only [go_sem]
theorem natGcd (a b:List Nat) (ha:a.length≤200000000) (hb:b.length≤200000000) (la:Lm a) (lb:Lm b):Pure Tryz.prog 87 [lim a,lim b] (lim (toL (Nat.gcd (nv a) (nv b)))):=by
 have h1:=Zax la;have h2:=Zax lb
 have cu:∀x:Nat,(toL x).length≤200000000→Pure Tryz.prog 142 [lim (toL x)] (.tup [.v (.int .u64 (if x < 18446744073709551616 then (x:Int) else 0)),.v (.bool (decide (x < 18446744073709551616)))]):=by
  intro x hx;have:=natUint (toL x) (by omega) (Zau x)
  rwa [Zat] at this
 have cd:∀x y:Nat,(toL x).length≤200000000→(toL y).length≤200000000→y≠0→Pure Tryz.prog 144 [lim (toL x),lim (toL y)] (.tup [lim (toL (x/y)),lim (toL (x%y)),.v (.int .i64 0)]):=by
  intro x y hx hy h0;have:=Znh (toL x) (toL y) hx hy (Zau x) (Zau y) (by rw [Zat];exact h0)
  rwa [Zat,Zat] at this
 refine Zaa (tok:=0) (rs:=[.tmp 4]) Tryz.func87 rfl Tryz.ntmps87 Tryz.results87 Tryz.call87 (by rfl) (by simp) ?_;(focus (refine wkvp w_t (w_2 (Zlw a (by omega) la) (Zlw b (by omega) lb)) ?_;(repeat' first|exact w_t|apply w_l);all_goals intros));refine Zag (ι:=Nat) (λy e m=>∃x,(e 0=lim (toL x)∧e 1=lim (toL y))∧(toL x).length≤200000000∧(toL y).length≤200000000∧Nat.gcd x y=Nat.gcd (nv a) (nv b)) (λy=>y) (nv b) (by rfl) ?_ ?_
 ·rintro y e m ⟨x,⟨e0,e1⟩,hx,hy,hg⟩
  rcases Nat.eq_zero_or_pos y with h0 | h0
  ·subst h0;have hl:=Zbp.2 (rfl:(0:Nat)=0);rw [Nat.gcd_zero_right] at hg;(focus (refine wkvp (w_3 e0 e1 hl) w_t ?_;(repeat' first|exact w_t|apply w_l);all_goals intros));simp (disch:=omega) only [go_sem,hg]
  ·have hl:0 < (toL y).length:=by
    have:=(Zdw (show y≠0 by omega)).1;omega
   by_cases hs:x < 18446744073709551616∧y < 18446744073709551616
   ·obtain⟨hsx,hsy⟩:=hs;have dx:decide (x < 18446744073709551616)=true:=decide_eq_true hsx;have dy:decide (y < 18446744073709551616)=true:=decide_eq_true hsy
    (repeat' (first|(with_reducible first|refine stp ?_|apply gx1|apply gx2|apply gx3|apply gx4|apply gx5|apply gx6|apply gx7|refine gw0 (cu x hx) ?_ ?_|refine gw0 (cu y hy) ?_ ?_)|(with_reducible refine Zbf ?_;intro _)|((with_reducible refine gE ?_);(try simp (disch:=omega) only [go_sem,e0,e1,if_pos hsx,if_pos hsy,dx,dy])<;>first|rfl|omega)|with_reducible refine Zaf (by decide) ?_))
    refine Zag (ι:=Nat) (λY e m=>∃X:Nat,(e 5=.v (.int .u64 (X:Int))∧e 7=.v (.int .u64 (Y:Int)))∧X < 18446744073709551616∧Y < 18446744073709551616∧Nat.gcd X Y=Nat.gcd (nv a) (nv b)) (λY=>Y) y (by rfl) ?_ ?_
    ·rintro Y e m ⟨X,⟨e5,e7⟩,hX,hY,hg2⟩
     rcases Nat.eq_zero_or_pos Y with h3 | h3
     ·subst h3;rw [Nat.gcd_zero_right] at hg2;have co:=natOf X hX;rw [hg2] at co;rw [hg2] at e5;(focus (refine wkvp (w_3 e5 e7 @Int.natCast_zero) (w_1 co) ?_;(repeat' first|exact w_t|apply w_l);all_goals intros));simp (disch:=omega) only [go_sem]
     ·have hn:(Y:Int)≠0:=by omega
      have hm:=Nat.mod_lt X h3;(focus (refine wkvd (w_4 e5 e7 @Zek hn) w_t w_t ?_;(repeat' first|exact w_t|apply w_l);all_goals intros));exact⟨X%Y,⟨Y,⟨by exact gC,by exact gC⟩,hY,by omega,by rw [←hg2,Nat.gcd_comm X Y,Nat.gcd_rec Y X,Nat.gcd_comm]⟩,hm⟩
    ·exact⟨x,⟨by exact gC,by exact gC⟩,hsx,hsy,hg⟩
   ·have hm:=Nat.mod_lt x h0;have hml:(toL (x%y)).length≤200000000:=Nat.le_trans (Za9 (Nat.le_of_lt hm)) hy
    have hdd:(decide (x < 18446744073709551616) && decide (y < 18446744073709551616))=false:=by
     rw [Bool.and_eq_false_iff,decide_eq_false_iff_not,decide_eq_false_iff_not];omega
    have hgg:Nat.gcd y (x%y)=Nat.gcd (nv a) (nv b):=by rw [←hg,Nat.gcd_comm x y,Nat.gcd_rec y x,Nat.gcd_comm]
    by_cases hsx:x < 18446744073709551616
    ·have hsy:¬y < 18446744073709551616:=λh=>hs ⟨hsx,h⟩;have dx:decide (x < 18446744073709551616)=true:=decide_eq_true hsx;have dy:decide (y < 18446744073709551616)=false:=decide_eq_false hsy
     (repeat' (first|(with_reducible first|refine stp ?_|apply gx1|apply gx2|apply gx3|apply gx4|apply gx5|apply gx6|apply gx7|refine gw0 (cu x hx) ?_ ?_|refine gw0 (cu y hy) ?_ ?_|refine gw0 (cd x y hx hy (by omega)) ?_ ?_)|(with_reducible refine Zbf ?_;intro _)|((with_reducible refine gE ?_);(try simp (disch:=omega) only [go_sem,e0,e1,if_pos hsx,if_neg hsy,dx,dy])<;>first|rfl|omega)|with_reducible refine Zaf (by decide) ?_))
     exact⟨x%y,⟨y,⟨by exact gW e1,by exact gC⟩,hy,hml,hgg⟩,hm⟩
    ·have dx:decide (x < 18446744073709551616)=false:=decide_eq_false hsx;by_cases hsy:y < 18446744073709551616
     ·have dy:decide (y < 18446744073709551616)=true:=decide_eq_true hsy
      (repeat' (first|(with_reducible first|refine stp ?_|apply gx1|apply gx2|apply gx3|apply gx4|apply gx5|apply gx6|apply gx7|refine gw0 (cu x hx) ?_ ?_|refine gw0 (cu y hy) ?_ ?_|refine gw0 (cd x y hx hy (by omega)) ?_ ?_)|(with_reducible refine Zbf ?_;intro _)|((with_reducible refine gE ?_);(try simp (disch:=omega) only [go_sem,e0,e1,if_neg hsx,if_pos hsy,dx,dy])<;>first|rfl|omega)|with_reducible refine Zaf (by decide) ?_))
      exact⟨x%y,⟨y,⟨by exact gW e1,by exact gC⟩,hy,hml,hgg⟩,hm⟩
     ·have dy:decide (y < 18446744073709551616)=false:=decide_eq_false hsy
      (repeat' (first|(with_reducible first|refine stp ?_|apply gx1|apply gx2|apply gx3|apply gx4|apply gx5|apply gx6|apply gx7|refine gw0 (cu x hx) ?_ ?_|refine gw0 (cu y hy) ?_ ?_|refine gw0 (cd x y hx hy (by omega)) ?_ ?_)|(with_reducible refine Zbf ?_;intro _)|((with_reducible refine gE ?_);(try simp (disch:=omega) only [go_sem,e0,e1,if_neg hsx,if_neg hsy,dx,dy])<;>first|rfl|omega)|with_reducible refine Zaf (by decide) ?_))
      exact⟨x%y,⟨y,⟨by exact gW e1,by exact gC⟩,hy,hml,hgg⟩,hm⟩
 ·exact⟨nv a,⟨by exact gC,by exact gC⟩,by omega,by omega,rfl⟩
theorem Zdy (l:List Nat) (hs:l.length≤1000000000) (hl:Lm l):Pure Tryz.prog 148 [lim l] (lim (toL (nv l))):=by
 refine Zaa (tok:=0) (rs:=[.tmp 2]) Tryz.func148 rfl Tryz.ntmps148 Tryz.results148 Tryz.call148 (by rfl) (by simp) ?_;(focus (refine wkvp w_t w_t ?_;(repeat' first|exact w_t|apply w_l);all_goals intros));refine Zag (ι:=Nat) (λk e m=>k≤l.length∧e 0=lim l∧e 3=.v (.int .i64 (k:Int))∧∀j,k≤j→gN l j=0) (λk=>k) l.length (by rfl) ?_ ?_
 ·rintro k e m ⟨hk,e0,e3,hz⟩
  have gl:=Zbz hl (k - 1);have hln:(l.take k).length=k:=by rw [List.length_take];omega
  by_cases h0:k=0
  ·subst h0;have:=Zjm hl hk hz (.inl rfl);(focus (refine wkvp (w_3 e0 e3 @Zph) w_t ?_;(repeat' first|exact w_t|apply w_l);all_goals intros));simp (disch:=omega) only [go_sem];rw [←this];rfl
  ·by_cases h1:gN l (k - 1)=0
   ·(focus (refine wkvp (w_2 e0 e3) w_t ?_;(repeat' first|exact w_t|apply w_l);all_goals intros));exact⟨k - 1,⟨by omega,by exact gW e0,by(simp (disch:=omega) only [go_sem,e3];congr 2;omega),λj hj=>by
     rcases Nat.lt_or_ge j k with h2 | h2
     ·rw [show j=k - 1 by omega];exact h1
     ·exact hz j h2⟩,by omega⟩
   ·have:=Zjm hl hk hz (.inr (by omega));(focus (refine wkvp (w_4 e0 e3 @Zph hln) w_t ?_;(repeat' first|exact w_t|apply w_l);all_goals intros));simp (disch:=omega) only [go_sem,this]
 ·exact⟨Nat.le_refl _,by exact gC,by exact gC,λj hj=>Zd2 hj⟩
theorem Zim (n:Nat) (hn:n < 18446744073709551616):Pure Tryz.prog 100 [.v (.int .u64 (n:Int))] (lim (toL n)):=by
 have b1:=(Zai (n:=n) (k:=4)).2 hn;refine Zaa (tok:=0) (rs:=[.tmp 2]) Tryz.func100 rfl Tryz.ntmps100 Tryz.results100 Tryz.call100 (by rfl) (by simp) ?_;(focus (refine wkvp w_t w_t ?_;(repeat' first|exact w_t|apply w_l);all_goals intros));refine Ze5 (Frz.nilOwn (d:=3) 11 1 104 (by exact gC)) ?_;refine Zag (ι:=Nat) (λk e m=>k≤n∧e 0=.v (.int .u64 (k:Int))∧∃sv l,e 3=.own 11 sv∧m 11=some (.row sv 104 1 (u16s l) 0)∧l++toL k=toL n) (λk=>k) n (by rfl) ?_ ?_
 ·rintro k e m ⟨hk,e0,sv,l,e3,em,hl⟩
  by_cases hk0:k=0
  ·subst hk0;rw [Za3,List.append_nil] at hl;(focus (refine wkvp (w_3 e0 e3 @Int.natCast_zero) w_t ?_;(repeat' first|exact w_t|apply w_l);all_goals intros));simp (disch:=omega) only [go_sem,em,hl]
  ·have b2:l.length≤(toL n).length:=by rw [←hl];simp
   have hne:k≠0:=hk0;have r1:(k:Int).tmod 65536=((k%65536:Nat):Int):=Zek k 65536;have r2:(k:Int).tdiv 65536=((k/65536:Nat):Int):=Zdz k 65536;have r3:k%65536%65536=k%65536:=Nat.mod_mod _ _;(focus (refine wkvp (w_7 e0 e3 em r1 r2 @Zbc r3) w_t ?_;(repeat' first|exact w_t|apply w_l);all_goals intros));refine⟨k/65536,⟨by omega,by exact gW e0,_,l++[k%65536],by exact gC,by exact gC,?_⟩,by omega⟩;rw [←hl,Ze3 hk0];simp
 ·exact⟨Nat.le_refl _,by exact gC,_,[],by exact gC,by exact gC,by simp⟩
theorem Zp6 (l:List Nat) (hs:l.length≤4) (hl:Lm l):Pure Tryz.prog 180 [lim l] (.v (.int .u64 (nv l:Nat))):=by
 refine Zaa (tok:=0) (rs:=[.tmp 2]) Tryz.func180 rfl Tryz.ntmps180 Tryz.results180 Tryz.call180 (by rfl) (by simp) ?_;(focus (refine wkvp w_t w_t ?_;(repeat' first|exact w_t|apply w_l);all_goals intros));refine Zag (ι:=Nat) (λk e m=>k≤l.length∧e 0=lim l∧e 4=.v (.int .i64 ((k:Int) - 1))∧e 3=.v (.int .u64 (nv (l.drop k):Nat))) (λk=>k) l.length (by rfl) ?_ ?_
 ·rintro k e m ⟨hk,e0,e4,e3⟩
  by_cases h0:k=0
  ·subst h0;rw [List.drop_zero] at e3;(focus (refine wkvp (w_3 e0 e4 e3) w_t ?_;(repeat' first|exact w_t|apply w_l);all_goals intros));simp (disch:=omega) only [go_sem]
  ·have gl:=Zbz hl (k - 1);have b1:=Zgz (hl.drop k);have b2:65536 ^ (l.drop k).length≤65536 ^ 3:=Nat.pow_le_pow_right (by omega) (by rw [List.length_drop];omega);have e1:(nv (l.drop k):Int)*65536=((nv (l.drop k)*65536:Nat):Int):=by omega
   (focus (refine wkvp (w_5 e0 e4 e3 e1 @Za0) w_t ?_;(repeat' first|exact w_t|apply w_l);all_goals intros));refine⟨k - 1,⟨by omega,by exact gW e0,by(simp (disch:=omega) only [go_sem,e4];congr 2;omega),?_⟩,by omega⟩;simp (disch:=omega) only [go_sem];rw [Zb5 l (k - 1),show k - 1+1=k by omega];congr 3;omega
 ·exact⟨Nat.le_refl _,by exact gC,by exact gC,by(simp (disch:=omega) only [go_sem,List.drop_length]<;>repeat' first|rfl|refine⟨?_,?_⟩)⟩
theorem Zhb (l:List Nat) (i:Nat) (hs:l.length≤1000000000) (hl:Lm l):Pure Tryz.prog 166 [lim l,.v (.int .i64 (i:Int))] (.v (.int .i64 (gN l i:Nat))):=by
 have gl:=Zbz hl i;refine Zaa (tok:=0) (rs:=[.tmp 4]) Tryz.func166 rfl Tryz.ntmps166 Tryz.results166 Tryz.call166 (by rfl) (by simp) ?_;by_cases h:i < l.length
 ·(focus (refine wkvp w_t w_t ?_;(repeat' first|exact w_t|apply w_l);all_goals intros));simp (disch:=omega) only [go_sem]
 ·have g0:gN l i=0:=Zd2 (by omega);(focus (refine wkvp w_t w_t ?_;(repeat' first|exact w_t|apply w_l);all_goals intros));simp (disch:=omega) only [go_sem,g0];rfl
theorem Zso (a b:List Nat) (ha:a.length≤1000000000) (hb:b.length≤1000000000) (la:Lm a) (lb:Lm b):Pure Tryz.prog 172 [lim a,lim b] (.v (.int .i64 (cmpN (nv a) (nv b)))):=by
 have cl:=λi=>Zhb a i ha la;have cr:=λi=>Zhb b i hb lb;refine Zaa (tok:=0) (rs:=[.tmp 4]) Tryz.func172 rfl Tryz.ntmps172 Tryz.results172 Tryz.call172 (by rfl) (by simp) ?_;have hmx:max (a.length:Int) (b.length:Int)=((max a.length b.length:Nat):Int):=by omega
 obtain⟨M,hM⟩:∃M,max a.length b.length=M:=⟨_,rfl⟩;(focus (refine wkvp (w_2 hmx hM) w_t ?_;(repeat' first|exact w_t|apply w_l);all_goals intros));refine Zag (ι:=Nat) (λk e m=>k≤M∧e 0=lim a∧e 1=lim b∧e 5=.v (.int .i64 ((k:Int) - 1))∧nv (a.drop k)=nv (b.drop k)) (λk=>k) M (by rfl) ?_ ?_
 ·rintro k e m ⟨hk,e0,e1,e5,hz⟩
  by_cases h0:k=0
  ·subst h0;rw [List.drop_zero,List.drop_zero] at hz;(focus (refine wkvp (w_3 e0 e1 e5) w_t ?_;(repeat' first|exact w_t|apply w_l);all_goals intros));simp (disch:=omega) only [go_sem,cmpN,hz,Nat.lt_irrefl,if_false]
  ·obtain⟨j,rfl⟩:∃j,k=j+1:=⟨k - 1,by omega⟩;have ej:((j+1:Nat):Int) - 1=(j:Int):=by omega
   rw [ej] at e5;have ga:=Zbz la j;have gb:=Zbz lb j;by_cases p1:gN a j < gN b j
   ·have:=Zqg la lb hz p1;(focus (refine wkvp (w_3 e0 e1 e5) (w_2 (cl j) (cr j)) ?_;(repeat' first|exact w_t|apply w_l);all_goals intros));simp (disch:=omega) only [go_sem,cmpN,if_pos this]
   ·by_cases p2:gN b j < gN a j
    ·have:=Zqg lb la hz.symm p2;have this2:¬nv a < nv b:=by omega
     (focus (refine wkvp (w_3 e0 e1 e5) (w_2 (cl j) (cr j)) ?_;(repeat' first|exact w_t|apply w_l);all_goals intros));simp (disch:=omega) only [go_sem,cmpN,if_pos this,if_neg this2]
    ·(focus (refine wkvp (w_3 e0 e1 e5) (w_2 (cl j) (cr j)) ?_;(repeat' first|exact w_t|apply w_l);all_goals intros));refine⟨j,⟨by omega,by exact gW e0,by exact gW e1,by exact gW e5,?_⟩,by omega⟩;rw [Zb5,Zb5 b,hz];omega
 ·refine⟨Nat.le_refl _,by exact gC,by exact gC,by exact gC,?_⟩;rw [List.drop_eq_nil_of_le (by omega),List.drop_eq_nil_of_le (by omega)]
theorem refAdd (a b:List Nat) (ha:a.length≤400000000) (hb:b.length≤400000000) (la:Lm a) (lb:Lm b):Pure Tryz.prog 152 [lim a,lim b] (lim (toL (nv a+nv b))):=by
 have cl:=λi=>Zhb a i (by omega) la;have cr:=λi=>Zhb b i (by omega) lb;refine Zaa (tok:=0) (rs:=[.tmp 4]) Tryz.func152 rfl Tryz.ntmps152 Tryz.results152 Tryz.call152 (by rfl) (by simp) ?_;(focus (refine wkvp w_t w_t ?_;(repeat' first|exact w_t|apply w_l);all_goals intros));refine Ze5 (Frz.nilOwn (d:=5) 39 1 104 (by exact gC)) ?_;refine Zag (ι:=Nat) (λk e m=>k≤max a.length b.length+1∧(e 0=lim a∧e 1=lim b∧e 7=.v (.int .i64 (k:Int)))∧∃sv o c,(e 5=.own 39 sv∧e 6=.v (.int .i64 (c:Nat))∧m 39=some (.row sv 104 1 (u16s o) 0))∧o.length=k∧Lm o∧c≤1∧(max a.length b.length < k→c=0)∧nv o+65536 ^ k*c=nv (a.take k)+nv (b.take k)) (λk=>max a.length b.length+1 - k) 0 (by rfl) ?_ ?_
 ·rintro k e m ⟨hk,⟨e0,e1,e7⟩,sv,o,c,⟨e5,e6,em⟩,hol,hLo,hc,hcz,hv⟩
  by_cases hgo:k < a.length∨k < b.length∨0 < c
  ·have ga:=Zbz la k;have gb:=Zbz lb k;have hs:=Zmo (x:=gN a k) (y:=gN b k) hv;rw [←Zay,←Zay,←Nat.pow_succ] at hs;have ecomm:gN a k+gN b k+c=c+gN a k+gN b k:=by omega
   have w1:(c+gN a k+gN b k)/65536≤1:=by omega
   have w2:(c+gN a k+gN b k)%65536 < 65536:=Nat.mod_lt _ (by omega);have r1:((c+gN a k+gN b k:Nat):Int).tmod 65536=(((c+gN a k+gN b k)%65536:Nat):Int):=Zek _ 65536;have r2:((c+gN a k+gN b k:Nat):Int).tdiv 65536=(((c+gN a k+gN b k)/65536:Nat):Int):=Zdz _ 65536;have r3:(c+gN a k+gN b k)%65536%65536=(c+gN a k+gN b k)%65536:=Nat.mod_mod _ _;have nvs:nv (o++[(c+gN a k+gN b k)%65536])=nv o+65536 ^ k*((c+gN a k+gN b k)%65536):=by rw [Zdd,hol];simp [nv]
   rw [←nvs] at hs
   have hz2:max a.length b.length < k+1→(c+gN a k+gN b k)/65536=0:=by
    intro h;have g1:gN a k=0:=Zd2 (by omega);have g2:gN b k=0:=Zd2 (by omega);omega
   have hkm:k≤max a.length b.length:=by omega
   have fin:=fun(sv:Value) (e:Nat→AV) (m:Mem) (h1:e 0=lim a∧e 1=lim b∧e 7=.v (.int .i64 ((k+1:Nat):Int))) (h2:e 5=.own 39 sv∧e 6=.v (.int .i64 ((c+gN a k+gN b k)/65536:Nat))∧m 39=some (.row sv 104 1 (u16s (o++[(c+gN a k+gN b k)%65536])) 0)) =>
    show ∃k',(k'≤max a.length b.length+1∧(e 0=lim a∧e 1=lim b∧e 7=.v (.int .i64 (k':Int)))∧∃sv o c,(e 5=.own 39 sv∧e 6=.v (.int .i64 (c:Nat))∧m 39=some (.row sv 104 1 (u16s o) 0))∧o.length=k'∧Lm o∧c≤1∧(max a.length b.length < k'→c=0)∧nv o+65536 ^ k'*c=nv (a.take k')+nv (b.take k'))∧max a.length b.length+1 - k' < max a.length b.length+1 - k from
    ⟨k+1,⟨by omega,h1,sv,_,_,h2,by simp [hol],hLo.append (Lm.one w2),w1,hz2,hs⟩,by omega⟩
   by_cases h3:k < a.length
   ·(focus (refine wkvp (w_14 e0 e1 e7 e5 e6 em hol @Zci @Za0 ecomm r1 r2 r3 @Zbc) (w_2 (cl k) (cr k)) ?_;(repeat' first|exact w_t|apply w_l);all_goals intros));exact fin _ _ _ ⟨by exact gW e0,by exact gW e1,by exact gS⟩ ⟨by exact gC,by exact gC,by exact gC⟩
   ·by_cases h4:k < b.length
    ·(focus (refine wkvp (w_14 e0 e1 e7 e5 e6 em hol @Zci @Za0 ecomm r1 r2 r3 @Zbc) (w_2 (cl k) (cr k)) ?_;(repeat' first|exact w_t|apply w_l);all_goals intros));exact fin _ _ _ ⟨by exact gW e0,by exact gW e1,by exact gS⟩ ⟨by exact gC,by exact gC,by exact gC⟩
    ·have hc1:0 < c:=by omega
     (focus (refine wkvp (w_14 e0 e1 e7 e5 e6 em hol @Zci @Za0 ecomm r1 r2 r3 @Zbc) (w_2 (cl k) (cr k)) ?_;(repeat' first|exact w_t|apply w_l);all_goals intros));exact fin _ _ _ ⟨by exact gW e0,by exact gW e1,by exact gS⟩ ⟨by exact gC,by exact gC,by exact gC⟩
  ·have hc0:c=0:=by omega
   subst hc0;rw [Zbl (by omega),Zbl (by omega),Nat.mul_zero,Nat.add_zero] at hv
   (repeat' (first|(with_reducible first|refine stp ?_|apply gx1|apply gx2|apply gx3|apply gx4|apply gx5|apply gx6|apply gx7|apply gw1 (Zdy o (by omega) hLo))|(with_reducible refine Zbf ?_;intro _)|((with_reducible refine gE ?_);(try simp (disch:=omega) only [go_sem,e0,e1,e7,e5,e6,em])<;>first|rfl|omega)|with_reducible refine Zaf (by decide) ?_))
   simp (disch:=omega) only [go_sem,hv]
 ·exact⟨by omega,⟨by exact gC,by exact gC,by exact gC⟩,_,[],0,⟨by exact gC,by exact gC,by exact gC⟩,rfl,Lm.nil,by omega,λ_=>rfl,by simp [nv]⟩
theorem refSub (a b:List Nat) (ha:a.length≤1000000000) (hb:b.length≤1000000000) (la:Lm a) (lb:Lm b) :
 Pure Tryz.prog 165 [lim a,lim b] (.tup [lim (if nv a < nv b then [] else toL (nv a - nv b)),.v (.int .i64 (if nv a < nv b then 2 else 0))]):=by
 have cl:=λi=>Zhb a i ha la;have cr:=λi=>Zhb b i hb lb;have cc:=Zso a b ha hb la lb;by_cases hlt:nv a < nv b
 ·rw [if_pos hlt,if_pos hlt];refine Pure.wk ?_ (okTup rfl);refine Zaa (tok:=0) (rs:=[.tmp 4,.tmp 5]) Tryz.func165 rfl Tryz.ntmps165 Tryz.results165 Tryz.call165 (by rfl) (by simp) ?_;have hc:cmpN (nv a) (nv b)=-1:=by unfold cmpN;rw [if_pos hlt]
  (focus (refine wkvp (w_1 hc) (w_1 cc) ?_;(repeat' first|exact w_t|apply w_l);all_goals intros));simp (disch:=omega) only [go_sem]
 ·rw [if_neg hlt,if_neg hlt];have hc:0≤cmpN (nv a) (nv b):=by unfold cmpN;rw [if_neg hlt];split<;>omega
  refine Zaa (tok:=0) (rs:=[.tmp 4,.tmp 5]) Tryz.func165 rfl Tryz.ntmps165 Tryz.results165 Tryz.call165 (by rfl) (by simp) ?_;(focus (refine wkvp w_t (w_1 cc) ?_;(repeat' first|exact w_t|apply w_l);all_goals intros));refine Ze5 (Frz.nilOwn (d:=6) 37 1 104 (by exact gC)) ?_;refine Zag (ι:=Nat) (λk e m=>k≤a.length∧(e 0=lim a∧e 1=lim b∧e 8=.v (.int .i64 (k:Int)))∧∃sv o r,(e 6=.own 37 sv∧e 7=.v (.int .i64 (r:Nat))∧m 37=some (.row sv 104 1 (u16s o) 0))∧o.length=k∧Lm o∧r≤1∧nv o+nv (b.take k)=nv (a.take k)+65536 ^ k*r) (λk=>a.length - k) 0 (by rfl) ?_ ?_
  ·rintro k e m ⟨hk,⟨e0,e1,e8⟩,sv,o,r,⟨e6,e7,em⟩,hol,hLo,hr,hv⟩
   have ga:=Zbz la k;have gb:=Zbz lb k;by_cases hlt2:k < a.length
   ·have step:∀(d r':Nat),d+r+gN b k=gN a k+65536*r'→d < 65536→r'≤1→(o++[d]).length=k+1∧Lm (o++[d])∧r'≤1∧nv (o++[d])+nv (b.take (k+1))=nv (a.take (k+1))+65536 ^ (k+1)*r':=by
     intro d r' hd h3 h4;have:=Zpw hv hd;have nvs:nv (o++[d])=nv o+65536 ^ k*d:=by rw [Zdd,hol];simp [nv]
     rw [nvs,Zay,Zay,Nat.pow_succ];exact⟨by simp [hol],hLo.append (Lm.one h3),h4,this⟩
    by_cases hneg:gN a k < gN b k+r
    ·have hs:=step (gN a k+65536 - gN b k - r) 1 (by omega) (by omega) (by omega);have w:(gN a k:Int) - gN b k - r+65536=((gN a k+65536 - gN b k - r:Nat):Int):=by omega
     (focus (refine wkvp (w_8 e0 e1 e8 e6 e7 em hol w) (w_2 (cl k) (cr k)) ?_;(repeat' first|exact w_t|apply w_l);all_goals intros));exact⟨k+1,⟨by omega,⟨by exact gW e0,by exact gW e1,by exact gV e8⟩,_,_,1,⟨by exact gC,by exact gC,by exact gC⟩,hs⟩,by omega⟩
    ·have hs:=step (gN a k - gN b k - r) 0 (by omega) (by omega) (by omega);have w:(gN a k:Int) - gN b k - r=((gN a k - gN b k - r:Nat):Int):=by omega
     (focus (refine wkvp (w_8 e0 e1 e8 e6 e7 em hol w) (w_2 (cl k) (cr k)) ?_;(repeat' first|exact w_t|apply w_l);all_goals intros));exact⟨k+1,⟨by omega,⟨by exact gW e0,by exact gW e1,by exact gV e8⟩,_,_,0,⟨by exact gC,by exact gC,by exact gC⟩,hs⟩,by omega⟩
   ·have hka:k=a.length:=by omega
    have hbs:=Zb3 b k;have hno:=Zgz hLo;rw [hol] at hno;rw [Zbl (l:=a) (by omega)] at hv
    have hno2:nv o=nv a - nv b:=by
     have hbd:nv (b.drop k)=0:=by
      rcases Nat.eq_zero_or_pos (nv (b.drop k)) with h3 | h3
      ·exact h3
      ·have h4:=Nat.le_mul_of_pos_right (65536 ^ k) h3;have h5:=Zgz la;rw [←hka] at h5;omega
     rw [hbd,Nat.mul_zero,Nat.add_zero] at hbs
     have hr0:r=0:=by
      rcases Nat.eq_zero_or_pos r with h3 | h3
      ·exact h3
      ·have:r=1:=by omega
       subst this;omega
     subst hr0;omega
    (repeat' (first|(with_reducible first|refine stp ?_|apply gx1|apply gx2|apply gx3|apply gx4|apply gx5|apply gx6|apply gx7|apply gw1 (Zdy o (by omega) hLo))|(with_reducible refine Zbf ?_;intro _)|((with_reducible refine gE ?_);(try simp (disch:=omega) only [go_sem,e0,e1,e8,e6,e7,em])<;>first|rfl|omega)|with_reducible refine Zaf (by decide) ?_))
    simp (disch:=omega) only [go_sem,hno2]
  ·exact⟨Nat.zero_le _,⟨by exact gC,by exact gC,by exact gC⟩,_,[],0,⟨by exact gC,by exact gC,by exact gC⟩,rfl,Lm.nil,by omega,by simp [nv]⟩
def valL (l:List Nat):Bool:=decide (l.length=0) || !decide (gN l (l.length - 1)=0)
theorem Ziq {l:List Nat} (h:Lm l):valL l=true↔l=toL (nv l):=by
 unfold valL;constructor
 ·intro h1;refine canon h ?_;simp only [Bool.or_eq_true,decide_eq_true_eq,Bool.not_eq_true',decide_eq_false_iff_not] at h1;rcases h1 with h1 | h1
  ·exact .inl (List.eq_nil_of_length_eq_zero h1)
  ·exact .inr (by omega)
 ·intro h1;by_cases h0:nv l=0
  ·rw [h0,Za3] at h1;subst h1;rfl
  ·obtain⟨h2,h3⟩:=Zdw h0;rw [←h1] at h2 h3;simp only [Bool.or_eq_true,decide_eq_true_eq,Bool.not_eq_true',decide_eq_false_iff_not];exact .inr (by omega)
theorem Zp5 (l:List Nat) (hs:l.length≤1000000000) (hl:Lm l):Pure Tryz.prog 137 [lim l] (.v (.bool (valL l))):=by
 refine Zaa (tok:=0) (rs:=[.tmp 2]) Tryz.func137 rfl Tryz.ntmps137 Tryz.results137 Tryz.call137 (by rfl) (by simp) ?_;have gl:=Zbz hl (l.length - 1);unfold valL;by_cases h0:l.length=0
 ·(focus (refine wkvp (w_1 h0) w_t ?_;(repeat' first|exact w_t|apply w_l);all_goals intros));simp (disch:=omega) only [go_sem,h0]
 ·by_cases h1:gN l (l.length - 1)=0
  ·(focus (refine wkvp (w_2 h1 @Int.natCast_zero) w_t ?_;(repeat' first|exact w_t|apply w_l);all_goals intros));simp (disch:=omega) only [go_sem,h0,h1]
  ·(focus (refine wkvp w_t w_t ?_;(repeat' first|exact w_t|apply w_l);all_goals intros));simp (disch:=omega) only [go_sem,h0,h1]
theorem refSameN (a b:List Nat) (ha:a.length≤1000000000) (hb:b.length≤1000000000) (la:Lm a) (lb:Lm b):Pure Tryz.prog 138 [lim a,lim b] (.v (.bool (decide (a=b)))):=by
 refine Zaa (tok:=0) (rs:=[.tmp 4]) Tryz.func138 rfl Tryz.ntmps138 Tryz.results138 Tryz.call138 (by rfl) (by simp) ?_;by_cases hl:a.length=b.length
 ·(focus (refine wkvp (w_1 hl) w_t ?_;(repeat' first|exact w_t|apply w_l);all_goals intros));refine Zag (ι:=Nat) (λk e m=>k≤a.length∧(e 0=lim a∧e 1=lim b∧e 5=.v (.int .i64 (k:Int)))∧∀j,j < k→gN a j=gN b j) (λk=>a.length - k) 0 (by rfl) ?_ ?_
  ·rintro k e m ⟨hk,⟨e0,e1,e5⟩,hs⟩
   by_cases hlt:k < a.length
   ·by_cases p:gN a k=gN b k
    ·(focus (refine wkvd (w_3 e0 e1 e5) w_t w_t ?_;(repeat' first|exact w_t|apply w_l);all_goals intros));exact⟨k+1,⟨by omega,⟨by exact gW e0,by exact gW e1,by exact gV e5⟩,λj hj=>by
      rcases Nat.lt_or_ge j k with h1 | h1
      ·exact hs j h1
      ·rw [show j=k by omega];exact p⟩,by omega⟩
    ·have hne:decide (a=b)=false:=decide_eq_false λh=>p (by rw [h]);(focus (refine wkvd (w_3 e0 e1 e5) w_t w_t ?_;(repeat' first|exact w_t|apply w_l);all_goals intros));simp (disch:=omega) only [go_sem,hne]
   ·have he:decide (a=b)=true:=decide_eq_true (List.ext_getElem hl λj h1 h2=>by
     have:=hs j (by omega)
     rwa [gN_at h1,gN_at h2] at this)
    (focus (refine wkvd (w_3 e0 e1 e5) w_t w_t ?_;(repeat' first|exact w_t|apply w_l);all_goals intros));simp (disch:=omega) only [go_sem,he]
  ·exact⟨Nat.zero_le _,⟨by exact gC,by exact gC,by exact gC⟩,λj hj=>by omega⟩
 ·have hne:decide (a=b)=false:=decide_eq_false λh=>hl (by rw [h]);(focus (refine wkvp w_t w_t ?_;(repeat' first|exact w_t|apply w_l);all_goals intros));simp (disch:=omega) only [go_sem,hne]
theorem Zsn (a b:List Nat) (ha:a.length≤400000000) (hb:b.length≤400000000) (la:Lm a) (lb:Lm b):Pure Tryz.prog 113 [lim a,lim b] (lim (toL (nv a*nv b))):=by
 have cr:=λi=>Zhb b i (by omega) lb;refine Zaa (tok:=0) (rs:=[.tmp 4]) Tryz.func113 rfl Tryz.ntmps113 Tryz.results113 Tryz.call113 (by rfl) (by simp) ?_;(focus (refine wkvp (w_2 @Za0 @Zb1) w_t ?_;(repeat' first|exact w_t|apply w_l);all_goals intros));refine Zag (ι:=Nat) (λi e m=>i≤a.length∧(e 0=lim a∧e 1=lim b∧e 6=.v (.int .i64 i))∧∃sv o,(e 5=.own 16 sv∧m 16=some (.row sv 104 1 (u16s o) 0))∧o.length=a.length+b.length+1∧Lm o∧(∀j,i+b.length≤j→gN o j=0)∧nv o=nv (a.take i)*nv b) (λi=>a.length - i) 0 (by rfl) ?_ ?_
 ·rintro i e m ⟨hi,⟨e0,e1,e6⟩,sv,o,⟨e5,em⟩,hol,hLo,hz,hv⟩
  by_cases hlt:i < a.length
  ·have gx:=Zbz la i;(focus (refine wkvp (w_7 e0 e1 e6 e5 em hol @Za0) w_t ?_;(repeat' first|exact w_t|apply w_l);all_goals intros));refine Zag (ι:=Nat) (λk e' m'=>k≤b.length+1∧(e' 0=lim a∧e' 1=lim b∧e' 6=.v (.int .i64 i)∧e' 8=.v (.int .i64 k)∧e' 5=.own 16 sv)∧∃o' c,(e' 7=.v (.int .u64 (c:Nat))∧m' 16=some (.row sv 104 1 (u16s o') 0))∧o'.length=a.length+b.length+1∧Lm o'∧c < 65536∧(b.length < k→c=0)∧(∀j,i+max b.length k≤j→gN o' j=0)∧nv o'+65536 ^ (i+k)*c=nv o+65536 ^ i*nv (b.take k)*gN a i) (λk=>b.length+1 - k) 0 (by rfl) ?_ ?_
   ·rintro k e m ⟨hk,⟨e0,e1,e6,e8,e5⟩,o',c,⟨e7,em⟩,hol',hLo',hc,hcz,hz',hv'⟩
    have gy:=Zbz lb k;have go:=Zbz hLo' (i+k);have bd:=Zni gx gy;by_cases hgo:k < b.length∨0 < c
    ·have hkb:k≤b.length:=by
      rcases hgo with h | h
      ·omega
      ·rcases Nat.lt_or_ge b.length k with h2 | h2
       ·have:=hcz h2;omega
       ·exact h2
     have hs:=Zqi (x:=gN a i) (y:=gN b k) rfl (Znd (o:=o') (j:=i+k) (by omega) _) hv';rw [←Zqj,←Zay,←Nat.pow_succ,Nat.succ_eq_add_one,Nat.add_assoc i] at hs;have ecomm:gN o' (i+k)+gN a i*gN b k+c=c+(gN o' (i+k)+gN a i*gN b k):=by omega
     have hcz2:b.length < k+1→(c+(gN o' (i+k)+gN a i*gN b k))/65536=0:=by
      intro h;have g1:gN b k=0:=Zd2 (by omega);have g2:=hz' (i+k) (by omega);rw [g1,g2];omega
     have w1:(c+(gN o' (i+k)+gN a i*gN b k))/65536 < 65536:=by omega
     have w2:(c+(gN o' (i+k)+gN a i*gN b k))%65536 < 65536:=by omega
     generalize hxy:gN a i*gN b k=xy at *;have r1:((c+(gN o' (i+k)+xy):Nat):Int).tmod 65536=(((c+(gN o' (i+k)+xy))%65536:Nat):Int):=Zek _ 65536;have r2:((c+(gN o' (i+k)+xy):Nat):Int).tdiv 65536=(((c+(gN o' (i+k)+xy))/65536:Nat):Int):=Zdz _ 65536;have r3:(c+(gN o' (i+k)+xy))%65536%65536=(c+(gN o' (i+k)+xy))%65536:=Nat.mod_mod _ _;have hzz:∀j,i+max b.length (k+1)≤j→gN (o'.set (i+k) ((c+(gN o' (i+k)+xy))%65536)) j=0:=λj hj=>by
      rw [Zfh (by omega),if_neg (by omega)];exact hz' j (by omega)
     by_cases h3:k < b.length
     ·(repeat' (first|(with_reducible first|refine stp ?_|apply gx1|apply gx2|apply gx3|apply gx4|apply gx5|apply gx6|apply gx7|apply gy8|apply gz2|apply gz3|refine gw0 (cr k) ?_ ?_|refine gw3 (cr k) ?_ ?_ ?_)|(with_reducible refine Zbf ?_;intro _)|((with_reducible refine gE ?_);(try simp (disch:=omega) only [go_sem,e0,e1,e6,e8,e5,e7,em,hol',Za0,Zem,Zbc,hxy,ecomm,r1,r2,r3])<;>first|rfl|omega)|with_reducible refine Zaf (by decide) ?_|((with_reducible apply gy1);iterate 3 focus rfl)|((with_reducible apply gy2);iterate 3 focus rfl)|((with_reducible apply gy3);iterate 2 focus rfl)|((with_reducible apply gy4);iterate 1 focus rfl)|((with_reducible apply gy5);iterate 4 focus rfl)|((with_reducible apply gy5c);iterate 4 focus rfl)|((with_reducible apply gy6);iterate 4 focus rfl)|((with_reducible apply Zc0);iterate 3 focus rfl)|((with_reducible apply Zcz);iterate 1 focus rfl)|((with_reducible apply gy7);iterate 1 focus rfl)|((with_reducible apply gy9);(focus ((with_reducible refine gE ?_);(try simp (disch:=omega) only [go_sem,e0,e1,e6,e8,e5,e7,em,hol',Za0,Zem,Zbc,hxy,ecomm,r1,r2,r3])<;>rfl)))|((with_reducible apply gz1);(focus first|rfl|(simp (disch:=omega) only [go_sem,e0,e1,e6,e8,e5,e7,em,hol',Za0,Zem,Zbc,hxy,ecomm,r1,r2,r3];done)))|((with_reducible apply Za2 (Zcg [(14,.v (.int .i64 (gN b k:Nat)))]) [] []);(focus kernel_rfl);(focus rfl);(focus kernel_rfl);(focus (simp only [List.length_cons,List.length_nil,Nat.reduceAdd];rfl)))))
      exact⟨k+1,⟨by omega,⟨by exact gW e0,by exact gW e1,by exact gW e6,by exact gS,by exact gW e5⟩,_,_,⟨by exact gC,by exact gC⟩,by simpa using hol',hLo'.set _ w2,w1,hcz2,hzz,hs⟩,by omega⟩
     ·have hc1:0 < c:=by omega
      (repeat' (first|(with_reducible first|refine stp ?_|apply gx1|apply gx2|apply gx3|apply gx4|apply gx5|apply gx6|apply gx7|apply gy8|apply gz2|apply gz3|refine gw0 (cr k) ?_ ?_|refine gw3 (cr k) ?_ ?_ ?_)|(with_reducible refine Zbf ?_;intro _)|((with_reducible refine gE ?_);(try simp (disch:=omega) only [go_sem,e0,e1,e6,e8,e5,e7,em,hol',Za0,Zem,Zbc,hxy,ecomm,r1,r2,r3])<;>first|rfl|omega)|with_reducible refine Zaf (by decide) ?_|((with_reducible apply gy1);iterate 3 focus rfl)|((with_reducible apply gy2);iterate 3 focus rfl)|((with_reducible apply gy3);iterate 2 focus rfl)|((with_reducible apply gy4);iterate 1 focus rfl)|((with_reducible apply gy5);iterate 4 focus rfl)|((with_reducible apply gy5c);iterate 4 focus rfl)|((with_reducible apply gy6);iterate 4 focus rfl)|((with_reducible apply Zc0);iterate 3 focus rfl)|((with_reducible apply Zcz);iterate 1 focus rfl)|((with_reducible apply gy7);iterate 1 focus rfl)|((with_reducible apply gy9);(focus ((with_reducible refine gE ?_);(try simp (disch:=omega) only [go_sem,e0,e1,e6,e8,e5,e7,em,hol',Za0,Zem,Zbc,hxy,ecomm,r1,r2,r3])<;>rfl)))|((with_reducible apply gz1);(focus first|rfl|(simp (disch:=omega) only [go_sem,e0,e1,e6,e8,e5,e7,em,hol',Za0,Zem,Zbc,hxy,ecomm,r1,r2,r3];done)))|((with_reducible apply Za2 (Zcg [(14,.v (.int .i64 (gN b k:Nat)))]) [] []);(focus kernel_rfl);(focus rfl);(focus kernel_rfl);(focus (simp only [List.length_cons,List.length_nil,Nat.reduceAdd];rfl)))))
      exact⟨k+1,⟨by omega,⟨by exact gW e0,by exact gW e1,by exact gW e6,by exact gS,by exact gW e5⟩,_,_,⟨by exact gC,by exact gC⟩,by simpa using hol',hLo'.set _ w2,w1,hcz2,hzz,hs⟩,by omega⟩
    ·have hc0:c=0:=by omega
     subst hc0;rw [Zbl (l:=b) (by omega),Nat.mul_zero,Nat.add_zero] at hv';(focus (refine wkvd (w_8 e0 e1 e6 e8 e5 e7 em @Int.natCast_zero) w_t w_t ?_;(repeat' first|exact w_t|apply w_l);all_goals intros));refine⟨i+1,⟨by omega,⟨by exact gW e0,by exact gW e1,by exact gS⟩,sv,o',⟨by exact gW e5,by exact gW em⟩,hol',hLo',λj hj=>hz' j (by omega),?_⟩,by omega⟩;rw [hv',hv,Zay,Nat.add_mul];congr 1;simp only [Nat.mul_assoc,Nat.mul_comm,Nat.mul_left_comm]
   ·exact⟨by omega,⟨by exact gW e0,by exact gW e1,by exact gW e6,by exact gC,by exact gW e5⟩,_,0,⟨by exact gC,by exact gW em⟩,hol,hLo,by omega,λ_=>rfl,λj hj=>hz j (by omega),by simp [nv]⟩
  ·have hiA:i=a.length:=by omega
   subst hiA;rw [Zbl (Nat.le_refl _)] at hv
   (repeat' (first|(with_reducible first|refine stp ?_|apply gx1|apply gx2|apply gx3|apply gx4|apply gx5|apply gx6|apply gx7|apply gw1 (Zdy o (by omega) hLo))|(with_reducible refine Zbf ?_;intro _)|((with_reducible refine gE ?_);(try simp (disch:=omega) only [go_sem,e0,e1,e6,e5,em,hol])<;>first|rfl|omega)|with_reducible refine Zaf (by decide) ?_))
   simp (disch:=omega) only [go_sem,hv]
 ·exact⟨Nat.zero_le _,⟨by exact gC,by exact gC,by exact gC⟩,_,List.replicate (a.length+b.length+1) 0,⟨by exact gC,by exact gC⟩,by simp,Lm.zeros _,λj hj=>Zgs _ _,by simp [nv,Zlu]⟩
theorem refDigit (R B:Nat) (hR:(toL R).length≤300000000) (hB:(toL B).length≤200000000) (h0:0 < B) (hlt:R < B*65536):Pure Tryz.prog 181 [lim (toL R),lim (toL B)] (.v (.int .u64 ((R/B:Nat):Int))):=by
 refine Zaa (tok:=0) (rs:=[.tmp 4]) Tryz.func181 rfl Tryz.ntmps181 Tryz.results181 Tryz.call181 (by rfl) (by simp) ?_;(focus (refine wkvp w_t w_t ?_;(repeat' first|exact w_t|apply w_l);all_goals intros));refine Zag (ι:=Nat × Nat) (λp e m=>(e 0=lim (toL R)∧e 1=lim (toL B)∧e 5=.v (.int .u64 (p.1:Int))∧e 6=.v (.int .u64 (p.2:Int)))∧p.1≤p.2∧p.2≤65535∧B*p.1≤R∧R < B*(p.2+1)) (λp=>p.2 - p.1) (0,65535) (by rfl) ?_ ?_
 ·rintro ⟨lo,hi⟩ e m ⟨⟨e0,e1,e5,e6⟩,h1,h2,h3,h4⟩
  simp only at e5 e6 h1 h2 h3 h4;by_cases hlh:lo < hi
  ·obtain⟨mid,hmid⟩:∃mid,(lo+hi+1)/2=mid:=⟨_,rfl⟩;have r2:((lo+hi+1:Nat):Int).tdiv 2=((mid:Nat):Int):=by rw [←hmid];exact Zdz _ 2
   have co:=Zim mid (by omega);have lm:(toL mid).length≤4:=Zai.2 (by omega);have cm:=Zsn (toL B) (toL mid) (by omega) (by omega) (Zau _) (Zau _);rw [Zat,Zat] at cm
   have lbm:(toL (B*mid)).length≤1000000000:=by
    have h5:(toL (B*mid)).length≤(toL B).length+4:=by
     rw [Zai,Nat.pow_add];have h6:=Zai.1 (Nat.le_refl (toL B).length);exact Nat.mul_lt_mul'' h6 (by omega)
    omega
   have cc:=Zso (toL (B*mid)) (toL R) lbm (by omega) (Zau _) (Zau _);rw [Zat,Zat] at cc;by_cases hle:B*mid≤R
   ·have hc:cmpN (B*mid) R≤0:=by unfold cmpN;split;omega;split<;>omega
    (focus (refine wkvp (w_8 e0 e1 e5 e6 @Za0 @Zb1 r2 hc) (w_3 co cm cc) ?_;(repeat' first|exact w_t|apply w_l);all_goals intros));exact⟨(mid,hi),⟨⟨by exact gW e0,by exact gW e1,by exact gC,by exact gW e6⟩,by omega,h2,hle,h4⟩,by simp only;omega⟩
   ·have hc:0 < cmpN (B*mid) R:=by unfold cmpN;rw [if_neg (by omega),if_pos (by omega)];omega
    have em1:(mid:Int) - 1=((mid - 1:Nat):Int):=by omega
    (focus (refine wkvp (w_9 e0 e1 e5 e6 @Za0 @Zb1 r2 hc em1) (w_3 co cm cc) ?_;(repeat' first|exact w_t|apply w_l);all_goals intros));exact⟨(lo,mid - 1),⟨⟨by exact gW e0,by exact gW e1,by exact gW e5,by exact gC⟩,by simp only;omega,by simp only;omega,h3,by simp only;rw [show mid - 1+1=mid by omega];omega⟩,by simp only;omega⟩
  ·have hh:lo=hi:=by omega
   subst hh;have hd:R/B=lo:=Nat.div_eq_of_lt_le (by rw [Nat.mul_comm];exact h3) (by rw [Nat.mul_comm];exact h4);(focus (refine wkvp (w_4 e0 e1 e5 e6) w_t ?_;(repeat' first|exact w_t|apply w_l);all_goals intros));simp (disch:=omega) only [go_sem,hd]
 ·exact⟨⟨by exact gC,by exact gC,by exact gC,by exact gC⟩,by simp,by simp,by simp,by simpa using hlt⟩
theorem Zmr (x:Nat) (l:List Nat):AV.v (.int .u16 (x:Int)) :: u16s l=u16s (x :: l):=rfl
theorem Zm0 (a b:List Nat) (ha:a.length≤200000000) (hb:b.length≤200000000) (la:Lm a) (lb:Lm b) (h0:nv b≠0):Pure Tryz.prog 149 [lim a,lim b] (.tup [lim (toL (nv a/nv b)),lim (toL (nv a%nv b)),.v (.int .i64 0)]):=by
 have h1:=Zax la;have h2:=Zax lb;have va:=Zat (nv a);have vb:=Zat (nv b);have ma:=Zau (nv a);have mb:=Zau (nv b);have hb1:=(Zdw h0).1;have hbp:=Nat.pos_of_ne_zero h0;by_cases h4:(toL (nv a)).length≤4∧(toL (nv b)).length≤4
 ·obtain⟨h4a,h4b⟩:=h4;have ca:=Zp6 (toL (nv a)) h4a ma;have cb:=Zp6 (toL (nv b)) h4b mb;rw [va] at ca;rw [vb] at cb;have hA:=Zai.1 h4a;have hB:=Zai.1 h4b;have hq:=Nat.div_le_self (nv a) (nv b);have hr:=Nat.mod_le (nv a) (nv b);have cq:=Zim (nv a/nv b) (by omega);have cr:=Zim (nv a%nv b) (by omega);have wq:IntKind.u64.wrap ((nv a/nv b:Nat):Int)=((nv a/nv b:Nat):Int):=Zfj (Int.natCast_nonneg _) (by
   have:((nv a/nv b:Nat):Int)≤(nv a:Int):=Int.ofNat_le.2 hq;omega)
  have hn:((nv b:Nat):Int)≠0:=by omega
  refine Zaa (tok:=0) (rs:=[.tmp 4,.tmp 5,.tmp 6]) Tryz.func149 rfl Tryz.ntmps149 Tryz.results149 Tryz.call149 (by rfl) (by simp) ?_;(focus (refine wkvd (w_4 @Zdz @Zek wq hn) (w_6 (Zdy a (by omega) la) (Zdy b (by omega) lb) ca cb cq cr) w_t ?_;(repeat' first|exact w_t|apply w_l);all_goals intros));simp (disch:=omega) only [go_sem]
 ·have h4':((toL (nv a)).length≤4)→4 < (toL (nv b)).length:=λh=>by
   rcases Nat.lt_or_ge 4 (toL (nv b)).length with h3 | h3
   ·exact h3
   ·exact absurd ⟨h,h3⟩ h4
  obtain⟨A,hA⟩:∃A,toL (nv a)=A:=⟨_,rfl⟩;rw [hA] at va ma h1 h4';refine Zaa (tok:=0) (rs:=[.tmp 4,.tmp 5,.tmp 6]) Tryz.func149 rfl Tryz.ntmps149 Tryz.results149 Tryz.call149 (by rfl) (by simp) ?_;rcases Nat.lt_or_ge 4 A.length with h5 | h5
  rotate_left
  have h6:=h4' h5;all_goals
   (focus (refine wkvp (w_1 hA) (w_2 (Zdy a (by omega) la) (Zdy b (by omega) lb)) ?_;(repeat' first|exact w_t|apply w_l);all_goals intros));rw [hA];refine Ze5 (Frz.trans (Frz.nil (d:=7) 1 (by exact gC)) (Frz.nil (d:=8) 1 (by exact gC))) ?_;refine r_loopF (ι:=Nat) (λk e m=>k≤A.length∧(e 0=lim A∧e 1=lim (toL (nv b))∧e 9=.v (.int .i64 ((k:Int) - 1)))∧∃ql R,(e 7=lim ql∧e 8=lim (toL R))∧ql.length=A.length - k∧Lm ql∧R < nv b∧nv (A.drop k)=nv ql*nv b+R) (λk=>k) A.length (by rfl) ?_ ?_
   ·rintro k e m ⟨hk,⟨e0,e1,e9⟩,ql,R,⟨e7,e8⟩,hql,hqL,hR,hv⟩
    by_cases hk0:k=0
    ·subst hk0;rw [List.drop_zero,va] at hv;have hq:nv ql=nv a/nv b:=by rw [hv,Nat.mul_comm,Nat.mul_add_div hbp,Nat.div_eq_of_lt hR,Nat.add_zero]
     have hr:R=nv a%nv b:=by rw [hv,Nat.mul_comm,Nat.mul_add_mod,Nat.mod_eq_of_lt hR]
     have cn:=Zdy ql (by omega) hqL;rw [hq] at cn;rw [hr] at e8;(focus (refine wkvp (w_5 e0 e1 e9 e7 e8) (w_1 cn) ?_;(repeat' first|exact w_t|apply w_l);all_goals intros));simp (disch:=omega) only [go_sem]
    ·obtain⟨j,rfl⟩:∃j,k=j+1:=⟨k - 1,by omega⟩;have ej:((j+1:Nat):Int) - 1=(j:Int):=by omega
     rw [ej] at e9;have gx:=Zbz ma j;have hRl:(toL R).length≤(toL (nv b)).length:=Za9 (by omega);have cn:=Zdy (gN A j :: toL R) (by simp;omega) (λy hy=>by
      rcases List.mem_cons.1 hy with rfl | hy
      ·exact gx
      ·exact Zau R y hy)
     have en:nv (gN A j :: toL R)=gN A j+65536*R:=by rw [nv,Zat]
     rw [en] at cn;have hX:gN A j+65536*R < nv b*65536:=by omega
     obtain⟨X,hXd⟩:∃X,gN A j+65536*R=X:=⟨_,rfl⟩;rw [hXd] at cn hX
     have hXl:(toL X).length≤(toL (nv b)).length+1:=by
      rw [Zai,Nat.pow_succ];exact Nat.lt_of_lt_of_le hX (Nat.mul_le_mul_right _ (Nat.le_of_lt (Zai.1 (Nat.le_refl (toL (nv b)).length))))
     have cd:=refDigit X (nv b) (by omega) (by omega) hbp hX;have hd:X/nv b < 65536:=by rw [Nat.div_lt_iff_lt_mul hbp,Nat.mul_comm];exact hX
     have hdm:=Nat.div_add_mod X (nv b);have hml:=Nat.mod_lt X hbp;have co:=Zim (X/nv b) (by omega);have ld:(toL (X/nv b)).length≤1:=Zai.2 (by omega);have cm:=Zsn (toL (nv b)) (toL (X/nv b)) (by omega) (by omega) (Zau _) (Zau _);rw [Zat,Zat] at cm;have hle:nv b*(X/nv b)≤X:=by omega
     have cs:=refSub (toL X) (toL (nv b*(X/nv b))) (by omega) (Nat.le_trans (Za9 hle) (by omega)) (Zau _) (Zau _);rw [Zat,Zat,if_neg (by omega),if_neg (by omega),show X - nv b*(X/nv b)=X%nv b by omega] at cs;have hcut:X/nv b%65536=X/nv b:=Nat.mod_eq_of_lt hd
     (repeat' (first|(with_reducible first|refine stp ?_|apply gx1|apply gx2|apply gx3|apply gx4|apply gx5|apply gx6|apply gx7|apply gw1 (cn)|refine gw0 (cd) ?_ ?_|refine gw0 (co) ?_ ?_|refine gw0 (cm) ?_ ?_|refine gw0 (cs) ?_ ?_)|(with_reducible refine Zbf ?_;intro _)|((with_reducible refine gE ?_);(try simp (disch:=omega) only [go_sem,e0,e1,e9,e7,e8,Zmr,Zbc,hcut])<;>first|rfl|omega)|with_reducible refine Zaf (by decide) ?_))
     refine⟨j,_,Frz.own (d:=7) (by exact gC) (by exact gC),⟨by omega,⟨by exact gW e0,by exact gW e1,by exact gC⟩,X/nv b :: ql,X%nv b,⟨by(simp (disch:=omega) only [go_sem,Zmr]<;>repeat' first|rfl|refine⟨?_,?_⟩),by exact gC⟩,by simp [hql];omega,?_,hml,?_⟩,by omega⟩
     ·intro y hy;rcases List.mem_cons.1 hy with rfl | hy
      ·exact hd
      ·exact hqL y hy
     ·rw [Zb5,hv,nv,Nat.add_mul,Nat.mul_add 65536,←hXd];rw [←hXd] at hdm;rw [Nat.mul_comm] at hdm;have:65536*(nv ql*nv b)=65536*nv ql*nv b:=by rw [Nat.mul_assoc]
      omega
   ·exact⟨Nat.le_refl _,⟨by exact gC,by exact gC,by exact gC⟩,[],0,⟨by(simp (disch:=omega) only [go_sem,Zpt]<;>repeat' first|rfl|refine⟨?_,?_⟩),by(simp (disch:=omega) only [go_sem,Za3,Zpt]<;>repeat' first|rfl|refine⟨?_,?_⟩)⟩,by simp,Lm.nil,hbp,by rw [List.drop_eq_nil_of_le (Nat.le_refl _)];simp [nv]⟩
theorem refGcd (a b:List Nat) (ha:a.length≤200000000) (hb:b.length≤200000000) (la:Lm a) (lb:Lm b):Pure Tryz.prog 139 [lim a,lim b] (lim (toL (Nat.gcd (nv a) (nv b)))):=by
 have h1:=Zax la;have h2:=Zax lb
 have cd:∀x y:Nat,(toL x).length≤200000000→(toL y).length≤200000000→y≠0→Pure Tryz.prog 149 [lim (toL x),lim (toL y)] (.tup [lim (toL (x/y)),lim (toL (x%y)),.v (.int .i64 0)]):=by
  intro x y hx hy h0;have:=Zm0 (toL x) (toL y) hx hy (Zau x) (Zau y) (by rw [Zat];exact h0)
  rwa [Zat,Zat] at this
 refine Zaa (tok:=0) (rs:=[.tmp 4]) Tryz.func139 rfl Tryz.ntmps139 Tryz.results139 Tryz.call139 (by rfl) (by simp) ?_;(focus (refine wkvp w_t (w_2 (Zdy a (by omega) la) (Zdy b (by omega) lb)) ?_;(repeat' first|exact w_t|apply w_l);all_goals intros));refine Zag (ι:=Nat) (λy e m=>∃x,(e 0=lim (toL x)∧e 1=lim (toL y))∧(toL x).length≤200000000∧(toL y).length≤200000000∧Nat.gcd x y=Nat.gcd (nv a) (nv b)) (λy=>y) (nv b) (by rfl) ?_ ?_
 ·rintro y e m ⟨x,⟨e0,e1⟩,hx,hy,hg⟩
  rcases Nat.eq_zero_or_pos y with h0 | h0
  ·subst h0;have hl:=Zbp.2 (rfl:(0:Nat)=0);rw [Nat.gcd_zero_right] at hg;(focus (refine wkvp (w_3 e0 e1 hl) w_t ?_;(repeat' first|exact w_t|apply w_l);all_goals intros));simp (disch:=omega) only [go_sem,hg]
  ·have hl:0 < (toL y).length:=by
    have:=(Zdw (show y≠0 by omega)).1;omega
   have hm:=Nat.mod_lt x h0;have hml:(toL (x%y)).length≤200000000:=Nat.le_trans (Za9 (Nat.le_of_lt hm)) hy;have hgg:Nat.gcd y (x%y)=Nat.gcd (nv a) (nv b):=by rw [←hg,Nat.gcd_comm x y,Nat.gcd_rec y x,Nat.gcd_comm]
   (focus (refine wkvp (w_2 e0 e1) (w_1 (cd x y hx hy (by omega))) ?_;(repeat' first|exact w_t|apply w_l);all_goals intros));exact⟨x%y,⟨y,⟨by exact gW e1,by exact gC⟩,hy,hml,hgg⟩,hm⟩
 ·exact⟨nv a,⟨by exact gC,by exact gC⟩,by omega,by omega,rfl⟩
theorem nAdd (n m:Nat) (hn:(toL n).length≤100000000) (hm:(toL m).length≤100000000):Pure Tryz.prog 188 [lim (toL n),lim (toL m)] (lim (toL (n+m))):=by
 have:=natAdd (toL n) (toL m) (by omega) (by omega) (Zau _) (Zau _)
 rwa [Zat,Zat] at this
theorem nMul (n m:Nat) (hn:(toL n).length≤100000000) (hm:(toL m).length≤100000000):Pure Tryz.prog 128 [lim (toL n),lim (toL m)] (lim (toL (n*m))):=by
 have:=natMul (toL n) (toL m) (by omega) (by omega) (Zau _) (Zau _)
 rwa [Zat,Zat] at this
theorem nCmp (n m:Nat) (hn:(toL n).length≤100000000) (hm:(toL m).length≤100000000):Pure Tryz.prog 173 [lim (toL n),lim (toL m)] (.v (.int .i64 (cmpN n m))):=by
 have:=Zqh (toL n) (toL m) (by omega) (by omega) (Zau _) (Zau _)
 rwa [Zat,Zat] at this
theorem nSub (n m:Nat) (hn:(toL n).length≤100000000) (hm:(toL m).length≤100000000):Pure Tryz.prog 189 [lim (toL n),lim (toL m)] (.tup [lim (if n < m then [] else toL (n - m)),.v (.int .i64 (if n < m then 2 else 0))]):=by
 have:=natSub (toL n) (toL m) (by omega) (by omega) (Zau _) (Zau _)
 rwa [Zat,Zat] at this
theorem Zs9 (n m:Nat) (hn:(toL n).length≤100000000) (hm:(toL m).length≤100000000) (h0:m≠0):Pure Tryz.prog 144 [lim (toL n),lim (toL m)] (.tup [lim (toL (n/m)),lim (toL (n%m)),.v (.int .i64 0)]):=by
 have:=Znh (toL n) (toL m) (by omega) (by omega) (Zau _) (Zau _) (by rw [Zat];exact h0)
 rwa [Zat,Zat] at this
theorem nGcd (n m:Nat) (hn:(toL n).length≤100000000) (hm:(toL m).length≤100000000):Pure Tryz.prog 87 [lim (toL n),lim (toL m)] (lim (toL (Nat.gcd n m))):=by
 have:=natGcd (toL n) (toL m) (by omega) (by omega) (Zau _) (Zau _)
 rwa [Zat,Zat] at this
theorem Zo7 (n:Nat) (hn:(toL n).length≤100000000):Pure Tryz.prog 141 [lim (toL n)] (lim (toL n)):=by
 have:=Zlw (toL n) (by omega) (Zau _)
 rwa [Zat] at this
theorem Zta (n:Nat) (hn:(toL n).length≤100000000):Pure Tryz.prog 145 [lim (toL n)] (.v (.int .i64 (Zml n:Nat))):=by
 have:=natBits (toL n) (by omega) (Zau _)
 rwa [Zat] at this
theorem rAdd (n m:Nat) (hn:(toL n).length≤100000000) (hm:(toL m).length≤100000000):Pure Tryz.prog 152 [lim (toL n),lim (toL m)] (lim (toL (n+m))):=by
 have:=refAdd (toL n) (toL m) (by omega) (by omega) (Zau _) (Zau _)
 rwa [Zat,Zat] at this
theorem rMul (n m:Nat) (hn:(toL n).length≤100000000) (hm:(toL m).length≤100000000):Pure Tryz.prog 113 [lim (toL n),lim (toL m)] (lim (toL (n*m))):=by
 have:=Zsn (toL n) (toL m) (by omega) (by omega) (Zau _) (Zau _)
 rwa [Zat,Zat] at this
theorem rCmp (n m:Nat) (hn:(toL n).length≤100000000) (hm:(toL m).length≤100000000):Pure Tryz.prog 172 [lim (toL n),lim (toL m)] (.v (.int .i64 (cmpN n m))):=by
 have:=Zso (toL n) (toL m) (by omega) (by omega) (Zau _) (Zau _)
 rwa [Zat,Zat] at this
theorem rSub (n m:Nat) (hn:(toL n).length≤100000000) (hm:(toL m).length≤100000000):Pure Tryz.prog 165 [lim (toL n),lim (toL m)] (.tup [lim (if n < m then [] else toL (n - m)),.v (.int .i64 (if n < m then 2 else 0))]):=by
 have:=refSub (toL n) (toL m) (by omega) (by omega) (Zau _) (Zau _)
 rwa [Zat,Zat] at this
theorem Zss (n m:Nat) (hn:(toL n).length≤100000000) (hm:(toL m).length≤100000000) (h0:m≠0):Pure Tryz.prog 149 [lim (toL n),lim (toL m)] (.tup [lim (toL (n/m)),lim (toL (n%m)),.v (.int .i64 0)]):=by
 have:=Zm0 (toL n) (toL m) (by omega) (by omega) (Zau _) (Zau _) (by rw [Zat];exact h0)
 rwa [Zat,Zat] at this
theorem rGcd (n m:Nat) (hn:(toL n).length≤100000000) (hm:(toL m).length≤100000000):Pure Tryz.prog 139 [lim (toL n),lim (toL m)] (lim (toL (Nat.gcd n m))):=by
 have:=refGcd (toL n) (toL m) (by omega) (by omega) (Zau _) (Zau _)
 rwa [Zat,Zat] at this
theorem rNorm (n:Nat) (hn:(toL n).length≤100000000):Pure Tryz.prog 148 [lim (toL n)] (lim (toL n)):=by
 have:=Zdy (toL n) (by omega) (Zau _)
 rwa [Zat] at this
theorem szB:szOf Tryz.prog 4=some 1:=by kernel_rfl
theorem zB:Zb4 Tryz.prog 4=some (.bool false):=by kernel_rfl
theorem Zce:szOf Tryz.prog 40=some 1:=by kernel_rfl
theorem zNat:Zb4 Tryz.prog 40=some (.slice none 0 0):=by kernel_rfl
theorem Zcf:szOf Tryz.prog 42=some 2:=by kernel_rfl
theorem zInt:Zb4 Tryz.prog 42=some (.agg #[.bool false,.slice none 0 0]):=by kernel_rfl
theorem Zcd:szOf Tryz.prog 44=some 3:=by kernel_rfl
theorem zRat:Zb4 Tryz.prog 44=some (.agg #[.bool false,.slice none 0 0,.slice none 0 0]):=by kernel_rfl
abbrev intA (s:Bool) (n:Nat):AV:=.agg [.v (.bool s),lim (toL n)]
def zI (s:Bool) (n:Nat):Int:=if s then -(n:Int) else n
abbrev intZ (z:Int):AV:=intA (decide (z < 0)) z.natAbs
theorem Zch (z:Int):zI (decide (z < 0)) z.natAbs=z:=by
 unfold zI;by_cases h:z < 0
 ·rw [if_pos (by simpa using h)];omega
 ·rw [if_neg (by simpa using h)];omega
theorem Zdq (s:Bool) (n:Nat):(zI s n).natAbs=n:=by cases s<;>simp [zI]
theorem zI_lt (s:Bool) (n:Nat):decide (zI s n < 0)=(s && decide (0 < n)):=by
 cases s
 ·simp [zI]
 ·simp only [zI,if_true,Bool.true_and];by_cases h:0 < n
  ·rw [decide_eq_true (by omega),decide_eq_true h]
  ·rw [decide_eq_false (by omega),decide_eq_false h]
theorem Zh7 (s:Bool) (n:Nat):intZ (zI s n)=.agg [.v (.bool (s && decide (0 < n))),lim (toL n)]:=by
 unfold intZ intA;rw [zI_lt,Zdq]
theorem Zbo {n:Nat}:(0 < (toL n).length)↔0 < n:=by
 have:=@Zbp n;omega
end Go.Proofs.YtimmnimikmnljaaGreat
