/- Contracts of the functions that the law reaches, and the rules by which they are walked. They say what a call hands back for every input within the bounds that each names; no other condition. -/
import Derived.Test.YtjgdomdhjphgbaaGreatDoorBw5
set_option linter.unusedSimpArgs false
set_option linter.unusedVariables false
set_option maxRecDepth 20000
set_option maxHeartbeats 16000000
namespace Go.Proofs.YtjgdomdhjphgbaaGreatDoor
open Go Go.RowKit Go.Pg Go.Pol
attribute [-bool_to_prop] Bool.and_eq_decide Bool.or_eq_decide Bool.decide_beq_decide decide_eq_decide
attribute [local go_sem] Tryz.underlying3 Tryz.underlying4 Tryz.underlying160 Tryz.underlying9 Tryz.underlying39 Tryz.underlying34 Tryz.underlying53 Tryz.underlying51 Tryz.underlying49 Tryz.underlying65 Tryz.underlying22 Tryz.underlying25 Tryz.underlying87 Tryz.underlying23 sz3 by3 z3 szB zB Zcf zErr Zbq Zct zStr szL byL zL Zax zRat Za3 zInt Za2 zNat Zca Zcb Zdq Zdv zFig Zdu zSlI Zdt zSlS Zcl Zco Zd7 Zd8 zSlF
theorem wts_at {ss:List RS} {i a:Nat} (h:a < i):((wts ss i).map iv).getD a .u=iv (gI (wts ss i) a):=by
 rw [Zap iv (by rw [Zjy];exact h),Zex (by rw [Zjy];exact h)]
theorem wts_succ {ss:List RS} {i:Nat} (hi:i < ss.length):(wts ss (i+1)).map iv=(wts ss i).map iv++[iv (wOf (wts ss i) ss[i])]:=by
 show(wts ss i++[_]).map iv=_;rw [List.map_append,show ss.getD i RS.zero=ss[i] from by rw [List.getD_eq_getElem?_getD,List.getElem?_eq_getElem hi];rfl];rfl
theorem Zvj (ss:List RS) (gs:List RG) (hl:ss.length≤8) (he:∀i,i < ss.length→errS ss i=0):Pure Tryz.prog 88 [figA ss gs] (ivs (wts ss ss.length)):=by
 have hg:∀i (h:i < ss.length),(ss.map RS.av).getD i .u=ss[i].av:=λi h=>Zap RS.av h;have hls:(ss.map RS.av).length=ss.length:=List.length_map ..;have hok:∀i (h:i < ss.length),(ss[i].ar.length:Int)=arS ss[i].k∧∀k,k < ss[i].ar.length→0≤gI ss[i].ar k∧gI ss[i].ar k < (i:Int):=λi h=>⟨(Zku h (he i h)).2.1,(Zku h (he i h)).2.2.1⟩;have hws:∀i (h:i < ss.length),(wts ss (i+1)).map iv=(wts ss i).map iv++[iv (wOf (wts ss i) ss[i])]:=λi h=>wts_succ h;have hwl:∀i,((wts ss i).map iv).length=i:=λi=>by rw [List.length_map,Zjy]
 have hbd:∀i n,i≤8→0≤gI (wts ss i) n∧gI (wts ss i) n≤6561:=λi n h=>by
  have:=Zlc ss i n;have h3:(3 ^ i:Nat)≤3 ^ 8:=Nat.pow_le_pow_right (by omega) h;omega
 show Pure _ _ [.agg [.sl 6 (ss.map RS.av),.sl 5 (gs.map RG.av)]] (.sl 1 ((wts ss ss.length).map iv));generalize ss.map RS.av=M at *;generalize gs.map RG.av=N at *;refine Zaa (tok:=0) Tryz.func88 rfl Tryz.ntmps88 Tryz.results88 Tryz.call88 (by rfl) (by simp) ?_;(focus (refine wkad (w_1 hls) w_t w_t ?_;(repeat' first|exact w_t|apply w_l);all_goals intros));rename_i g1;refine Zeu (Frz.nilOwn (d:=3) 83 1 3 (by exact gC)) ?_;refine Zac (ι:=Nat) (λi e m=>i≤ss.length∧e 1=.pbox 1 g1 0∧m 1=some (.box g1 25 [.sl 6 M,.sl 5 N] false)∧e 4=iv i∧∃sv,e 3=.own 83 sv∧m 83=some (.row sv 3 1 ((wts ss i).map iv) 0)) (λi=>ss.length - i) 0 (by rfl) ?_ ?_
 ·rintro i e m ⟨hi,e1,m1,e4,sv,e3,m83⟩
  by_cases hlt:i < ss.length
  ·have hgi:=hg i hlt;obtain⟨ha,hr⟩:=hok i hlt;have hwi:=hwl i;have hn:=hws i hlt;have hx:=λa (h:a < i)=>wts_at (ss:=ss) h;have hb:=λn=>hbd i n (by omega);clear hg hok hws hwl hbd;generalize wts ss i=w at *;generalize ss[i]=s at *;obtain⟨k,nm,ar,⟨rs,rl,rd⟩⟩:=s;unfold wOf at hn;unfold arS at ha;simp only at *;generalize w.map iv=W at *;by_cases k2:k=2
   ·subst k2;obtain⟨a,b,rfl,h1,h2⟩:=ar2 (by simpa using ha) hr;have b1:=hb a;have b2:=hb b;have x1:=hx a h1;have x2:=hx b h2;simp only [if_pos,gI,List.getD_cons_zero,List.getD_cons_succ,Int.toNat_natCast] at hn x1 x2 b1 b2;generalize w.getD a 0=x at *;generalize w.getD b 0=y at *;clear hb hx hr ha;(focus (refine wkad (w_10 e1 m1 e4 e3 m83 hls hgi hwi x1 x2) w_t w_t ?_;(repeat' first|exact w_t|apply w_l);all_goals intros));exact⟨i+1,⟨by omega,by exact gW e1,by exact gW m1,by exact gS,_,by exact gC,by rw [hn];exact gC⟩,by omega⟩
   ·by_cases k34:k=3∨k=4
    ·obtain⟨a,b,c,rfl,h1,h2,h3⟩:=ar3 (by rcases k34 with rfl | rfl<;>simpa using ha) hr;have b1:=hb a;have b2:=hb b;have b3:=hb c;have x1:=hx a h1;have x2:=hx b h2;have x3:=hx c h3;rw [if_neg k2,if_pos k34] at hn;simp only [gI,List.getD_cons_zero,List.getD_cons_succ,Int.toNat_natCast] at hn x1 x2 x3 b1 b2 b3;generalize w.getD a 0=x at *;generalize w.getD b 0=y at *;generalize w.getD c 0=z at *;clear hb hx hr ha k2;rcases k34 with rfl | rfl
     all_goals
      (focus (refine wkad (w_11 e1 m1 e4 e3 m83 hls hgi hwi x1 x2 x3) w_t w_t ?_;(repeat' first|exact w_t|apply w_l);all_goals intros));exact⟨i+1,⟨by omega,by exact gW e1,by exact gW m1,by exact gS,_,by exact gC,by rw [hn];exact gC⟩,by omega⟩
    ·rw [if_neg k2,if_neg k34] at hn;by_cases k5:k=5
     ·subst k5;obtain⟨a,b,rfl,h1,h2⟩:=ar2 (by simpa using ha) hr;have b1:=hb a;have b2:=hb b;have x1:=hx a h1;have x2:=hx b h2;simp only [if_pos,gI,List.getD_cons_zero,List.getD_cons_succ,Int.toNat_natCast] at hn x1 x2 b1 b2;generalize w.getD a 0=x at *;generalize w.getD b 0=y at *;clear hb hx hr ha k2 k34;(focus (refine wkad (w_10 e1 m1 e4 e3 m83 hls hgi hwi x1 x2) w_t w_t ?_;(repeat' first|exact w_t|apply w_l);all_goals intros));exact⟨i+1,⟨by omega,by exact gW e1,by exact gW m1,by exact gS,_,by exact gC,by rw [hn];exact gC⟩,by omega⟩
     ·have k3:¬k=3:=λh=>k34 (.inl h);have k4:¬k=4:=λh=>k34 (.inr h);rw [if_neg k5] at hn;clear hb hx hr ha k34;(focus (refine wkad (w_8 e1 m1 e4 e3 m83 hls hgi hwi) w_t w_t ?_;(repeat' first|exact w_t|apply w_l);all_goals intros));exact⟨i+1,⟨by omega,by exact gW e1,by exact gW m1,by exact gS,_,by exact gC,by rw [hn];exact gC⟩,by omega⟩
  ·have hin:i=ss.length:=by omega
   subst hin;clear hws hg hok hbd;have hwi:=hwl ss.length;generalize (wts ss ss.length).map iv=W at *;(focus (refine wkld (w_7 e1 m1 e4 e3 m83 hls hwi) w_t (w_1 m83) w_t ?_;(repeat' first|exact w_t|apply w_l);all_goals intros))
 ·exact⟨Nat.zero_le _,by exact gC,by exact gC,by exact gC,_,by exact gC,by(simp (disch:=omega) only [go_sem,wts,List.map_nil]<;>repeat' first|rfl|refine⟨?_,?_⟩)⟩
def Zjf (w:List Int) (g:RG):Bool:=!(decide (g.k=6) || decide (g.k=7)) || g.ar.all λa=>decide (gI w a.toNat≤3)
theorem Zij {α:Type} {p:α→Bool} {l:List α} (h:∀j (hj:j < l.length),p l[j]=true):l.all p=true:=all_of h
theorem rlThin (ss:List RS) (gs:List RG) (hl:ss.length≤8) (hlg:gs.length≤1000) (he:∀i,i < ss.length→errS ss i=0) (heg:∀g∈gs,g.ar.length≤100∧∀k,k < g.ar.length→0≤gI g.ar k∧gI g.ar k < (ss.length:Int)):Pure Tryz.prog 38 [figA ss gs] (.v (.bool (Zuw ss gs))):=by
 have cw:Pure Tryz.prog 88 [.agg [.sl 6 (ss.map RS.av),.sl 5 (gs.map RG.av)]] (.sl 1 ((wts ss ss.length).map iv)):=Zvj ss gs hl he;have hlen:=Zjy ss ss.length;have hbd:∀n,0≤gI (wts ss ss.length) n∧gI (wts ss ss.length) n≤6561:=λn=>by
  have:=Zlc ss ss.length n;have h3:(3 ^ ss.length:Nat)≤3 ^ 8:=Nat.pow_le_pow_right (by omega) hl;omega
 have hg:∀i (h:i < gs.length),(gs.map RG.av).getD i .u=gs[i].av:=λi h=>Zap RG.av h;have hlm:(gs.map RG.av).length=gs.length:=List.length_map ..;show Pure _ _ [.agg [.sl 6 (ss.map RS.av),.sl 5 (gs.map RG.av)]] _;have hT:Zuw ss gs=((wts ss ss.length).all (λw=>decide (w≤8)) && gs.all (Zjf (wts ss ss.length))):=rfl;rw [hT];have hx:∀a,a < ss.length→((wts ss ss.length).map iv).getD a .u=iv (gI (wts ss ss.length) a):=λa h=>wts_at h;clear hT;generalize ss.map RS.av=M at *;generalize gs.map RG.av=N at *;generalize wts ss ss.length=w at *;generalize ss.length=n at *;have hwl:(w.map iv).length=n:=by rw [List.length_map,hlen]
 generalize hW:w.map iv=W at *;refine Zaa (tok:=0) Tryz.func38 rfl Tryz.ntmps38 Tryz.results38 Tryz.call38 (by rfl) (by simp) ?_;(focus (refine wkap w_t (w_1 cw) (w_r 0) ?_;(repeat' first|exact w_t|apply w_l);all_goals intros));rename_i g1;refine Zac (ι:=Nat) (λi e m=>i≤n∧e 1=.pbox 1 g1 0∧m 1=some (.box g1 25 [.sl 6 M,.sl 5 N] false)∧e 3=.sl 1 W∧e 4=iv i∧∀j,j < i→gI w j≤8) (λi=>n - i) 0 (by rfl) ?_ ?_
 ·rintro i e m ⟨hi,e1,m1,e3,e4,hj⟩
  by_cases hlt:i < n
  ·have x1:=hx i hlt;have b1:=hbd i;have hgw:gI w i=w[i]'(by omega):=Zex (by omega);by_cases h8:8 < gI w i
   ·have:(w.all λw=>decide (w≤8))=false:=Zpo (i:=i) (by omega) (by rw [←hgw];simpa using h8);rw [this,Bool.false_and];generalize gI w i=x at *;(focus (refine wklp (w_6 e1 m1 e3 e4 hwl x1) w_t w_t (w_r 0) ?_;(repeat' first|exact w_t|apply w_l);all_goals intros))
   ·have hnx:∀j,j < i+1→gI w j≤8:=λj hjj=>by
     by_cases e:j=i
     ·rw [e];omega
     ·exact hj j (by omega)
    clear hj hgw;generalize gI w i=x at *;(focus (refine wkap (w_6 e1 m1 e3 e4 hwl x1) w_t (w_r 0) ?_;(repeat' first|exact w_t|apply w_l);all_goals intros));exact⟨i+1,⟨by omega,by exact gW e1,by exact gW m1,by exact gW e3,by exact gS,hnx⟩,by omega⟩
  ·have hin:n=i:=by omega
   subst hin;have:(w.all λw=>decide (w≤8))=true:=Zij λj hjj=>by have:=hj j (by omega);rw [Zex hjj] at this;simpa using this
   rw [this,Bool.true_and];clear hj;(focus (refine wkap (w_5 e1 m1 e3 e4 hwl) w_t (w_r 0) ?_;(repeat' first|exact w_t|apply w_l);all_goals intros));refine Zac (ι:=Nat) (λi e m=>i≤gs.length∧e 1=.pbox 1 g1 0∧m 1=some (.box g1 25 [.sl 6 M,.sl 5 N] false)∧e 3=.sl 1 W∧e 5=iv i∧∀j (hj:j < gs.length),j < i→Zjf w gs[j]=true) (λi=>gs.length - i) 0 (by rfl) ?_ ?_
   ·rintro i e m ⟨hi,e1,m1,e3,e5,hj⟩
    by_cases hlt:i < gs.length
    ·have hgi:=hg i hlt;obtain⟨ha,hr⟩:=heg _ (List.getElem_mem hlt);have hno:Zjf w gs[i]=false→gs.all (Zjf w)=false:=λh=>Zpo hlt h;have hnx:Zjf w gs[i]=true→∀j (hj:j < gs.length),j < i+1→Zjf w gs[j]=true:=λh j hjj h2=>by
      by_cases e:j=i
      ·subst e;exact h
      ·exact hj j hjj (by omega)
     clear hj hg heg;generalize gs.all (Zjf w)=v at *;generalize gs[i]=g at *;obtain⟨k,ar,⟨rs,rl,rd⟩⟩:=g;simp only at *;have hla:(ar.map iv).length=ar.length:=List.length_map ..;have hga:∀j (h:j < ar.length),(ar.map iv).getD j .u=iv ar[j]:=λj h=>Zap iv h;(focus (refine wkap (w_6 e1 m1 e3 e5 hlm hgi) w_t (w_r 0) ?_;(repeat' first|exact w_t|apply w_l);all_goals intros));rename_i g6;refine Zac (ι:=Nat) (λy e m=>y≤ar.length∧e 1=.pbox 1 g1 0∧m 1=some (.box g1 25 [.sl 6 M,.sl 5 N] false)∧e 3=.sl 1 W∧e 5=iv i∧e 6=.pbox 6 g6 0∧m 6=some (.box g6 87 [iv k,ivs ar,.v (.bool rs),lim rl,lim rd] false)∧e 7=iv y∧((k=6∨k=7)→∀j (hj:j < ar.length),j < y→gI w ar[j].toNat≤3)) (λy=>ar.length - y) 0 (by rfl) ?_ ?_
     ·rintro y e m ⟨hy,e1,m1,e3,e5,e6,m6,e7,hq⟩
      by_cases hly:y < ar.length
      ·have hgy:=hga y hly;have hry:=hr y hly;rw [Zex hly] at hry;obtain⟨a,hae⟩:∃a:Nat,ar[y]=a:=⟨ar[y].toNat,by omega⟩;have han:a < n:=by omega
       have hxa:=hx a han;have hba:=hbd a;rw [hae] at hgy;by_cases hk:k=6∨k=7
       ·by_cases h3:3 < gI w a
        ·have:Zjf w ⟨k,ar,⟨rs,rl,rd⟩⟩=false:=by
          unfold Zjf;have h1:(decide (k=6) || decide (k=7))=true:=by simpa using hk
          have h2:(ar.all λa=>decide (gI w a.toNat≤3))=false:=Zpo hly (by rw [hae,Int.toNat_natCast];simpa using h3);simp only [h1,h2];rfl
         rw [hno this];clear hq hno hnx hga hr hx hbd this;generalize gI w a=x at *;rcases hk with rfl | rfl
         all_goals
          (focus (refine wklp (w_11 e1 m1 e3 e5 e6 m6 e7 hla hgy hwl hxa) w_t w_t (w_r 0) ?_;(repeat' first|exact w_t|apply w_l);all_goals intros))
        ·have hq2:∀j (hj:j < ar.length),j < y+1→gI w ar[j].toNat≤3:=λj hjj h2=>by
          by_cases e:j=y
          ·subst e;rw [hae,Int.toNat_natCast];omega
          ·exact hq hk j hjj (by omega)
         clear hq hno hnx hga hr hx hbd;generalize gI w a=x at *;rcases hk with rfl | rfl
         all_goals
          (focus (refine wkap (w_11 e1 m1 e3 e5 e6 m6 e7 hla hgy hwl hxa) w_t (w_r 0) ?_;(repeat' first|exact w_t|apply w_l);all_goals intros));exact⟨y+1,⟨by omega,by exact gW e1,by exact gW m1,by exact gW e3,by exact gW e5,by exact gW e6,by exact gW m6,by exact gS,λ_=>hq2⟩,by omega⟩
       ·have k6:¬k=6:=λh=>hk (.inl h);have k7:¬k=7:=λh=>hk (.inr h);clear hq hno hnx hga hr hx hbd;(focus (refine wkap (w_8 e1 m1 e3 e5 e6 m6 e7 hla) w_t (w_r 0) ?_;(repeat' first|exact w_t|apply w_l);all_goals intros));exact⟨y+1,⟨by omega,by exact gW e1,by exact gW m1,by exact gW e3,by exact gW e5,by exact gW e6,by exact gW m6,by exact gS,λh=>absurd h hk⟩,by omega⟩
      ·have:Zjf w ⟨k,ar,⟨rs,rl,rd⟩⟩=true:=by
        unfold Zjf;by_cases hk:k=6∨k=7
        ·have h2:(ar.all λa=>decide (gI w a.toNat≤3))=true:=Zij λj hjj=>by have:=hq hk j hjj (by omega);simpa using this
         simp only [h2,Bool.or_true]
        ·have h1:(decide (k=6) || decide (k=7))=false:=by simpa using hk
         simp only [h1];rfl
       have:=hnx this;clear hq hno hnx hga hr hx hbd;(focus (refine wkap (w_8 e1 m1 e3 e5 e6 m6 e7 hla) w_t (w_r 0) ?_;(repeat' first|exact w_t|apply w_l);all_goals intros));exact⟨i+1,⟨by omega,by exact gW e1,by exact gW m1,by exact gW e3,by exact gS,this⟩,by omega⟩
     ·exact⟨Nat.zero_le _,by exact gW e1,by exact gW m1,by exact gW e3,by exact gW e5,by exact gC,by exact gC,by exact gC,λ_ j _ h=>by omega⟩
    ·have:gs.all (Zjf w)=true:=Zij λj hjj=>hj j hjj (by omega);rw [this];clear hj hg heg hx hbd;(focus (refine wklp (w_5 e1 m1 e3 e5 hlm) w_t w_t (w_r 0) ?_;(repeat' first|exact w_t|apply w_l);all_goals intros))
   ·exact⟨Nat.zero_le _,by exact gW e1,by exact gW m1,by exact gW e3,by exact gC,λj _ h=>by omega⟩
 ·exact⟨Nat.zero_le _,by exact gC,by exact gC,by exact gC,by exact gC,λj h=>by omega⟩
theorem arG_le (k:Int):arG k≤8:=by
 unfold arG
 repeat' split
 all_goals omega
theorem Ztz {ss:List RS} {gs:List RG} (h:figE ss gs=0):∀g∈gs,g.ar.length≤100∧∀k,k < g.ar.length→0≤gI g.ar k∧gI g.ar k < (ss.length:Int):=λg hg=>by
 unfold figE at h;split at h
 ·omega
 ·split at h
  ·rename_i h2;exact absurd h h2
  ·obtain⟨j,hj,rfl⟩:=List.mem_iff_getElem.1 hg;have h1:=Zna h j hj;rw [show gs.getD j ⟨0,[],⟨false,[],[]⟩⟩=gs[j] from by rw [List.getD_eq_getElem?_getD,List.getElem?_eq_getElem hj];rfl] at h1;have hle:=arG_le gs[j].k;generalize gs[j]=g at *;unfold errG at h1;split at h1
   ·omega
   ·split at h1
    ·omega
    ·split at h1
     ·omega
     ·rename_i h2 h3 h4;exact⟨by omega,λk hk=>Zwn (by simpa using h4) hk⟩
theorem Ziu {ss:List RS} {gs:List RG} (h:figE ss gs=0):∀i,i < ss.length→errS ss i=0:=by
 unfold figE at h;split at h
 ·omega
 ·split at h
  ·rename_i h2;exact absurd h h2
  ·rename_i h2;exact Zna (Decidable.byContradiction λh3=>h2 h3)
theorem rlFew (ss:List RS) (gs:List RG) (cR:Pure Tryz.prog 37 [figA ss gs] (iv (figE ss gs))):Pure Tryz.prog 12 [figA ss gs] (.v (.bool (fewB ss gs))):=by
 have cR:Pure Tryz.prog 37 [.agg [.sl 6 (ss.map RS.av),.sl 5 (gs.map RG.av)]] (iv (figE ss gs)):=cR;have hls:(ss.map RS.av).length=ss.length:=List.length_map ..;have hlg:(gs.map RG.av).length=gs.length:=List.length_map ..;have hgS:∀i (h:i < ss.length),(ss.map RS.av).getD i .u=ss[i].av:=λi h=>Zap RS.av h;have hgG:∀i (h:i < gs.length),(gs.map RG.av).getD i .u=gs[i].av:=λi h=>Zap RG.av h;have cT:ss.length≤8→gs.length≤3→figE ss gs=0→Pure Tryz.prog 38 [.agg [.sl 6 (ss.map RS.av),.sl 5 (gs.map RG.av)]] (.v (.bool (Zuw ss gs))):=λa b h=>rlThin ss gs a (by omega) (Ziu h) (Ztz h)
 show Pure _ _ [.agg [.sl 6 (ss.map RS.av),.sl 5 (gs.map RG.av)]] _;unfold fewB;have noS:∀i (h:i < ss.length),rat2 ss[i].r=false→(ss.all λs=>rat2 s.r)=false:=λi h e=>Zpo h e;have noG:∀i (h:i < gs.length),rat2 gs[i].r=false→(gs.all λs=>rat2 s.r)=false:=λi h e=>Zpo h e;have yeS:(∀i (h:i < ss.length),rat2 ss[i].r=true)→(ss.all λs=>rat2 s.r)=true:=λe=>Zij e;have yeG:(∀i (h:i < gs.length),rat2 gs[i].r=true)→(gs.all λs=>rat2 s.r)=true:=λe=>Zij e;generalize (ss.all λs=>rat2 s.r)=vS at *;generalize (gs.all λs=>rat2 s.r)=vG at *;generalize Zuw ss gs=vT at *;generalize figE ss gs=z at *
 generalize ss.map RS.av=M at *;generalize gs.map RG.av=N at *;by_cases h8:ss.length≤8
 ·by_cases h3:gs.length≤3
  ·rw [decide_eq_true h8,decide_eq_true h3,Bool.true_and,Bool.true_and];by_cases hz:z=0
   ·subst hz;have cT:=cT h8 h3 rfl;rw [decide_eq_true rfl,Bool.true_and]
    cases vT with
    | false =>
      rw [Bool.false_and];refine Zaa (tok:=0) Tryz.func12 rfl Tryz.ntmps12 Tryz.results12 Tryz.call12 (by rfl) (by simp) ?_;(focus (refine wklp (w_2 hls hlg) (w_2 cR cT) w_t (w_r 0) ?_;(repeat' first|exact w_t|apply w_l);all_goals intros))
    | true =>
      rw [Bool.true_and];refine Zaa (tok:=0) Tryz.func12 rfl Tryz.ntmps12 Tryz.results12 Tryz.call12 (by rfl) (by simp) ?_;(focus (refine wkap (w_2 hls hlg) (w_2 cR cT) (w_r 0) ?_;(repeat' first|exact w_t|apply w_l);all_goals intros));rename_i g1;clear cR cT;refine Zac (ι:=Nat) (λi e m=>i≤ss.length∧e 1=.pbox 1 g1 0∧m 1=some (.box g1 25 [.sl 6 M,.sl 5 N] false)∧e 3=iv i∧∀j (h:j < ss.length),j < i→rat2 ss[j].r=true) (λi=>ss.length - i) 0 (by rfl) ?_ ?_
      ·rintro i e m ⟨hi,e1,m1,e3,hj⟩
       by_cases hlt:i < ss.length
       ·have hg:=hgS i hlt;have no:=noS i hlt;have nx:rat2 ss[i].r=true→∀j (h:j < ss.length),j < i+1→rat2 ss[j].r=true:=λh j hjj h2=>by
         by_cases e:j=i
         ·subst e;exact h
         ·exact hj j hjj (by omega)
        clear hj noS yeS hgS hgG noG yeG;unfold rat2 at no nx;generalize ss[i]=s at *;obtain⟨k,nm,ar,⟨rs,rl,rd⟩⟩:=s;simp only at *;by_cases a1:rl.length≤2∧rd.length≤2
        ·have:=nx (by simp [a1.1,a1.2]);obtain⟨a1,a2⟩:=a1;clear nx no;(focus (refine wkap (w_6 e1 m1 e3 hls hg @Zbg) w_t (w_r 0) ?_;(repeat' first|exact w_t|apply w_l);all_goals intros));exact⟨i+1,⟨by omega,by exact gW e1,by exact gW m1,by exact gS,this⟩,by omega⟩
        ·rw [no (by simp only [Bool.and_eq_false_iff,decide_eq_false_iff_not];omega),Bool.false_and];clear nx no;(focus (refine wkap (w_6 e1 m1 e3 hls hg @Zbg) w_t (w_r 0) ?_;(repeat' first|exact w_t|apply w_l);all_goals intros));all_goals first|((all_goals (try simp (disch:=omega) only [go_sem,decide_eq_true,decide_eq_false,if_pos,if_neg,Int.reduceAdd,Int.reduceSub,Int.reduceToNat,Int.zero_add]));(all_goals first|done|rfl|(congr 2;first|done|omega|(rw [Bool.eq_iff_iff];simp only [bool_to_prop,Bool.false_eq_true,iff_true,true_iff,iff_false,false_iff];omega))|skip))|omega
       ·rw [yeS λj h=>hj j h (by omega),Bool.true_and];clear hj noS yeS hgS;(focus (refine wkap (w_4 e1 m1 e3 hls) w_t (w_r 0) ?_;(repeat' first|exact w_t|apply w_l);all_goals intros));refine Zac (ι:=Nat) (λi e m=>i≤gs.length∧e 1=.pbox 1 g1 0∧m 1=some (.box g1 25 [.sl 6 M,.sl 5 N] false)∧e 4=iv i∧∀j (h:j < gs.length),j < i→rat2 gs[j].r=true) (λi=>gs.length - i) 0 (by rfl) ?_ ?_
        ·rintro i e m ⟨hi,e1,m1,e4,hj⟩
         by_cases hlt:i < gs.length
         ·have hg:=hgG i hlt;have no:=noG i hlt;have nx:rat2 gs[i].r=true→∀j (h:j < gs.length),j < i+1→rat2 gs[j].r=true:=λh j hjj h2=>by
           by_cases e:j=i
           ·subst e;exact h
           ·exact hj j hjj (by omega)
          clear hj hgG noG yeG;unfold rat2 at no nx;generalize gs[i]=s at *;obtain⟨k,ar,⟨rs,rl,rd⟩⟩:=s;simp only at *;by_cases a1:rl.length≤2∧rd.length≤2
          ·have:=nx (by simp [a1.1,a1.2]);obtain⟨a1,a2⟩:=a1;clear nx no;(focus (refine wkap (w_6 e1 m1 e4 hlg hg @Zbg) w_t (w_r 0) ?_;(repeat' first|exact w_t|apply w_l);all_goals intros));exact⟨i+1,⟨by omega,by exact gW e1,by exact gW m1,by exact gS,this⟩,by omega⟩
          ·rw [no (by simp only [Bool.and_eq_false_iff,decide_eq_false_iff_not];omega)];clear nx no;(focus (refine wkap (w_6 e1 m1 e4 hlg hg @Zbg) w_t (w_r 0) ?_;(repeat' first|exact w_t|apply w_l);all_goals intros));all_goals first|((all_goals (try simp (disch:=omega) only [go_sem,decide_eq_true,decide_eq_false,if_pos,if_neg,Int.reduceAdd,Int.reduceSub,Int.reduceToNat,Int.zero_add]));(all_goals first|done|rfl|(congr 2;first|done|omega|(rw [Bool.eq_iff_iff];simp only [bool_to_prop,Bool.false_eq_true,iff_true,true_iff,iff_false,false_iff];omega))|skip))|omega
         ·rw [yeG λj h=>hj j h (by omega)];clear hj hgG noG yeG;(focus (refine wklp (w_4 e1 m1 e4 hlg) w_t w_t (w_r 0) ?_;(repeat' first|exact w_t|apply w_l);all_goals intros))
        ·exact⟨Nat.zero_le _,by exact gW e1,by exact gW m1,by exact gC,λj h h2=>by omega⟩
      ·exact⟨Nat.zero_le _,by exact gC,by exact gC,by exact gC,λj h h2=>by omega⟩
   ·rw [decide_eq_false hz,Bool.false_and];clear cT;refine Zaa (tok:=0) Tryz.func12 rfl Tryz.ntmps12 Tryz.results12 Tryz.call12 (by rfl) (by simp) ?_;(focus (refine wklp (w_3 hls hlg hz) (w_1 cR) w_t (w_r 0) ?_;(repeat' first|exact w_t|apply w_l);all_goals intros))
  ·rw [decide_eq_true h8,decide_eq_false h3,Bool.true_and,Bool.false_and];clear cT;refine Zaa (tok:=0) Tryz.func12 rfl Tryz.ntmps12 Tryz.results12 Tryz.call12 (by rfl) (by simp) ?_;(focus (refine wklp (w_2 hls hlg) (w_1 cR) w_t (w_r 0) ?_;(repeat' first|exact w_t|apply w_l);all_goals intros))
 ·rw [decide_eq_false h8,Bool.false_and];clear cT;refine Zaa (tok:=0) Tryz.func12 rfl Tryz.ntmps12 Tryz.results12 Tryz.call12 (by rfl) (by simp) ?_;(focus (refine wklp (w_2 hls hlg) (w_1 cR) w_t (w_r 0) ?_;(repeat' first|exact w_t|apply w_l);all_goals intros))
section
variable {N n:Nat} {cs:List AV}
theorem agInt:Zgw Tryz.prog 3=false:=by kernel_rfl
theorem csInt:Tryz.prog.cellsOf 3=1:=by kernel_rfl
theorem shIvs (h:Zck Tryz.prog N n 39 cs):∃l:List Int,cs=[ivs l]∧l.length≤N:=by
 obtain⟨bs,rfl,hl,_⟩:=Zea (g:=λk:Int=>[iv k]) (Q:=λ_=>True) Tryz.underlying39 h λm x hx=>by
  obtain⟨i,rfl,_⟩:=Zcw Tryz.underlying3 hx;exact⟨i,rfl,trivial⟩
 refine⟨bs,?_,hl⟩;rw [csInt];have:(bs.map λb:Int=>Zdc Tryz.prog 3 [iv b])=bs.map iv:=List.map_congr_left λb _=>Zhw agInt _;rw [this]
theorem shStep (h:Zck Tryz.prog N n 65 cs):∃s:RS,cs=[iv s.k,strA s.nm,ivs s.ar,.v (.bool s.r.s),lim s.r.l,lim s.r.d]∧s.r.lm N∧s.nm.size≤N∧s.ar.length≤N:=by
 obtain⟨m,rfl,hs⟩:=Zc6 Tryz.underlying65 (by kernel_rfl) h;obtain⟨x,y,rfl,h1,hs⟩:=hs.inv;obtain⟨x2,y,rfl,h2,hs⟩:=hs.inv;obtain⟨x3,y,rfl,h3,hs⟩:=hs.inv;obtain⟨x4,y,rfl,h4,hs⟩:=hs.inv;obtain rfl:=hs.inv0;obtain⟨k,rfl,_⟩:=Zcw Tryz.underlying3 h1;obtain⟨nm,rfl,hn⟩:=Zn3 Tryz.underlying9 h2;obtain⟨ar,rfl,ha⟩:=shIvs h3;obtain⟨r,rfl,hr⟩:=shRat h4;exact⟨⟨k,nm,ar,r⟩,rfl,hr,hn,ha⟩
theorem shFact (h:Zck Tryz.prog N n 87 cs):∃g:RG,cs=[iv g.k,ivs g.ar,.v (.bool g.r.s),lim g.r.l,lim g.r.d]∧g.r.lm N∧g.ar.length≤N:=by
 obtain⟨m,rfl,hs⟩:=Zc6 Tryz.underlying87 (by kernel_rfl) h;obtain⟨x,y,rfl,h1,hs⟩:=hs.inv;obtain⟨x3,y,rfl,h3,hs⟩:=hs.inv;obtain⟨x4,y,rfl,h4,hs⟩:=hs.inv;obtain rfl:=hs.inv0;obtain⟨k,rfl,_⟩:=Zcw Tryz.underlying3 h1;obtain⟨ar,rfl,ha⟩:=shIvs h3;obtain⟨r,rfl,hr⟩:=shRat h4;exact⟨⟨k,ar,r⟩,rfl,hr,ha⟩
theorem shSteps (h:Zck Tryz.prog N n 22 cs):∃l:List RS,cs=[.sl 6 (l.map RS.av)]∧l.length≤N∧∀s∈l,s.r.lm N∧s.nm.size≤N∧s.ar.length≤N:=by
 obtain⟨bs,rfl,hl,hq⟩:=Zea (g:=λs:RS=>[iv s.k,strA s.nm,ivs s.ar,.v (.bool s.r.s),lim s.r.l,lim s.r.d]) (Q:=λs=>s.r.lm N∧s.nm.size≤N∧s.ar.length≤N) Tryz.underlying22 h λm x hx=>shStep hx;refine⟨bs,?_,hl,hq⟩;rw [show Tryz.prog.cellsOf 65=6 from by kernel_rfl];have:(bs.map λs:RS=>Zdc Tryz.prog 65 [iv s.k,strA s.nm,ivs s.ar,.v (.bool s.r.s),lim s.r.l,lim s.r.d])=bs.map RS.av:=List.map_congr_left λb _=>Zhx Tryz.underlying65 _;rw [this]
theorem shFacts (h:Zck Tryz.prog N n 23 cs):∃l:List RG,cs=[.sl 5 (l.map RG.av)]∧l.length≤N∧∀s∈l,s.r.lm N∧s.ar.length≤N:=by
 obtain⟨bs,rfl,hl,hq⟩:=Zea (g:=λs:RG=>[iv s.k,ivs s.ar,.v (.bool s.r.s),lim s.r.l,lim s.r.d]) (Q:=λs=>s.r.lm N∧s.ar.length≤N) Tryz.underlying23 h λm x hx=>shFact hx;refine⟨bs,?_,hl,hq⟩;rw [show Tryz.prog.cellsOf 87=5 from by kernel_rfl];have:(bs.map λs:RG=>Zdc Tryz.prog 87 [iv s.k,ivs s.ar,.v (.bool s.r.s),lim s.r.l,lim s.r.d])=bs.map RG.av:=List.map_congr_left λb _=>Zhx Tryz.underlying87 _;rw [this]
theorem Zrh (h:Zck Tryz.prog N n 25 cs):∃(ss:List RS) (gs:List RG),Zdc Tryz.prog 25 cs=figA ss gs∧ss.length≤N∧gs.length≤N∧(∀s∈ss,s.r.lm N∧s.nm.size≤N∧s.ar.length≤N)∧∀s∈gs,s.r.lm N∧s.ar.length≤N:=by
 obtain⟨m,rfl,hs⟩:=Zc6 Tryz.underlying25 (by kernel_rfl) h;obtain⟨x,y,rfl,h1,hs⟩:=hs.inv;obtain⟨x3,y,rfl,h3,hs⟩:=hs.inv;obtain rfl:=hs.inv0;obtain⟨ss,rfl,hl,hq⟩:=shSteps h1;obtain⟨gs,rfl,kl,kq⟩:=shFacts h3;exact⟨ss,gs,Zhx Tryz.underlying25 _,hl,kl,hq,kq⟩
end
theorem Zm0 {r:RQ} {a b:Nat} (h:r.lm a) (hab:a≤b):r.lm b:=⟨h.1,h.2.1,Nat.le_trans h.2.2.1 hab,Nat.le_trans h.2.2.2 hab⟩
end Go.Proofs.YtjgdomdhjphgbaaGreatDoor
namespace Go.Proofs.YtjgdomdhjphgbaaGreatDoor
open Go Go.RowKit Go.Pg Go.Pol
theorem exC {p:QTs} (h:(∀t∈p,t.1≠0∧(t.2.Pairwise λa b=>Qt.cmp a b≤0)∧∀q∈t.2,q.norm=(q,1))∧p.Pairwise λs t=>ordQ s.2 t.2 < 0):EX p :=
 ⟨λt ht=>⟨(h.1 t ht).1,(h.1 t ht).2.1,(h.1 t ht).2.2⟩,h.2⟩
abbrev hlX:QTs:=[((1/2:Rat),[])]
abbrev onX:QTs:=[((1:Rat),[])]
theorem mid_c:cbOf 2 [1,2] (1/2) 0=some ⟨[1,2],[hlX,hlX],onX⟩:=by
 have e1:nX (1/2)=hlX:=by decide +kernel
 have e2:nX 1=onX:=by decide +kernel
 have e3:subX onX hlX=hlX:=Zuh (exC (by decide +kernel)) (exC (by decide +kernel)) (by decide +kernel);show some (prC 1 2 (nX (1/2)) (nX 1))=_;unfold prC;rw [e1,e2,e3]
theorem mid1:lmX 2 [1,2] (1/2) 0 3 ⟨1,3,0,1⟩=(0,([((1/2:Rat),[(⟨1,0,1,2⟩:Qt)])],onX)):=by
 have hn:Qt.norm ⟨1,3,0,1⟩=(⟨1,0,1,3⟩,1):=by decide +kernel
 have hp:plOf ⟨1,0,1,3⟩ 3=⟨1,0,1,false⟩:=rfl;have a1:aX 1 0 1=[]:=by decide +kernel
 have a2:aX 2 0 1=[((1:Rat),[(⟨1,0,1,2⟩:Qt)])]:=by decide +kernel
 have m1:mulX hlX []=[]:=Zox (by decide +kernel);have m2:mulX hlX [((1:Rat),[(⟨1,0,1,2⟩:Qt)])]=[((1/2:Rat),[(⟨1,0,1,2⟩:Qt)])]:=Zox (by decide +kernel);have j1:Zav [] []=[]:=Zuh (exC (by decide +kernel)) (exC (by decide +kernel)) (by decide +kernel);have j2:Zav [] [((1/2:Rat),[(⟨1,0,1,2⟩:Qt)])]=[((1/2:Rat),[(⟨1,0,1,2⟩:Qt)])]:=Zuh (exC (by decide +kernel)) (exC (by decide +kernel)) (by decide +kernel);have s1:sclT ((1:Int):Rat) [((1/2:Rat),[(⟨1,0,1,2⟩:Qt)])]=[((1/2:Rat),[(⟨1,0,1,2⟩:Qt)])]:=by decide +kernel
 unfold lmX;rw [hn];simp only;rw [if_neg (by decide +kernel),if_neg (by decide),mid_c];simp only;rw [if_neg (by simp),hp];show((0:Int),(sclT ((1:Int):Rat) (Zav (Zav [] (mulX hlX (aX 1 0 1))) (mulX hlX (aX 2 0 1))),onX))=_;rw [a1,a2,m1,m2,j1,j2,s1]
abbrev pM (a b:Int):List Qt:=[⟨2,a,b,a⟩]
theorem mid2:lmX 2 [1,2] (1/2) 0 3 ⟨2,3,0,3⟩=(0,([((1/2:Rat),pM 0 1),((1/2:Rat),pM 0 2),((-1/4:Rat),pM 1 2)],onX)):=by
 have hn:Qt.norm ⟨2,3,0,3⟩=(⟨2,0,3,0⟩,1):=by decide +kernel
 have hp:plOf ⟨2,0,3,0⟩ 3=⟨2,0,0,true⟩:=rfl;have a1:pX 0 1 0=[((1:Rat),pM 0 1)]:=by decide +kernel
 have a2:pX 0 2 0=[((1:Rat),pM 0 2)]:=by decide +kernel
 have a3:pX 1 2 1=[((1:Rat),pM 1 2)]:=by decide +kernel
 have m1:mulX hlX [((1:Rat),pM 0 1)]=[((1/2:Rat),pM 0 1)]:=Zox (by decide +kernel);have m2:mulX hlX [((1:Rat),pM 0 2)]=[((1/2:Rat),pM 0 2)]:=Zox (by decide +kernel);have m3:mulX hlX hlX=[((1/4:Rat),[])]:=Zox (by decide +kernel);have m4:mulX [((1/4:Rat),[])] [((1:Rat),pM 1 2)]=[((1/4:Rat),pM 1 2)]:=Zox (by decide +kernel);have j1:Zav [] [((1/2:Rat),pM 0 1)]=[((1/2:Rat),pM 0 1)]:=Zuh (exC (by decide +kernel)) (exC (by decide +kernel)) (by decide +kernel);have j2:Zav [((1/2:Rat),pM 0 1)] [((1/2:Rat),pM 0 2)]=[((1/2:Rat),pM 0 1),((1/2:Rat),pM 0 2)]:=Zuh (exC (by decide +kernel)) (exC (by decide +kernel)) (by decide +kernel)
 have m5:mulX onX [((1/2:Rat),pM 0 1),((1/2:Rat),pM 0 2)]=[((1/2:Rat),pM 0 1),((1/2:Rat),pM 0 2)]:=Zox (by decide +kernel);have m6:mulX onX onX=onX:=Zox (by decide +kernel);have s2:sclT (-1) [((1/4:Rat),pM 1 2)]=[((-1/4:Rat),pM 1 2)]:=by decide +kernel
 have j3:Zav [((1/2:Rat),pM 0 1),((1/2:Rat),pM 0 2)] [((-1/4:Rat),pM 1 2)]=[((1/2:Rat),pM 0 1),((1/2:Rat),pM 0 2),((-1/4:Rat),pM 1 2)]:=Zuh (exC (by decide +kernel)) (exC (by decide +kernel)) (by decide +kernel);have s1:sclT ((1:Int):Rat) [((1/2:Rat),pM 0 1),((1/2:Rat),pM 0 2),((-1/4:Rat),pM 1 2)]=[((1/2:Rat),pM 0 1),((1/2:Rat),pM 0 2),((-1/4:Rat),pM 1 2)]:=by decide +kernel
 unfold lmX;rw [hn];simp only;rw [if_neg (by decide +kernel),if_neg (by decide),mid_c];simp only;rw [if_neg (by simp),hp];show((0:Int),(sclT ((1:Int):Rat) (subX (mulX onX (Zav (Zav [] (mulX hlX (pX 0 1 0))) (mulX hlX (pX 0 2 0)))) (mulX (mulX hlX hlX) (pX 1 2 1))),mulX onX onX))=_;rw [a1,a2,a3,m1,m2,m3,m4,j1,j2,m5,m6];show((0:Int),(sclT ((1:Int):Rat) (Zav _ (sclT (-1) [((1/4:Rat),pM 1 2)])),onX))=_;rw [s2,j3,s1]
end Go.Proofs.YtjgdomdhjphgbaaGreatDoor
