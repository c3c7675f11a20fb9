/- Contracts of the functions that the law reaches, and the rules by which they are walked. They say what a call hands back for every input within the bounds that each names; no other condition. -/
import Derived.Test.YtenfejhaohihoaaGreatBv7
set_option linter.unusedSimpArgs false
set_option linter.unusedVariables false
set_option maxRecDepth 20000
set_option maxHeartbeats 16000000
namespace Go.Proofs.YtenfejhaohihoaaGreat
open Go Go.RowKit Go.Pg Go.Pol Go.Proofs.Tryz
attribute [-bool_to_prop] Bool.and_eq_decide Bool.or_eq_decide Bool.decide_beq_decide decide_eq_decide
attribute [local go_sem] Zcf Zcy Zec Zbm Zbo Zbn Zb5 Zb6 Zdc Zdn Zc6 Zdm Zdl Zdt Zdd Zbg Zbh Zcj Zd0 Za5 Zb4 Zdw Zdz Zf3 Zdv Zdy Zf2 Zbq Zbt Zcw Zbu Zc4 Zd2 Zgg Zgi
theorem Zp5 (ss:List RS):∀i,(frN ss i).fr≤i
 | 0=>Zze _
 | i+1=>by
   have:=Zp5 ss i;unfold frN;simp only [FS.push];split<;>omega
theorem Ztb (ss:List RS):∀i k,nfN ss i≤nfN ss (i+k)
 | i,0=>Zze _
 | i,k+1=>Zzi (Ztb ss i k) (by show _≤nfN ss (i+k)+_;omega)
structure FigOk (ss:List RS):Prop where
 len:ss.length≤40
 er:∀i,i < ss.length→errS ss i=0
 lm:∀s∈ss,s.r.lm 2
 nf:nfN ss ss.length≤20
theorem FigOk.fi {ss:List RS} (h:FigOk ss) {i:Nat} (hi:i≤ss.length) (hj:∀j,j < i→bigN ss j=false):∃D,FI (frN ss i) (nfN ss i) D∧nfN ss i≤20:=by
 have hr:∀s∈ss,s.k=2→s.r.ok=true:=λs hs=>by
  obtain⟨j,hj,rfl⟩:=List.mem_iff_getElem.1 hs;exact(Zgu hj (h.er j hj)).2.2.2
 obtain⟨D,hD⟩:=frN_ok ss hr (λs hs=>lm_bd (h.lm s hs)) i hi hj;refine⟨D,hD,Zzi ?_ h.nf⟩;have:=Ztb ss i (ss.length - i)
 rwa [show i+(ss.length - i)=ss.length by omega] at this
theorem FI.co {f:FS} {n D:Nat} (h:FI f n D) (hn:n≤20):∀c∈f.cs,Co c.1∧Co c.2:=λc hc=>by
 obtain⟨h1,h2⟩:=h.cs c hc;obtain⟨l1,l2⟩:=h.ln c hc;have hv:=h.nv;exact⟨⟨h1.pk zo h.D0 h.Dl hn,h1.1,l1⟩,⟨h2.pk zo h.D0 h.Dl hn,h2.1,l2⟩⟩
theorem FigOk.st {ss:List RS} (h:FigOk ss) {i:Nat} (hi:i < ss.length):StOk (frN ss i).cs ss[i]:=by
 obtain⟨h1,h2,h3,h4⟩:=Zgu hi (h.er i hi);exact⟨h1,h2,λk hk=>by rw [Zcm];exact h3 k hk,h4,h.lm _ (Zzt hi)⟩
theorem Zea {ss:List RS} {i:Nat} (hi:i < ss.length):frN ss (i+1)=⟨(frN ss i).cs++[((frN ss i).nxt i ss[i]).2],(frN ss i).vs++((frN ss i).nxt i ss[i]).1,if ss[i].k=1 then (frN ss i).fr+1 else (frN ss i).fr⟩:=by
 show(frN ss i).push i (ss.getD i RS.zero)=_;rw [show ss.getD i RS.zero=ss[i] from by rw [Zzo,Zzn hi];rfl];rfl
theorem Zlq {ss:List RS} {i:Nat} (hi:i < ss.length):bigN ss i=(decide (64 < ((frN ss i).vs++((frN ss i).nxt i ss[i]).1).length) || decide (4000 < ((frN ss i).nxt i ss[i]).2.1.length) || decide (4000 < ((frN ss i).nxt i ss[i]).2.2.length)):=by
 unfold bigN;rw [Zea hi,show ss.getD i ⟨0,.empty,[],⟨false,[],[]⟩⟩=ss[i] from by rw [Zzo,Zzn hi];rfl]
theorem Zng (f:FS) (i:Nat) (s:RS):(f.nxt i s).1.length≤3:=by
 unfold FS.nxt;simp only
 repeat' split
 all_goals simp
def CbStep (i:Nat) (s:RS):Prop:=∀(σ:Mem) (KB KC KV g:Nat) (svC svV:Value) (cs:List (Po × Po)) (vs:List Vt) (fr:Nat),σ KB=some (.box g 165 [.own KC svC,.own KV svV,iv fr] false)→σ KV=some (.row svV 106 3 (vs.map Vt.av) 0)→σ KC=some (.row svC 98 2 (cs.map coA) 0)→KB≠KV→KB≠KC→KV≠KC→vs.length≤64→fr≤100→StOk cs s→(∀c∈cs,Co c.1∧Co c.2)→ACall prog 104 [.pbox KB g 0,s.av,iv i] σ λr σ'=>∃sv,r=coA (FS.nxt ⟨cs,vs,fr⟩ i s).2 ∧
 σ'=upd (upd σ KV (some (.row sv 106 3 ((vs++(FS.nxt ⟨cs,vs,fr⟩ i s).1).map Vt.av) 0))) KB (some (.box g 165 [.own KC svC,.own KV sv,iv (if s.k=1 then fr+1 else fr:Nat)] false))
theorem coFrameG (ss:List RS) (gs:List RG) (cR:Pure prog 103 [figA ss gs] (iv 0)) (ho:FigOk ss) (hcb:∀i (h:i < ss.length),CbStep i ss[i]) :
 Pure prog 40 [figA ss gs] (if (List.range ss.length).any (bigN ss)=true then .tup [.agg [.v (.slice none 0 0),.v (.slice none 0 0)],iv 4] else .tup [frmA (frN ss ss.length).cs (frN ss ss.length).vs,iv 0]):=by
 have cR:Pure prog 103 [.agg [.sl 6 (ss.map RS.av),.sl 5 (gs.map RG.av)]] (iv 0):=cR;show Pure _ _ [.agg [.sl 6 (ss.map RS.av),.sl 5 (gs.map RG.av)]] _;have hg:∀i (h:i < ss.length),(ss.map RS.av).getD i .u=ss[i].av:=λi h=>Zaj RS.av h;have hls:(ss.map RS.av).length=ss.length:=Zzg ..;have hlen:=ho.len;generalize ss.map RS.av=M at *;generalize gs.map RG.av=N at *;refine pI func40 rfl ntmps40 results40 call40 ?_;(focus (refine wkad (w_1 hls) (w_1 cR) w_t ?_;(repeat' first|exact w_t|apply w_l);all_goals intros));rename_i g1 g2 gb;refine Zf5 (Frz.nilBox (k:=16) 0 20 2 98 (gC) rfl zo) ?_
 refine Zf5 (Frz.nilBox (k:=16) 1 21 3 106 (gC) rfl zo) ?_;refine Zab (ι:=Nat) (λi e m=>i≤ss.length∧e 2=.pbox 2 g2 0∧m 2=some (.box g2 40 [.v (.slice none 0 0),.v (.slice none 0 0)] false)∧e 5=.pbox 16 gb 0∧e 18=.sl 6 M∧e 19=iv ss.length∧e 20=iv i∧(∃svC svV,m 16=some (.box gb 165 [.own 20 svC,.own 21 svV,iv (frN ss i).fr] false)∧m 20=some (.row svC 98 2 ((frN ss i).cs.map coA) 0)∧m 21=some (.row svV 106 3 ((frN ss i).vs.map Vt.av) 0))∧∀j,j < i→bigN ss j=false) (λi=>ss.length - i) 0 zr ?_ ?_
 ·rintro i e m ⟨hi,e2,m2,e5,e18,e19,e20,⟨svC,svV,m16,m20,m21⟩,hbig⟩
  by_cases hlt:i < ss.length
  ·have hgi:=hg i hlt;obtain⟨D,hD,hn⟩:=ho.fi hi hbig;have hco:=hD.co hn;have hst:=ho.st hlt;have hfr:=Zp5 ss i;have hnv:=hD.nv;have hb:=Zlq hlt;have hsu:=Zea hlt;have hn3:=Zng (frN ss i) i ss[i];have hcl:=Zcm ss i;have hst2:=λm' hB hV hC=>hcb i hlt m' 16 20 21 gb svC svV (frN ss i).cs (frN ss i).vs (frN ss i).fr hB hV hC zo zo zo hnv zo hst hco;rw [show(FS.mk (frN ss i).cs (frN ss i).vs (frN ss i).fr)=frN ss i from rfl] at hst2;clear hD hco hst;generalize hs:ss[i]=s at *;generalize hf:frN ss i=f at *;generalize hx:f.nxt i s=nx at *;obtain⟨nv,c1,c2⟩:=nx;obtain⟨k,nm,ar,⟨rs,rl,rd⟩⟩:=s
   obtain⟨cs,vs,fr⟩:=f;simp only at *;(focus (refine wkad (w_11 e2 m2 e5 e18 e19 e20 m16 m20 m21 hgi hls) w_t w_t ?_;(repeat' first|exact w_t|apply w_l);all_goals intros));refine Zce (hst2 _ (gW m16) (gW m21) (gW m20)) ?_;intro sv;generalize hfr2:(if k=1 then fr+1 else fr)=fr2 at *;have hvl:((vs++nv).map Vt.av).length=(vs++nv).length:=Zzg ..;have hvl2:(vs++nv).length≤67:=by rw [Zz0];omega
   have hnx:∀j,j < i+1→bigN ss i=false→bigN ss j=false:=λj hj h=>by
    by_cases e:j=i
    ·rw [e];exact h
    ·exact hbig j zo
   have hany:bigN ss i=true→(List.range ss.length).any (bigN ss)=true:=λh=>List.any_eq_true.2 ⟨i,List.mem_range.2 hlt,h⟩;generalize vs++nv=vs2 at *;have hc1:(c1.map tmA).length=c1.length:=Zzg ..;have hc2:(c2.map tmA).length=c2.length:=Zzg ..;have hcsl:(cs.map coA).length=cs.length:=Zzg ..;by_cases b1:64 < vs2.length
   ·rw [Zzc (hany (by rw [hb];simp [b1]))];(focus (refine wkld (w_8 e2 m2 e5 e18 e19 e20 hvl hls) w_t (w_1 e2) w_t ?_;(repeat' first|exact w_t|apply w_l);all_goals intros))
   ·by_cases b2:4000 < c1.length
    ·rw [Zzc (hany (by rw [hb];simp [b2]))];(focus (refine wkld (w_9 e2 m2 e5 e18 e19 e20 hvl hc1 hls) w_t (w_1 e2) w_t ?_;(repeat' first|exact w_t|apply w_l);all_goals intros))
    ·by_cases b3:4000 < c2.length
     ·rw [Zzc (hany (by rw [hb];simp [b3]))];(focus (refine wkld (w_10 e2 m2 e5 e18 e19 e20 hvl hc1 hc2 hls) w_t (w_1 e2) w_t ?_;(repeat' first|exact w_t|apply w_l);all_goals intros))
     ·have hbf:bigN ss i=false:=by rw [hb];simp [b1,b2,b3]
      clear hany;(focus (refine wkax (w_12 e2 m2 e5 e18 e19 e20 m20 hvl hc1 hc2 hcsl hls) w_t (w_1 (w_d 11 [] [12,2012,16] [20,60])) w_t w_t w_t w_y (w_r 0) ?_;(repeat' first|exact w_t|apply w_l);all_goals intros));rename_i svC2;refine⟨i+1,⟨zo,gW e2,gW m2,gW e5,gW e18,gW e19,gS,⟨svC2,sv,?_,?_,?_⟩,λj hj=>hnx j hj hbf⟩,zo⟩
      ·rw [hsu];exact gW hfr2
      ·rw [hsu,Zzw];exact gC
      ·rw [hsu];exact gC
  ·have hin:i=ss.length:=zo;subst hin
   have hno:¬(List.range ss.length).any (bigN ss)=true:=by
    rw [List.any_eq_true]
    rintro ⟨j,hj,hb⟩
    rw [hbig j (List.mem_range.1 hj)] at hb;cases hb
   rw [Zzb hno];generalize (frN ss ss.length).fr=fr at *;generalize (frN ss ss.length).cs=cs at *;generalize (frN ss ss.length).vs=vs at *;(focus (refine wkld (w_10 e2 m2 e5 e18 e19 e20 m16 m20 m21 hls) w_t (w_5 e2 m2 m16 m20 m21) w_t ?_;(repeat' first|exact w_t|apply w_l);all_goals intros))
 ·exact⟨Zzp _,gC,gC,gC,gC,gW hls,gC,⟨_,_,by(simp (disch:=omega) only [go_sem,List.set_cons_zero,List.set_cons_succ,frN]<;>repeat' first|rfl|refine⟨?_,?_⟩),by(simp (disch:=omega) only [go_sem,frN,Zz1]<;>repeat' first|rfl|refine⟨?_,?_⟩),by(simp (disch:=omega) only [go_sem,frN,Zz1]<;>repeat' first|rfl|refine⟨?_,?_⟩)⟩,λj hj=>zo⟩
theorem Ztx (ss:List RS) (gs:List RG) (cR:Pure prog 103 [figA ss gs] (iv 0)) (ho:FigOk ss) :
 Pure prog 40 [figA ss gs] (if (List.range ss.length).any (bigN ss)=true then .tup [.agg [.v (.slice none 0 0),.v (.slice none 0 0)],iv 4] else .tup [frmA (frN ss ss.length).cs (frN ss ss.length).vs,iv 0]):=coFrameG ss gs cR ho λi h σ KB KC KV g svC svV cs vs fr hB hV hC a b c hl hf hok hco=>cbStep σ KB KC KV g svC svV cs vs fr i ss[i] hB hV hC a b c hl hf hok hco
attribute [local go_sem] Zg0 Zhd Zkj Zj4
def fitS (s:RS):Bool:=!(decide (2 < s.r.l.length) || decide (2 < s.r.d.length) || decide (8 < s.ar.length))
def fitsB (ss:List RS) (gs:List RG):Bool:=ss.all fitS && (decide (nfN ss ss.length≤12) && (decide (ss.length≤42) && decide (gs.length≤10)))
theorem Zqj {α:Type} {p:α→Bool} {l:List α} {i:Nat} (h:i < l.length) (hp:p l[i]=false):l.all p=false:=by
 rw [Bool.eq_false_iff];intro ha;rw [ZBy] at ha;rw [ha _ (Zzt h)] at hp;cases hp
theorem all_of {α:Type} {p:α→Bool} {l:List α} (h:∀j (hj:j < l.length),p l[j]=true):l.all p=true:=by
 rw [ZBy];intro x hx;obtain⟨j,hj,rfl⟩:=List.mem_iff_getElem.1 hx;exact h j hj
theorem Zxf (ss:List RS):∀i,nfN ss i≤i
 | 0=>Zze _
 | i+1=>by
   have:=Zxf ss i;unfold nfN;split<;>omega
theorem figE_ok {ss:List RS} {gs:List RG} (h:figE ss gs=0):ss.length≤40∧∀i,i < ss.length→errS ss i=0:=by
 unfold figE at h;split at h
 ·omega
 ·rename_i h1;split at h
  ·rename_i h2;exact absurd h h2
  ·rename_i h2;refine⟨zo,Zke ?_⟩;rcases Decidable.em (fstE (errS ss) ss.length=0) with h3 | h3
   ·exact h3
   ·exact absurd h3 h2
theorem Zyj {ss:List RS} (h:(List.range ss.length).any (bigN ss)≠true):(frN ss ss.length).vs.length≤64:=by
 rcases ZAn ss.length with h0 | h0
 ·rw [h0];exact Zzp _
 ·have hb:bigN ss (ss.length - 1)≠true:=λhb=>h (List.any_eq_true.2 ⟨ss.length - 1,List.mem_range.2 zo,hb⟩);unfold bigN at hb;simp only [ne_eq,ZBq,ZAg,not_or,Nat.not_lt] at hb;have:=hb.1.1
  rwa [show ss.length - 1+1=ss.length by omega] at this
theorem ar2 {ar:List Int} {n:Nat} (hl:(ar.length:Int)=2) (h:∀k,k < ar.length→0≤gI ar k∧gI ar k < (n:Int)):∃a b:Nat,ar=[(a:Int),(b:Int)]∧a < n∧b < n:=by
 match ar,hl,h with
 | [x,y],_,h =>
   have h0:=h 0 zs;have h1:=h 1 zs;simp only [gI,ZA4,ZA5] at h0 h1;exact⟨x.toNat,y.toNat,by rw [ZB0 h0.1,ZB0 h1.1],zo,zo⟩
theorem ar3 {ar:List Int} {n:Nat} (hl:(ar.length:Int)=3) (h:∀k,k < ar.length→0≤gI ar k∧gI ar k < (n:Int)):∃a b c:Nat,ar=[(a:Int),(b:Int),(c:Int)]∧a < n∧b < n∧c < n:=by
 match ar,hl,h with
 | [x,y,z],_,h =>
   have h0:=h 0 zs;have h1:=h 1 zs;have h2:=h 2 zs;simp only [gI,ZA4,ZA5] at h0 h1 h2;exact⟨x.toNat,y.toNat,z.toNat,by rw [ZB0 h0.1,ZB0 h1.1,ZB0 h2.1],zo,zo,zo⟩
theorem ar4 {ar:List Int} {n:Nat} (hl:(ar.length:Int)=4) (h:∀k,k < ar.length→0≤gI ar k∧gI ar k < (n:Int)):∃a b c d:Nat,ar=[(a:Int),(b:Int),(c:Int),(d:Int)]∧a < n∧b < n∧c < n∧d < n:=by
 match ar,hl,h with
 | [x,y,z,w],_,h =>
   have h0:=h 0 zs;have h1:=h 1 zs;have h2:=h 2 zs;have h3:=h 3 zs;simp only [gI,ZA4,ZA5] at h0 h1 h2 h3;exact⟨x.toNat,y.toNat,z.toNat,w.toNat,by rw [ZB0 h0.1,ZB0 h1.1,ZB0 h2.1,ZB0 h3.1],zo,zo,zo,zo⟩
def wOf (w:List Int) (s:RS):Int :=
 if s.k=2 then gI w (gI s.ar 0).toNat+gI w (gI s.ar 1).toNat
 else if s.k=3∨s.k=4 then gI w (gI s.ar 0).toNat+gI w (gI s.ar 1).toNat+gI w (gI s.ar 2).toNat
 else if s.k=5 then 2*gI w (gI s.ar 0).toNat+gI w (gI s.ar 1).toNat
 else 1
def wts (ss:List RS):Nat→List Int
 | 0=>[]
 | i+1=>wts ss i++[wOf (wts ss i) (ss.getD i RS.zero)]
theorem Zib (ss:List RS):∀i,(wts ss i).length=i
 | 0=>rfl
 | i+1=>by show(wts ss i++[_]).length=i+1;rw [Zz0,Zib ss i];rfl
theorem Zyf (l:List Int) (x:Int) (n:Nat):gI (l++[x]) n=if n < l.length then gI l n else if n=l.length then x else 0:=by
 split
 ·rename_i h;rw [Ze5 (by simp;omega),Ze5 h,List.getElem_append_left h]
 ·split
  ·rename_i h1 h2;subst h2;rw [Ze5 zs];simp
  ·rw [Zb9 (by simp;omega)]
theorem Zlz (ss:List RS):∀i n,0≤gI (wts ss i) n∧gI (wts ss i) n≤((3 ^ i:Nat):Int)
 | 0,n=>by rw [Zb9 (Zzp _)];omega
 | i+1,n=>by
   show 0≤gI (wts ss i++[_]) n∧gI (wts ss i++[_]) n≤_;have hp:(3 ^ (i+1):Nat)=3*3 ^ i:=by rw [ZAp,Zz9]
   have hq:1≤3 ^ i:=Nat.one_le_pow _ _ zo;rw [Zyf,hp];have h0:=Zlz ss i n;have h1:=Zlz ss i (gI (ss.getD i RS.zero).ar 0).toNat;have h2:=Zlz ss i (gI (ss.getD i RS.zero).ar 1).toNat;have h3:=Zlz ss i (gI (ss.getD i RS.zero).ar 2).toNat;unfold wOf;generalize (3 ^ i:Nat)=z at *;split
   ·omega
   ·split
    ·split
     ·omega
     ·split
      ·omega
      ·split<;>omega
    ·omega
def Zkk (ss:List RS) (gs:List RG):Bool :=
 (wts ss ss.length).all (λw=>decide (w≤8)) && gs.all λg=>!(decide (g.k=6) || decide (g.k=7)) || g.ar.all λa=>decide (gI (wts ss ss.length) a.toNat≤3)
def rat2 (r:RQ):Bool:=decide (r.l.length≤2) && decide (r.d.length≤2)
def fewB (ss:List RS) (gs:List RG):Bool :=
 decide (ss.length≤8) && (decide (gs.length≤3) && (decide (figE ss gs=0) && (Zkk ss gs && (ss.all (λs=>rat2 s.r) && gs.all λg=>rat2 g.r))))
attribute [go_sem] underlying26
attribute [local go_sem] Zfb Zfv
theorem Zww {a:Rat} {s:Nat} (h:Sz a s):∀n:Nat,Sz (a ^ n) (n*s+1)
 | 0=>by rw [Rat.pow_zero];exact(Zco 1 zo).mono zo
 | n+1=>by rw [Rat.pow_succ];exact((Zww h n).mul h).mono (by rw [ZC1];omega)
theorem pow_sq (a:Rat):∀n:Nat,(a*a) ^ n=a ^ (2*n)
 | 0=>by rw [ZBo,Rat.pow_zero,Rat.pow_zero]
 | n+1=>by rw [Rat.pow_succ,pow_sq a n,Nat.mul_succ,Rat.pow_succ,Rat.pow_succ,Rat.mul_assoc]
abbrev evP (x:Nat→Rat) (p:Po):Rat:=evl (mv x) p
theorem Zds (x:Nat→Rat) {p q:Po} (hp:SrtM p) (hq:SrtM q):evP x (addM p q)=evP x p+evP x q:=Zns ordM _ (λt ht=>(hp.1 t ht).2) (λt ht=>(hq.1 t ht).2)
theorem Zbc (x:Nat→Rat) {p q:Po} (hp:SrtM p) (hq:SrtM q):evP x (subM p q)=evP x p - evP x q:=by
 have h:=Zds x hp (Zbd hq neg1);rw [show evP x (Zas (-1) q)=evP x q*-1 from Zlg _ _ _] at h;show evP x (addM p (Zas (-1) q))=_;rw [h];grind
theorem evP_scl (x:Nat→Rat) (a:Rat) (p:Po):evP x (sclM a p)=a*evP x p:=by
 unfold sclM;split
 ·rename_i h;rw [h,Rat.zero_mul];rfl
 ·rw [show evP x (Zas a p)=evP x p*a from Zlg _ _ _,Rat.mul_comm]
theorem Zdr (x:Nat→Rat) {p q:Po} (hp:SrtM p) (hq:SrtM q):evP x (mlM p q)=evP x p*evP x q:=evl_mulR ordM mulK (λa b ha hb=>mv_mul x ha hb) hp hq
theorem Ztd (x:Nat→Rat) (v:Nat):∀n,mvN x (Zc5 v) n=if v < n then x v else 1
 | 0=>rfl
 | n+1=>by
   show mvN x (Zc5 v) n*x n ^ (gI (Zc5 v) n).toNat=_;rw [Ztd x v n,Zez];by_cases h:n=v
   ·subst h;rw [Zzb zo,Zzc rfl,Zzc zo];rw [show(1:Int).toNat=1 from rfl,Rat.pow_succ,Rat.pow_zero,ZBf,ZBf]
   ·rw [Zzb h];rw [show(0:Int).toNat=0 from rfl,Rat.pow_zero,ZCh];by_cases h2:v < n
    ·rw [Zzc h2,Zzc zo]
    ·rw [Zzb h2,Zzb zo]
theorem Zgt (x:Nat→Rat) {v:Nat} (hv:v < 64):evP x (varM v)=x v:=by
 unfold varM;rw [Zzc hv];show 1*mvN x (Zc5 v) (Zc5 v).length+0=x v;rw [Ztd,Zeq,Zzc zo]
 grind
theorem rpPow:∀(f n:Nat),n≤f→n≤1000000→∀(a:Rat) (s:Nat),Sz a s→n*s≤19000000000→Pure prog 44 [ratQ a,iv n] (ratQ (a ^ n))
 | f,0,_,_,a,s,_,_=>by
   have c1:Pure prog 42 [iv 1] (ratQ 1):=qOf 1 zo;rw [Rat.pow_zero];refine pI func44 rfl ntmps44 results44 call44 ?_;(focus (refine wklp w_t (w_1 c1) w_t (w_r 0) ?_;(repeat' first|exact w_t|apply w_l);all_goals intros))
 | 0,n+1,h,_,_,_,_,_=>zo
 | f+1,n+1,hf,hn,a,s,hs,hb=>by
   have hs2:s≤19000000000:=by rw [ZC1] at hb;omega
   have hd:(n+1)/2*(s+s)≤19000000000:=by
    refine Zzi ?_ hb;rw [←Nat.two_mul,←ZAu];exact Zz7 _ zo
   have c1:=qMul a a hs hs zo zo;have c2:=rpPow f ((n+1)/2) zo zo (a*a) (s+s) (hs.mul hs) hd;have c3:=qMul ((a*a) ^ ((n+1)/2)) a (Zww (hs.mul hs) _) hs zo zo;have hq:((n+1:Nat):Int).tdiv 2=(((n+1)/2:Nat):Int):=Zc9 (n+1) 2;have hr:((n+1:Nat):Int).tmod 2=(((n+1)%2:Nat):Int):=Zeh (n+1) 2
   have e:a ^ (n+1)=if (n+1)%2=1 then (a*a) ^ ((n+1)/2)*a else (a*a) ^ ((n+1)/2):=by
    rw [pow_sq];split
    ·rw [←Rat.pow_succ];congr 1;omega
    ·congr 1;omega
   rw [e];have h2:(n+1)%2=0∨(n+1)%2=1:=zo;have h0:((n+1:Nat):Int)≠0:=zo;have hkb:(n+1)/2≤1000000:=zo;generalize (n+1)/2=k at *;generalize (n+1)%2=z at *;generalize ((n+1:Nat):Int)=N at *;generalize (a*a) ^ k*a=u at *;generalize (a*a) ^ k=w at *;generalize a*a=b at *;clear e hs hb hd;rcases h2 with rfl | rfl
   ·rw [Zzb zo];refine pI func44 rfl ntmps44 results44 call44 ?_;(focus (refine wkax (w_4 hq hr h0 hkb) w_t w_t w_t (w_2 c1 c2) w_t w_y (w_r 0) ?_;(repeat' first|exact w_t|apply w_l);all_goals intros))
    (all_goals (try simp (disch:=omega) only [go_sem,Zzf,Zzd,Zzc,Zzb,Int.reduceAdd,Int.reduceSub,Int.reduceToNat,Zzh]));(all_goals first|done|rfl|(congr 2;first|done|omega|(rw [Zzz];simp only [bool_to_prop,Zzr,ZAa,ZAb,ZAc,ZAd];omega))|skip)
   ·rw [Zzc rfl];refine pI func44 rfl ntmps44 results44 call44 ?_;(focus (refine wkax (w_4 hq hr h0 hkb) w_t w_t w_t (w_3 c1 c2 c3) w_t w_y (w_r 0) ?_;(repeat' first|exact w_t|apply w_l);all_goals intros))
    (all_goals (try simp (disch:=omega) only [go_sem,Zzf,Zzd,Zzc,Zzb,Int.reduceAdd,Int.reduceSub,Int.reduceToNat,Zzh]));(all_goals first|done|rfl|(congr 2;first|done|omega|(rw [Zzz];simp only [bool_to_prop,Zzr,ZAa,ZAb,ZAc,ZAd];omega))|skip)
attribute [go_sem] underlying31
abbrev rqC (q:Rat):List AV:=[.v (.bool (decide (q.num < 0))),lim (toL q.num.natAbs),lim (toL q.den)]
theorem rpEval (p:Po) (xs:List Rat) {k x0 s K:Nat} (hp:PK p k x0) (hx:∀j,j < xs.length→Sz (xs.getD j 0) s) (he:x0*s≤19000000000) (he2:x0≤1000000) (hk:k≤1000000) (hs:1≤s) (lp:p.length≤1000000) (lx:xs.length≤1000000)
 (hl:∀t∈p,t.2.length≤xs.length) (hm:∀t∈p,∀n,n≤t.2.length→Sz (t.1*mvN (λj=>xs.getD j 0) t.2 n) K)
 (hsum:∀i,i≤p.length→Sz (evP (λj=>xs.getD j 0) (p.take i)) K) (hK:K≤19900000000) :
 Pure prog 13 [poA p,.sl 3 (xs.map ratQ)] (.tup [ratQ (evP (λj=>xs.getD j 0) p),iv 0]):=by
 have hlp:(p.map tmA).length=p.length:=Zzg ..;have hlx:(xs.map ratQ).length=xs.length:=Zzg ..;have hgp:∀i (h:i < p.length),(p.map tmA).getD i .u=tmA p[i]:=λi h=>Zaj tmA h;have hgx:∀i,i < xs.length→(xs.map ratQ).getD i .u=ratQ (xs.getD i 0):=λi h=>by rw [Zaj ratQ h,Zzo,Zzn h];rfl
 have c0:Pure prog 42 [iv 0] (ratQ 0):=qOf 0 zo;have hsz:∀i (h:i < p.length),Sz p[i].1 k:=λi h=>(hp _ (Zzt h)).1;have htk:∀i (h:i < p.length),evP (λj=>xs.getD j 0) (p.take (i+1))=evP (λj=>xs.getD j 0) (p.take i)+p[i].1*mv (λj=>xs.getD j 0) p[i].2:=λi h=>by
  rw [ZB7 h,show evP (λj=>xs.getD j 0) (p.take i++[p[i]])=_ from evl_app _ _ _];congr 1;show p[i].1*_+0=_;rw [ZB3]
 have hev:evP (λj=>xs.getD j 0) p=evP (λj=>xs.getD j 0) (p.take p.length):=by rw [ZAe]
 rw [hev];generalize hS:(λi=>evP (λj=>xs.getD j 0) (p.take i))=S at *;have hS0:S 0=0:=by rw [←hS];rfl
 have hSi:∀i,evP (λj=>xs.getD j 0) (p.take i)=S i:=λi=>by rw [←hS]
 simp only [hSi] at htk hsum ⊢;clear hev;show Pure _ _ [.sl 4 (p.map tmA),.sl 3 (xs.map ratQ)] _;generalize p.map tmA=L at *;generalize hX:xs.map ratQ=X at *;refine pI func13 rfl ntmps13 results13 call13 ?_;(focus (refine wkad w_t (w_1 c0) w_t ?_;(repeat' first|exact w_t|apply w_l);all_goals intros));rename_i g4 g6;refine Zab (ι:=Nat) (λi e m=>i≤p.length∧e 0=.sl 4 L∧e 1=.sl 3 X∧e 4=.pbox 4 g4 0∧e 6=.pbox 6 g6 0∧m 6=some (.box g6 59 (rqC 0) false)∧(∃c4,m 4=some (.box g4 59 c4 false)∧c4.length=3)∧e 7=iv i) (λi=>p.length - i) 0 zr ?_ ?_
 ·rintro i e m ⟨hi,e0,e1,e4,e6,m6,⟨c4,m4,hc4⟩,e7⟩
  by_cases hlt:i < p.length
  ·have hg:=hgp i hlt;have hle:=hl _ (Zzt hlt);have hlm:(p[i].2.map iv).length=p[i].2.length:=Zzg ..;generalize p[i]=t at *;obtain⟨q,mn⟩:=t;simp only at hle hlm;have hg:L.getD i .u=.agg [.v (.bool (decide (q.num < 0))),lim (toL q.num.natAbs),lim (toL q.den),.sl 1 (mn.map iv)]:=hg;generalize mn.map iv=MN at *;(focus (refine wkad (w_12 e0 e1 e4 e6 e7 m6 m4 hlp hlx hg hlm hle) w_t w_t ?_;(repeat' first|exact w_t|apply w_l);all_goals intros));exact⟨i+1,⟨zo,gW e0,gW e1,gW e4,gW e6,gW m6,⟨c4,gW m4,hc4⟩,gS⟩,zo⟩
  ·(focus (refine wkad (w_9 e0 e1 e4 e6 e7 m6 m4 hlp hlx) w_t w_t ?_;(repeat' first|exact w_t|apply w_l);all_goals intros));refine Zab (ι:=Nat) (λi e m=>i≤p.length∧e 0=.sl 4 L∧e 1=.sl 3 X∧e 4=.pbox 4 g4 0∧e 6=.pbox 6 g6 0∧m 6=some (.box g6 59 (rqC (S i)) false)∧(∃c4,m 4=some (.box g4 59 c4 false)∧c4.length=3)∧e 8=iv i) (λi=>p.length - i) 0 zr ?_ ?_
   ·rintro i e m ⟨hi,e0,e1,e4,e6,m6,⟨c4,m4,hc4⟩,e8⟩
    by_cases hlt:i < p.length
    ·have hg:=hgp i hlt;have hle:=hl _ (Zzt hlt);have hlm:(p[i].2.map iv).length=p[i].2.length:=Zzg ..;have hgm:∀j (h:j < p[i].2.length),(p[i].2.map iv).getD j .u=iv p[i].2[j]:=λj h=>Zaj iv h;have hmi:=hm _ (Zzt hlt);have hpi:=hp _ (Zzt hlt);have cA:=qAdd (S i) (p[i].1*mv (λj=>xs.getD j 0) p[i].2) (hsum i zo) (hmi _ (Zze _)) zo zo;rw [←htk i hlt] at cA;generalize p[i]=t at *;obtain⟨q,mn⟩:=t;simp only at hle hlm hgm hmi hpi cA;have hg:L.getD i .u=.agg [.v (.bool (decide (q.num < 0))),lim (toL q.num.natAbs),lim (toL q.den),.sl 1 (mn.map iv)]:=hg
     unfold mv at cA;generalize hMN:mn.map iv=MN at *;(focus (refine wkad (w_12 e0 e1 e4 e6 e8 m6 m4 hlp hlx hg hlm hle) w_t w_t ?_;(repeat' first|exact w_t|apply w_l);all_goals intros));rename_i g9;refine Zab (ι:=Nat) (λv e m=>v≤mn.length∧e 0=.sl 4 L∧e 1=.sl 3 X∧e 4=.pbox 4 g4 0∧e 6=.pbox 6 g6 0∧m 6=some (.box g6 59 (rqC (S i)) false)∧m 4=some (.box g4 59 c4 false)∧e 8=iv i∧e 9=.pbox 9 g9 0∧m 9=some (.box g9 59 (rqC (q*mvN (λj=>xs.getD j 0) mn v)) false)∧e 10=iv v) (λv=>mn.length - v) 0 zr ?_ ?_
     ·rintro v e m ⟨hv,e0,e1,e4,e6,m6,m4,e8,e9,m9,e10⟩
      by_cases hvl:v < mn.length
      ·have hgx2:=hgx v zo;have hgm2:=hgm v hvl;have hex:=hpi.2.2 v;rw [Ze5 hvl] at hex;have hxs:=hx v zo;have hms:=hmi v hv
       have hstep:q*mvN (λj=>xs.getD j 0) mn (v+1)=q*mvN (λj=>xs.getD j 0) mn v*xs.getD v 0 ^ (mn[v]).toNat:=by
        show q*(mvN (λj=>xs.getD j 0) mn v*xs.getD v 0 ^ (gI mn v).toNat)=_;rw [Ze5 hvl,Rat.mul_assoc]
       generalize xs.getD v 0=x at *;generalize mn[v]=z at *;obtain⟨n,rfl⟩:∃n:Nat,z=n:=⟨z.toNat,zo⟩;have hns:n*s≤x0*s:=Zz7 _ zo;have cP:=rpPow n n (Zze _) zo x s hxs zo;have cM:=qMul (q*mvN (λj=>xs.getD j 0) mn v) (x ^ n) hms (Zww hxs n) zo zo;rw [ZAo] at hstep;generalize q*mvN (λj=>xs.getD j 0) mn v*x ^ n=b at *;generalize q*mvN (λj=>xs.getD j 0) mn v=a at *;generalize x ^ n=w at *;(focus (refine wkad (w_16 e0 e1 e4 e6 e8 e9 e10 m6 m4 m9 hlp hlx hg hlm hgx2 hgm2) (w_2 cP cM) (w_1 (w_d 14 [(13,ratQ w),(14,ratQ b)] [15] [])) ?_;(repeat' first|exact w_t|apply w_l);all_goals intros))
       exact⟨v+1,⟨zo,gW e0,gW e1,gW e4,gW e6,gW m6,gW m4,gW e8,gW e9,by(rw [hstep];exact gC),gS⟩,zo⟩
      ·have hvv:v=mn.length:=zo;subst hvv;(focus (refine wkad (w_14 e0 e1 e4 e6 e8 e9 e10 m6 m4 m9 hlp hlx hg hlm) (w_1 cA) w_t ?_;(repeat' first|exact w_t|apply w_l);all_goals intros));exact⟨i+1,⟨zo,gW e0,gW e1,gW e4,gW e6,gC,⟨c4,gW m4,hc4⟩,gS⟩,zo⟩
     ·exact⟨Zzp _,gW e0,gW e1,gW e4,gW e6,gW m6,gW m4,gW e8,gC,by(rw [show q*mvN (λj=>xs.getD j 0) mn 0=q from ZCh _];exact gC),gC⟩
    ·obtain rfl:i=p.length:=zo
     obtain⟨a1,a2,a3,rfl⟩:∃a1 a2 a3,c4=[a1,a2,a3]:=by
      match c4,hc4 with
      | [a1,a2,a3],_=>exact⟨a1,a2,a3,rfl⟩
     (focus (refine wkld (w_9 e0 e1 e4 e6 e8 m6 m4 hlp hlx) w_t (w_1 e4) w_t ?_;(repeat' first|exact w_t|apply w_l);all_goals intros))
   ·exact⟨Zzp _,gW e0,gW e1,gW e4,gW e6,by(rw [hS0];exact gW m6),⟨c4,gW m4,hc4⟩,gC⟩
 ·exact⟨Zzp _,gC,gC,gC,gC,gC,⟨_,gC,rfl⟩,gC⟩
def Zgf (a b:PQ) (r:Rat):PQ:=(a.1+r*(b.1 - a.1),a.2+r*(b.2 - a.2))
def Zjt (p a b:PQ):PQ:=(p.1+1*(b.1 - a.1),p.2+1*(b.2 - a.2))
def Zod (p a b:PQ):PQ:=(p.1+1*-(b.2 - a.2),p.2+1*(b.1 - a.1))
theorem Zdg (a1 a2 s u1 u2:Rat) {j:Nat} (h1:Sz a1 j) (h2:Sz a2 j) (hs:Sz s j) (h3:Sz u1 j) (h4:Sz u2 j) (hj:j≤10000000000):Pure prog 139 [ptQ a1 a2,ratQ s,ptQ u1 u2] (ptQ (a1+s*u1) (a2+s*u2)):=by
 have c1:=qMul s u1 hs h3 zo zo;have c2:=qAdd a1 (s*u1) h1 (hs.mul h3) zo zo;have c3:=qMul s u2 hs h4 zo zo;have c4:=qAdd a2 (s*u2) h2 (hs.mul h4) zo zo;generalize a1+s*u1=x at *;generalize s*u1=y at *;generalize a2+s*u2=z at *;generalize s*u2=w at *;refine pI func139 rfl ntmps139 results139 call139 ?_;(focus (refine wkad w_t (w_4 c1 c2 c3 c4) (w_1 (w_d 1 [(5,ratQ y),(6,ratQ x),(12,ratQ w),(13,ratQ z)] [] [6])) ?_;(repeat' first|exact w_t|apply w_l);all_goals intros));simp (disch:=omega) only [go_sem]
theorem Zox (a b:PQ) (r:Rat) {j:Nat} (ha:a.sz j) (hb:b.sz j) (hr:Sz r j) (hj:j≤1000000000):Pure prog 74 [a.av,b.av,ratQ r] (Zgf a b r).av:=by
 have c1:=Zee a.1 a.2 b.1 b.2 ha.1 ha.2 hb.1 hb.2 zo;have c2:=Zdg a.1 a.2 r (b.1 - a.1) (b.2 - a.2) (j:=2*j+1) (ha.1.mono zo) (ha.2.mono zo) (hr.mono zo) ((hb.1.sub ha.1).mono zo) ((hb.2.sub ha.2).mono zo) zo;unfold Zgf;obtain⟨a1,a2⟩:=a;obtain⟨b1,b2⟩:=b;simp only at *;generalize a1+r*(b1 - a1)=x at *;generalize a2+r*(b2 - a2)=y at *;generalize b1 - a1=u at *;generalize b2 - a2=v at *;refine pI func74 rfl ntmps74 results74 call74 ?_;(focus (refine wkad w_t (w_2 c1 c2) (w_1 (w_d 1 [(4,ptQ u v),(5,ptQ x y)] [] [6])) ?_;(repeat' first|exact w_t|apply w_l);all_goals intros))
 simp (disch:=omega) only [go_sem]
theorem r13Shift (p a b:PQ) {j:Nat} (hp:p.sz j) (ha:a.sz j) (hb:b.sz j) (hj:j≤1000000000):Pure prog 79 [p.av,a.av,b.av] (Zjt p a b).av:=by
 have c0:Pure prog 42 [iv 1] (ratQ 1):=qOf 1 zo;have c1:=Zee a.1 a.2 b.1 b.2 ha.1 ha.2 hb.1 hb.2 zo;have c2:=Zdg p.1 p.2 1 (b.1 - a.1) (b.2 - a.2) (j:=2*j+1) (hp.1.mono zo) (hp.2.mono zo) ((Zco 1 zo).mono zo) ((hb.1.sub ha.1).mono zo) ((hb.2.sub ha.2).mono zo) zo;unfold Zjt;obtain⟨p1,p2⟩:=p;obtain⟨a1,a2⟩:=a;obtain⟨b1,b2⟩:=b;simp only at *;generalize p1+1*(b1 - a1)=x at *;generalize p2+1*(b2 - a2)=y at *;generalize b1 - a1=u at *;generalize b2 - a2=v at *;generalize (1:Rat)=o at *;refine pI func79 rfl ntmps79 results79 call79 ?_;(focus (refine wkad w_t (w_3 c0 c1 c2) (w_1 (w_d 1 [(1,ratQ o),(4,ptQ u v),(5,ptQ x y)] [] [6])) ?_;(repeat' first|exact w_t|apply w_l);all_goals intros))
 simp (disch:=omega) only [go_sem]
theorem Zow (u v:Rat) {j:Nat} (hv:Sz v j) (hj:j≤10000000000):Pure prog 147 [ptQ u v] (ptQ (-v) u):=by
 have c:=qNeg v hv zo;generalize -v=w at *;refine pI func147 rfl ntmps147 results147 call147 ?_;(focus (refine wkad w_t (w_1 c) (w_1 (w_d 1 [(2,ratQ w)] [] [2])) ?_;(repeat' first|exact w_t|apply w_l);all_goals intros));simp (disch:=omega) only [go_sem]
theorem r13Turn (p a b:PQ) {j:Nat} (hp:p.sz j) (ha:a.sz j) (hb:b.sz j) (hj:j≤1000000000):Pure prog 80 [p.av,a.av,b.av] (Zod p a b).av:=by
 have c0:Pure prog 42 [iv 1] (ratQ 1):=qOf 1 zo;have c1:=Zee a.1 a.2 b.1 b.2 ha.1 ha.2 hb.1 hb.2 zo;have c3:=Zow (b.1 - a.1) (b.2 - a.2) (hb.2.sub ha.2) zo;have c2:=Zdg p.1 p.2 1 (-(b.2 - a.2)) (b.1 - a.1) (j:=2*j+1) (hp.1.mono zo) (hp.2.mono zo) ((Zco 1 zo).mono zo) ((hb.2.sub ha.2).neg.mono zo) ((hb.1.sub ha.1).mono zo) zo;unfold Zod;obtain⟨p1,p2⟩:=p;obtain⟨a1,a2⟩:=a;obtain⟨b1,b2⟩:=b;simp only at *;generalize p1+1*-(b2 - a2)=x at *;generalize p2+1*(b1 - a1)=y at *;generalize b1 - a1=u at *;generalize -(b2 - a2)=w at *;generalize b2 - a2=v at *;generalize (1:Rat)=o at *
 refine pI func80 rfl ntmps80 results80 call80 ?_;(focus (refine wkad w_t (w_4 c0 c1 c3 c2) (w_1 (w_d 1 [(1,ratQ o),(4,ptQ u v),(5,ptQ w u),(6,ptQ x y)] [] [6])) ?_;(repeat' first|exact w_t|apply w_l);all_goals intros));simp (disch:=omega) only [go_sem]
theorem Sub.tup2 {a b a' b':AV} (h:Sub a a') (k:Sub b b'):Sub (.tup [a,b]) (.tup [a',b']):=Sub.tup _ _ rfl λj x y h1 h2=>by
 match j with
 | 0=>simp at h1 h2;subst h1;subst h2;exact h
 | 1=>simp at h1 h2;subst h1;subst h2;exact k
 | j+2=>simp at h1
theorem Agr.re {m σ:Mem} {t k:Nat} {e1 e e':Ent} (h:Agr m (upd σ k (some e1))) (ht:t=k+1000) (he:e'=e.sh):Agr (upd m t (some e')) (upd σ k (some e)):=by
 have:=h.put (k:=k) (e:=e) ht he
 rwa [upd_over] at this
theorem Sub.frame (KC KV KC' KV':Nat) (svC svV:Value):Sub (.agg [.own KC svC,.own KV svV]) (.agg [.own KC' svC,.own KV' svV]):=Sub.agg2 (Sub.own _ _ _) (Sub.own _ _ _)
theorem Zih (σ:Mem) (KC KV:Nat) (svC svV:Value) (vs:List Vt) (kind step number:Int) (hV:σ KV=some (.row svV 106 3 (vs.map Vt.av) 0)) (hl:vs.length≤200) :
 ACall prog 90 [.agg [.own KC svC,.own KV svV],iv kind,iv step,iv number] σ λr σ'=>∃sv,r=.tup [.agg [.own KC svC,.own KV sv],poA (varM vs.length)]∧σ'=upd σ KV (some (.row sv 106 3 ((vs++[(kind,step,number)]).map Vt.av) 0)):=by
 have mV:=Zai hV;have cv:=rpVar vs.length zo;have hln:(vs.map Vt.av).length=vs.length:=Zzg ..;have hm1:((vs.length+1:Nat):Int) - 1=(vs.length:Int):=zo;simp only [Ent.sh,AV.shL,AV.sh] at mV;simp only [Zzw,Zz3,Zz1];refine Zaq func90 rfl ntmps90 results90 call90 zr zs ?_;(focus (refine wkad (w_6 mV hln hm1 @l_app @Zan @Zav) (w_1 cv) (w_1 (w_d 2 [(5,poA (varM vs.length))] [] [8])) ?_;(repeat' first|exact w_t|apply w_l);all_goals intros));simp (disch:=omega) only [go_sem];rename_i sv1;refine Zd1 (Sub.tup2 (Sub.frame _ _ _ _ _ _) (Sub.refl _)) ⟨sv1,rfl,rfl⟩ ?_
 (repeat (refine Agr.own ?_ zo))
 refine Agr.put ?_ rfl rfl
 (repeat' (first|exact Agr.start _|(refine Agr.own ?_ zo)))
theorem rcFree (σ:Mem) (KC KV:Nat) (svC svV:Value) (vs:List Vt) (i fr:Nat) (hV:σ KV=some (.row svV 106 3 (vs.map Vt.av) 0)) (hl:vs.length≤100) (hf:fr≤1000) :
 ACall prog 86 [.agg [.own KC svC,.own KV svV],iv i,iv fr] σ λr σ'=>∃sv,r=.tup [.agg [.own KC svC,.own KV sv],coA (if fr=0 then ([],[]) else if fr=1 then (varM vs.length,[]) else (varM vs.length,varM (vs.length+1)))] ∧
  σ'=upd σ KV (some (.row sv 106 3 ((vs++(if fr=0 then [] else if fr=1 then [(1,(i:Int),0)] else [(1,(i:Int),0),(1,(i:Int),1)])).map Vt.av) 0)):=by
 have mV:=Zai hV;simp only [Ent.sh,AV.shL,AV.sh] at mV;by_cases h0:fr=0
 ·subst h0;simp only [ZAj,ZA6];refine Zaq func86 rfl ntmps86 results86 call86 zr zs ?_;(focus (refine wkad (w_1 mV) w_t (w_1 (w_d 6 [] [] [6,7])) ?_;(repeat' first|exact w_t|apply w_l);all_goals intros));simp (disch:=omega) only [go_sem];refine Zd1 (Sub.tup2 (Sub.frame _ _ _ _ _ _) (Sub.agg2 (Sub.nil 4) (Sub.nil 4))) ⟨svV,rfl,rfl⟩ ?_;rw [Zcx hV]
  (repeat' (first|exact Agr.start _|(refine Agr.own ?_ zo)))
 ·by_cases h1:fr=1
  ·subst h1;simp only [Zzb h0,ZAj];refine Zaq func86 rfl ntmps86 results86 call86 zr zs ?_;(focus (refine wkad (w_1 mV) w_t w_t ?_;(repeat' first|exact w_t|apply w_l);all_goals intros));refine Zce (Zih _ (KC+1000) (KV+1000) svC svV vs 1 (i:Int) 0 (by(simp (disch:=omega) only [go_sem,mV,Zzb,Zzc,Zzw,Zz3,Zz1]<;>repeat' first|rfl|refine⟨?_,?_⟩)) (by first|omega|(simp;omega))) ?_;intro sv1;(focus (refine wkad (w_1 mV) w_t (w_1 (w_d 6 [] [] [6,7])) ?_;(repeat' first|exact w_t|apply w_l);all_goals intros));simp (disch:=omega) only [go_sem]
   refine Zd1 (Sub.tup2 (Sub.frame _ _ _ _ _ _) (Sub.agg2 (Sub.refl _) (Sub.nil 4))) ⟨sv1,rfl,rfl⟩ ?_;simp only [Zzw,Zz3,Zz1]
   (repeat (refine Agr.own ?_ zo))
   refine Agr.put ?_ rfl rfl
   (repeat' (first|exact Agr.start _|(refine Agr.own ?_ zo)))
  ·simp only [Zzb h0,Zzb h1];have hl1:(vs++[((1:Int),(i:Int),(0:Int))]).length=vs.length+1:=by simp
   refine Zaq func86 rfl ntmps86 results86 call86 zr zs ?_;(focus (refine wkad (w_1 mV) w_t w_t ?_;(repeat' first|exact w_t|apply w_l);all_goals intros));refine Zce (Zih _ (KC+1000) (KV+1000) svC svV vs 1 (i:Int) 0 (by(simp (disch:=omega) only [go_sem,mV,Zzb,Zzc,Zzw,Zz3,Zz1]<;>repeat' first|rfl|refine⟨?_,?_⟩)) (by first|omega|(simp;omega))) ?_;intro sv1;(focus (refine wkad (w_1 mV) w_t w_t ?_;(repeat' first|exact w_t|apply w_l);all_goals intros));refine Zce (Zih _ (KC+1000) (KV+1000) svC sv1 (vs++[(1,(i:Int),0)]) 1 (i:Int) 1 (by(simp (disch:=omega) only [go_sem,mV,Zzb,Zzc,Zzw,Zz3,Zz1]<;>repeat' first|rfl|refine⟨?_,?_⟩)) (by first|omega|(simp;omega))) ?_
   intro sv2;(focus (refine wkad (w_2 mV hl1) w_t (w_1 (w_d 6 [] [] [6,7])) ?_;(repeat' first|exact w_t|apply w_l);all_goals intros));simp (disch:=omega) only [go_sem,hl1];refine Zd1 (Sub.tup2 (Sub.frame _ _ _ _ _ _) (Sub.refl _)) ⟨sv2,rfl,rfl⟩ ?_;simp only [ZAk,ZB2,ZCm]
   (repeat (refine Agr.own ?_ zo))
   refine Agr.re (e1:=.row sv1 106 3 ((vs++[(1,(i:Int),0)]).map Vt.av) 0) ?_ rfl rfl
   (repeat (refine Agr.own ?_ zo))
   refine Agr.put ?_ rfl rfl
   (repeat' (first|exact Agr.start _|(refine Agr.own ?_ zo)))
theorem rcDep (σ:Mem) (KC KV:Nat) (svC svV:Value) (vs:List Vt) (i:Nat) (num:Int) (hV:σ KV=some (.row svV 106 3 (vs.map Vt.av) 0)) (hl:vs.length≤100) (hn:0≤num∧num≤10) :
 ACall prog 91 [.agg [.own KC svC,.own KV svV],iv i,iv num] σ λr σ'=>∃sv,r=.tup [.agg [.own KC svC,.own KV sv],coA (varM vs.length,varM (vs.length+1))] ∧
  σ'=upd σ KV (some (.row sv 106 3 ((vs++[(2,(i:Int),num),(2,(i:Int),num+1)]).map Vt.av) 0)):=by
 have mV:=Zai hV;simp only [Ent.sh,AV.shL,AV.sh] at mV;have hl1:(vs++[((2:Int),(i:Int),num)]).length=vs.length+1:=by simp
 refine Zaq func91 rfl ntmps91 results91 call91 zr zs ?_;(focus (refine wkad (w_1 mV) w_t w_t ?_;(repeat' first|exact w_t|apply w_l);all_goals intros));refine Zce (Zih _ (KC+1000) (KV+1000) svC svV vs 2 (i:Int) num (by(simp (disch:=omega) only [go_sem,mV,Zzb,Zzc,Zzw,Zz3,Zz1]<;>repeat' first|rfl|refine⟨?_,?_⟩)) (by first|omega|(simp;omega))) ?_;intro sv1;(focus (refine wkad (w_1 mV) w_t w_t ?_;(repeat' first|exact w_t|apply w_l);all_goals intros));refine Zce (Zih _ (KC+1000) (KV+1000) svC sv1 (vs++[(2,(i:Int),num)]) 2 (i:Int) (num+1) (by(simp (disch:=omega) only [go_sem,mV,Zzb,Zzc,Zzw,Zz3,Zz1]<;>repeat' first|rfl|refine⟨?_,?_⟩)) (by first|omega|(simp;omega))) ?_
 intro sv2;(focus (refine wkad (w_2 mV hl1) w_t (w_1 (w_d 4 [] [] [6,7])) ?_;(repeat' first|exact w_t|apply w_l);all_goals intros));simp (disch:=omega) only [go_sem,hl1];refine Zd1 (Sub.tup2 (Sub.frame _ _ _ _ _ _) (Sub.refl _)) ⟨sv2,rfl,rfl⟩ ?_;simp only [ZAk,ZB2,ZCm]
 (repeat (refine Agr.own ?_ zo))
 refine Agr.re (e1:=.row sv1 106 3 ((vs++[(2,(i:Int),num)]).map Vt.av) 0) ?_ rfl rfl
 (repeat (refine Agr.own ?_ zo))
 refine Agr.put ?_ rfl rfl
 (repeat' (first|exact Agr.start _|(refine Agr.own ?_ zo)))
theorem Zwj (a b:Po × Po) (m d1 d2 e1 e2 f1 f2:Po) (s1:Pure prog 27 [poA b.1,poA a.1] (poA d1)) (s2:Pure prog 27 [poA b.2,poA a.2] (poA d2))
 (m1:Pure prog 24 [poA m,poA d1] (poA e1)) (m2:Pure prog 24 [poA m,poA d2] (poA e2)) (a1:Pure prog 67 [poA a.1,poA e1] (poA f1)) (a2:Pure prog 67 [poA a.2,poA e2] (poA f2)) :
 Pure prog 87 [coA a,coA b,poA m] (coA (f1,f2)):=by
 obtain⟨x1,x2⟩:=a;obtain⟨y1,y2⟩:=b;simp only at *;refine pI func87 rfl ntmps87 results87 call87 ?_;(focus (refine wkld w_t (w_6 s1 s2 m1 m2 a1 a2) w_t (w_1 (w_d 1 [(7,poA d1),(8,poA e1),(9,poA f1),(17,poA d2),(18,poA e2),(19,poA f2)] [] [6])) ?_;(repeat' first|exact w_t|apply w_l);all_goals intros))
theorem rcPlus (p q r d f:Po) (s:Pure prog 27 [poA q,poA r] (poA d)) (a:Pure prog 67 [poA p,poA d] (poA f)):Pure prog 89 [poA p,poA q,poA r] (poA f):=by
 refine pI func89 rfl ntmps89 results89 call89 ?_;(focus (refine wklp w_t (w_2 s a) w_t (w_r 0) ?_;(repeat' first|exact w_t|apply w_l);all_goals intros))
abbrev cstM (q:Rat):Po:=if q=0 then [] else [(q,[])]
theorem cst_pk (q:Rat) {k:Nat} (h:Sz q k):PK (cstM q) k 1:=by
 unfold cstM;split
 ·exact PK.nil
 ·intro t ht;rw [ZAs] at ht;subst ht;exact⟨h,Zzp _,λj=>by rw [Zb9 (Zzp _)];omega⟩
theorem cst_srt (q:Rat):SrtM (cstM q):=by
 unfold cstM;split
 ·exact .nil
 ·rename_i h;exact Srt.nil.cons h Zn0 zs
theorem cst_len (q:Rat):(cstM q).length≤1:=by
 unfold cstM;split<;>simp
theorem Zyq (q:Rat) {d:Po} (sd:SrtM d):mlM (cstM q) d=sclM q d:=by
 unfold sclM cstM;by_cases h:q=0
 ·rw [Zzc h,Zzc h];exact Zka d
 ·rw [Zzb h,Zzb h];exact Zpj h sd
theorem PK.take {p:Po} {k e:Nat} (h:PK p k e) (i:Nat):PK (p.take i) k e:=λt ht=>h t (ZAq ht)
theorem Zvj (v:Nat) {d:Po} (sd:SrtM d):mlM (varM v) d=mlM d (varM v):=Zix ordM mulK (Zb1 v) sd
theorem var_len (v:Nat):(varM v).length≤1:=by unfold varM;split<;>simp
theorem rcMulC (q:Rat) (d:Po) (hq:Sz q 2) (hd:PK d 221 1) (sd:SrtM d) (ld:d.length≤8000):Pure prog 24 [poA (cstM q),poA d] (poA (sclM q d)):=by
 rw [←Zyq q sd];have:=cst_len q;refine rpMul (cstM q) d (cst_pk q hq) hd (cst_srt q) sd zo zo zo zo zo zo (K:=223) (E:=1) (λi=>?_) zo zo;rw [Zyq q (Zj8 sd i)];have h1:=Zkp q (d.take i);have h2:(d.take i).length≤d.length:=by rw [Zzv];omega
 exact⟨((hd.take i).scl hq).mono zo zo,zo⟩
theorem rcMulV (v:Nat) (d:Po) (hd:PK d 221 1) (sd:SrtM d) (ld:d.length≤8000):Pure prog 24 [poA (varM v),poA d] (poA (mlM d (varM v))):=by
 rw [←Zvj v sd];have:=var_len v;refine rpMul (varM v) d (Zjb v) hd (Zb1 v) sd zo zo zo zo zo zo (K:=222) (E:=2) (λi=>?_) zo zo;rw [Zvj v (Zj8 sd i)];have h1:=Zhr (d.take i) v;have h2:(d.take i).length≤d.length:=by rw [Zzv];omega
 exact⟨(hd.take i).mulV.mono zo zo,zo⟩
theorem rcAlongS (a b:Po × Po) (q:Rat) (hq:Sz q 2) (a1:Co a.1) (a2:Co a.2) (b1:Co b.1) (b2:Co b.2):Pure prog 87 [coA a,coA b,poA (cstM q)] (coA (addM a.1 (sclM q (subM b.1 a.1)),addM a.2 (sclM q (subM b.2 a.2)))):=by
 have n1:=a1.ln;have n2:=a2.ln;have n3:=b1.ln;have n4:=b2.ln;have s1:=Zuj b.1 a.1 b1.pk a1.pk b1.st a1.st zo zo zo zo zo;have s2:=Zuj b.2 a.2 b2.pk a2.pk b2.st a2.st zo zo zo zo zo;have d1:=b1.pk.sub a1.pk;have d2:=b2.pk.sub a2.pk;have t1:=Zbw ordM b1.st a1.st;have t2:=Zbw ordM b2.st a2.st;have l1:=Zc8 b.1 a.1;have l2:=Zc8 b.2 a.2;have m1:=rcMulC q (subM b.1 a.1) hq d1 t1 zo;have m2:=rcMulC q (subM b.2 a.2) hq d2 t2 zo;have e1:=Zon a.1 (sclM q (subM b.1 a.1)) a1.pk (d1.scl hq) a1.st (Zif t1) zo (by have:=Zkp q (subM b.1 a.1);omega) zo zo zo;have e2:=Zon a.2 (sclM q (subM b.2 a.2)) a2.pk (d2.scl hq) a2.st (Zif t2) zo (by have:=Zkp q (subM b.2 a.2);omega) zo zo zo
 exact Zwj a b (cstM q) _ _ _ _ _ _ s1 s2 m1 m2 e1 e2
theorem rcAlongM (a b:Po × Po) (v:Nat) (a1:Co a.1) (a2:Co a.2) (b1:Co b.1) (b2:Co b.2):Pure prog 87 [coA a,coA b,poA (varM v)] (coA (addM a.1 (mlM (subM b.1 a.1) (varM v)),addM a.2 (mlM (subM b.2 a.2) (varM v)))):=by
 have n1:=a1.ln;have n2:=a2.ln;have n3:=b1.ln;have n4:=b2.ln;have s1:=Zuj b.1 a.1 b1.pk a1.pk b1.st a1.st zo zo zo zo zo;have s2:=Zuj b.2 a.2 b2.pk a2.pk b2.st a2.st zo zo zo zo zo;have d1:=b1.pk.sub a1.pk;have d2:=b2.pk.sub a2.pk;have t1:=Zbw ordM b1.st a1.st;have t2:=Zbw ordM b2.st a2.st;have l1:=Zc8 b.1 a.1;have l2:=Zc8 b.2 a.2;have m1:=rcMulV v (subM b.1 a.1) d1 t1 zo;have m2:=rcMulV v (subM b.2 a.2) d2 t2 zo;have e1:=Zon a.1 (mlM (subM b.1 a.1) (varM v)) (a1.pk.mono (Zze 110) (show 1≤1+1 by omega)) d1.mulV a1.st (Zam ordM mulK t1 (Zb1 v)) zo (by have:=Zhr (subM b.1 a.1) v;omega) zo zo zo
 have e2:=Zon a.2 (mlM (subM b.2 a.2) (varM v)) (a2.pk.mono (Zze 110) (show 1≤1+1 by omega)) d2.mulV a2.st (Zam ordM mulK t2 (Zb1 v)) zo (by have:=Zhr (subM b.2 a.2) v;omega) zo zo zo;exact Zwj a b (varM v) _ _ _ _ _ _ s1 s2 m1 m2 e1 e2
theorem Zm4 (p q r:Po) (hp:Co p) (hq:Co q) (hr:Co r):Pure prog 89 [poA p,poA q,poA r] (poA (addM p (subM q r))):=by
 have n1:=hp.ln;have n2:=hq.ln;have n3:=hr.ln;have l1:=Zc8 q r;have s:=Zuj q r hq.pk hr.pk hq.st hr.st zo zo zo zo zo;have a:=Zon p (subM q r) hp.pk (hq.pk.sub hr.pk) hp.st (Zbw ordM hq.st hr.st) zo zo zo zo zo;exact rcPlus p q r _ _ s a
theorem Agr.at {m σ:Mem} (h:Agr m σ) {k:Nat} {e:Ent} (hk:σ k=some e):m (k+1000)=some e.sh:=by rw [h k,hk];rfl
def ptsN (cs:List (Po × Po)) (ar:List Int):List (Po × Po):=ar.map λa=>cs.getD a.toNat ([],[])
theorem Zhp (cs:List (Po × Po)) (ar:List Int):(ptsN cs ar).length=ar.length:=by unfold ptsN;simp
theorem Zs3 {cs:List (Po × Po)} {ar:List Int} {k:Nat} (h:k < ar.length):(ptsN cs ar)[k]'(by rw [Zhp];exact h)=cs.getD (gI ar k).toNat ([],[]):=by
 unfold ptsN;rw [List.getElem_map,Ze5 h]
theorem Zh8 {cs:List (Po × Po)} {ar:List Int} {k:Nat} (h:k < ar.length):((ptsN cs ar).map coA).getD k .u=coA (cs.getD (gI ar k).toNat ([],[])):=by
 rw [Zaj coA (by rw [Zhp];exact h),Zs3 h]
theorem Zo1 {cs:List (Po × Po)} {ar:List Int} {k:Nat} (h:k < ar.length):(ptsN cs ar).take (k+1)=(ptsN cs ar).take k++[cs.getD (gI ar k).toNat ([],[])]:=by
 rw [List.take_add_one,Zzn (by rw [Zhp];exact h),Zs3 h];rfl
theorem Zt2 (k:Int):arS k≤4:=by
 unfold arS
 repeat' split
 all_goals omega
theorem rcNext (σ:Mem) (KC KV:Nat) (svC svV:Value) (cs:List (Po × Po)) (vs:List Vt) (fr i:Nat) (ss:List RS) (gs:List RG) (s:RS) (hi:i < ss.length) (hs:ss[i]=s) (hV:σ KV=some (.row svV 106 3 (vs.map Vt.av) 0)) (hC:σ KC=some (.row svC 98 2 (cs.map coA) 0)) (hVC:KV≠KC) (hl:vs.length≤64) (hf:fr≤100) (hi1:i≤1000) (hok:StOk cs s) (hco:∀c∈cs,Co c.1∧Co c.2) :
 ACall prog 32 [.agg [.own KC svC,.own KV svV],figA ss gs,iv i,iv fr] σ λr σ'=>∃sv,r=.tup [.agg [.own KC svC,.own KV sv],coA (FS.nxt ⟨cs,vs,fr⟩ i s).2] ∧
  σ'=upd σ KV (some (.row sv 106 3 ((vs++(FS.nxt ⟨cs,vs,fr⟩ i s).1).map Vt.av) 0)):=by
 have hgi:(ss.map RS.av).getD i .u=s.av:=by rw [←hs];exact Zaj RS.av hi
 have hls:(ss.map RS.av).length=ss.length:=Zzg ..;have hcl:(cs.map coA).length=cs.length:=Zzg ..;show ACall _ _ [.agg [.own KC svC,.own KV svV],.agg [.sl 6 (ss.map RS.av),.sl 5 (gs.map RG.av)],iv i,iv fr] _ _;generalize ss.map RS.av=M at *;generalize gs.map RG.av=N at *;clear hs;obtain⟨k0,nm,ar,⟨rs,rl,rd⟩⟩:=s;have hll:(ar.map iv).length=ar.length:=Zzg ..;refine Zaq func32 rfl ntmps32 results32 call32 zr zs ?_;(focus (refine wkad (w_3 hgi hls hll) w_t w_t ?_;(repeat' first|exact w_t|apply w_l);all_goals intros));rename_i g4 g5 g8 g9 g10
 refine Zf5 (Frz.nilOwn (d:=11) 37 2 98 (gC)) ?_;refine Zab (ι:=Nat) (λk e m=>k≤ar.length∧e 2=iv i∧e 3=iv fr∧e 4=.pbox 4 g4 0∧m 4=some (.box g4 40 [.own (KC+1000) svC,.own (KV+1000) svV] false)∧e 8=.pbox 8 g8 0∧m 8=some (.box g8 40 [.v (.slice none 0 0),.v (.slice none 0 0)] false)∧e 9=.pbox 9 g9 0∧m 9=some (.box g9 98 [.v (.slice none 0 0),.v (.slice none 0 0)] false)∧e 10=.pbox 10 g10 0∧m 10=some (.box g10 76 [iv k0,strA nm,ivs ar,.v (.bool rs),lim rl,lim rd] false)∧e 24=ivs ar∧e 25=iv ar.length∧e 26=iv k∧(∃sv,e 11=.own 37 sv∧m 37=some (.row sv 98 2 (((ptsN cs ar).take k).map coA) 0))∧Agr m σ) (λk=>ar.length - k) 0 zr ?_ ?_
 ·rintro k e m ⟨hk,hA2,hA3,e4,m4,e8,m8,e9,m9,e10,m10,e24,e25,e26,⟨sv,e11,m37⟩,hAg⟩
  have mV:=Agr.at hAg hV;have mC:=Agr.at hAg hC;simp only [Ent.sh,AV.shL,AV.sh] at mV mC;by_cases hlt:k < ar.length
  ·have h0:=hok.ai k hlt;simp only at h0;have hga:(ar.map iv).getD k .u=iv (gI ar k):=by rw [Zaj iv hlt,Ze5 hlt]
   have hgc:(cs.map coA).getD (gI ar k).toNat .u=coA (cs.getD (gI ar k).toNat ([],[])):=Zp4 zo;have htk:=Zo1 (cs:=cs) hlt
   have har4:ar.length≤4:=by
    have h1:(ar.length:Int)=arS k0:=hok.al;have h2:=Zt2 k0;omega
   have hL:((ptsN cs ar).take k).length≤4:=by
    have h1:(ar.length:Int)=arS k0:=hok.al;have h2:=Zt2 k0;rw [Zzv];omega
   generalize (ptsN cs ar).take k=L at *;generalize cs.getD (gI ar k).toNat ([],[])=c at *;generalize gI ar k=a at *;obtain⟨c1,c2⟩:=c;(focus (refine wkad (w_21 hA2 hA3 e4 m4 e8 m8 e9 m9 e10 m10 e11 e24 e25 e26 m37 mV mC hll hcl hga hgc) w_t w_t ?_;(repeat' first|exact w_t|apply w_l);all_goals intros));rename_i sv2;refine⟨k+1,⟨zo,by(simp (disch:=omega) only [go_sem,hA2]<;>repeat' first|rfl|refine⟨?_,?_⟩),by(simp (disch:=omega) only [go_sem,hA3]<;>repeat' first|rfl|refine⟨?_,?_⟩),gW e4,gW m4,gW e8,gW m8,gW e9,gW m9,gW e10,gW m10,gW e24,gW e25,gS,⟨_,gC,by(rw [htk,Zzw];exact gC)⟩,?_⟩,zo⟩
   (repeat' (first|exact hAg|(refine Agr.own ?_ zo)))
  ·have hkk:k=ar.length:=zo;subst hkk;rw [show(ptsN cs ar).take ar.length=ptsN cs ar from ZCa (by rw [Zhp];exact Zze _)] at m37;have hlp:((ptsN cs ar).map coA).length=ar.length:=by rw [Zzg,Zhp]
   by_cases k1:k0=1
   ·subst k1
    have en:FS.nxt ⟨cs,vs,fr⟩ i ⟨1,nm,ar,⟨rs,rl,rd⟩⟩=(if fr=0 then [] else if fr=1 then [(1,(i:Int),0)] else [(1,(i:Int),0),(1,(i:Int),1)],if fr=0 then ([],[]) else if fr=1 then (varM vs.length,[]) else (varM vs.length,varM (vs.length+1))):=by
     unfold FS.nxt;simp only [ZAj];by_cases f0:fr=0
     ·simp only [Zzc f0]
     ·by_cases f1:fr=1
      ·simp only [Zzb f0,Zzc f1]
      ·simp only [Zzb f0,Zzb f1]
    rw [en];have cF:=rcFree m (KC+1000) (KV+1000) svC svV vs i fr mV zo zo;generalize (if fr=0 then (([],[]):Po × Po) else if fr=1 then (varM vs.length,[]) else (varM vs.length,varM (vs.length+1)))=x at *;generalize (if fr=0 then ([]:List Vt) else if fr=1 then [(1,(i:Int),0)] else [(1,(i:Int),0),(1,(i:Int),1)])=nv at *;obtain⟨x1,x2⟩:=x;(focus (refine wkad (w_21 hA2 hA3 e4 m4 e8 m8 e9 m9 e10 m10 e11 e24 e25 e26 m37 mV mC hll hlp @Zan @Zav) w_t w_t ?_;(repeat' first|exact w_t|apply w_l);all_goals intros));refine Zce cF ?_;intro sv1;(focus (refine wkad (w_21 hA2 hA3 e4 m4 e8 m8 e9 m9 e10 m10 e11 e24 e25 e26 m37 mV mC hll hlp @Zan @Zav) w_t w_t ?_;(repeat' first|exact w_t|apply w_l);all_goals intros))
    simp (disch:=omega) only [go_sem,e8,e9];refine Zd1 (Sub.tup2 (Sub.frame _ _ _ _ _ _) (Sub.refl _)) ⟨sv1,rfl,rfl⟩ ?_
    (repeat (refine Agr.own ?_ zo))
    refine Agr.put ?_ rfl rfl
    (repeat' (first|exact hAg|(refine Agr.own ?_ zo)))
   ·by_cases k2:k0=2
    ·subst k2;have hal2:ar.length=2:=by have h1:(ar.length:Int)=arS 2:=hok.al;have h2:arS 2=2:=rfl;omega
     have h0:0≤gI ar 0∧gI ar 0 < (cs.length:Int):=hok.ai 0 (show 0 < ar.length by omega);obtain⟨a1,a2⟩:Co (cs.getD (gI ar 0).toNat ([],[])).1∧Co (cs.getD (gI ar 0).toNat ([],[])).2:=hco _ (Zay zo);have p0:((ptsN cs ar).map coA).getD 0 .u=coA (cs.getD (gI ar 0).toNat ([],[])):=Zh8 zo;generalize ha:cs.getD (gI ar 0).toNat ([],[])=a at *;have h1:0≤gI ar 1∧gI ar 1 < (cs.length:Int):=hok.ai 1 (show 1 < ar.length by omega);obtain⟨b1,b2⟩:Co (cs.getD (gI ar 1).toNat ([],[])).1∧Co (cs.getD (gI ar 1).toNat ([],[])).2:=hco _ (Zay zo);have p1:((ptsN cs ar).map coA).getD 1 .u=coA (cs.getD (gI ar 1).toNat ([],[])):=Zh8 zo
     generalize hb:cs.getD (gI ar 1).toNat ([],[])=b at *;have ro:=hok.r2 rfl;have zr:=(RQ.ok_av hok.rl ro).2;have re:=RQ.ok_eq hok.rl ro
     have en:FS.nxt ⟨cs,vs,fr⟩ i ⟨2,nm,ar,⟨rs,rl,rd⟩⟩=([],(addM a.1 (sclM (RQ.q ⟨rs,rl,rd⟩) (subM b.1 a.1)),addM a.2 (sclM (RQ.q ⟨rs,rl,rd⟩) (subM b.2 a.2)))):=by
      rw [←ha,←hb];rfl
     rw [en];simp only at zr re;generalize hq:RQ.q ⟨rs,rl,rd⟩=q at *;simp only [RQ.mk.injEq] at re;obtain⟨rfl,rfl,rfl⟩:=re;have al:=rcAlongS a b q zr a1 a2 b1 b2;have cc:=rpConst q zr zo;generalize addM a.1 (sclM q (subM b.1 a.1))=x1 at *;generalize addM a.2 (sclM q (subM b.2 a.2))=x2 at *;clear a1 a2 b1 b2 ha hb hok hco en;obtain⟨aa,ab⟩:=a;obtain⟨ba,bb⟩:=b;(focus (refine wkad (w_24 hA2 hA3 e4 m4 e8 m8 e9 m9 e10 m10 e11 e24 e25 e26 m37 mV mC hll hlp @Zan @Zav hal2 p0 p1) (w_2 cc al) (w_1 (w_d 12 [(9,poA (cstM q)),(10,coA (x1,x2))] [] [8,9])) ?_;(repeat' first|exact w_t|apply w_l);all_goals intros))
     simp (disch:=omega) only [go_sem,e8,e9];refine Zd1 (Sub.tup2 (Sub.frame _ _ _ _ _ _) (Sub.refl _)) ⟨svV,rfl,rfl⟩ ?_;simp only [ZA6,Zcx hV]
     (repeat' (first|exact hAg|(refine Agr.own ?_ zo)))
    ·by_cases k3:k0=3
     ·subst k3;have hal2:ar.length=3:=by have h1:(ar.length:Int)=arS 3:=hok.al;have h2:arS 3=3:=rfl;omega
      have h0:0≤gI ar 0∧gI ar 0 < (cs.length:Int):=hok.ai 0 (show 0 < ar.length by omega);obtain⟨a1,a2⟩:Co (cs.getD (gI ar 0).toNat ([],[])).1∧Co (cs.getD (gI ar 0).toNat ([],[])).2:=hco _ (Zay zo);have p0:((ptsN cs ar).map coA).getD 0 .u=coA (cs.getD (gI ar 0).toNat ([],[])):=Zh8 zo;generalize ha:cs.getD (gI ar 0).toNat ([],[])=a at *;have h1:0≤gI ar 1∧gI ar 1 < (cs.length:Int):=hok.ai 1 (show 1 < ar.length by omega);obtain⟨b1,b2⟩:Co (cs.getD (gI ar 1).toNat ([],[])).1∧Co (cs.getD (gI ar 1).toNat ([],[])).2:=hco _ (Zay zo);have p1:((ptsN cs ar).map coA).getD 1 .u=coA (cs.getD (gI ar 1).toNat ([],[])):=Zh8 zo
      generalize hb:cs.getD (gI ar 1).toNat ([],[])=b at *;have h2:0≤gI ar 2∧gI ar 2 < (cs.length:Int):=hok.ai 2 (show 2 < ar.length by omega);obtain⟨c1,c2⟩:Co (cs.getD (gI ar 2).toNat ([],[])).1∧Co (cs.getD (gI ar 2).toNat ([],[])).2:=hco _ (Zay zo);have p2:((ptsN cs ar).map coA).getD 2 .u=coA (cs.getD (gI ar 2).toNat ([],[])):=Zh8 zo;generalize hc:cs.getD (gI ar 2).toNat ([],[])=c at *
      have en:FS.nxt ⟨cs,vs,fr⟩ i ⟨3,nm,ar,⟨rs,rl,rd⟩⟩=([],(addM a.1 (subM c.1 b.1),addM a.2 (subM c.2 b.2))):=by
       rw [←ha,←hb,←hc];rfl
      rw [en];have q1:=Zm4 a.1 c.1 b.1 a1 c1 b1;have q2:=Zm4 a.2 c.2 b.2 a2 c2 b2;generalize addM a.1 (subM c.1 b.1)=x1 at *;generalize addM a.2 (subM c.2 b.2)=x2 at *;clear a1 a2 b1 b2 c1 c2 ha hb hc hok hco en;obtain⟨aa,ab⟩:=a;obtain⟨ba,bb⟩:=b;obtain⟨ca,cb⟩:=c;(focus (refine wkad (w_a hA2 (w_24 hA3 e4 m4 e8 m8 e9 m9 e10 m10 e11 e24 e25 e26 m37 mV mC hll hlp @Zan @Zav hal2 p0 p1 p2)) (w_2 q1 q2) (w_1 (w_d 14 [(13,poA x1),(26,poA x2)] [] [8,9])) ?_;(repeat' first|exact w_t|apply w_l);all_goals intros));simp (disch:=omega) only [go_sem,e8,e9];refine Zd1 (Sub.tup2 (Sub.frame _ _ _ _ _ _) (Sub.refl _)) ⟨svV,rfl,rfl⟩ ?_
      simp only [ZA6,Zcx hV]
      (repeat' (first|exact hAg|(refine Agr.own ?_ zo)))
     ·by_cases k4:k0=4
      ·subst k4;have hal2:ar.length=3:=by have h1:(ar.length:Int)=arS 4:=hok.al;have h2:arS 4=3:=rfl;omega
       have h0:0≤gI ar 0∧gI ar 0 < (cs.length:Int):=hok.ai 0 (show 0 < ar.length by omega);obtain⟨a1,a2⟩:Co (cs.getD (gI ar 0).toNat ([],[])).1∧Co (cs.getD (gI ar 0).toNat ([],[])).2:=hco _ (Zay zo);have p0:((ptsN cs ar).map coA).getD 0 .u=coA (cs.getD (gI ar 0).toNat ([],[])):=Zh8 zo;generalize ha:cs.getD (gI ar 0).toNat ([],[])=a at *;have h1:0≤gI ar 1∧gI ar 1 < (cs.length:Int):=hok.ai 1 (show 1 < ar.length by omega);obtain⟨b1,b2⟩:Co (cs.getD (gI ar 1).toNat ([],[])).1∧Co (cs.getD (gI ar 1).toNat ([],[])).2:=hco _ (Zay zo);have p1:((ptsN cs ar).map coA).getD 1 .u=coA (cs.getD (gI ar 1).toNat ([],[])):=Zh8 zo
       generalize hb:cs.getD (gI ar 1).toNat ([],[])=b at *;have h2:0≤gI ar 2∧gI ar 2 < (cs.length:Int):=hok.ai 2 (show 2 < ar.length by omega);obtain⟨c1,c2⟩:Co (cs.getD (gI ar 2).toNat ([],[])).1∧Co (cs.getD (gI ar 2).toNat ([],[])).2:=hco _ (Zay zo);have p2:((ptsN cs ar).map coA).getD 2 .u=coA (cs.getD (gI ar 2).toNat ([],[])):=Zh8 zo;generalize hc:cs.getD (gI ar 2).toNat ([],[])=c at *
       have en:FS.nxt ⟨cs,vs,fr⟩ i ⟨4,nm,ar,⟨rs,rl,rd⟩⟩=([],(addM a.1 (subM b.2 c.2),addM a.2 (subM c.1 b.1))):=by
        rw [←ha,←hb,←hc];rfl
       rw [en];have q1:=Zm4 a.1 b.2 c.2 a1 b2 c2;have q2:=Zm4 a.2 c.1 b.1 a2 c1 b1;generalize addM a.1 (subM b.2 c.2)=x1 at *;generalize addM a.2 (subM c.1 b.1)=x2 at *;clear a1 a2 b1 b2 c1 c2 ha hb hc hok hco en;obtain⟨aa,ab⟩:=a;obtain⟨ba,bb⟩:=b;obtain⟨ca,cb⟩:=c;(focus (refine wkad (w_a hA2 (w_24 hA3 e4 m4 e8 m8 e9 m9 e10 m10 e11 e24 e25 e26 m37 mV mC hll hlp @Zan @Zav hal2 p0 p1 p2)) (w_2 q1 q2) (w_1 (w_d 16 [(13,poA x1),(26,poA x2)] [] [8,9])) ?_;(repeat' first|exact w_t|apply w_l);all_goals intros));simp (disch:=omega) only [go_sem,e8,e9];refine Zd1 (Sub.tup2 (Sub.frame _ _ _ _ _ _) (Sub.refl _)) ⟨svV,rfl,rfl⟩ ?_
       simp only [ZA6,Zcx hV]
       (repeat' (first|exact hAg|(refine Agr.own ?_ zo)))
      ·by_cases k5:k0=5
       ·subst k5;have hal2:ar.length=2:=by have h1:(ar.length:Int)=arS 5:=hok.al;have h2:arS 5=2:=rfl;omega
        have h0:0≤gI ar 0∧gI ar 0 < (cs.length:Int):=hok.ai 0 (show 0 < ar.length by omega);obtain⟨a1,a2⟩:Co (cs.getD (gI ar 0).toNat ([],[])).1∧Co (cs.getD (gI ar 0).toNat ([],[])).2:=hco _ (Zay zo);have p0:((ptsN cs ar).map coA).getD 0 .u=coA (cs.getD (gI ar 0).toNat ([],[])):=Zh8 zo;generalize ha:cs.getD (gI ar 0).toNat ([],[])=a at *;have h1:0≤gI ar 1∧gI ar 1 < (cs.length:Int):=hok.ai 1 (show 1 < ar.length by omega);obtain⟨b1,b2⟩:Co (cs.getD (gI ar 1).toNat ([],[])).1∧Co (cs.getD (gI ar 1).toNat ([],[])).2:=hco _ (Zay zo);have p1:((ptsN cs ar).map coA).getD 1 .u=coA (cs.getD (gI ar 1).toNat ([],[])):=Zh8 zo
        generalize hb:cs.getD (gI ar 1).toNat ([],[])=b at *
        have en:FS.nxt ⟨cs,vs,fr⟩ i ⟨5,nm,ar,⟨rs,rl,rd⟩⟩=([(1,(i:Int),0)],(addM a.1 (mlM (subM b.1 a.1) (varM vs.length)),addM a.2 (mlM (subM b.2 a.2) (varM vs.length)))):=by
         rw [←ha,←hb];rfl
        rw [en];have al:=rcAlongM a b vs.length a1 a2 b1 b2;have cP:=Zih m (KC+1000) (KV+1000) svC svV vs 1 (i:Int) 0 mV zo;generalize addM a.1 (mlM (subM b.1 a.1) (varM vs.length))=x1 at *;generalize addM a.2 (mlM (subM b.2 a.2) (varM vs.length))=x2 at *;clear a1 a2 b1 b2 ha hb hok hco en;obtain⟨aa,ab⟩:=a;obtain⟨ba,bb⟩:=b;generalize varM vs.length=vv at *;(focus (refine wkad (w_22 hA2 hA3 e4 m4 e8 m8 e9 m9 e10 m10 e11 e24 e25 e26 m37 mV mC hll hlp @Zan @Zav hal2) w_t w_t ?_;(repeat' first|exact w_t|apply w_l);all_goals intros));refine Zce cP ?_;intro sv1;(focus (refine wkad (w_24 hA2 hA3 e4 m4 e8 m8 e9 m9 e10 m10 e11 e24 e25 e26 m37 mV mC hll hlp @Zan @Zav hal2 p0 p1) (w_1 al) (w_1 (w_d 19 [(8,coA (x1,x2))] [] [8,9])) ?_;(repeat' first|exact w_t|apply w_l);all_goals intros))
        simp (disch:=omega) only [go_sem,e8,e9];refine Zd1 (Sub.tup2 (Sub.frame _ _ _ _ _ _) (Sub.refl _)) ⟨sv1,rfl,rfl⟩ ?_
        (repeat (refine Agr.own ?_ zo))
        refine Agr.put ?_ rfl rfl
        (repeat' (first|exact hAg|(refine Agr.own ?_ zo)))
       ·by_cases k6:k0=6
        ·subst k6;have en:FS.nxt ⟨cs,vs,fr⟩ i ⟨6,nm,ar,⟨rs,rl,rd⟩⟩=([(1,(i:Int),0),(2,(i:Int),1),(2,(i:Int),2)],(varM (vs.length+1),varM (vs.length+2))):=rfl;rw [en];have hl1:(vs++[((1:Int),(i:Int),(0:Int))]).length=vs.length+1:=by simp
         have cP:=Zih m (KC+1000) (KV+1000) svC svV vs 1 (i:Int) 0 mV zo;(focus (refine wkad (w_21 hA2 hA3 e4 m4 e8 m8 e9 m9 e10 m10 e11 e24 e25 e26 m37 mV mC hll hlp @Zan @Zav) w_t w_t ?_;(repeat' first|exact w_t|apply w_l);all_goals intros));refine Zce cP ?_;intro sv1;(focus (refine wkad (w_21 hA2 hA3 e4 m4 e8 m8 e9 m9 e10 m10 e11 e24 e25 e26 m37 mV mC hll hlp @Zan @Zav) w_t w_t ?_;(repeat' first|exact w_t|apply w_l);all_goals intros));refine Zce (rcDep _ (KC+1000) (KV+1000) svC sv1 (vs++[(1,(i:Int),0)]) i 1 (by(simp (disch:=omega) only [go_sem,mV,Zzb,Zzc,Zzw,Zz3,Zz1]<;>repeat' first|rfl|refine⟨?_,?_⟩)) (by first|omega|(simp;omega)) zo) ?_
         intro sv2;(focus (refine wkad (w_22 hA2 hA3 e4 m4 e8 m8 e9 m9 e10 m10 e11 e24 e25 e26 m37 mV mC hll hlp @Zan @Zav hl1) w_t w_t ?_;(repeat' first|exact w_t|apply w_l);all_goals intros));simp (disch:=omega) only [go_sem,hl1,e8,e9];refine Zd1 (Sub.tup2 (Sub.frame _ _ _ _ _ _) (Sub.refl _)) ⟨sv2,rfl,rfl⟩ ?_;simp only [ZAk,ZB2,ZCm]
         (repeat (refine Agr.own ?_ zo))
         refine Agr.re (e1:=.row sv1 106 3 ((vs++[(1,(i:Int),0)]).map Vt.av) 0) ?_ rfl rfl
         (repeat (refine Agr.own ?_ zo))
         refine Agr.put ?_ rfl rfl
         (repeat' (first|exact hAg|(refine Agr.own ?_ zo)))
        ·have en:FS.nxt ⟨cs,vs,fr⟩ i ⟨k0,nm,ar,⟨rs,rl,rd⟩⟩=([(2,(i:Int),0),(2,(i:Int),1)],(varM vs.length,varM (vs.length+1))):=by
          unfold FS.nxt;simp only [Zzb k1,Zzb k2,Zzb k3,Zzb k4,Zzb k5,Zzb k6]
         rw [en];have cD:=rcDep m (KC+1000) (KV+1000) svC svV vs i 0 mV zo zo;(focus (refine wkad (w_21 hA2 hA3 e4 m4 e8 m8 e9 m9 e10 m10 e11 e24 e25 e26 m37 mV mC hll hlp @Zan @Zav) w_t w_t ?_;(repeat' first|exact w_t|apply w_l);all_goals intros));refine Zce cD ?_;intro sv1;(focus (refine wkad (w_21 hA2 hA3 e4 m4 e8 m8 e9 m9 e10 m10 e11 e24 e25 e26 m37 mV mC hll hlp @Zan @Zav) w_t w_t ?_;(repeat' first|exact w_t|apply w_l);all_goals intros));simp (disch:=omega) only [go_sem,e8,e9];refine Zd1 (Sub.tup2 (Sub.frame _ _ _ _ _ _) (Sub.refl _)) ⟨sv1,rfl,rfl⟩ ?_
         (repeat (refine Agr.own ?_ zo))
         refine Agr.put ?_ rfl rfl
         (repeat' (first|exact hAg|(refine Agr.own ?_ zo)))
 ·refine⟨Zzp _,gC,gC,gC,gC,gC,gC,gC,gC,gC,gC,gC,gW hll,gC,⟨_,gC,by(simp (disch:=omega) only [go_sem,ZB6,Zz1]<;>repeat' first|rfl|refine⟨?_,?_⟩)⟩,?_⟩
  (repeat' (first|exact Agr.start _|(refine Agr.own ?_ zo)))
theorem rcFrame1 (ss:List RS) (gs:List RG) (cR:Pure prog 19 [figA ss gs] (iv 0)) (ho:FigOk ss) :
 Pure prog 9 [figA ss gs] (if (List.range ss.length).any (bigN ss)=true then .tup [.agg [.v (.slice none 0 0),.v (.slice none 0 0)],iv 4] else .tup [frmA (frN ss ss.length).cs (frN ss ss.length).vs,iv 0]):=by
 have cR:Pure prog 19 [.agg [.sl 6 (ss.map RS.av),.sl 5 (gs.map RG.av)]] (iv 0):=cR;show Pure _ _ [.agg [.sl 6 (ss.map RS.av),.sl 5 (gs.map RG.av)]] _;have hg:∀i (h:i < ss.length),(ss.map RS.av).getD i .u=ss[i].av:=λi h=>Zaj RS.av h;have hls:(ss.map RS.av).length=ss.length:=Zzg ..;have hlen:=ho.len;have hN:∀(i:Nat) (hlt:i < ss.length) (svC svV:Value) (m':Mem),m' 21=some (.row svV 106 3 ((frN ss i).vs.map Vt.av) 0)→m' 20=some (.row svC 98 2 ((frN ss i).cs.map coA) 0)→(frN ss i).vs.length≤64→StOk (frN ss i).cs ss[i]→(∀c∈(frN ss i).cs,Co c.1∧Co c.2) →
  ACall prog 32 [.agg [.own 20 svC,.own 21 svV],.agg [.sl 6 (ss.map RS.av),.sl 5 (gs.map RG.av)],iv i,iv (frN ss i).fr] m' λr σ'=>∃sv,r=.tup [.agg [.own 20 svC,.own 21 sv],coA ((frN ss i).nxt i ss[i]).2]∧σ'=upd m' 21 (some (.row sv 106 3 (((frN ss i).vs++((frN ss i).nxt i ss[i]).1).map Vt.av) 0)) :=
  λi hlt svC svV m' hV hC h1 h2 h3=>rcNext m' 20 21 svC svV (frN ss i).cs (frN ss i).vs (frN ss i).fr i ss gs ss[i] hlt rfl hV hC zo h1 (by have:=Zp5 ss i;omega) zo h2 h3
 generalize ss.map RS.av=M at *;generalize gs.map RG.av=N at *;refine pI func9 rfl ntmps9 results9 call9 ?_;(focus (refine wkap (w_1 hls) (w_1 cR) (w_r 0) ?_;(repeat' first|exact w_t|apply w_l);all_goals intros));rename_i g1 g2 g5;refine Zf5 (Frz.nilBox (k:=5) 0 20 2 98 (gC) rfl zo) ?_;refine Zf5 (Frz.nilBox (k:=5) 1 21 3 106 (gC) rfl zo) ?_;refine Zab (ι:=Nat) (λi e m=>i≤ss.length∧e 1=.pbox 1 g1 0∧m 1=some (.box g1 25 [.sl 6 M,.sl 5 N] false)∧e 2=.pbox 2 g2 0∧m 2=some (.box g2 40 [.v (.slice none 0 0),.v (.slice none 0 0)] false)∧e 5=.pbox 5 g5 0∧e 6=iv (frN ss i).fr∧e 18=.sl 6 M∧e 19=iv ss.length∧e 20=iv i∧(∃svC svV,m 5=some (.box g5 40 [.own 20 svC,.own 21 svV] false)∧m 20=some (.row svC 98 2 ((frN ss i).cs.map coA) 0)∧m 21=some (.row svV 106 3 ((frN ss i).vs.map Vt.av) 0))∧∀j,j < i→bigN ss j=false) (λi=>ss.length - i) 0 zr ?_ ?_
 ·rintro i e m ⟨hi,e1,m1,e2,m2,e5,e6,e18,e19,e20,⟨svC,svV,m5,m20,m21⟩,hbig⟩
  by_cases hlt:i < ss.length
  ·have hgi:=hg i hlt;obtain⟨D,hD,hn⟩:=ho.fi hi hbig;have hco:=hD.co hn;have hst:=ho.st hlt;have hfr:=Zp5 ss i;have hnv:=hD.nv;have hb:=Zlq hlt;have hsu:=Zea hlt;have hn3:=Zng (frN ss i) i ss[i];have hcl:=Zcm ss i;have hst2:=λm' hV hC=>hN i hlt svC svV m' hV hC hnv hst hco;clear hD hco hst hN hg cR;generalize hs:ss[i]=s at *;generalize hf:frN ss i=f at *;generalize hx:f.nxt i s=nx at *;obtain⟨nv,c1,c2⟩:=nx;obtain⟨k,nm,ar,⟨rs,rl,rd⟩⟩:=s;obtain⟨cs,vs,fr⟩:=f;simp only at *;(focus (refine wkap (w_14 e1 m1 e2 m2 e5 e6 e18 e19 e20 m5 m20 m21 hgi hls) w_t (w_r 0) ?_;(repeat' first|exact w_t|apply w_l);all_goals intros))
   refine Zce (hst2 _ (gW m21) (gW m20)) ?_;intro sv;have hvl:((vs++nv).map Vt.av).length=(vs++nv).length:=Zzg ..;have hvl2:(vs++nv).length≤67:=by rw [Zz0];omega
   have hnx:∀j,j < i+1→bigN ss i=false→bigN ss j=false:=λj hj h=>by
    by_cases e:j=i
    ·rw [e];exact h
    ·exact hbig j zo
   have hany:bigN ss i=true→(List.range ss.length).any (bigN ss)=true:=λh=>List.any_eq_true.2 ⟨i,List.mem_range.2 hlt,h⟩;generalize vs++nv=vs2 at *;have hc1:(c1.map tmA).length=c1.length:=Zzg ..;have hc2:(c2.map tmA).length=c2.length:=Zzg ..;have hcsl:(cs.map coA).length=cs.length:=Zzg ..;by_cases b1:64 < vs2.length
   ·rw [Zzc (hany (by rw [hb];simp [b1]))];(focus (refine wklp (w_12 e1 e2 m2 e5 e6 e18 e19 e20 m5 m20 hvl hls) w_t (w_1 e2) (w_r 0) ?_;(repeat' first|exact w_t|apply w_l);all_goals intros))
   ·by_cases b2:4000 < c1.length
    ·rw [Zzc (hany (by rw [hb];simp [b2]))];(focus (refine wklp (w_13 e1 e2 m2 e5 e6 e18 e19 e20 m5 m20 hvl hc1 hls) w_t (w_1 e2) (w_r 0) ?_;(repeat' first|exact w_t|apply w_l);all_goals intros))
    ·by_cases b3:4000 < c2.length
     ·rw [Zzc (hany (by rw [hb];simp [b3]))];(focus (refine wklp (w_14 e1 e2 m2 e5 e6 e18 e19 e20 m5 m20 hvl hc1 hc2 hls) w_t (w_1 e2) (w_r 0) ?_;(repeat' first|exact w_t|apply w_l);all_goals intros))
     ·have hbf:bigN ss i=false:=by rw [hb];simp [b1,b2,b3]
      clear hany;by_cases k1:k=1
      ·subst k1;(focus (refine wkap (w_15 e1 e2 m2 e5 e6 e18 e19 e20 m5 m20 hvl hc1 hc2 hcsl hls) w_t (w_r 0) ?_;(repeat' first|exact w_t|apply w_l);all_goals intros));rename_i svC2;refine⟨i+1,⟨zo,gW e1,gW m1,gW e2,gW m2,gW e5,by(rw [hsu];exact gS),gW e18,gW e19,gS,⟨svC2,sv,?_,?_,?_⟩,λj hj=>hnx j hj hbf⟩,zo⟩
       ·(simp (disch:=omega) only [go_sem,List.set_cons_zero]<;>repeat' first|rfl|refine⟨?_,?_⟩)
       ·rw [hsu,Zzw];exact gC
       ·rw [hsu];exact gC
      ·(focus (refine wkap (w_15 e1 e2 m2 e5 e6 e18 e19 e20 m5 m20 hvl hc1 hc2 hcsl hls) w_t (w_r 0) ?_;(repeat' first|exact w_t|apply w_l);all_goals intros));rename_i svC2;refine⟨i+1,⟨zo,gW e1,gW m1,gW e2,gW m2,gW e5,by(rw [hsu];simp only [Zzb k1];exact gW e6),gW e18,gW e19,gS,⟨svC2,sv,?_,?_,?_⟩,λj hj=>hnx j hj hbf⟩,zo⟩
       ·(simp (disch:=omega) only [go_sem,List.set_cons_zero]<;>repeat' first|rfl|refine⟨?_,?_⟩)
       ·rw [hsu,Zzw];exact gC
       ·rw [hsu];exact gC
  ·have hin:i=ss.length:=zo;subst hin
   have hno:¬(List.range ss.length).any (bigN ss)=true:=by
    rw [List.any_eq_true]
    rintro ⟨j,hj,hb⟩
    rw [hbig j (List.mem_range.1 hj)] at hb;cases hb
   rw [Zzb hno];clear hN hg;generalize (frN ss ss.length).fr=fr at *;generalize (frN ss ss.length).cs=cs at *;generalize (frN ss ss.length).vs=vs at *;(focus (refine wklp (w_12 e1 e2 m2 e5 e6 e18 e19 e20 m5 m20 m21 hls) w_t (w_5 e2 m2 m5 m20 m21) (w_r 0) ?_;(repeat' first|exact w_t|apply w_l);all_goals intros))
 ·exact⟨Zzp _,gC,gC,gC,gC,gC,by(simp (disch:=omega) only [go_sem,frN]<;>repeat' first|rfl|refine⟨?_,?_⟩),gC,gW hls,gC,⟨_,_,by(simp (disch:=omega) only [go_sem,List.set_cons_zero,List.set_cons_succ,frN]<;>repeat' first|rfl|refine⟨?_,?_⟩),by(simp (disch:=omega) only [go_sem,frN,Zz1]<;>repeat' first|rfl|refine⟨?_,?_⟩),by(simp (disch:=omega) only [go_sem,frN,Zz1]<;>repeat' first|rfl|refine⟨?_,?_⟩)⟩,λj hj=>zo⟩
section
attribute [local go_sem] underlying3 underlying4 underlying184 underlying9 underlying67 underlying34 underlying59 underlying57 underlying55 underlying76 underlying22 underlying25 underlying106 underlying38 underlying98 underlying37 underlying40 underlying165 underlying167 underlying53 underlying111 underlying163 underlying200 sz3 by3 z3 szB zB Zcf zErr Zcy Zec zStr Zbm zRat Zbo zInt Zbn zNat Zb5 Zb6 Zdc Zdn zFig Zc6 zSlI Zdm zSlS Zdl Zdt zVar Zdd zSlV Zbg Zbh Zcj Zd0 zSlC Za5 Zb4 Zdw Zdz Zf3 Zdv Zdy Zf2 Zbq Zbt Zcw Zbu Zc4 Zd2 Zgg Zgi zFnC
end
attribute [go_sem] underlying178
attribute [local go_sem] Zjs Zj1 Zn6
theorem CB.subs {a b:Pt} (ha:CB a) (hb:CB b):(Pure prog 119 [poA b.1,poA a.1] (poA (subM b.1 a.1))∧Pure prog 27 [poA b.1,poA a.1] (poA (subM b.1 a.1)))∧(Pure prog 119 [poA b.2,poA a.2] (poA (subM b.2 a.2))∧Pure prog 27 [poA b.2,poA a.2] (poA (subM b.2 a.2))) :=
 ⟨Znp hb.x ha.x zo zo zo zo zo zo,Znp hb.y ha.y zo zo zo zo zo zo⟩
theorem hpM2 {p q:Po} (h:PB p 16 221 8) (g:PB q 16 221 8):Pure prog 120 [poA p,poA q] (poA (mlM p q))∧Pure prog 24 [poA p,poA q] (poA (mlM p q)) :=
 Zi3 h g zo zo zo zo zo zo zo zo zo
theorem Zeu {a b:Pt} (ha:CB a) (hb:CB b):Pure prog 118 [coA a,coA b] (coA (dfM a b)):=by
 obtain⟨⟨h1,-⟩,h2,-⟩:=ha.subs hb;clear ha hb;obtain⟨a1,a2⟩:=a;obtain⟨b1,b2⟩:=b;unfold dfM;simp only at *;generalize subM b1 a1=d1 at *;generalize subM b2 a2=d2 at *;refine pI func118 rfl ntmps118 results118 call118 ?_;(focus (refine wkld w_t (w_2 h1 h2) w_t (w_1 (w_d 1 [(4,poA d1),(9,poA d2)] [] [4])) ?_;(repeat' first|exact w_t|apply w_l);all_goals intros))
theorem Zx7 (u v:Pt) (p q r:Po) (m1:Pure prog 120 [poA u.1,poA v.1] (poA p)) (m2:Pure prog 120 [poA u.2,poA v.2] (poA q)) (ad:Pure prog 122 [poA p,poA q] (poA r)):Pure prog 117 [coA u,coA v] (poA r):=by
 obtain⟨u1,u2⟩:=u;obtain⟨v1,v2⟩:=v;simp only at *;refine pI func117 rfl ntmps117 results117 call117 ?_;(focus (refine wkld w_t (w_3 m1 m2 ad) w_t (w_1 (w_d 1 [(4,poA p),(9,poA q),(10,poA r)] [] [])) ?_;(repeat' first|exact w_t|apply w_l);all_goals intros))
theorem hyDot {a b c d:Pt} (ha:CB a) (hb:CB b) (hc:CB c) (hd:CB d):Pure prog 52 [coA a,coA b,coA c,coA d] (poA (dotM a b c d)):=by
 have b1:=Zeu ha hb;have b2:=Zeu hc hd;obtain⟨x1,y1⟩:=ha.df hb;obtain⟨x2,y2⟩:=hc.df hd;have cd:=Zx7 (dfM a b) (dfM c d) _ _ _ (hpM2 x1 x2).1 (hpM2 y1 y2).1 (hpAdd (x1.m2 x2) (y1.m2 y2) zo zo zo zo zo zo).1;rw [show addM (mlM (subM b.1 a.1) (subM d.1 c.1)) (mlM (subM b.2 a.2) (subM d.2 c.2))=dotM a b c d from rfl] at cd;generalize dotM a b c d=r at *;clear x1 y1 x2 y2 ha hb hc hd;obtain⟨a1,a2⟩:=a;obtain⟨b1,b2⟩:=b;obtain⟨c1,c2⟩:=c;obtain⟨d1,d2⟩:=d;generalize dfM _ _=u at *;generalize dfM _ _=v at *;obtain⟨u1,u2⟩:=u;obtain⟨v1,v2⟩:=v;refine pI func52 rfl ntmps52 results52 call52 ?_
 (focus (refine wkld w_t (w_3 b1 b2 cd) w_t (w_1 (w_d 1 [(2,coA (u1,u2)),(5,coA (v1,v2)),(6,poA r)] [] [])) ?_;(repeat' first|exact w_t|apply w_l);all_goals intros))
theorem Zjl {a b c d:Pt} (ha:CB a) (hb:CB b) (hc:CB c) (hd:CB d):Pure prog 53 [coA a,coA b,coA c,coA d] (poA (Zb0 a b c d)):=by
 have k1:=Zeu ha hb;have k2:=Zeu hc hd;obtain⟨x1,y1⟩:=ha.df hb;obtain⟨x2,y2⟩:=hc.df hd;have m1:=(hpM2 x1 y2).1;have m2:=(hpM2 y1 x2).1;have s:=(Znp (x1.m2 y2) (y1.m2 x2) zo zo zo zo zo zo).1;rw [show subM (mlM (subM b.1 a.1) (subM d.2 c.2)) (mlM (subM b.2 a.2) (subM d.1 c.1))=Zb0 a b c d from rfl] at s;generalize Zb0 a b c d=r at *;clear x1 y1 x2 y2 ha hb hc hd;unfold dfM at k1 k2;generalize mlM (subM b.1 a.1) (subM d.2 c.2)=p at *;generalize mlM (subM b.2 a.2) (subM d.1 c.1)=q at *;generalize subM b.1 a.1=u1 at *;generalize subM b.2 a.2=u2 at *;generalize subM d.1 c.1=v1 at *
 generalize subM d.2 c.2=v2 at *;obtain⟨a1,a2⟩:=a;obtain⟨b1,b2⟩:=b;obtain⟨c1,c2⟩:=c;obtain⟨d1,d2⟩:=d;refine pI func53 rfl ntmps53 results53 call53 ?_;(focus (refine wkld w_t (w_5 k1 k2 m1 m2 s) w_t (w_2 (w_d 1 [(2,coA (u1,u2)),(5,coA (v1,v2))] [] [9,10]) (w_d 2 [(4,poA p),(9,poA q),(10,poA r)] [] [])) ?_;(repeat' first|exact w_t|apply w_l);all_goals intros))
attribute [go_sem] zSlP szFnN zFnN
attribute [local go_sem] Zof
def fstN (vs:List Vt) (i:Int):Nat→Option Nat
 | 0=>none
 | y+1=>match fstN vs i y with
   | some v=>some v
   | none=>if (vs.getD y (0,0,0)).2.1=i then some y else none
theorem Zlc {vs:List Vt} {i:Int}:∀{n:Nat},(∀j,j < n→(vs.getD j (0,0,0)).2.1≠i)→fstN vs i n=none
 | 0,_=>rfl
 | n+1,h=>by
   unfold fstN;rw [Zlc λj hj=>h j zo];simp only;rw [Zzb (h n zo)]
theorem Zr2 {vs:List Vt} {i:Int} {y:Nat} (h:∀j,j < y→(vs.getD j (0,0,0)).2.1≠i) (hy:(vs.getD y (0,0,0)).2.1=i):∀{n:Nat},y < n→fstN vs i n=some y
 | 0,hn=>zo
 | n+1,hn=>by
   unfold fstN;by_cases e:y=n
   ·subst e;rw [Zlc h];simp only;rw [Zzc hy]
   ·rw [Zr2 h hy (n:=n) zo]
def parM (vs:List Vt) (i:Int):Po:=match fstN vs i vs.length with
 | some v=>varM v
 | none=>[]
theorem Znd (vs:List Vt) (i:Int):PB (parM vs i) 1 1 1:=by
 unfold parM;split
 ·exact Zed _
 ·exact .nil
theorem Zx6 (cs:List Pt) (vs:List Vt) (i:Int) (hv:vs.length≤900):Pure prog 106 [frmA cs vs,iv i] (poA (parM vs i)):=by
 have hlm:(vs.map Vt.av).length=vs.length:=Zzg ..;have hg:∀j (h:j < vs.length),(vs.map Vt.av).getD j .u=Vt.av (vs.getD j (0,0,0)):=λj h=>by rw [Zaj Vt.av h,Zzo,Zzn h];rfl
 show Pure _ _ [.agg [.sl 2 (cs.map coA),.sl 3 (vs.map Vt.av)],iv i] _;generalize cs.map coA=C at *;generalize vs.map Vt.av=V at *
 cases hf:fstN vs i vs.length with
 | none =>
   rw [show parM vs i=[] from by unfold parM;rw [hf]];refine Zdh (r:=.v (.slice none 0 0)) ?_ (.nil 4);refine pI func106 rfl ntmps106 results106 call106 ?_;(focus (refine wkap (w_1 hlm) w_t (w_r 0) ?_;(repeat' first|exact w_t|apply w_l);all_goals intros));refine Zab (ι:=Nat) (λy e m=>y≤vs.length∧e 1=iv i∧e 8=.sl 3 V∧e 9=iv vs.length∧e 10=iv y∧∀j,j < y→(vs.getD j (0,0,0)).2.1≠i) (λy=>vs.length - y) 0 zr ?_ ?_
   ·rintro y e m ⟨hy,e1,e8,e9,e10,hj⟩
    by_cases hlt:y < vs.length
    ·have hgy:=hg y hlt;by_cases hx:(vs.getD y (0,0,0)).2.1=i
     ·rw [Zr2 hj hx hlt] at hf;cases hf
     ·have hnx:∀j,j < y+1→(vs.getD j (0,0,0)).2.1≠i:=λj hjj=>by
       by_cases e:j=y
       ·rw [e];exact hx
       ·exact hj j zo
      clear hj hg hf;generalize vs.getD y (0,0,0)=v at *;obtain⟨v1,v2,v3⟩:=v;simp only at hx;(focus (refine wkap (w_7 e1 e8 e9 e10 hlm hgy hx) w_t (w_r 0) ?_;(repeat' first|exact w_t|apply w_l);all_goals intros));exact⟨y+1,⟨zo,gW e1,gW e8,gW e9,gS,hnx⟩,zo⟩
    ·have hin:y=vs.length:=zo;subst hin;clear hj hg hf;(focus (refine wklp (w_5 e1 e8 e9 e10 hlm) w_t w_t (w_r 0) ?_;(repeat' first|exact w_t|apply w_l);all_goals intros))
   ·exact⟨Zzp _,gC,gC,gW hlm,gC,λj h=>zo⟩
 | some w =>
   rw [show parM vs i=varM w from by unfold parM;rw [hf]];refine pI func106 rfl ntmps106 results106 call106 ?_;(focus (refine wkap (w_1 hlm) w_t (w_r 0) ?_;(repeat' first|exact w_t|apply w_l);all_goals intros));refine Zab (ι:=Nat) (λy e m=>y≤vs.length∧e 1=iv i∧e 8=.sl 3 V∧e 9=iv vs.length∧e 10=iv y∧∀j,j < y→(vs.getD j (0,0,0)).2.1≠i) (λy=>vs.length - y) 0 zr ?_ ?_
   ·rintro y e m ⟨hy,e1,e8,e9,e10,hj⟩
    by_cases hlt:y < vs.length
    ·have hgy:=hg y hlt;by_cases hx:(vs.getD y (0,0,0)).2.1=i
     ·rw [Zr2 hj hx hlt] at hf;obtain rfl:y=w:=by simpa using hf
      have cv:=poVar y zo;clear hj hg hf;generalize vs.getD y (0,0,0)=v at *;obtain⟨v1,v2,v3⟩:=v;simp only at hx;subst hx;generalize varM y=r at *;(focus (refine wklp (w_6 e1 e8 e9 e10 hlm hgy) (w_1 cv) w_t (w_r 0) ?_;(repeat' first|exact w_t|apply w_l);all_goals intros))
     ·have hnx:∀j,j < y+1→(vs.getD j (0,0,0)).2.1≠i:=λj hjj=>by
       by_cases e:j=y
       ·rw [e];exact hx
       ·exact hj j zo
      clear hj hg hf;generalize vs.getD y (0,0,0)=v at *;obtain⟨v1,v2,v3⟩:=v;simp only at hx;(focus (refine wkap (w_7 e1 e8 e9 e10 hlm hgy hx) w_t (w_r 0) ?_;(repeat' first|exact w_t|apply w_l);all_goals intros));exact⟨y+1,⟨zo,gW e1,gW e8,gW e9,gS,hnx⟩,zo⟩
    ·rw [Zlc λj h=>hj j zo] at hf;cases hf
   ·exact⟨Zzp _,gC,gC,gW hlm,gC,λj h=>zo⟩
theorem Zda (ss:List RS) (gs:List RG) (cs:List Pt) (vs:List Vt) (i:Nat) (s:RS) (x:Pt) (t:Po) (L:List Po) (hi:i < ss.length) (hs:ss[i]=s) (hcl:cs.length=ss.length) (hx:cs.getD i ([],[])=x) (har:∀k,k < s.ar.length→0≤gI s.ar k∧gI s.ar k < (cs.length:Int)) (h4:s.ar.length≤4)
 (cp:Pure prog 106 [frmA cs vs,iv i] (poA t)) (ce:Pure prog 105 [iv s.k,.sl 2 ((ptsN cs s.ar).map coA),coA x,poA t] (.sl 1 (L.map poA))) :
 Pure prog 41 [figA ss gs,frmA cs vs,iv i] (.tup [.sl 1 (L.map poA),iv 0]):=by
 have cp:Pure prog 106 [.agg [.sl 2 (cs.map coA),.sl 3 (vs.map Vt.av)],iv i] (poA t):=cp;have hgi:(ss.map RS.av).getD i .u=s.av:=by rw [Zaj RS.av hi,hs]
 have hgx:(cs.map coA).getD i .u=coA x:=by rw [←hx,Zaj coA zo,Zzo,Zzn zo];rfl
 have hls:(ss.map RS.av).length=ss.length:=Zzg ..;have hlC:(cs.map coA).length=ss.length:=by rw [Zzg,hcl]
 have hgc:∀j,j < ss.length→(cs.map coA).getD j .u=coA (cs.getD j ([],[])):=λj h=>by rw [Zaj coA zo,Zzo,Zzn zo];rfl
 have hpt:=λy (h:y < s.ar.length)=>Zo1 (cs:=cs) h;have hpl:(ptsN cs s.ar).length=s.ar.length:=Zhp cs s.ar;have hga:∀y (h:y < s.ar.length),(s.ar.map iv).getD y .u=iv (gI s.ar y):=λy h=>by rw [Zaj iv h,Ze5 h]
 have hla:(s.ar.map iv).length=s.ar.length:=Zzg ..;rw [hcl] at har;show Pure _ _ [.agg [.sl 6 (ss.map RS.av),.sl 5 (gs.map RG.av)],.agg [.sl 2 (cs.map coA),.sl 3 (vs.map Vt.av)],iv i] _;clear hs hx hcl;obtain⟨k,nm,ar,⟨rs,rl,rd⟩⟩:=s;obtain⟨x1,x2⟩:=x;simp only at *;generalize ss.map RS.av=M at *;generalize gs.map RG.av=N at *;generalize cs.map coA=C at *;generalize vs.map Vt.av=V at *;generalize L.map poA=LA at *;generalize hp:ptsN cs ar=pts at *;refine pI func41 rfl ntmps41 results41 call41 ?_;(focus (refine wkad (w_3 hls hlC hgi) w_t w_t ?_;(repeat' first|exact w_t|apply w_l);all_goals intros))
 rename_i g3 g4 g8;refine Zf5 (Frz.nilOwn (d:=9) 47 2 98 (gC)) ?_;refine Zab (ι:=Nat) (λy e m=>y≤ar.length∧e 2=iv i∧e 4=.pbox 4 g4 0∧m 4=some (.box g4 40 [.sl 2 C,.sl 3 V] false)∧e 8=.pbox 8 g8 0∧m 8=some (.box g8 76 [iv k,strA nm,ivs ar,.v (.bool rs),lim rl,lim rd] false)∧e 34=ivs ar∧e 35=iv ar.length∧e 36=iv y∧∃sv,e 9=.own 47 sv∧m 47=some (.row sv 98 2 ((pts.take y).map coA) 0)) (λy=>ar.length - y) 0 zr ?_ ?_
 ·rintro y e m ⟨hy,e2,e4,m4,e8,m8,e34,e35,e36,sv,e9,m47⟩
  by_cases hlt:y < ar.length
  ·have hgy:=hga y hlt;obtain⟨h0,h1⟩:=har y hlt;obtain⟨n,hn⟩:∃n:Nat,gI ar y=n:=⟨(gI ar y).toNat,zo⟩;rw [hn] at hgy h1;have hgn:=hgc n zo;have hp1:=hpt y hlt;rw [hn,ZAo] at hp1;have hl:((pts.take y).map coA).length=y:=by rw [Zzg,Zzv];omega
   have hrow:(pts.take (y+1)).map coA=(pts.take y).map coA++[coA (cs.getD n ([],[]))]:=by rw [hp1,Zzw];rfl
   clear hga har hgc hpt hp1 cp ce;generalize cs.getD n ([],[])=c at *;obtain⟨c1,c2⟩:=c;generalize (pts.take y).map coA=R at *;(focus (refine wkad (w_15 e2 e4 m4 e8 m8 e34 e35 e36 e9 m47 hla hlC hgy hgn hl) w_t w_t ?_;(repeat' first|exact w_t|apply w_l);all_goals intros));exact⟨y+1,⟨zo,gW e2,gW e4,gW m4,gW e8,gW m8,gW e34,gW e35,gS,_,gC,by rw [hrow];exact gC⟩,zo⟩
  ·rw [ZCa zo] at m47;clear hga har hgc hpt;generalize pts.map coA=R at *;(focus (refine wkax (w_11 e2 e4 m4 e8 m8 e34 e35 e36 e9 m47 hla) w_t w_t w_t w_t w_t w_t (w_r 0) ?_;(repeat' first|exact w_t|apply w_l);all_goals intros));refine r_frzD (Frz.own (d:=9) (gW e9) (gW m47)) ?_;(focus (refine wkld (w_7 e2 e4 m4 e8 m8 hlC hgx) (w_2 cp ce) w_t (w_1 (w_d 10 [(10,poA t),(11,.sl 1 LA)] [] [])) ?_;(repeat' first|exact w_t|apply w_l);all_goals intros))
 ·exact⟨Zzp _,gC,gC,gC,gC,gC,gC,gW hla,gC,_,gC,by(simp (disch:=omega) only [go_sem,ZB6,Zz1]<;>repeat' first|rfl|refine⟨?_,?_⟩)⟩
theorem hyE7 {a b c x:Pt} (t:Po) (ha:CB a) (hb:CB b) (hc:CB c) (hx:CB x):Pure prog 105 [iv 7,.sl 2 [coA a,coA b,coA c],coA x,poA t] (.sl 1 [poA (Zb0 b c b x),poA (dotM b c a x)]):=by
 have c1:=Zjl hb hc hb hx;have c2:=hyDot hb hc ha hx;generalize Zb0 b c b x=r1 at *;generalize dotM b c a x=r2 at *;clear ha hb hc hx;obtain⟨a1,a2⟩:=a;obtain⟨b1,b2⟩:=b;obtain⟨d1,d2⟩:=c;obtain⟨x1,x2⟩:=x;refine pI func105 rfl ntmps105 results105 call105 ?_;(focus (refine wkld w_t (w_2 c1 c2) w_t (w_1 (w_d 7 [(10,poA r1),(21,poA r2)] [] [])) ?_;(repeat' first|exact w_t|apply w_l);all_goals intros))
theorem hyE0 (k:Int) (R:List AV) (x:Pt) (t:Po) (hk:k < 6∨14 < k):Pure prog 105 [iv k,.sl 2 R,coA x,poA t] (.sl 1 []):=by
 refine Zdh (r:=.v (.slice none 0 0)) ?_ (.nil 1);obtain⟨x1,x2⟩:=x;have k6:¬k=6:=zo;have k7:¬k=7:=zo;have k8:¬k=8:=zo;have k9:¬k=9:=zo;have k10:¬k=10:=zo;have k11:¬k=11:=zo;have k12:¬k=12:=zo;have k13:¬k=13:=zo;have k14:¬k=14:=zo;refine pI func105 rfl ntmps105 results105 call105 ?_;(focus (refine wkld (w_9 k6 k7 k8 k9 k10 k11 k12 k13 k14) w_t w_t w_t ?_;(repeat' first|exact w_t|apply w_l);all_goals intros))
theorem wts_at {ss:List RS} {i a:Nat} (h:a < i):((wts ss i).map iv).getD a .u=iv (gI (wts ss i) a):=by
 rw [Zaj iv (by rw [Zib];exact h),Ze5 (by rw [Zib];exact h)]
theorem wts_succ {ss:List RS} {i:Nat} (hi:i < ss.length):(wts ss (i+1)).map iv=(wts ss i).map iv++[iv (wOf (wts ss i) ss[i])]:=by
 show(wts ss i++[_]).map iv=_;rw [Zzw,show ss.getD i RS.zero=ss[i] from by rw [Zzo,Zzn hi];rfl];rfl
theorem Zwe (ss:List RS) (gs:List RG) (hl:ss.length≤8) (he:∀i,i < ss.length→errS ss i=0):Pure prog 61 [figA ss gs] (ivs (wts ss ss.length)):=by
 have hg:∀i (h:i < ss.length),(ss.map RS.av).getD i .u=ss[i].av:=λi h=>Zaj RS.av h;have hls:(ss.map RS.av).length=ss.length:=Zzg ..;have hok:∀i (h:i < ss.length),(ss[i].ar.length:Int)=arS ss[i].k∧∀k,k < ss[i].ar.length→0≤gI ss[i].ar k∧gI ss[i].ar k < (i:Int):=λi h=>⟨(Zgu h (he i h)).2.1,(Zgu h (he i h)).2.2.1⟩;have hws:∀i (h:i < ss.length),(wts ss (i+1)).map iv=(wts ss i).map iv++[iv (wOf (wts ss i) ss[i])]:=λi h=>wts_succ h;have hwl:∀i,((wts ss i).map iv).length=i:=λi=>by rw [Zzg,Zib]
 have hbd:∀i n,i≤8→0≤gI (wts ss i) n∧gI (wts ss i) n≤6561:=λi n h=>by
  have:=Zlz ss i n;have h3:(3 ^ i:Nat)≤3 ^ 8:=ZAt zo h;omega
 show Pure _ _ [.agg [.sl 6 (ss.map RS.av),.sl 5 (gs.map RG.av)]] (.sl 1 ((wts ss ss.length).map iv));generalize ss.map RS.av=M at *;generalize gs.map RG.av=N at *;refine pI func61 rfl ntmps61 results61 call61 ?_
 (refine wkad (w_1 hls) w_t w_t (w_s ?_);intros)
 rename_i g1;refine Zf5 (Frz.nilOwn (d:=3) 83 1 3 (gC)) ?_;refine Zab (ι:=Nat) (λi e m=>i≤ss.length∧e 1=.pbox 1 g1 0∧m 1=some (.box g1 25 [.sl 6 M,.sl 5 N] false)∧e 4=iv i∧∃sv,e 3=.own 83 sv∧m 83=some (.row sv 3 1 ((wts ss i).map iv) 0)) (λi=>ss.length - i) 0 zr ?_ ?_
 ·rintro i e m ⟨hi,e1,m1,e4,sv,e3,m83⟩
  by_cases hlt:i < ss.length
  ·have hgi:=hg i hlt;obtain⟨ha,hr⟩:=hok i hlt;have hwi:=hwl i;have hn:=hws i hlt;have hx:=λa (h:a < i)=>wts_at (ss:=ss) h;have hb:=λn=>hbd i n zo;clear hg hok hws hwl hbd;generalize wts ss i=w at *;generalize ss[i]=s at *;obtain⟨k,nm,ar,⟨rs,rl,rd⟩⟩:=s;unfold wOf at hn;unfold arS at ha;simp only at *;generalize w.map iv=W at *;by_cases k2:k=2
   ·subst k2;obtain⟨a,b,rfl,h1,h2⟩:=ar2 (by simpa using ha) hr;have b1:=hb a;have b2:=hb b;have x1:=hx a h1;have x2:=hx b h2;simp only [Zzc,gI,ZA4,ZA5,ZAo] at hn x1 x2 b1 b2;generalize w.getD a 0=x at *;generalize w.getD b 0=y at *;clear hb hx hr ha
    (refine wkad (w_10 e1 m1 e4 e3 m83 hls hgi hwi x1 x2) w_t w_t (w_s ?_);intros)
    exact⟨i+1,⟨zo,gW e1,gW m1,gS,_,gC,by rw [hn];exact gC⟩,zo⟩
   ·by_cases k34:k=3∨k=4
    ·obtain⟨a,b,c,rfl,h1,h2,h3⟩:=ar3 (by rcases k34 with rfl | rfl<;>simpa using ha) hr;have b1:=hb a;have b2:=hb b;have b3:=hb c;have x1:=hx a h1;have x2:=hx b h2;have x3:=hx c h3;rw [Zzb k2,Zzc k34] at hn;simp only [gI,ZA4,ZA5,ZAo] at hn x1 x2 x3 b1 b2 b3;generalize w.getD a 0=x at *;generalize w.getD b 0=y at *;generalize w.getD c 0=z at *;clear hb hx hr ha k2;rcases k34 with rfl | rfl
     all_goals
      (refine wkad (w_11 e1 m1 e4 e3 m83 hls hgi hwi x1 x2 x3) w_t w_t (w_s ?_);intros)
      exact⟨i+1,⟨zo,gW e1,gW m1,gS,_,gC,by rw [hn];exact gC⟩,zo⟩
    ·rw [Zzb k2,Zzb k34] at hn;by_cases k5:k=5
     ·subst k5;obtain⟨a,b,rfl,h1,h2⟩:=ar2 (by simpa using ha) hr;have b1:=hb a;have b2:=hb b;have x1:=hx a h1;have x2:=hx b h2;simp only [Zzc,gI,ZA4,ZA5,ZAo] at hn x1 x2 b1 b2;generalize w.getD a 0=x at *;generalize w.getD b 0=y at *;clear hb hx hr ha k2 k34
      (refine wkad (w_10 e1 m1 e4 e3 m83 hls hgi hwi x1 x2) w_t w_t (w_s ?_);intros)
      exact⟨i+1,⟨zo,gW e1,gW m1,gS,_,gC,by rw [hn];exact gC⟩,zo⟩
     ·have k3:¬k=3:=λh=>k34 (.inl h);have k4:¬k=4:=λh=>k34 (.inr h);rw [Zzb k5] at hn;clear hb hx hr ha k34
      (refine wkad (w_8 e1 m1 e4 e3 m83 hls hgi hwi) w_t w_t (w_s ?_);intros)
      exact⟨i+1,⟨zo,gW e1,gW m1,gS,_,gC,by rw [hn];exact gC⟩,zo⟩
  ·have hin:i=ss.length:=zo;subst hin;clear hws hg hok hbd;have hwi:=hwl ss.length;generalize (wts ss ss.length).map iv=W at *;exact wkld (w_7 e1 m1 e4 e3 m83 hls hwi) w_t (w_1 m83) w_t w_z
 ·exact⟨Zzp _,gC,gC,gC,_,gC,by(simp (disch:=omega) only [go_sem,wts,Zz1]<;>repeat' first|rfl|refine⟨?_,?_⟩)⟩
def Zj3 (w:List Int) (g:RG):Bool:=!(decide (g.k=6) || decide (g.k=7)) || g.ar.all λa=>decide (gI w a.toNat≤3)
theorem Zja {α:Type} {p:α→Bool} {l:List α} (h:∀j (hj:j < l.length),p l[j]=true):l.all p=true:=all_of h
theorem rlThin (ss:List RS) (gs:List RG) (hl:ss.length≤8) (hlg:gs.length≤1000) (he:∀i,i < ss.length→errS ss i=0) (heg:∀g∈gs,g.ar.length≤100∧∀k,k < g.ar.length→0≤gI g.ar k∧gI g.ar k < (ss.length:Int)):Pure prog 20 [figA ss gs] (.v (.bool (Zkk ss gs))):=by
 have cw:Pure prog 61 [.agg [.sl 6 (ss.map RS.av),.sl 5 (gs.map RG.av)]] (.sl 1 ((wts ss ss.length).map iv)):=Zwe ss gs hl he;have hlen:=Zib ss ss.length;have hbd:∀n,0≤gI (wts ss ss.length) n∧gI (wts ss ss.length) n≤6561:=λn=>by
  have:=Zlz ss ss.length n;have h3:(3 ^ ss.length:Nat)≤3 ^ 8:=ZAt zo hl;omega
 have hg:∀i (h:i < gs.length),(gs.map RG.av).getD i .u=gs[i].av:=λi h=>Zaj RG.av h;have hlm:(gs.map RG.av).length=gs.length:=Zzg ..;show Pure _ _ [.agg [.sl 6 (ss.map RS.av),.sl 5 (gs.map RG.av)]] _;have hT:Zkk ss gs=((wts ss ss.length).all (λw=>decide (w≤8)) && gs.all (Zj3 (wts ss ss.length))):=rfl;rw [hT];have hx:∀a,a < ss.length→((wts ss ss.length).map iv).getD a .u=iv (gI (wts ss ss.length) a):=λa h=>wts_at h;clear hT;generalize ss.map RS.av=M at *;generalize gs.map RG.av=N at *;generalize wts ss ss.length=w at *;generalize ss.length=n at *;have hwl:(w.map iv).length=n:=by rw [Zzg,hlen]
 generalize hW:w.map iv=W at *;refine pI func20 rfl ntmps20 results20 call20 ?_
 (refine wkap w_t (w_1 cw) (w_r 0) (w_s ?_);intros)
 rename_i g1;refine Zab (ι:=Nat) (λi e m=>i≤n∧e 1=.pbox 1 g1 0∧m 1=some (.box g1 25 [.sl 6 M,.sl 5 N] false)∧e 3=.sl 1 W∧e 4=iv i∧∀j,j < i→gI w j≤8) (λi=>n - i) 0 zr ?_ ?_
 ·rintro i e m ⟨hi,e1,m1,e3,e4,hj⟩
  by_cases hlt:i < n
  ·have x1:=hx i hlt;have b1:=hbd i;have hgw:gI w i=w[i]'zo:=Ze5 zo;by_cases h8:8 < gI w i
   ·have:(w.all λw=>decide (w≤8))=false:=Zqj (i:=i) zo (by rw [←hgw];simpa using h8);rw [this,ZAm];generalize gI w i=x at *;exact wklp (w_6 e1 m1 e3 e4 hwl x1) w_t w_t (w_r 0) w_z
   ·have hnx:∀j,j < i+1→gI w j≤8:=λj hjj=>by
     by_cases e:j=i
     ·rw [e];omega
     ·exact hj j zo
    clear hj hgw;generalize gI w i=x at *
    (refine wkap (w_6 e1 m1 e3 e4 hwl x1) w_t (w_r 0) (w_s ?_);intros)
    exact⟨i+1,⟨zo,gW e1,gW m1,gW e3,gS,hnx⟩,zo⟩
  ·have hin:n=i:=zo;subst hin;have:(w.all λw=>decide (w≤8))=true:=Zja λj hjj=>by have:=hj j zo;rw [Ze5 hjj] at this;simpa using this
   rw [this,ZA9];clear hj
   (refine wkap (w_5 e1 m1 e3 e4 hwl) w_t (w_r 0) (w_s ?_);intros)
   refine Zab (ι:=Nat) (λi e m=>i≤gs.length∧e 1=.pbox 1 g1 0∧m 1=some (.box g1 25 [.sl 6 M,.sl 5 N] false)∧e 3=.sl 1 W∧e 5=iv i∧∀j (hj:j < gs.length),j < i→Zj3 w gs[j]=true) (λi=>gs.length - i) 0 zr ?_ ?_
   ·rintro i e m ⟨hi,e1,m1,e3,e5,hj⟩
    by_cases hlt:i < gs.length
    ·have hgi:=hg i hlt;obtain⟨ha,hr⟩:=heg _ (Zzt hlt);have hno:Zj3 w gs[i]=false→gs.all (Zj3 w)=false:=λh=>Zqj hlt h;have hnx:Zj3 w gs[i]=true→∀j (hj:j < gs.length),j < i+1→Zj3 w gs[j]=true:=λh j hjj h2=>by
      by_cases e:j=i
      ·subst e;exact h
      ·exact hj j hjj zo
     clear hj hg heg;generalize gs.all (Zj3 w)=v at *;generalize gs[i]=g at *;obtain⟨k,ar,⟨rs,rl,rd⟩⟩:=g;simp only at *;have hla:(ar.map iv).length=ar.length:=Zzg ..;have hga:∀j (h:j < ar.length),(ar.map iv).getD j .u=iv ar[j]:=λj h=>Zaj iv h
     (refine wkap (w_6 e1 m1 e3 e5 hlm hgi) w_t (w_r 0) (w_s ?_);intros)
     rename_i g6;refine Zab (ι:=Nat) (λy e m=>y≤ar.length∧e 1=.pbox 1 g1 0∧m 1=some (.box g1 25 [.sl 6 M,.sl 5 N] false)∧e 3=.sl 1 W∧e 5=iv i∧e 6=.pbox 6 g6 0∧m 6=some (.box g6 78 [iv k,ivs ar,.v (.bool rs),lim rl,lim rd] false)∧e 7=iv y∧((k=6∨k=7)→∀j (hj:j < ar.length),j < y→gI w ar[j].toNat≤3)) (λy=>ar.length - y) 0 zr ?_ ?_
     ·rintro y e m ⟨hy,e1,m1,e3,e5,e6,m6,e7,hq⟩
      by_cases hly:y < ar.length
      ·have hgy:=hga y hly;have hry:=hr y hly;rw [Ze5 hly] at hry;obtain⟨a,hae⟩:∃a:Nat,ar[y]=a:=⟨ar[y].toNat,zo⟩;have han:a < n:=zo;have hxa:=hx a han;have hba:=hbd a;rw [hae] at hgy;by_cases hk:k=6∨k=7
       ·by_cases h3:3 < gI w a
        ·have:Zj3 w ⟨k,ar,⟨rs,rl,rd⟩⟩=false:=by
          unfold Zj3;have h1:(decide (k=6) || decide (k=7))=true:=by simpa using hk
          have h2:(ar.all λa=>decide (gI w a.toNat≤3))=false:=Zqj hly (by rw [hae,ZAo];simpa using h3);simp only [h1,h2];rfl
         rw [hno this];clear hq hno hnx hga hr hx hbd this;generalize gI w a=x at *;rcases hk with rfl | rfl
         all_goals
          exact wklp (w_11 e1 m1 e3 e5 e6 m6 e7 hla hgy hwl hxa) w_t w_t (w_r 0) w_z
        ·have hq2:∀j (hj:j < ar.length),j < y+1→gI w ar[j].toNat≤3:=λj hjj h2=>by
          by_cases e:j=y
          ·subst e;rw [hae,ZAo];omega
          ·exact hq hk j hjj zo
         clear hq hno hnx hga hr hx hbd;generalize gI w a=x at *;rcases hk with rfl | rfl
         all_goals
          (refine wkap (w_11 e1 m1 e3 e5 e6 m6 e7 hla hgy hwl hxa) w_t (w_r 0) (w_s ?_);intros)
          exact⟨y+1,⟨zo,gW e1,gW m1,gW e3,gW e5,gW e6,gW m6,gS,λ_=>hq2⟩,zo⟩
       ·have k6:¬k=6:=λh=>hk (.inl h);have k7:¬k=7:=λh=>hk (.inr h);clear hq hno hnx hga hr hx hbd
        (refine wkap (w_8 e1 m1 e3 e5 e6 m6 e7 hla) w_t (w_r 0) (w_s ?_);intros)
        exact⟨y+1,⟨zo,gW e1,gW m1,gW e3,gW e5,gW e6,gW m6,gS,λh=>absurd h hk⟩,zo⟩
      ·have:Zj3 w ⟨k,ar,⟨rs,rl,rd⟩⟩=true:=by
        unfold Zj3;by_cases hk:k=6∨k=7
        ·have h2:(ar.all λa=>decide (gI w a.toNat≤3))=true:=Zja λj hjj=>by have:=hq hk j hjj zo;simpa using this
         simp only [h2,Bool.or_true]
        ·have h1:(decide (k=6) || decide (k=7))=false:=by simpa using hk
         simp only [h1];rfl
       have:=hnx this;clear hq hno hnx hga hr hx hbd
       (refine wkap (w_8 e1 m1 e3 e5 e6 m6 e7 hla) w_t (w_r 0) (w_s ?_);intros)
       exact⟨i+1,⟨zo,gW e1,gW m1,gW e3,gS,this⟩,zo⟩
     ·exact⟨Zzp _,gW e1,gW m1,gW e3,gW e5,gC,gC,gC,λ_ j _ h=>zo⟩
    ·have:gs.all (Zj3 w)=true:=Zja λj hjj=>hj j hjj zo;rw [this];clear hj hg heg hx hbd;exact wklp (w_5 e1 m1 e3 e5 hlm) w_t w_t (w_r 0) w_z
   ·exact⟨Zzp _,gW e1,gW m1,gW e3,gC,λj _ h=>zo⟩
 ·exact⟨Zzp _,gC,gC,gC,gC,λj h=>zo⟩
theorem arG_le (k:Int):arG k≤8:=by
 unfold arG
 repeat' split
 all_goals omega
theorem Zu6 {ss:List RS} {gs:List RG} (h:figE ss gs=0):∀g∈gs,g.ar.length≤100∧∀k,k < g.ar.length→0≤gI g.ar k∧gI g.ar k < (ss.length:Int):=λg hg=>by
 unfold figE at h;split at h
 ·omega
 ·split at h
  ·rename_i h2;exact absurd h h2
  ·obtain⟨j,hj,rfl⟩:=List.mem_iff_getElem.1 hg;have h1:=Zke h j hj;rw [show gs.getD j ⟨0,[],⟨false,[],[]⟩⟩=gs[j] from by rw [Zzo,Zzn hj];rfl] at h1;have hle:=arG_le gs[j].k;generalize gs[j]=g at *;unfold errG at h1;split at h1
   ·omega
   ·split at h1
    ·omega
    ·split at h1
     ·omega
     ·rename_i h2 h3 h4;exact⟨zo,λk hk=>Zw4 (by simpa using h4) hk⟩
theorem Zmk {ss:List RS} {gs:List RG} (h:figE ss gs=0):∀i,i < ss.length→errS ss i=0:=by
 unfold figE at h;split at h
 ·omega
 ·split at h
  ·rename_i h2;exact absurd h h2
  ·rename_i h2;exact Zke (Decidable.byContradiction λh3=>h2 h3)
theorem rlFew (ss:List RS) (gs:List RG) (cR:Pure prog 19 [figA ss gs] (iv (figE ss gs))):Pure prog 5 [figA ss gs] (.v (.bool (fewB ss gs))):=by
 have cR:Pure prog 19 [.agg [.sl 6 (ss.map RS.av),.sl 5 (gs.map RG.av)]] (iv (figE ss gs)):=cR;have hls:(ss.map RS.av).length=ss.length:=Zzg ..;have hlg:(gs.map RG.av).length=gs.length:=Zzg ..;have hgS:∀i (h:i < ss.length),(ss.map RS.av).getD i .u=ss[i].av:=λi h=>Zaj RS.av h;have hgG:∀i (h:i < gs.length),(gs.map RG.av).getD i .u=gs[i].av:=λi h=>Zaj RG.av h;have cT:ss.length≤8→gs.length≤3→figE ss gs=0→Pure prog 20 [.agg [.sl 6 (ss.map RS.av),.sl 5 (gs.map RG.av)]] (.v (.bool (Zkk ss gs))):=λa b h=>rlThin ss gs a zo (Zmk h) (Zu6 h);show Pure _ _ [.agg [.sl 6 (ss.map RS.av),.sl 5 (gs.map RG.av)]] _
 unfold fewB;have noS:∀i (h:i < ss.length),rat2 ss[i].r=false→(ss.all λs=>rat2 s.r)=false:=λi h e=>Zqj h e;have noG:∀i (h:i < gs.length),rat2 gs[i].r=false→(gs.all λs=>rat2 s.r)=false:=λi h e=>Zqj h e;have yeS:(∀i (h:i < ss.length),rat2 ss[i].r=true)→(ss.all λs=>rat2 s.r)=true:=λe=>Zja e;have yeG:(∀i (h:i < gs.length),rat2 gs[i].r=true)→(gs.all λs=>rat2 s.r)=true:=λe=>Zja e;generalize (ss.all λs=>rat2 s.r)=vS at *;generalize (gs.all λs=>rat2 s.r)=vG at *;generalize Zkk ss gs=vT at *;generalize figE ss gs=z at *;generalize ss.map RS.av=M at *;generalize gs.map RG.av=N at *;by_cases h8:ss.length≤8
 ·by_cases h3:gs.length≤3
  ·rw [Zzf h8,Zzf h3,ZA9,ZA9];by_cases hz:z=0
   ·subst hz;have cT:=cT h8 h3 rfl;rw [Zzf rfl,ZA9]
    cases vT with
    | false =>
      rw [ZAm];refine pI func5 rfl ntmps5 results5 call5 ?_;exact wklp (w_2 hls hlg) (w_2 cR cT) w_t (w_r 0) w_z
    | true =>
      rw [ZA9];refine pI func5 rfl ntmps5 results5 call5 ?_
      (refine wkap (w_2 hls hlg) (w_2 cR cT) (w_r 0) (w_s ?_);intros)
      rename_i g1;clear cR cT;refine Zab (ι:=Nat) (λi e m=>i≤ss.length∧e 1=.pbox 1 g1 0∧m 1=some (.box g1 25 [.sl 6 M,.sl 5 N] false)∧e 3=iv i∧∀j (h:j < ss.length),j < i→rat2 ss[j].r=true) (λi=>ss.length - i) 0 zr ?_ ?_
      ·rintro i e m ⟨hi,e1,m1,e3,hj⟩
       by_cases hlt:i < ss.length
       ·have hg:=hgS i hlt;have no:=noS i hlt;have nx:rat2 ss[i].r=true→∀j (h:j < ss.length),j < i+1→rat2 ss[j].r=true:=λh j hjj h2=>by
         by_cases e:j=i
         ·subst e;exact h
         ·exact hj j hjj zo
        clear hj noS yeS hgS hgG noG yeG;unfold rat2 at no nx;generalize ss[i]=s at *;obtain⟨k,nm,ar,⟨rs,rl,rd⟩⟩:=s;simp only at *;by_cases a1:rl.length≤2∧rd.length≤2
        ·have:=nx (by simp [a1.1,a1.2]);obtain⟨a1,a2⟩:=a1;clear nx no
         (refine wkap (w_6 e1 m1 e3 hls hg @Zax) w_t (w_r 0) (w_s ?_);intros)
         exact⟨i+1,⟨zo,gW e1,gW m1,gS,this⟩,zo⟩
        ·rw [no (by simp only [Bool.and_eq_false_iff,ZBr];omega),ZAm];clear nx no;(focus (refine wkap (w_6 e1 m1 e3 hls hg @Zax) w_t (w_r 0) ?_;(repeat' first|exact w_t|apply w_l);all_goals intros));all_goals first|((all_goals (try simp (disch:=omega) only [go_sem,Zzf,Zzd,Zzc,Zzb,Int.reduceAdd,Int.reduceSub,Int.reduceToNat,Zzh]));(all_goals first|done|rfl|(congr 2;first|done|omega|(rw [Zzz];simp only [bool_to_prop,Zzr,ZAa,ZAb,ZAc,ZAd];omega))|skip))|omega
       ·rw [yeS λj h=>hj j h zo,ZA9];clear hj noS yeS hgS
        (refine wkap (w_4 e1 m1 e3 hls) w_t (w_r 0) (w_s ?_);intros)
        refine Zab (ι:=Nat) (λi e m=>i≤gs.length∧e 1=.pbox 1 g1 0∧m 1=some (.box g1 25 [.sl 6 M,.sl 5 N] false)∧e 4=iv i∧∀j (h:j < gs.length),j < i→rat2 gs[j].r=true) (λi=>gs.length - i) 0 zr ?_ ?_
        ·rintro i e m ⟨hi,e1,m1,e4,hj⟩
         by_cases hlt:i < gs.length
         ·have hg:=hgG i hlt;have no:=noG i hlt;have nx:rat2 gs[i].r=true→∀j (h:j < gs.length),j < i+1→rat2 gs[j].r=true:=λh j hjj h2=>by
           by_cases e:j=i
           ·subst e;exact h
           ·exact hj j hjj zo
          clear hj hgG noG yeG;unfold rat2 at no nx;generalize gs[i]=s at *;obtain⟨k,ar,⟨rs,rl,rd⟩⟩:=s;simp only at *;by_cases a1:rl.length≤2∧rd.length≤2
          ·have:=nx (by simp [a1.1,a1.2]);obtain⟨a1,a2⟩:=a1;clear nx no
           (refine wkap (w_6 e1 m1 e4 hlg hg @Zax) w_t (w_r 0) (w_s ?_);intros)
           exact⟨i+1,⟨zo,gW e1,gW m1,gS,this⟩,zo⟩
          ·rw [no (by simp only [Bool.and_eq_false_iff,ZBr];omega)];clear nx no;(focus (refine wkap (w_6 e1 m1 e4 hlg hg @Zax) w_t (w_r 0) ?_;(repeat' first|exact w_t|apply w_l);all_goals intros));all_goals first|((all_goals (try simp (disch:=omega) only [go_sem,Zzf,Zzd,Zzc,Zzb,Int.reduceAdd,Int.reduceSub,Int.reduceToNat,Zzh]));(all_goals first|done|rfl|(congr 2;first|done|omega|(rw [Zzz];simp only [bool_to_prop,Zzr,ZAa,ZAb,ZAc,ZAd];omega))|skip))|omega
         ·rw [yeG λj h=>hj j h zo];clear hj hgG noG yeG;exact wklp (w_4 e1 m1 e4 hlg) w_t w_t (w_r 0) w_z
        ·exact⟨Zzp _,gW e1,gW m1,gC,λj h h2=>zo⟩
      ·exact⟨Zzp _,gC,gC,gC,λj h h2=>zo⟩
   ·rw [Zzd hz,ZAm];clear cT;refine pI func5 rfl ntmps5 results5 call5 ?_;exact wklp (w_3 hls hlg hz) (w_1 cR) w_t (w_r 0) w_z
  ·rw [Zzf h8,Zzd h3,ZA9,ZAm];clear cT;refine pI func5 rfl ntmps5 results5 call5 ?_;exact wklp (w_2 hls hlg) (w_1 cR) w_t (w_r 0) w_z
 ·rw [Zzd h8,ZAm];clear cT;refine pI func5 rfl ntmps5 results5 call5 ?_;exact wklp (w_2 hls hlg) (w_1 cR) w_t (w_r 0) w_z
def bigE (E:Nat→List Po) (i:Nat):Bool:=(E i).any λp=>decide (4000 < p.length)
def hypL (E:Nat→List Po):Nat→List Po
 | 0=>[]
 | i+1=>hypL E i++E i
theorem any_yes {E:Nat→List Po} {i n:Nat} (hi:i < n) (h:bigE E i=true):(List.range n).any (bigE E)=true:=List.any_eq_true.2 ⟨i,List.mem_range.2 hi,h⟩
theorem any_no {E:Nat→List Po} {n:Nat} (h:∀j,j < n→bigE E j=false):(List.range n).any (bigE E)=false:=by
 rw [List.any_eq_false];intro j hj;rw [h j (List.mem_range.1 hj)];simp
theorem hyOf (ss:List RS) (gs:List RG) (cs:List Pt) (vs:List Vt) (E:Nat→List Po) (hE:∀i,(E i).length≤10) (hl:ss.length≤1000)
 (co:Pure prog 40 [figA ss gs] (.tup [frmA cs vs,iv 0]))
 (hst:∀i,i < ss.length→Pure prog 41 [figA ss gs,frmA cs vs,iv i] (.tup [.sl 1 ((E i).map poA),iv 0])) :
 Pure prog 12 [figA ss gs] (if (List.range ss.length).any (bigE E)=true then .tup [.v (.slice none 0 0),iv 4] else .tup [.sl 1 ((hypL E ss.length).map poA),iv 0]):=by
 have co:Pure prog 40 [.agg [.sl 6 (ss.map RS.av),.sl 5 (gs.map RG.av)]] (.tup [.agg [.sl 2 (cs.map coA),.sl 3 (vs.map Vt.av)],iv 0]):=co;have hst:∀i,i < ss.length→Pure prog 41 [.agg [.sl 6 (ss.map RS.av),.sl 5 (gs.map RG.av)],.agg [.sl 2 (cs.map coA),.sl 3 (vs.map Vt.av)],iv i] (.tup [.sl 1 ((E i).map poA),iv 0]):=hst;have hls:(ss.map RS.av).length=ss.length:=Zzg ..;have hhl:∀i,i≤ss.length→(hypL E i).length≤10*i:=λi=>by
  induction i with
  | zero=>intro _;simp [hypL]
  | succ i ih =>
    intro h;have h1:=ih zo;have h2:=hE i;have h3:hypL E (i+1)=hypL E i++E i:=rfl;rw [h3,Zz0];omega
 show Pure _ _ [.agg [.sl 6 (ss.map RS.av),.sl 5 (gs.map RG.av)]] _;generalize ss.map RS.av=M at *;generalize gs.map RG.av=N at *;generalize cs.map coA=C at *;generalize vs.map Vt.av=V at *;refine pI func12 rfl ntmps12 results12 call12 ?_;(focus (refine wkap (w_1 hls) (w_1 co) (w_r 0) ?_;(repeat' first|exact w_t|apply w_l);all_goals intros));rename_i g1 g4;refine Zf5 (Frz.nilOwn (d:=6) 48 1 53 (gC)) ?_;refine Zab (ι:=Nat) (λi e m=>i≤ss.length∧e 1=.pbox 1 g1 0∧m 1=some (.box g1 25 [.sl 6 M,.sl 5 N] false)∧e 4=.pbox 4 g4 0∧m 4=some (.box g4 40 [.sl 2 C,.sl 3 V] false)∧e 21=.sl 6 M∧e 22=iv ss.length∧e 23=iv i∧(∃sv,e 6=.own 48 sv∧m 48=some (.row sv 53 1 ((hypL E i).map poA) 0))∧∀j,j < i→bigE E j=false) (λi=>ss.length - i) 0 zr ?_ ?_
 ·rintro i e m ⟨hi,e1,m1,e4,m4,e21,e22,e23,⟨sv,e6,m6⟩,hj⟩
  by_cases hlt:i < ss.length
  ·have cst:=hst i hlt;have hyes:bigE E i=true→(List.range ss.length).any (bigE E)=true:=any_yes hlt;have hnx:bigE E i=false→∀j,j < i+1→bigE E j=false:=λh j hjj=>by
    by_cases e:j=i
    ·rw [e];exact h
    ·exact hj j zo
   have hrow:(hypL E (i+1)).map poA=(hypL E i).map poA++(E i).map poA:=by show(hypL E i++E i).map poA=_;rw [Zzw]
   have hll:((hypL E i).map poA).length≤10000:=by rw [Zzg];have:=hhl i hi;omega
   have hbig:bigE E i=(E i).any λp=>decide (4000 < p.length):=rfl;have hle:=hE i;have hgE:∀y (h:y < (E i).length),((E i).map poA).getD y .u=.sl 4 ((E i)[y].map tmA):=λy h=>Zaj poA h;have hlE:((E i).map poA).length=(E i).length:=Zzg ..;clear hst hhl hj co;generalize bigE E i=b at *;generalize (hypL E i).map poA=R at *;generalize (E i).map poA=LA at *;generalize hL:E i=L at *;(focus (refine wkap (w_11 e1 m1 e4 m4 e21 e22 e23 e6 m6 hls hlE) (w_1 cst) (w_r 0) ?_;(repeat' first|exact w_t|apply w_l);all_goals intros));refine Zab (ι:=Nat) (λy e m=>y≤L.length∧e 1=.pbox 1 g1 0∧m 1=some (.box g1 25 [.sl 6 M,.sl 5 N] false)∧e 4=.pbox 4 g4 0∧m 4=some (.box g4 40 [.sl 2 C,.sl 3 V] false)∧e 21=.sl 6 M∧e 22=iv ss.length∧e 23=iv i∧e 6=.own 48 sv∧m 48=some (.row sv 53 1 R 0)∧e 8=.sl 1 LA∧e 36=.sl 1 LA∧e 37=iv L.length∧e 38=iv y∧∀j (h:j < L.length),j < y→¬4000 < L[j].length) (λy=>L.length - y) 0 zr ?_ ?_
   ·rintro y e m ⟨hy,e1,m1,e4,m4,e21,e22,e23,e6,m6,e8,e36,e37,e38,hq⟩
    by_cases hly:y < L.length
    ·have hgy:=hgE y hly;have hpl:(L[y].map tmA).length=L[y].length:=Zzg ..;have hby:4000 < L[y].length→b=true:=λh=>by rw [hbig,List.any_eq_true];exact⟨L[y],Zzt hly,by simpa using h⟩
     have hqx:¬4000 < L[y].length→∀j (h:j < L.length),j < y+1→¬4000 < L[j].length:=λh j hjj h2=>by
      by_cases e:j=y
      ·subst e;exact h
      ·exact hq j hjj zo
     clear hq hbig hgE hrow;generalize L[y].map tmA=P at *;by_cases h4:4000 < L[y].length
     ·rw [Zzc (hyes (hby h4))];clear hqx hby hnx hyes;(focus (refine wklp (w_17 e1 m1 e4 m4 e21 e22 e23 e6 m6 e8 e36 e37 e38 hls hlE hgy hpl) w_t w_t (w_r 0) ?_;(repeat' first|exact w_t|apply w_l);all_goals intros))
     ·have:=hqx h4;clear hqx hby hnx hyes;(focus (refine wkap (w_17 e1 m1 e4 m4 e21 e22 e23 e6 m6 e8 e36 e37 e38 hls hlE hgy hpl) w_t (w_r 0) ?_;(repeat' first|exact w_t|apply w_l);all_goals intros));exact⟨y+1,⟨zo,gW e1,gW m1,gW e4,gW m4,gW e21,gW e22,gW e23,gW e6,gW m6,gW e8,gW e36,gW e37,gS,this⟩,zo⟩
    ·have hb:b=false:=by
      rw [hbig,List.any_eq_false];intro x hx;obtain⟨j,hjl,rfl⟩:=List.mem_iff_getElem.1 hx;have:=hq j hjl zo
      simpa using this
     have:=hnx hb;clear hq hbig hgE hnx hyes hb;(focus (refine wkap (w_15 e1 m1 e4 m4 e21 e22 e23 e6 m6 e8 e36 e37 e38 hls hlE) w_t (w_r 0) ?_;(repeat' first|exact w_t|apply w_l);all_goals intros));exact⟨i+1,⟨zo,gW e1,gW m1,gW e4,gW m4,gW e21,gW e22,gS,⟨_,gC,by rw [hrow];exact gC⟩,this⟩,zo⟩
   ·exact⟨Zzp _,gW e1,gW m1,gW e4,gW m4,gW e21,gW e22,gW e23,gW e6,gW m6,gC,gC,by(simp (disch:=omega) only [go_sem,hlE]<;>repeat' first|rfl|refine⟨?_,?_⟩),gC,λj h h2=>zo⟩
  ·have hin:i=ss.length:=zo;subst hin;rw [Zzb (by rw [any_no hj];simp)];clear hst hhl hj co;generalize (hypL E ss.length).map poA=R at *;(focus (refine wklp (w_10 e1 m1 e4 m4 e21 e22 e23 e6 m6 hls) w_t (w_1 m6) (w_r 0) ?_;(repeat' first|exact w_t|apply w_l);all_goals intros))
 ·exact⟨Zzp _,gC,gC,gC,gC,gC,gW hls,gC,⟨_,gC,by(simp (disch:=omega) only [go_sem,hypL,Zz1]<;>repeat' first|rfl|refine⟨?_,?_⟩)⟩,λj h=>zo⟩
theorem lwSame (L:List Po) (hl:L.length≤100000) (he:∀p∈L,Pure prog 70 [poA p,poA p] (.v (.bool true))):Pure prog 26 [.sl 1 (L.map poA),.sl 1 (L.map poA)] (.v (.bool true)):=by
 have hlL:(L.map poA).length=L.length:=Zzg ..;have hg:∀y (h:y < L.length),(L.map poA).getD y .u=poA L[y]:=λy h=>Zaj poA h;generalize L.map poA=LA at *;refine pI func26 rfl ntmps26 results26 call26 ?_;(focus (refine wkad (w_1 hlL) w_t w_t ?_;(repeat' first|exact w_t|apply w_l);all_goals intros));refine Zab (ι:=Nat) (λi e m=>i≤L.length∧e 0=.sl 1 LA∧e 1=.sl 1 LA∧e 5=iv i) (λi=>L.length - i) 0 zr ?_ ?_
 ·rintro i e m ⟨hi,e0,e1,e5⟩
  by_cases hlt:i < L.length
  ·have hgi:=hg i hlt;have ce:=he _ (Zzt hlt);clear he hg;generalize L[i]=p at *;(focus (refine wkad (w_5 e0 e1 e5 hlL hgi) (w_1 ce) (w_1 (w_d 4 [(8,.v (.bool true))] [] [])) ?_;(repeat' first|exact w_t|apply w_l);all_goals intros));exact⟨i+1,⟨zo,gW e0,gW e1,gS⟩,zo⟩
  ·clear he hg;(focus (refine wkld (w_4 e0 e1 e5 hlL) w_t w_t w_t ?_;(repeat' first|exact w_t|apply w_l);all_goals intros))
 ·exact⟨Zzp _,gC,gC,gC⟩
attribute [local go_sem] Zqf Zt5
structure RT where
 r:RQ
 m:List Int
abbrev RT.av (t:RT):AV:=.agg [.v (.bool t.r.s),lim t.r.l,lim t.r.d,ivs t.m]
abbrev RT.tm (t:RT):Tm:=(t.r.q,t.m)
abbrev RT.zero:RT:=⟨⟨false,[],[]⟩,[]⟩
def RT.ok (t:RT):Bool:=t.r.ok && (decide (t.r.q≠0) && Zl6 t.m)
def trmOk (l:List RT) (i:Nat):Bool:=(l.getD i RT.zero).ok && (decide (i=0) || decide (ltM (l.getD i RT.zero).m (l.getD (i - 1) RT.zero).m))
def polOk (l:List RT):Bool:=(List.range l.length).all (trmOk l)
theorem Zwk {l:List RT} {i:Nat} (h:i < l.length):l.getD i RT.zero=l[i]:=by rw [Zzo,Zzn h];rfl
theorem Zm0 {m:List Int} (h:Zl6 m=true):Can m∧m.length≤64∧∀j,gI m j≤1048576:=by
 unfold Zl6 at h;simp only [Zz4,ZAg,ZBt,ZBy] at h;obtain⟨⟨h1,h2⟩,h3⟩:=h;have hj:∀j,0≤gI m j∧gI m j≤1048576:=λj=>by
  by_cases hl:j < m.length
  ·have:=h3 m[j] (Zzt hl);rw [Ze5 hl];unfold expOk at this;simp at this;omega
  ·rw [Zb9 zo];omega
 refine⟨⟨λj=>(hj j).1,?_⟩,h1,λj=>(hj j).2⟩;by_cases h0:m.length=0
 ·exact .inl h0
 ·rw [Zu4 zo] at h2;exact .inr (by simpa using h2)
theorem pol_in {l:List RT} {k:Nat} (h:polOk l=true) (hs:∀t∈l,t.r.lm k) :
 .sl 4 (l.map RT.av)=poA (l.map RT.tm)∧SrtM (l.map RT.tm)∧PK (l.map RT.tm) k 1048576∧∀t∈l,t.m.length≤64:=by
 have hall:∀i (hi:i < l.length),l[i].ok=true∧(i=0∨ltM l[i].m (l.getD (i - 1) RT.zero).m):=λi hi=>by
  have:=List.all_eq_true.1 h i (List.mem_range.2 hi);unfold trmOk at this;rw [Zwk hi] at this
  simpa using this
 have hok:∀t∈l,t.r.ok=true∧t.r.q≠0∧Zl6 t.m=true:=λt ht=>by
  obtain⟨i,hi,rfl⟩:=List.mem_iff_getElem.1 ht;have:=(hall i hi).1;unfold RT.ok at this;simp only [Zz4,ZAg] at this;exact this
 refine⟨?_,⟨λu hu=>?_,?_⟩,λu hu=>?_,λt ht=>(Zm0 (hok t ht).2.2).2.1⟩
 ·rw [poA,List.map_map];congr 1;refine ZBn λt ht=>?_;have:=(RQ.ok_av (hs t ht) (hok t ht).1).1;simp only [AV.agg.injEq,List.cons.injEq] at this;show AV.agg [_,_,_,_]=AV.agg [_,_,_,_];rw [this.1,this.2.1,this.2.2.1]
 ·obtain⟨t,ht,rfl⟩:=List.mem_map.1 hu;exact⟨(hok t ht).2.1,(Zm0 (hok t ht).2.2).1⟩
 ·have key:∀d i,i+d+1 < l.length→ltM (l.getD (i+d+1) RT.zero).m (l.getD i RT.zero).m:=by
   intro d
   induction d with
   | zero =>
     intro i hi;have:=(hall (i+1) hi).2;rw [Zwk hi];rcases this with h0 | h0
     ·omega
     ·exact h0
   | succ d ih =>
     intro i hi;have h1:=ih i zo;have h2:=(hall (i+(d+1)+1) hi).2;rw [Zwk hi];rcases h2 with h0 | h0
     ·omega
     ·exact ordM.tr _ _ _ h0 h1
  rw [List.pairwise_map,List.pairwise_iff_getElem];intro i j hi hj hij;have:=key (j - i - 1) i zo;rw [show i+(j - i - 1)+1=j by omega,Zwk hi,Zwk hj] at this;exact this
 ·obtain⟨t,ht,rfl⟩:=List.mem_map.1 hu;obtain⟨h1,h2,h3⟩:=Zm0 (hok t ht).2.2;exact⟨(RQ.ok_av (hs t ht) (hok t ht).1).2,by show t.m.length≤1000;omega,λj=>⟨h1.1 j,h3 j⟩⟩
def degM (p:Po):Int:=p.foldl (λn t=>max n (sumT t.2 t.2.length)) (-1)
theorem Zyp {p:Po} {i:Nat} (hi:i < p.length):degM (p.take (i+1))=max (degM (p.take i)) (sumT p[i].2 p[i].2.length):=by
 unfold degM;rw [ZB7 hi,List.foldl_append];rfl
theorem Zvy {l:List Int} {e:Nat} (h:∀j,0≤gI l j∧gI l j≤(e:Int)):∀n,0≤sumT l n∧sumT l n≤((n*e:Nat):Int)
 | 0=>by simp [sumT]
 | n+1=>by
   have:=Zvy h n;have h1:=h n;have h2:sumT l (n+1)=sumT l n+gI l n:=rfl;rw [h2,ZC1];omega
def RT.two (t:RT):Bool:=decide (t.m.length≤4) && (decide (t.r.l.length≤2) && decide (t.r.d.length≤2))
def cooP (l:List RT):Bool:=decide (l.length≤6) && (polOk l && l.all λt=>t.two && decide (degM (l.map RT.tm)≤8))
theorem coo_in {l:List RT} {k:Nat} (hs:∀t∈l,t.r.lm k) (h:cooP l=true):.sl 4 (l.map RT.av)=poA (l.map RT.tm)∧PB (l.map RT.tm) 8 110 8:=by
 unfold cooP at h;simp only [Zz4,ZAg,ZBy] at h;obtain⟨h6,ho,h2⟩:=h;have h3:∀t∈l,t.r.lm 2:=λt ht=>by
  have:=(h2 t ht).1;unfold RT.two at this;simp only [Zz4,ZAg] at this;exact⟨(hs t ht).1,(hs t ht).2.1,this.2.1,this.2.2⟩
 obtain⟨e,st,pk,-⟩:=pol_in ho h3;refine⟨e,st,λu hu=>?_,by rw [Zzg];omega⟩;obtain⟨t,ht,rfl⟩:=List.mem_map.1 hu;have hp:=pk _ hu;refine⟨hp.1.mono zo,hp.2.1,λj=>⟨(hp.2.2 j).1,?_⟩⟩
 have hd:sumT t.m t.m.length≤8:=by
  have h4:=(h2 t ht).2;obtain⟨i,hi,e⟩:=List.mem_iff_getElem.1 hu;have h5:∀n,n≤(l.map RT.tm).length→i < n→sumT t.m t.m.length≤degM ((l.map RT.tm).take n):=λn=>by
   induction n with
   | zero=>intro _ h;omega
   | succ n ih =>
     intro hn hin;rw [Zyp zo];by_cases e2:i=n
     ·subst e2;rw [e];exact Int.le_max_right _ _
     ·exact Int.le_trans (ih zo zo) (Int.le_max_left _ _)
  have:=h5 (l.map RT.tm).length (Zze _) hi;rw [ZAe] at this;omega
 have key:∀n j,j < n→gI t.m j≤sumT t.m n:=λn=>by
  induction n with
  | zero=>intro j h;omega
  | succ n ih =>
    intro j hj;have e1:sumT t.m (n+1)=sumT t.m n+gI t.m n:=rfl;rw [e1];have h0:=(hp.2.2 n).1;have hb:=(Zvy (λj=>(hp.2.2 j)) n).1;by_cases e2:j=n
    ·subst e2;simp only at *;omega
    ·have:=ih j zo;simp only at *;omega
 by_cases hj:j < t.m.length
 ·have:=key _ _ hj;simp only;omega
 ·show gI t.m j≤_;rw [Zb9 zo];omega
end Go.Proofs.YtenfejhaohihoaaGreat
namespace Go.Proofs.YtenfejhaohihoaaGreat
attribute [-bool_to_prop] Bool.and_eq_decide Bool.or_eq_decide Bool.decide_beq_decide decide_eq_decide
section
open Go Go.RowKit Go.Pg Go.Pol
end
end Go.Proofs.YtenfejhaohihoaaGreat
namespace Go.Proofs.YtenfejhaohihoaaGreat
open Go Go.RowKit Go.Pg Go.Pol Go.Proofs.Tryz
attribute [-bool_to_prop] Bool.and_eq_decide Bool.or_eq_decide Bool.decide_beq_decide decide_eq_decide
theorem Zk4 {α:Type} [DecidableEq α]:∀(l m:List α),l.Nodup→(∀x∈l,x∈m)→l.length≤m.length
 | [],_,_,_=>Zzp _
 | x :: l,m,h,hs=>by
   obtain⟨h1,h2⟩:=List.nodup_cons.1 h;have hx:=hs x (.head _);have:=Zk4 l (m.erase x) h2 λy hy=>(List.mem_erase_of_ne (show y≠x from λe=>h1 (by rw [←e];exact hy))).2 (hs y (.tail _ hy));rw [List.length_erase_of_mem hx] at this;have hp:=List.length_pos_of_mem hx;rw [Zzq];omega
theorem Zv2 {p:Po} (h:SrtM p):(p.map (·.2)).Nodup:=by
 rw [List.Nodup,List.pairwise_map];refine List.Pairwise.imp ?_ h.2;intro s t hst e;rw [e] at hst;exact ordM.irr _ hst
theorem len_of {r a b:Po} (hr:SrtM r) (h:∀t∈r,t.2∈a.map (·.2)∨t.2∈b.map (·.2)):r.length≤a.length+b.length:=by
 have:=Zk4 (r.map (·.2)) (a.map (·.2)++b.map (·.2)) (Zv2 hr) λx hx=>by
  obtain⟨t,ht,rfl⟩:=List.mem_map.1 hx;exact List.mem_append.2 (h t ht)
 simpa using this
theorem Zxs {q:Rat} {p:Po} {t:Tm} (h:t∈sclM q p):t.2∈p.map (·.2):=by
 unfold sclM at h;split at h
 ·cases h
 ·obtain⟨s,hs,rfl⟩:=List.mem_map.1 h;exact List.mem_map.2 ⟨s,hs,rfl⟩
theorem Znk {p q:Po} {t:Tm} (h:t∈addM p q):t.2∈p.map (·.2)∨t.2∈q.map (·.2):=by
 obtain⟨s,hs,e⟩:=Zkb h;rcases List.mem_append.1 hs with h1 | h1
 ·exact .inl (List.mem_map.2 ⟨s,h1,e.symm⟩)
 ·exact .inr (List.mem_map.2 ⟨s,h1,e.symm⟩)
theorem mem_neg {p:Po} {x:List Int} (h:x∈(Zas (-1) p).map (·.2)):x∈p.map (·.2):=by
 unfold Zas at h;rw [List.map_map] at h;exact h
theorem Zxy {a b:Po} (q:Rat) (ha:SrtM a) (hb:SrtM b):(addM a (sclM q (subM b a))).length≤a.length+b.length :=
 len_of (Za4 ordM ha (Zif (Zbw ordM hb ha))) λt ht=>by
  rcases Znk ht with h | h
  ·exact .inl h
  ·obtain⟨s,hs,e⟩:=List.mem_map.1 h;have h1:=Zxs hs;obtain⟨u,hu,e2⟩:=List.mem_map.1 h1;rcases Znk hu with h2 | h2
   ·exact .inr (by rw [←e,←e2];exact h2)
   ·exact .inl (by rw [←e,←e2];exact mem_neg h2)
theorem Zqi {f:FS} (h:∀c∈f.cs,SrtM c.1∧SrtM c.2) (s:RS) (k:Nat):SrtM (f.at s k).1∧SrtM (f.at s k).2:=by
 unfold FS.at;by_cases hk:(gI s.ar k).toNat < f.cs.length
 ·exact h _ (Zay hk)
 ·rw [Zzo,ZAr zo];exact⟨.nil,.nil⟩
theorem nxt_srt {f:FS} (h:∀c∈f.cs,SrtM c.1∧SrtM c.2) (i:Nat) (s:RS):SrtM (f.nxt i s).2.1∧SrtM (f.nxt i s).2.2:=by
 obtain⟨a1,a2⟩:=Zqi h s 0;obtain⟨b1,b2⟩:=Zqi h s 1;obtain⟨c1,c2⟩:=Zqi h s 2;have hv:=Zb1;unfold FS.nxt;simp only;split
 ·split
  ·exact⟨.nil,.nil⟩
  ·split
   ·exact⟨hv _,.nil⟩
   ·exact⟨hv _,hv _⟩
 ·split
  ·exact⟨Za4 ordM a1 (Zif (Zbw ordM b1 a1)),Za4 ordM a2 (Zif (Zbw ordM b2 a2))⟩
  ·split
   ·exact⟨Za4 ordM a1 (Zbw ordM c1 b1),Za4 ordM a2 (Zbw ordM c2 b2)⟩
   ·split
    ·exact⟨Za4 ordM a1 (Zbw ordM b2 c2),Za4 ordM a2 (Zbw ordM c1 b1)⟩
    ·split
     ·exact⟨Za4 ordM a1 (Zam ordM mulK (Zbw ordM b1 a1) (hv _)),Za4 ordM a2 (Zam ordM mulK (Zbw ordM b2 a2) (hv _))⟩
     ·split
      ·exact⟨hv _,hv _⟩
      ·exact⟨hv _,hv _⟩
theorem Zr3 (ss:List RS):∀i,∀c∈(frN ss i).cs,SrtM c.1∧SrtM c.2
 | 0,c,h=>by simp [frN] at h
 | i+1,c,h=>by
   rcases List.mem_append.1 (show c∈(frN ss i).cs++[_] from h) with h1 | h1
   ·exact Zr3 ss i c h1
   ·rw [ZAs] at h1;subst h1;exact nxt_srt (Zr3 ss i) i _
theorem at_w {f:FS} {w:List Int} (h:∀n,((f.cs.getD n ([],[])).1.length:Int)≤gI w n∧((f.cs.getD n ([],[])).2.length:Int)≤gI w n) (s:RS) (k:Nat):((f.at s k).1.length:Int)≤gI w (gI s.ar k).toNat∧((f.at s k).2.length:Int)≤gI w (gI s.ar k).toNat:=h _
theorem nxt_w {f:FS} {w:List Int} (h0:∀c∈f.cs,SrtM c.1∧SrtM c.2) (h:∀n,((f.cs.getD n ([],[])).1.length:Int)≤gI w n∧((f.cs.getD n ([],[])).2.length:Int)≤gI w n) (i:Nat) (s:RS) :
 ((f.nxt i s).2.1.length:Int)≤wOf w s∧((f.nxt i s).2.2.length:Int)≤wOf w s:=by
 obtain⟨a1,a2⟩:=at_w h s 0;obtain⟨b1,b2⟩:=at_w h s 1;obtain⟨c1,c2⟩:=at_w h s 2;obtain⟨r1,r2⟩:=Zqi h0 s 0;obtain⟨t1,t2⟩:=Zqi h0 s 1;have hv:=λv=>(Zed v).l;have d1:=Zxy s.r.q r1 t1;have d2:=Zxy s.r.q r2 t2;unfold FS.nxt wOf;simp only;generalize f.at s 0=a at *;generalize f.at s 1=b at *;generalize f.at s 2=c at *;have hw:∀p q r:Po,(addM p (subM q r)).length≤p.length+(q.length+r.length):=fun(p q r:Po)=>Zzi (Zkh (lt:=ltM) p (subM q r)) (Nat.add_le_add_left (Zc8 q r) _);have hw':∀(p q:Po) (v:Nat),(addM p (mlM (subM q p) (varM v))).length≤p.length+(q.length+p.length):=fun(p q:Po) (v:Nat)=>Zzi (Zkh (lt:=ltM) p (mlM (subM q p) (varM v))) (Nat.add_le_add_left (Zzi (Zhr (subM q p) v) (Zc8 q p)) _)
 have two:∀{x y:Po} {v:Int},(x.length:Int)≤v→(y.length:Int)≤v→(x.length:Int)≤v∧(y.length:Int)≤v:=λh k=>⟨h,k⟩;have v1:=hv f.vs.length;have v2:=hv (f.vs.length+1);have v3:=hv (f.vs.length+2);have n0:((([]:Po)).length:Int)≤1:=by simp
 by_cases k1:s.k=1
 ·rw [Zzc k1,Zzb (show ¬s.k=2 by omega),Zzb (show ¬(s.k=3∨s.k=4) by omega),Zzb (show ¬s.k=5 by omega)];split
  ·exact two n0 n0
  ·split
   ·exact two (x:=varM f.vs.length) zo n0
   ·exact two (x:=varM f.vs.length) (y:=varM (f.vs.length+1)) zo zo
 ·rw [Zzb k1];by_cases k2:s.k=2
  ·rw [Zzc k2,Zzc k2];exact two (x:=addM a.1 (sclM s.r.q (subM b.1 a.1))) (y:=addM a.2 (sclM s.r.q (subM b.2 a.2))) zo zo
  ·rw [Zzb k2,Zzb k2];by_cases k3:s.k=3
   ·rw [Zzc k3,Zzc (Or.inl k3)];have h1:=hw a.1 c.1 b.1;have h2:=hw a.2 c.2 b.2;exact two (x:=addM a.1 (subM c.1 b.1)) (y:=addM a.2 (subM c.2 b.2)) zo zo
   ·rw [Zzb k3];by_cases k4:s.k=4
    ·rw [Zzc k4,Zzc (Or.inr k4)];have h1:=hw a.1 b.2 c.2;have h2:=hw a.2 c.1 b.1;exact two (x:=addM a.1 (subM b.2 c.2)) (y:=addM a.2 (subM c.1 b.1)) zo zo
    ·rw [Zzb k4,Zzb (show ¬(s.k=3∨s.k=4) by omega)];by_cases k5:s.k=5
     ·rw [Zzc k5,Zzc k5];have h1:=hw' a.1 b.1 f.vs.length;have h2:=hw' a.2 b.2 f.vs.length;exact two (x:=addM a.1 (mlM (subM b.1 a.1) (varM f.vs.length))) (y:=addM a.2 (mlM (subM b.2 a.2) (varM f.vs.length))) zo zo
     ·rw [Zzb k5,Zzb k5];split
      ·exact two (x:=varM (f.vs.length+1)) (y:=varM (f.vs.length+2)) zo zo
      ·exact two (x:=varM f.vs.length) (y:=varM (f.vs.length+1)) zo zo
theorem frN_w (ss:List RS):∀i n,(((frN ss i).cs.getD n ([],[])).1.length:Int)≤gI (wts ss i) n∧(((frN ss i).cs.getD n ([],[])).2.length:Int)≤gI (wts ss i) n
 | 0,n=>by simp [frN,wts,gI]
 | i+1,n=>by
   have ih:=frN_w ss i;show((((frN ss i).cs++[_]).getD n ([],[])).1.length:Int)≤gI (wts ss i++[_]) n∧((((frN ss i).cs++[_]).getD n ([],[])).2.length:Int)≤gI (wts ss i++[_]) n;rw [Zyf,Zib];have hl:=Zcm ss i;by_cases h1:n < i
   ·rw [Zzc h1,Zzo,ZAx zo,←Zzo];exact ih n
   ·rw [Zzb h1];by_cases h2:n=i
    ·rw [Zzc h2,Zzo,ZAy zo,hl,h2,ZCo];exact nxt_w (Zr3 ss i) ih i _
    ·rw [Zzb h2,Zzo,ZAr (by simp;omega)];simp
theorem vs_le (ss:List RS):∀i,(frN ss i).vs.length≤3*i
 | 0=>by simp [frN]
 | i+1=>by
   show((frN ss i).vs++((frN ss i).nxt i (ss.getD i RS.zero)).1).length≤_;rw [Zz0];have:=vs_le ss i;have:=Zng (frN ss i) i (ss.getD i RS.zero);omega
def dgS (S:Nat→Bool) (m:List Int):Nat→Int
 | 0=>0
 | n+1=>dgS S m n+if S n then gI m n else 0
theorem Zjn (S:Nat→Bool) (a b:List Int):∀n,dgS S (mulM a b) n=dgS S a n+dgS S b n
 | 0=>rfl
 | n+1=>by
   show dgS S (mulM a b) n+_=(dgS S a n+_)+(dgS S b n+_);rw [Zjn S a b n,show gI (mulM a b) n=gI a n+gI b n from Zft _ rfl a b n];split<;>omega
theorem Zi4 (S:Nat→Bool) (v:Nat):∀n,dgS S (Zc5 v) n=if S v=true∧v < n then 1 else 0
 | 0=>by simp [dgS]
 | n+1=>by
   show dgS S (Zc5 v) n+_=_;rw [Zi4 S v n,Zez];by_cases h:n=v
   ·subst h;cases hS:S n<;>simp
   ·rw [Zzb h,show(if S n=true then (0:Int) else 0)=0 from by split<;>rfl,Int.add_zero];have:(S v=true∧v < n)=(S v=true∧v < n+1):=propext ⟨λx=>⟨x.1,zo⟩,λx=>⟨x.1,zo⟩⟩;simp only [this]
def DP (S:Nat→Bool) (V:Nat) (d:Int) (p:Po):Prop:=∀t∈p,t.2.length≤V∧dgS S t.2 V≤d
theorem DP.mono {S:Nat→Bool} {V:Nat} {d e:Int} {p:Po} (h:DP S V d p) (hd:d≤e):DP S V e p:=λt ht=>⟨(h t ht).1,by have:=(h t ht).2;omega⟩
theorem DP.add {S:Nat→Bool} {V:Nat} {d:Int} {p q:Po} (h:DP S V d p) (g:DP S V d q):DP S V d (addM p q):=λt ht=>by
 rcases Znk ht with h1 | h1
 ·obtain⟨u,hu,e⟩:=List.mem_map.1 h1;rw [←e];exact h u hu
 ·obtain⟨u,hu,e⟩:=List.mem_map.1 h1;rw [←e];exact g u hu
theorem DP.neg {S:Nat→Bool} {V:Nat} {d:Int} {p:Po} (h:DP S V d p):DP S V d (Zas (-1) p):=λt ht=>by
 obtain⟨u,hu,rfl⟩:=List.mem_map.1 ht;exact h u hu
theorem DP.sub {S:Nat→Bool} {V:Nat} {d:Int} {p q:Po} (h:DP S V d p) (g:DP S V d q):DP S V d (subM p q):=h.add g.neg
theorem DP.mul {S:Nat→Bool} {V:Nat} {d e:Int} {p q:Po} (h:DP S V d p) (g:DP S V e q):DP S V (d+e) (mlM p q):=by
 have key:∀(q out:Po),DP S V e q→DP S V (d+e) out→DP S V (d+e) (q.foldl (λout t=>addP ltM out (Zah mulM p t)) out):=by
  intro q
  induction q with
  | nil=>exact λout _ h2=>h2
  | cons t q ih =>
    intro out h1 h2;rw [ZDu];refine ih _ (λu hu=>h1 u (.tail _ hu)) (h2.add λu hu=>?_);obtain⟨s,hs,rfl⟩:=List.mem_map.1 hu;obtain⟨a1,a2⟩:=h s hs;obtain⟨b1,b2⟩:=h1 t (.head _);exact⟨by show(mulM s.2 t.2).length≤V;rw [Zgn];omega,by show dgS S (mulM s.2 t.2) V≤_;rw [Zjn];omega⟩
 exact key q [] g λt ht=>by cases ht
theorem Zi7 (m:List Int→List Int→List Int) (p q:Po) (x:List Int):cofM m p q x=evl (λa=>cof (Zah m p (1,a)) x) q:=by
 have h1:∀(s:Tm) (q:Po),cof (Zah m q s) x=s.1*cof (Zah m q (1,s.2)) x:=by
  intro s q
  induction q with
  | nil=>show(0:Rat)=s.1*0;rw [Rat.mul_zero]
  | cons t q ih =>
    show(if m t.2 s.2=x then t.1*s.1 else 0)+cof (Zah m q s) x=s.1*((if m t.2 s.2=x then t.1*1 else 0)+cof (Zah m q (1,s.2)) x);rw [ih,Rat.mul_add,ZCh];split
    ·rw [Rat.mul_comm]
    ·rw [Rat.mul_zero]
 induction q with
 | nil=>rfl
 | cons s q ih =>
   show cof (Zah m p s) x+cofM m p q x=s.1*cof (Zah m p (1,s.2)) x+evl _ q;rw [ih,h1]
theorem Zpk {p q:Po} (hp:SrtM p) (hq:SrtM q):mlM p q=mlM q p:=Zix ordM mulK hp hq
theorem mul_addR {p q r:Po} (hp:SrtM p) (hq:SrtM q) (hr:SrtM r):mlM r (addM p q)=addM (mlM r p) (mlM r q):=by
 refine Zg1 ordM (Zam ordM mulK hr (Za4 ordM hp hq)) (Za4 ordM (Zam ordM mulK hr hp) (Zam ordM mulK hr hq)) λx=>?_;have e1:cof (mlM r (addM p q)) x=_:=Ze4 ordM mulK hr (Za4 ordM hp hq) x;have e2:cof (mlM r p) x=_:=Ze4 ordM mulK hr hp x;have e3:cof (mlM r q) x=_:=Ze4 ordM mulK hr hq x;rw [Zi6 ordM x (Zam ordM mulK hr hp).dom (Zam ordM mulK hr hq).dom,e1,e2,e3,Zi7,Zi7,Zi7,Zns ordM _ hp.dom hq.dom]
theorem mul_negR {p r:Po} (hp:SrtM p) (hr:SrtM r):mlM r (Zas (-1) p)=Zas (-1) (mlM r p):=by
 refine Zg1 ordM (Zam ordM mulK hr (Zbd hp neg1)) (Zbd (Zam ordM mulK hr hp) neg1) λx=>?_;have e1:cof (mlM r (Zas (-1) p)) x=_:=Ze4 ordM mulK hr (Zbd hp neg1) x;have e2:cof (mlM r p) x=_:=Ze4 ordM mulK hr hp x;rw [Zi5,e1,e2,Zi7,Zi7,Zlg]
theorem mul_subR {p q r:Po} (hp:SrtM p) (hq:SrtM q) (hr:SrtM r):mlM r (subM p q)=subM (mlM r p) (mlM r q):=by
 unfold subM subP;rw [show addP ltM p (Zas (-1) q)=addM p (Zas (-1) q) from rfl,mul_addR hp (Zbd hq neg1) hr,mul_negR hq hr]
attribute [go_sem] underlying166 szA2P zA2P
attribute [local go_sem] Zcf Zcy Zec Zbm Zbo Zbn Zb5 Zb6 Zdc Zdn Zc6 Zdm Zdl Zdt Zdd Zbg Zbh Zcj Zd0 Za5 Zb4 Zdw Zdz Zf3 Zdv Zdy Zf2 Zbq Zbt Zcw Zbu Zc4 Zd2 Zgg Zgi Zjs Zj1 Zn6 Zof Zg0 Zhd Zkj Zj4 undFnN
theorem poConst1:Pure prog 121 [ratQ 1] (poA oneM):=by
 have z1:Sz (1:Rat) 1:=Zco 1 zo;have z0:Sz (0:Rat) 1:=Zco 0 zo;have o0:Pure prog 100 [iv 0] (ratQ 0):=Zum 0 zo;have ad:=Zou 1 0 z1 z0 zo zo;rw [ZB3] at ad;have sg:Pure prog 183 [ratQ 1,.v (.slice none 0 0)] (poA oneM):=Zj9 (Zs4 1 [] zd z1 zo) (.cons (.refl _) (.cons (.nil 1) .nil));generalize (0:Rat)=q0 at *;generalize hr:oneM=r at *;generalize (1:Rat)=q1 at *;refine pI func121 rfl ntmps121 results121 call121 ?_;(focus (refine wkld w_t (w_3 o0 ad sg) w_t (w_1 (w_d 1 [(1,ratQ q0),(2,ratQ q1),(3,poA r)] [] [])) ?_;(repeat' first|exact w_t|apply w_l);all_goals intros))
theorem Zx5 {p:Po} {n j e:Nat} (h:PB p n j e) (hn:n≤1000000) (hj:j≤900000) (he:e≤100):Pure prog 176 [poA p] (poA (dblM p)):=by
 have o2:Pure prog 100 [iv 2] (ratQ 2):=Zum 2 zo;have l:=h.l;have c:=Znb p 2 h.k (Zco 2 zo) h.s zo zo zo zo;rw [dbl_scl h.s] at c;clear h;generalize dblM p=r at *;generalize (2:Rat)=q at *;refine pI func176 rfl ntmps176 results176 call176 ?_;(focus (refine wklp w_t (w_2 o2 c) w_t (w_r 0) ?_;(repeat' first|exact w_t|apply w_l);all_goals intros))
theorem Zp2 (a x w u:Pt) (p q a1 a2 b1 b2 r1 r2:Po) (cb:Pure prog 118 [coA a,coA x] (coA w))
 (p1:Pure prog 120 [poA p,poA w.1] (poA a1)) (p2:Pure prog 120 [poA p,poA w.2] (poA a2))
 (q1:Pure prog 120 [poA q,poA u.1] (poA b1)) (q2:Pure prog 120 [poA q,poA u.2] (poA b2))
 (s1:Pure prog 119 [poA a1,poA b1] (poA r1)) (s2:Pure prog 119 [poA a2,poA b2] (poA r2)) :
 Pure prog 175 [coA a,coA x,poA p,poA q,coA u] (.sl 1 [poA r1,poA r2]):=by
 obtain⟨aa,ab⟩:=a;obtain⟨xa,xb⟩:=x;obtain⟨w1,w2⟩:=w;obtain⟨u1,u2⟩:=u;simp only at p1 p2 q1 q2;refine pI func175 rfl ntmps175 results175 call175 ?_;(focus (refine wkad w_t (w_1 cb) w_t ?_;(repeat' first|exact w_t|apply w_l);all_goals intros));rename_i g5 g6 g9 g11 g12;refine Zab (ι:=Nat) (λi e m=>i≤2∧e 2=poA p∧e 3=poA q∧e 9=.pbox 9 g9 0∧m 9=some (.box g9 178 [poA u1,poA u2] false)∧e 11=.pbox 11 g11 0∧m 11=some (.box g11 178 [poA w1,poA w2] false)∧e 12=.pbox 12 g12 0∧m 12=some (.box g12 166 (if i=0 then [.v (.slice none 0 0),.v (.slice none 0 0)] else if i=1 then [poA r1,.v (.slice none 0 0)] else [poA r1,poA r2]) false)∧e 17=iv i) (λi=>2 - i) 0 zr ?_ ?_
 ·rintro i e m ⟨hi,e2,e3,e9,m9,e11,m11,e12,m12,e17⟩
  have h3:i=0∨i=1∨i=2:=zo;rcases h3 with rfl | rfl | rfl
  ·simp only [ZAj] at m12;(focus (refine wkad (w_9 e2 e3 e9 m9 e11 m11 e12 m12 e17) (w_3 p1 q1 s1) (w_1 (w_d 6 [(5,poA a1),(10,poA b1),(11,poA r1)] [13] [])) ?_;(repeat' first|exact w_t|apply w_l);all_goals intros));exact⟨1,⟨zo,gW e2,gW e3,gW e9,gW m9,gW e11,gW m11,gW e12,by(simp (disch:=omega) only [go_sem,List.set_cons_zero]<;>repeat' first|rfl|refine⟨?_,?_⟩),gC⟩,zo⟩
  ·simp only [ZAj,Zz8,show ¬((1:Nat)=0) from by decide] at m12;(focus (refine wkad (w_9 e2 e3 e9 m9 e11 m11 e12 m12 e17) (w_3 p2 q2 s2) (w_1 (w_d 6 [(5,poA a2),(10,poA b2),(11,poA r2)] [13] [])) ?_;(repeat' first|exact w_t|apply w_l);all_goals intros));exact⟨2,⟨zo,gW e2,gW e3,gW e9,gW m9,gW e11,gW m11,gW e12,by(simp (disch:=omega) only [go_sem,List.set_cons_zero,List.set_cons_succ]<;>repeat' first|rfl|refine⟨?_,?_⟩),gC⟩,zo⟩
  ·simp only [Zz8,show ¬((2:Nat)=0) from by decide,show ¬((2:Nat)=1) from by decide] at m12;(focus (refine wkld (w_9 e2 e3 e9 m9 e11 m11 e12 m12 e17) w_t w_t w_t ?_;(repeat' first|exact w_t|apply w_l);all_goals intros))
 ·exact⟨zo,gC,gC,gC,gC,gC,gC,gC,gC,gC⟩
theorem slope_pb {t:Po} (ht:PB t 1 1 1):PB (Zfm t) 2 5 2:=(Zf7.add (ht.mul ht)).mono zo zo zo
theorem hyCirc {o a x:Pt} {t:Po} (ho:CB o) (ha:CB a) (hx:CB x) (ht:PB t 1 1 1):Pure prog 174 [coA o,coA a,coA x,poA t] (.sl 1 ((Zll o a x t).map poA)):=by
 obtain⟨x1,y1⟩:=ha.df ho;obtain⟨x2,y2⟩:=ha.df hx;have o1:Pure prog 100 [iv 1] (ratQ 1):=Zum 1 zo;have k1:=poConst1;have m11:=(Zi3 Zf7 Zf7 zo zo zo zo zo zo zo zo zo).1;rw [one_mul Zf7.s] at m11;have mtt:=(Zi3 ht ht zo zo zo zo zo zo zo zo zo).1;have asl:=(hpAdd Zf7 (ht.mul ht) zo zo zo zo zo zo).1;have d1:=Zx7 (oneM,t) (oneM,t) oneM _ (Zfm t) m11 mtt asl;have b1:=Zeu ha ho;have e1:=(Zi3 x1 Zf7 zo zo zo zo zo zo zo zo zo).1;rw [Zth x1.s] at e1;have e2:=(Zi3 y1 ht zo zo zo zo zo zo zo zo zo).1;rw [Zpk y1.s ht.s] at e2;have zt:PB (mlM t (subM o.2 a.2)) 16 3600 9:=(ht.mul y1).mono zo zo zo
 have ad:=(hpAdd x1 zt zo zo zo zo zo zo).1;have d2:=Zx7 (dfM a o) (oneM,t) _ _ _ e1 e2 ad;have zd:PB (addM (subM o.1 a.1) (mlM t (subM o.2 a.2))) 32 3822 9:=(x1.add zt).mono zo zo zo;have tw:=Zx5 zd zo zo zo;have zs:PB (dblM (addM (subM o.1 a.1) (mlM t (subM o.2 a.2)))) 64 7645 9:=zd.dbl.mono zo zo zo;have zl:=slope_pb ht;have p1:=(Zi3 zl x2 zo zo zo zo zo zo zo zo zo).1;have p2:=(Zi3 zl y2 zo zo zo zo zo zo zo zo zo).1;have q1:=(Zi3 zs Zf7 zo zo zo zo zo zo zo zo zo).1;rw [Zth zs.s] at q1;have q2:=(Zi3 zs ht zo zo zo zo zo zo zo zo zo).1;rw [Zpk zs.s ht.s] at q2;have r1:=(Znp (zl.mul x2) zs zo zo zo zo zo zo).1
 have r2:=(Znp (zl.mul y2) (ht.mul zs) zo zo zo zo zo zo).1;have sc:=Zp2 a x (dfM a x) (oneM,t) _ _ _ _ _ _ _ _ (Zeu ha hx) p1 p2 q1 q2 r1 r2;show Pure _ _ _ (.sl 1 [poA (subM (mlM (Zfm t) (subM x.1 a.1)) (dblM (addM (subM o.1 a.1) (mlM t (subM o.2 a.2))))),poA (subM (mlM (Zfm t) (subM x.2 a.2)) (mlM t (dblM (addM (subM o.1 a.1) (mlM t (subM o.2 a.2))))))]);clear x1 y1 x2 y2 m11 mtt asl e1 e2 zt ad zd zs zl p1 p2 q1 q2 r1 r2 ho ha hx ht;generalize subM (mlM (Zfm t) (subM x.1 a.1)) (dblM (addM (subM o.1 a.1) (mlM t (subM o.2 a.2))))=r1 at *;generalize subM (mlM (Zfm t) (subM x.2 a.2)) (mlM t (dblM (addM (subM o.1 a.1) (mlM t (subM o.2 a.2)))))=r2 at *
 generalize dblM (addM (subM o.1 a.1) (mlM t (subM o.2 a.2)))=s at *;generalize addM (subM o.1 a.1) (mlM t (subM o.2 a.2))=d at *;generalize Zfm t=sl at *;unfold dfM at b1 d2;generalize subM o.1 a.1=w1 at *;generalize subM o.2 a.2=w2 at *;generalize (1:Rat)=q at *;generalize oneM=one at *;obtain⟨aa,ab⟩:=a;obtain⟨oa,ob⟩:=o;obtain⟨xa,xb⟩:=x;refine pI func174 rfl ntmps174 results174 call174 ?_;(focus (refine wkld w_t (w_7 o1 k1 d1 b1 d2 tw sc) w_t (w_1 (w_d 3 [(4,poA sl),(7,coA (w1,w2)),(9,poA d),(10,poA s),(12,.sl 1 [poA r1,poA r2])] [] [])) ?_;(repeat' first|exact w_t|apply w_l);all_goals intros))
theorem hyN {a b:Pt} (ha:CB a) (hb:CB b):Pure prog 172 [coA a,coA b] (poA (dotM a b a b)):=by
 have c:=hyDot ha hb ha hb;generalize dotM a b a b=r at *;clear ha hb;obtain⟨a1,a2⟩:=a;obtain⟨b1,b2⟩:=b;refine pI func172 rfl ntmps172 results172 call172 ?_;(focus (refine wklp w_t (w_1 c) w_t (w_r 0) ?_;(repeat' first|exact w_t|apply w_l);all_goals intros))
theorem Zla {a b c d:Pt} (ha:CB a) (hb:CB b) (hc:CB c) (hd:CB d) (K g:Nat) :
 RdC prog [(K,.box g 208 [.fn 172 []] false)] 173 [coA a,coA b,coA c,coA d,.pbox K g 0] (poA (Zeb a b c d)):=by
 have n1:=hyN ha hb;have n2:=hyN hc hd;have s:=(Znp (ha.dot hb ha hb) (hc.dot hd hc hd) zo zo zo zo zo zo).1;rw [show subM (dotM a b a b) (dotM c d c d)=Zeb a b c d from rfl] at s;generalize Zeb a b c d=r at *;generalize dotM a b a b=u at *;generalize dotM c d c d=v at *;clear ha hb hc hd;intro σ hL;have m4:=Zai hL.1;simp only [Ent.sh,AV.shL,AV.sh] at m4;obtain⟨a1,a2⟩:=a;obtain⟨b1,b2⟩:=b;obtain⟨c1,c2⟩:=c;obtain⟨d1,d2⟩:=d;refine Zaq func173 rfl ntmps173 results173 call173 zr zs ?_;(focus (refine wkad (w_1 m4) (w_3 n1 n2 s) (w_1 (w_d 1 [(3,poA u),(7,poA v),(8,poA r)] [] [])) ?_;(repeat' first|exact w_t|apply w_l);all_goals intros))
 simp (disch:=omega) only [go_sem];refine Zd1 (Sub.refl _) ⟨rfl,rfl⟩ ?_
 (repeat' (first|exact Agr.start _|(refine Agr.own ?_ zo)))
theorem hyE8 {a b c x:Pt} (t:Po) (ha:CB a) (hb:CB b) (hc:CB c) (hx:CB x):Pure prog 105 [iv 8,.sl 2 [coA a,coA b,coA c],coA x,poA t] (.sl 1 [poA (dotM b c a x),poA (addM (Zb0 b c b a) (Zb0 b c b x))]):=by
 have c1:=Zjl hb hc hb ha;have c2:=Zjl hb hc hb hx;have ad:=(hpAdd (hb.cross hc hb ha) (hb.cross hc hb hx) zo zo zo zo zo zo).1;have c3:=hyDot hb hc ha hx;generalize addM (Zb0 b c b a) (Zb0 b c b x)=s at *;generalize Zb0 b c b a=r1 at *;generalize Zb0 b c b x=r2 at *;generalize dotM b c a x=d at *;clear ha hb hc hx;obtain⟨a1,a2⟩:=a;obtain⟨b1,b2⟩:=b;obtain⟨c1,c2⟩:=c;obtain⟨x1,x2⟩:=x;refine pI func105 rfl ntmps105 results105 call105 ?_;(focus (refine wkld w_t (w_4 c1 c2 ad c3) w_t (w_2 (w_d 9 [(12,poA r1),(23,poA r2),(24,poA s)] [] []) (w_d 10 [(10,poA d)] [] [])) ?_;(repeat' first|exact w_t|apply w_l);all_goals intros))
theorem hyE9 {a b c d x:Pt} (t:Po) (ha:CB a) (hb:CB b) (hc:CB c) (hd:CB d) (hx:CB x):Pure prog 105 [iv 9,.sl 2 [coA a,coA b,coA c,coA d],coA x,poA t] (.sl 1 [poA (Zb0 a b a x),poA (Zb0 c d c x)]):=by
 have c1:=Zjl ha hb ha hx;have c2:=Zjl hc hd hc hx;generalize Zb0 a b a x=r1 at *;generalize Zb0 c d c x=r2 at *;clear ha hb hc hd hx;obtain⟨a1,a2⟩:=a;obtain⟨b1,b2⟩:=b;obtain⟨c1,c2⟩:=c;obtain⟨d1,d2⟩:=d;obtain⟨x1,x2⟩:=x;refine pI func105 rfl ntmps105 results105 call105 ?_;(focus (refine wkld w_t (w_2 c1 c2) w_t (w_1 (w_d 12 [(10,poA r1),(21,poA r2)] [] [])) ?_;(repeat' first|exact w_t|apply w_l);all_goals intros))
theorem hyE6 {a b x:Pt} (t:Po) (tt:PB t 1 1 1) (ha:CB a) (hb:CB b) (hx:CB x):Pure prog 105 [iv 6,.sl 2 [coA a,coA b],coA x,poA t] (.sl 1 [poA ((Zll a b x t).getD 0 []),poA ((Zll a b x t).getD 1 [])]):=by
 have ht:PB t 1 1 1:=tt;have c1:=hyCirc ha hb hx ht;show Pure _ _ _ (.sl 1 ((Zll a b x t).map poA));generalize (Zll a b x t).map poA=L at *;clear ht tt;clear ha hb hx;obtain⟨a1,a2⟩:=a;obtain⟨b1,b2⟩:=b;obtain⟨x1,x2⟩:=x;refine pI func105 rfl ntmps105 results105 call105 ?_;(focus (refine wkld w_t (w_1 c1) w_t (w_1 (w_d 5 [(8,.sl 1 L)] [] [])) ?_;(repeat' first|exact w_t|apply w_l);all_goals intros))
theorem hyE10 {a b c x:Pt} (t:Po) (ha:CB a) (hb:CB b) (hc:CB c) (hx:CB x):Pure prog 105 [iv 10,.sl 2 [coA a,coA b,coA c],coA x,poA t] (.sl 1 ((Zf6 a b c x).map poA)):=by
 have n1:=hyN ha hb;have d1:=hyDot ha hc ha hb;have zn:=ha.dot hb ha hb;have zd:=ha.dot hc ha hb;have tw:=Zx5 zd zo zo zo;have b1:=Zeu ha hb;obtain⟨w1,w2⟩:=ha.df hx;obtain⟨u1,u2⟩:=ha.df hb;have zs:=zd.dbl;have zp1:PB (mlM (dotM a b a b) (subM x.1 a.1)) 8192 230384 24:=(zn.mul w1).mono zo zo zo;have zp2:PB (mlM (dotM a b a b) (subM x.2 a.2)) 8192 230384 24:=(zn.mul w2).mono zo zo zo;have zq1:PB (mlM (dblM (dotM a c a b)) (subM b.1 a.1)) 16384 457232 24:=(zs.mul u1).mono zo zo zo;have zq2:PB (mlM (dblM (dotM a c a b)) (subM b.2 a.2)) 16384 457232 24:=(zs.mul u2).mono zo zo zo;have p1:=(Zi3 zn w1 zo zo zo zo zo zo zo zo zo).1
 have p2:=(Zi3 zn w2 zo zo zo zo zo zo zo zo zo).1;have q1:=(Zi3 zs u1 zo zo zo zo zo zo zo zo zo).1;have q2:=(Zi3 zs u2 zo zo zo zo zo zo zo zo zo).1;have s1:=(Znp zp1 zq1 zo zo zo zo zo zo).1;have s2:=(Znp zp2 zq2 zo zo zo zo zo zo).1;have sc:=Zp2 a x (dfM a x) (dfM a b) _ _ _ _ _ _ _ _ (Zeu ha hx) p1 p2 q1 q2 s1 s2;have hr:(Zf6 a b c x).map poA=[poA (subM (mlM (dotM a b a b) (subM x.1 a.1)) (mlM (dblM (dotM a c a b)) (subM b.1 a.1))),poA (subM (mlM (dotM a b a b) (subM x.2 a.2)) (mlM (dblM (dotM a c a b)) (subM b.2 a.2)))]:=rfl;rw [←hr] at sc;clear hr s1 s2 p1 p2 q1 q2 zp1 zp2 zq1 zq2 zs zd zn w1 w2 u1 u2 ha hb hc hx
 generalize (Zf6 a b c x).map poA=L at *;generalize dblM (dotM a c a b)=tm at *;generalize dotM a c a b=dm at *;generalize dotM a b a b=nm at *;unfold dfM at b1 sc;generalize subM b.1 a.1=v1 at *;generalize subM b.2 a.2=v2 at *;obtain⟨a1,a2⟩:=a;obtain⟨b1,b2⟩:=b;obtain⟨c1,c2⟩:=c;obtain⟨x1,x2⟩:=x;refine pI func105 rfl ntmps105 results105 call105 ?_;(focus (refine wkld w_t (w_5 n1 d1 tw b1 sc) w_t (w_1 (w_d 14 [(11,poA nm),(24,poA dm),(25,poA tm),(32,coA (v1,v2)),(33,.sl 1 L)] [] [])) ?_;(repeat' first|exact w_t|apply w_l);all_goals intros))
theorem hyE11 {a b c x:Pt} (t:Po) (ha:CB a) (hb:CB b) (hc:CB c) (hx:CB x):Pure prog 105 [iv 11,.sl 2 [coA a,coA b,coA c],coA x,poA t] (.sl 1 [poA (Zeb a x b x),poA (Zeb a x c x)]):=by
 have c1:=Zla ha hx hb hx;have c2:=Zla ha hx hc hx;generalize Zeb a x b x=r1 at *;generalize Zeb a x c x=r2 at *;clear ha hb hc hx;obtain⟨a1,a2⟩:=a;obtain⟨b1,b2⟩:=b;obtain⟨c1,c2⟩:=c;obtain⟨x1,x2⟩:=x;refine pI func105 rfl ntmps105 results105 call105 ?_
 (repeat' (first|(with_reducible first|refine stp ?_|apply gx1|apply gx2|apply gx3|apply gx4|apply gx5|apply gx6|apply gx7|apply gy8|apply gz2|apply gz3|refine gwr (c1 _ _) ?_ ?_|refine gwr (c2 _ _) ?_ ?_)|((with_reducible apply gyr (c2 _ _));(focus rfl);(focus rfl);iterate 3 focus ((with_reducible refine gE ?_);(try simp (disch:=omega) only [go_sem,Zzf,Zzd,Zzc,Zzb,Int.reduceAdd,Int.reduceSub,Int.reduceToNat,Zzh])<;>first|rfl|done))|((with_reducible apply gyr (c1 _ _));(focus rfl);(focus rfl);iterate 3 focus ((with_reducible refine gE ?_);(try simp (disch:=omega) only [go_sem,Zzf,Zzd,Zzc,Zzb,Int.reduceAdd,Int.reduceSub,Int.reduceToNat,Zzh])<;>first|rfl|done))|(with_reducible refine Zck ?_;intro _)|((with_reducible refine gE ?_);(try simp (disch:=omega) only [go_sem,Zzf,Zzd,Zzc,Zzb,Int.reduceAdd,Int.reduceSub,Int.reduceToNat,Zzh])<;>first|rfl|omega)|with_reducible refine Zaf zd ?_|((with_reducible apply gy1);iterate 3 focus rfl)|((with_reducible apply gy2);iterate 3 focus rfl)|((with_reducible apply gy3);iterate 2 focus rfl)|((with_reducible apply gy4);iterate 1 focus rfl)|((with_reducible apply gy5);iterate 4 focus rfl)|((with_reducible apply gy5c);iterate 4 focus rfl)|((with_reducible apply gy6);iterate 4 focus rfl)|((with_reducible apply Zfk);iterate 3 focus rfl)|((with_reducible apply Zfi);iterate 1 focus rfl)|((with_reducible apply gy7);iterate 1 focus rfl)|((with_reducible apply gy9);(focus ((with_reducible refine gE ?_);(try simp (disch:=omega) only [go_sem,Zzf,Zzd,Zzc,Zzb,Int.reduceAdd,Int.reduceSub,Int.reduceToNat,Zzh])<;>rfl)))|((with_reducible apply gz1);(focus first|rfl|(simp (disch:=omega) only [go_sem,Zzf,Zzd,Zzc,Zzb,Int.reduceAdd,Int.reduceSub,Int.reduceToNat,Zzh];done)))|((with_reducible apply Za6 (id:=16) (Zcz [(9,poA r1),(19,poA r2)]) [] []);(focus kernel_rfl);(focus rfl);(focus kernel_rfl);(focus (simp only [Zzq,Zzs,Nat.reduceAdd];rfl)))|((with_reducible first|apply Zca|apply Zcp|apply Zcb);all_goals (intro hc;(try simp only [bool_to_prop] at hc);try (exfalso;omega)))))
 (all_goals (try simp (disch:=omega) only [go_sem,Zzf,Zzd,Zzc,Zzb,Int.reduceAdd,Int.reduceSub,Int.reduceToNat,Zzh]));(all_goals first|done|rfl|(congr 2;first|done|omega|(rw [Zzz];simp only [bool_to_prop,Zzr,ZAa,ZAb,ZAc,ZAd];omega))|skip)
theorem hyE12 {a b c d x:Pt} (t:Po) (ha:CB a) (hb:CB b) (hc:CB c) (hd:CB d) (hx:CB x):Pure prog 105 [iv 12,.sl 2 [coA a,coA b,coA c,coA d],coA x,poA t] (.sl 1 [poA (Zb0 a b a x),poA (Zeb c x c d)]):=by
 have c1:=Zjl ha hb ha hx;have c2:=Zla hc hx hc hd;generalize Zb0 a b a x=r1 at *;generalize Zeb c x c d=r2 at *;clear ha hb hc hd hx;obtain⟨a1,a2⟩:=a;obtain⟨b1,b2⟩:=b;obtain⟨c1,c2⟩:=c;obtain⟨d1,d2⟩:=d;obtain⟨x1,x2⟩:=x;refine pI func105 rfl ntmps105 results105 call105 ?_
 (repeat' (first|(with_reducible first|refine stp ?_|apply gx1|apply gx2|apply gx3|apply gx4|apply gx5|apply gx6|apply gx7|apply gy8|apply gz2|apply gz3|refine gw0 (c1) ?_ ?_|refine gw3 (c1) ?_ ?_ ?_|refine gwr (c2 _ _) ?_ ?_)|((with_reducible apply gyr (c2 _ _));(focus rfl);(focus rfl);iterate 3 focus ((with_reducible refine gE ?_);(try simp (disch:=omega) only [go_sem,Zzf,Zzd,Zzc,Zzb,Int.reduceAdd,Int.reduceSub,Int.reduceToNat,Zzh])<;>first|rfl|done))|(with_reducible refine Zck ?_;intro _)|((with_reducible refine gE ?_);(try simp (disch:=omega) only [go_sem,Zzf,Zzd,Zzc,Zzb,Int.reduceAdd,Int.reduceSub,Int.reduceToNat,Zzh])<;>first|rfl|omega)|with_reducible refine Zaf zd ?_|((with_reducible apply gy1);iterate 3 focus rfl)|((with_reducible apply gy2);iterate 3 focus rfl)|((with_reducible apply gy3);iterate 2 focus rfl)|((with_reducible apply gy4);iterate 1 focus rfl)|((with_reducible apply gy5);iterate 4 focus rfl)|((with_reducible apply gy5c);iterate 4 focus rfl)|((with_reducible apply gy6);iterate 4 focus rfl)|((with_reducible apply Zfk);iterate 3 focus rfl)|((with_reducible apply Zfi);iterate 1 focus rfl)|((with_reducible apply gy7);iterate 1 focus rfl)|((with_reducible apply gy9);(focus ((with_reducible refine gE ?_);(try simp (disch:=omega) only [go_sem,Zzf,Zzd,Zzc,Zzb,Int.reduceAdd,Int.reduceSub,Int.reduceToNat,Zzh])<;>rfl)))|((with_reducible apply gz1);(focus first|rfl|(simp (disch:=omega) only [go_sem,Zzf,Zzd,Zzc,Zzb,Int.reduceAdd,Int.reduceSub,Int.reduceToNat,Zzh];done)))|((with_reducible apply Za6 (id:=18) (Zcz [(10,poA r1),(22,poA r2)]) [] []);(focus kernel_rfl);(focus rfl);(focus kernel_rfl);(focus (simp only [Zzq,Zzs,Nat.reduceAdd];rfl)))|((with_reducible first|apply Zca|apply Zcp|apply Zcb);all_goals (intro hc;(try simp only [bool_to_prop] at hc);try (exfalso;omega)))))
 (all_goals (try simp (disch:=omega) only [go_sem,Zzf,Zzd,Zzc,Zzb,Int.reduceAdd,Int.reduceSub,Int.reduceToNat,Zzh]));(all_goals first|done|rfl|(congr 2;first|done|omega|(rw [Zzz];simp only [bool_to_prop,Zzr,ZAa,ZAb,ZAc,ZAd];omega))|skip)
theorem hyE13 {a b c d x:Pt} (t:Po) (ha:CB a) (hb:CB b) (hc:CB c) (hd:CB d) (hx:CB x):Pure prog 105 [iv 13,.sl 2 [coA a,coA b,coA c,coA d],coA x,poA t] (.sl 1 [poA (Zeb a x a b),poA (Zeb c x c d)]):=by
 have c1:=Zla ha hx ha hb;have c2:=Zla hc hx hc hd;generalize Zeb a x a b=r1 at *;generalize Zeb c x c d=r2 at *;clear ha hb hc hd hx;obtain⟨a1,a2⟩:=a;obtain⟨b1,b2⟩:=b;obtain⟨c1,c2⟩:=c;obtain⟨d1,d2⟩:=d;obtain⟨x1,x2⟩:=x;refine pI func105 rfl ntmps105 results105 call105 ?_
 (repeat' (first|(with_reducible first|refine stp ?_|apply gx1|apply gx2|apply gx3|apply gx4|apply gx5|apply gx6|apply gx7|apply gy8|apply gz2|apply gz3|refine gwr (c1 _ _) ?_ ?_|refine gwr (c2 _ _) ?_ ?_)|((with_reducible apply gyr (c2 _ _));(focus rfl);(focus rfl);iterate 3 focus ((with_reducible refine gE ?_);(try simp (disch:=omega) only [go_sem,Zzf,Zzd,Zzc,Zzb,Int.reduceAdd,Int.reduceSub,Int.reduceToNat,Zzh])<;>first|rfl|done))|((with_reducible apply gyr (c1 _ _));(focus rfl);(focus rfl);iterate 3 focus ((with_reducible refine gE ?_);(try simp (disch:=omega) only [go_sem,Zzf,Zzd,Zzc,Zzb,Int.reduceAdd,Int.reduceSub,Int.reduceToNat,Zzh])<;>first|rfl|done))|(with_reducible refine Zck ?_;intro _)|((with_reducible refine gE ?_);(try simp (disch:=omega) only [go_sem,Zzf,Zzd,Zzc,Zzb,Int.reduceAdd,Int.reduceSub,Int.reduceToNat,Zzh])<;>first|rfl|omega)|with_reducible refine Zaf zd ?_|((with_reducible apply gy1);iterate 3 focus rfl)|((with_reducible apply gy2);iterate 3 focus rfl)|((with_reducible apply gy3);iterate 2 focus rfl)|((with_reducible apply gy4);iterate 1 focus rfl)|((with_reducible apply gy5);iterate 4 focus rfl)|((with_reducible apply gy5c);iterate 4 focus rfl)|((with_reducible apply gy6);iterate 4 focus rfl)|((with_reducible apply Zfk);iterate 3 focus rfl)|((with_reducible apply Zfi);iterate 1 focus rfl)|((with_reducible apply gy7);iterate 1 focus rfl)|((with_reducible apply gy9);(focus ((with_reducible refine gE ?_);(try simp (disch:=omega) only [go_sem,Zzf,Zzd,Zzc,Zzb,Int.reduceAdd,Int.reduceSub,Int.reduceToNat,Zzh])<;>rfl)))|((with_reducible apply gz1);(focus first|rfl|(simp (disch:=omega) only [go_sem,Zzf,Zzd,Zzc,Zzb,Int.reduceAdd,Int.reduceSub,Int.reduceToNat,Zzh];done)))|((with_reducible apply Za6 (id:=20) (Zcz [(11,poA r1),(23,poA r2)]) [] []);(focus kernel_rfl);(focus rfl);(focus kernel_rfl);(focus (simp only [Zzq,Zzs,Nat.reduceAdd];rfl)))|((with_reducible first|apply Zca|apply Zcp|apply Zcb);all_goals (intro hc;(try simp only [bool_to_prop] at hc);try (exfalso;omega)))))
 (all_goals (try simp (disch:=omega) only [go_sem,Zzf,Zzd,Zzc,Zzb,Int.reduceAdd,Int.reduceSub,Int.reduceToNat,Zzh]));(all_goals first|done|rfl|(congr 2;first|done|omega|(rw [Zzz];simp only [bool_to_prop,Zzr,ZAa,ZAb,ZAc,ZAd];omega))|skip)
theorem hyE14 {a b x:Pt} (t:Po) (ha:CB a) (hb:CB b) (hx:CB x):Pure prog 105 [iv 14,.sl 2 [coA a,coA b],coA x,poA t] (.sl 1 [poA (Zeb a x a b),poA (Zeb b x a b)]):=by
 have c1:=Zla ha hx ha hb;have c2:=Zla hb hx ha hb;generalize Zeb a x a b=r1 at *;generalize Zeb b x a b=r2 at *;clear ha hb hx;obtain⟨a1,a2⟩:=a;obtain⟨b1,b2⟩:=b;obtain⟨x1,x2⟩:=x;refine pI func105 rfl ntmps105 results105 call105 ?_
 (repeat' (first|(with_reducible first|refine stp ?_|apply gx1|apply gx2|apply gx3|apply gx4|apply gx5|apply gx6|apply gx7|apply gy8|apply gz2|apply gz3|refine gwr (c1 _ _) ?_ ?_|refine gwr (c2 _ _) ?_ ?_)|((with_reducible apply gyr (c2 _ _));(focus rfl);(focus rfl);iterate 3 focus ((with_reducible refine gE ?_);(try simp (disch:=omega) only [go_sem,Zzf,Zzd,Zzc,Zzb,Int.reduceAdd,Int.reduceSub,Int.reduceToNat,Zzh])<;>first|rfl|done))|((with_reducible apply gyr (c1 _ _));(focus rfl);(focus rfl);iterate 3 focus ((with_reducible refine gE ?_);(try simp (disch:=omega) only [go_sem,Zzf,Zzd,Zzc,Zzb,Int.reduceAdd,Int.reduceSub,Int.reduceToNat,Zzh])<;>first|rfl|done))|(with_reducible refine Zck ?_;intro _)|((with_reducible refine gE ?_);(try simp (disch:=omega) only [go_sem,Zzf,Zzd,Zzc,Zzb,Int.reduceAdd,Int.reduceSub,Int.reduceToNat,Zzh])<;>first|rfl|omega)|with_reducible refine Zaf zd ?_|((with_reducible apply gy1);iterate 3 focus rfl)|((with_reducible apply gy2);iterate 3 focus rfl)|((with_reducible apply gy3);iterate 2 focus rfl)|((with_reducible apply gy4);iterate 1 focus rfl)|((with_reducible apply gy5);iterate 4 focus rfl)|((with_reducible apply gy5c);iterate 4 focus rfl)|((with_reducible apply gy6);iterate 4 focus rfl)|((with_reducible apply Zfk);iterate 3 focus rfl)|((with_reducible apply Zfi);iterate 1 focus rfl)|((with_reducible apply gy7);iterate 1 focus rfl)|((with_reducible apply gy9);(focus ((with_reducible refine gE ?_);(try simp (disch:=omega) only [go_sem,Zzf,Zzd,Zzc,Zzb,Int.reduceAdd,Int.reduceSub,Int.reduceToNat,Zzh])<;>rfl)))|((with_reducible apply gz1);(focus first|rfl|(simp (disch:=omega) only [go_sem,Zzf,Zzd,Zzc,Zzb,Int.reduceAdd,Int.reduceSub,Int.reduceToNat,Zzh];done)))|((with_reducible apply Za6 (id:=22) (Zcz [(11,poA r1),(23,poA r2)]) [] []);(focus kernel_rfl);(focus rfl);(focus kernel_rfl);(focus (simp only [Zzq,Zzs,Nat.reduceAdd];rfl)))|((with_reducible first|apply Zca|apply Zcp|apply Zcb);all_goals (intro hc;(try simp only [bool_to_prop] at hc);try (exfalso;omega)))))
 (all_goals (try simp (disch:=omega) only [go_sem,Zzf,Zzd,Zzc,Zzb,Int.reduceAdd,Int.reduceSub,Int.reduceToNat,Zzh]));(all_goals first|done|rfl|(congr 2;first|done|omega|(rw [Zzz];simp only [bool_to_prop,Zzr,ZAa,ZAb,ZAc,ZAd];omega))|skip)
abbrev nilC:AV:=.agg [.v (.slice none 0 0),.v (.slice none 0 0)]
end Go.Proofs.YtenfejhaohihoaaGreat
