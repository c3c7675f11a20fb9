/- Contracts of the functions that the law reaches, and the rules by which they are walked. They say what a call hands back for every input within the bounds that each names; no other condition. -/
import Derived.Test.YtenfejhaohihoaaGreatBm8
set_option linter.unusedSimpArgs false
set_option linter.unusedVariables false
set_option maxRecDepth 20000
set_option maxHeartbeats 16000000
namespace Go.Proofs.YtenfejhaohihoaaGreat
open Go Go.RowKit Go.Pg Go.Proofs.Tryz
attribute [-bool_to_prop] Bool.and_eq_decide Bool.or_eq_decide Bool.decide_beq_decide decide_eq_decide
attribute [local go_sem] Zbt Zcd Zcz Zba Zbc Zbb Zbe Zbh Zcj Zcr Zcf Zcq Zek Zeq Zgk Zgj Zaz Zbk Zc1 Zcp Zhq Zhw Zk3 Zj1 Zpo
def cndN (ss:List RS):Nat→List RC
 | 0=>[]
 | i+1=>cndN ss i++if cHas (ss.getD i RS.zero).k=true then [cOf (ss.getD i RS.zero) i] else []
theorem cndN_y {ss:List RS} {i:Nat} (hi:i < ss.length) (h:cHas ss[i].k=true):(cndN ss (i+1)).map RC.av=(cndN ss i).map RC.av++[(cOf ss[i] i).av]:=by
 show(cndN ss i++_).map RC.av=_;rw [show ss.getD i RS.zero=ss[i] from by rw [Zyg,Zyf hi];rfl,Zx5 h,Zys];rfl
theorem cndN_n {ss:List RS} {i:Nat} (hi:i < ss.length) (h:cHas ss[i].k=false):(cndN ss (i+1)).map RC.av=(cndN ss i).map RC.av:=by
 show(cndN ss i++_).map RC.av=_;rw [show ss.getD i RS.zero=ss[i] from by rw [Zyg,Zyf hi];rfl,Zx4 (by rw [h];simp),Zzy]
theorem Zm9 (ss:List RS):∀i,(cndN ss i).length≤i
 | 0=>by simp [cndN]
 | i+1=>by
   show(cndN ss i++_).length≤_;have:=Zm9 ss i;rw [Zy0];split<;>simp<;>omega
theorem Zm8 {ss:List RS}:∀{i:Nat} {c:RC},c∈cndN ss i→∃j,j < i∧cHas (ss.getD j RS.zero).k=true∧c=cOf (ss.getD j RS.zero) j
 | 0,c,h=>by simp [cndN] at h
 | i+1,c,h=>by
   rcases List.mem_append.1 (show c∈cndN ss i++_ from h) with h1 | h1
   ·obtain⟨j,h2,h3⟩:=Zm8 h1;exact⟨j,zo,h3⟩
   ·split at h1
    ·rename_i h2;rw [Zzs] at h1;exact⟨i,zo,h2,h1⟩
    ·cases h1
theorem cOf_st {s:RS} {i:Nat} (h:cHas s.k=true):(cOf s i).st=i:=by
 unfold cHas at h;rw [Zy1] at h;unfold cOf
 repeat' split
 all_goals (first|rfl|omega)
theorem cnOf (ss:List RS) (gs:List RG) (cs:List (Po × Po)) (vs:List Vt) (z:Int) (co:Pure prog 40 [figA ss gs] (.tup [frmA cs vs,iv z])) (hl:ss.length≤1000) (hk:z=0→∀i (h:i < ss.length),(ss[i].ar.length:Int)=arS ss[i].k) :
 Pure prog 16 [figA ss gs] (.tup [.sl 3 (if z=0 then (cndN ss ss.length).map RC.av else []),iv z]):=by
 have hg:∀i (h:i < ss.length),(ss.map RS.av).getD i .u=ss[i].av:=λi h=>Zaj RS.av h;have hls:(ss.map RS.av).length=ss.length:=Zx9 ..;by_cases hz:z=0
 ·subst hz;rw [Zx5 rfl];have hy:=λi (h:i < ss.length)=>cndN_y (ss:=ss) h;have hn:=λi (h:i < ss.length)=>cndN_n (ss:=ss) h;have hcl:=Zm9 ss;have hst:∀i (h:i < ss.length),Pure prog 50 [ss[i].av,iv i] (.tup [(cOf ss[i] i).av,.v (.bool (cHas ss[i].k))]):=λi h=>cnStep ss[i] i (hk rfl i h);show Pure _ _ [.agg [.sl 6 (ss.map RS.av),.sl 5 (gs.map RG.av)]] _;have co:Pure prog 40 [.agg [.sl 6 (ss.map RS.av),.sl 5 (gs.map RG.av)]] (.tup [.agg [.sl 2 (cs.map coA),.sl 3 (vs.map Vt.av)],iv 0]):=co;clear hk;generalize ss.map RS.av=M at *;generalize gs.map RG.av=N at *;generalize cs.map coA=C at *
  generalize vs.map Vt.av=V at *;refine pI func16 rfl ntmps16 results16 call16 ?_;(focus (refine wkap (w_1 hls) (w_1 co) (w_r 0) ?_;(repeat' first|exact w_t|apply w_l);all_goals intros));rename_i g1 g4;refine Zf5 (Frz.nilOwn (d:=6) 37 3 69 (gC)) ?_;refine Zad (ι:=Nat) (λi e m=>i≤ss.length∧e 1=.pbox 1 g1 0∧m 1=some (.box g1 25 [.sl 6 M,.sl 5 N] false)∧e 20=.sl 6 M∧e 21=iv ss.length∧e 22=iv i∧∃sv,e 6=.own 37 sv∧m 37=some (.row sv 69 3 ((cndN ss i).map RC.av) 0)) (λi=>ss.length - i) 0 zr ?_ ?_
  ·rintro i e m ⟨hi,e1,m1,e20,e21,e22,sv,e6,m6⟩
   by_cases hlt:i < ss.length
   ·have hgi:=hg i hlt;have cst:=hst i hlt;have hy:=hy i hlt;have hn:=hn i hlt;have hll:((cndN ss i).map RC.av).length≤1000:=by rw [Zx9];have:=hcl i;omega
    clear hst hg hcl;generalize (cndN ss i).map RC.av=L at *;generalize cOf ss[i] i=c at *;obtain⟨ck,ca,ci⟩:=c;generalize ss[i]=s at *;obtain⟨k,nm,ar,⟨rs,rl,rd⟩⟩:=s;simp only at *;generalize cHas k=b at *
    cases b with
    | true =>
      have hy:=hy rfl;(focus (refine wkap (w_9 e1 m1 e20 e21 e22 e6 m6 hls hgi) (w_1 cst) (w_r 0) ?_;(repeat' first|exact w_t|apply w_l);all_goals intros));exact⟨i+1,⟨zo,gW e1,gW m1,gW e20,gW e21,gS,_,gC,by rw [hy];exact gC⟩,zo⟩
    | false =>
      have hn:=hn rfl;(focus (refine wkap (w_9 e1 m1 e20 e21 e22 e6 m6 hls hgi) (w_1 cst) (w_r 0) ?_;(repeat' first|exact w_t|apply w_l);all_goals intros));exact⟨i+1,⟨zo,gW e1,gW m1,gW e20,gW e21,gS,sv,gW e6,by rw [hn];exact gW m6⟩,zo⟩
   ·have hin:i=ss.length:=zo;subst hin;clear hst hg hcl hy hn;generalize (cndN ss ss.length).map RC.av=L at *;(focus (refine wklp (w_8 e1 m1 e20 e21 e22 e6 m6 hls) w_t (w_1 m6) (w_r 0) ?_;(repeat' first|exact w_t|apply w_l);all_goals intros))
  ·exact⟨Zyi _,gC,gC,gC,gW hls,gC,_,gC,by(simp (disch:=omega) only [go_sem,cndN,Zy6]<;>repeat' first|rfl|refine⟨?_,?_⟩)⟩
 ·rw [Zx4 hz];refine Zdm (r:=.tup [.v (.slice none 0 0),iv z]) ?_ (Vk.tupL (.cons (.nil 3) (.cons (.refl _) .nil)));show Pure _ _ [.agg [.sl 6 (ss.map RS.av),.sl 5 (gs.map RG.av)]] _;have co:Pure prog 40 [.agg [.sl 6 (ss.map RS.av),.sl 5 (gs.map RG.av)]] (.tup [.agg [.sl 2 (cs.map coA),.sl 3 (vs.map Vt.av)],iv z]):=co;clear hk hg;generalize ss.map RS.av=M at *;generalize gs.map RG.av=N at *;generalize cs.map coA=C at *;generalize vs.map Vt.av=V at *;refine pI func16 rfl ntmps16 results16 call16 ?_;(focus (refine wklp (w_2 hls hz) (w_1 co) w_t (w_r 0) ?_;(repeat' first|exact w_t|apply w_l);all_goals intros))
def Zt3 (c:RC) (ss:List RS):Bool:=decide (0≤c.st∧c.st < (ss.length:Int)) && (cHas (ss.getD c.st.toNat RS.zero).k && Zl8 c (cOf (ss.getD c.st.toNat RS.zero) c.st.toNat))
theorem Zxm {ss:List RS} {c:RC} (h:c∈cndN ss ss.length):Zt3 c ss=true:=by
 obtain⟨j,h1,h2,rfl⟩:=Zm8 h;unfold Zt3;rw [cOf_st h2,Zzg,h2,Zte];simp;omega
theorem Zxt {s:RS} {i:Nat} (h:s.ar.length≤1000):(cOf s i).ar.length≤1000:=by
 unfold cOf
 repeat' split
 all_goals first|exact h|simp
theorem Zx0 (k:Int):arS k≤4:=by
 unfold arS
 repeat' split
 all_goals omega
theorem cnRight (c:RC) (ss:List RS) (gs:List RG) (cr:Pure prog 103 [figA ss gs] (iv 0)) (hc:c.ar.length≤1000) (hl:ss.length≤1000) (hk:∀i (h:i < ss.length),(ss[i].ar.length:Int)=arS ss[i].k):Pure prog 51 [c.av,figA ss gs] (.v (.bool (Zt3 c ss))):=by
 have cr:Pure prog 103 [.agg [.sl 6 (ss.map RS.av),.sl 5 (gs.map RG.av)]] (iv 0):=cr;show Pure _ _ [c.av,.agg [.sl 6 (ss.map RS.av),.sl 5 (gs.map RG.av)]] _;have hls:(ss.map RS.av).length=ss.length:=Zx9 ..;obtain⟨k,ar,st⟩:=c;unfold Zt3;simp only at *;by_cases hs:0≤st∧st < (ss.length:Int)
 ·rw [Zx8 hs,Zzv];obtain⟨s,rfl⟩:∃s:Nat,st=s:=⟨st.toNat,zo⟩;rw [Zzg];have hlt:s < ss.length:=zo;have hgi:(ss.map RS.av).getD s .u=ss[s].av:=Zaj RS.av hlt;rw [show ss.getD s RS.zero=ss[s] from by rw [Zyg,Zyf hlt];rfl];have cst:=cnStep ss[s] s (hk s hlt);have cm:=cnSame ⟨k,ar,s⟩ (cOf ss[s] s) (by show ar.length≤_;omega) (by have:=Zxt (s:=ss[s]) (i:=s) (by have:=hk s hlt;have:=Zx0 ss[s].k;omega);omega);clear hk;generalize Zl8 ⟨k,ar,s⟩ (cOf ss[s] s)=v at *;generalize cOf ss[s] s=c at *;obtain⟨ck,ca,ci⟩:=c;generalize ss.map RS.av=M at *
  generalize gs.map RG.av=N at *;generalize ss[s]=t at *;obtain⟨k',nm,ar',⟨rs,rl,rd⟩⟩:=t;simp only at *;generalize cHas k'=b at *;cases b
  ·refine pI func51 rfl ntmps51 results51 call51 ?_;(focus (refine wkld (w_2 hls hgi) (w_3 cr cst cm) w_t (w_1 (w_d 3 [(8,.tup [.agg [iv ck,ivs ca,iv ci],.v (.bool false)])] [] [5])) ?_;(repeat' first|exact w_t|apply w_l);all_goals intros))
  ·refine pI func51 rfl ntmps51 results51 call51 ?_;(focus (refine wkld (w_2 hls hgi) (w_3 cr cst cm) w_t (w_1 (w_d 3 [(8,.tup [.agg [iv ck,ivs ca,iv ci],.v (.bool true)])] [] [5])) ?_;(repeat' first|exact w_t|apply w_l);all_goals intros))
 ·rw [Zx6 hs,Zzb];clear hk;generalize ss.map RS.av=M at *;generalize gs.map RG.av=N at *;by_cases h0:st < 0
  ·refine pI func51 rfl ntmps51 results51 call51 ?_;(focus (refine wkld (w_1 hls) (w_1 cr) w_t w_t ?_;(repeat' first|exact w_t|apply w_l);all_goals intros))
  ·have h1:(ss.length:Int)≤st:=zo;refine pI func51 rfl ntmps51 results51 call51 ?_;(focus (refine wkld (w_1 hls) (w_1 cr) w_t w_t ?_;(repeat' first|exact w_t|apply w_l);all_goals intros))
attribute [local go_sem] Zpx Zua z_ne z_cm z_nc z_an z_np z_sl z_lp z_rp z_sp z_em
theorem ba_emp (a:ByteArray):ByteArray.empty++a=a:=by
 apply ByteArray.ext;simp [ByteArray.data_append]
theorem ba_nil (a:ByteArray):(⟨#[]⟩:ByteArray)++a=a:=ba_emp a
theorem ba_nilR (a:ByteArray):a++(⟨#[]⟩:ByteArray)=a:=by
 apply ByteArray.ext;simp [ByteArray.data_append]
theorem Zna (s a b:ByteArray) (hs:s.size≤100) (ha:a.size≤3000) (hb:b.size≤3000):Pure prog 114 [strA s,.sl 1 [strA a,strA b]] (strA (a++s++b)):=by
 rw [show a++s++b=(⟨#[]⟩++a)++s++b from by rw [ba_nil]];refine pI func114 rfl ntmps114 results114 call114 ?_;(focus (refine wklp (w_1 @ZAt) w_t w_t (w_r 3) ?_;(repeat' first|exact w_t|apply w_l);all_goals intros))
theorem cnJoin3 (s a b c:ByteArray) (hs:s.size≤100) (ha:a.size≤3000) (hb:b.size≤3000) (hc:c.size≤3000):Pure prog 114 [strA s,.sl 1 [strA a,strA b,strA c]] (strA (a++s++b++s++c)):=by
 rw [show a++s++b++s++c=(⟨#[]⟩++a)++s++b++s++c from by rw [ba_nil]];refine pI func114 rfl ntmps114 results114 call114 ?_;(focus (refine wklp (w_1 @ZAt) w_t w_t (w_r 4) ?_;(repeat' first|exact w_t|apply w_l);all_goals intros))
theorem cnLine (a b:ByteArray) (ha:a.size≤1000) (hb:b.size≤1000):Pure prog 115 [strA a,strA b] (strA (Zov a b)):=by
 unfold Zov;have c1:=Zna ⟨#[32]⟩ a b (by rw [z_sp];omega) zo zo;have c2:=Zna ⟨#[]⟩ a b (by rw [z_em];omega) zo zo;rw [ba_nilR] at c2;by_cases h:1 < a.size∨1 < b.size
 ·rw [Zx5 h];rw [show⟨#[40]⟩++a++⟨#[32]⟩++b++⟨#[41]⟩=⟨#[40]⟩++(a++⟨#[32]⟩++b)++⟨#[41]⟩from by simp only [ByteArray.append_assoc]];have hz:(a++⟨#[32]⟩++b).size≤2001:=by simp only [ZAt,z_sp];omega
  generalize a++⟨#[32]⟩++b=t at *;rcases h with h | h
  ·refine pI func115 rfl ntmps115 results115 call115 ?_;(focus (refine wkax (w_1 @ZAt) w_t w_t (w_1 c1) w_t w_t w_y (w_r 0) ?_;(repeat' first|exact w_t|apply w_l);all_goals intros))
   (all_goals (try simp (disch:=omega) only [go_sem,Zx8,Zx6,Zx5,Zx4,Int.reduceAdd,Int.reduceSub,Int.reduceToNat,Zyh]));(all_goals first|done|rfl|(congr 2;first|done|omega|(rw [Zyn];simp only [bool_to_prop,Zyj,Zyw,Zyx,Zyy,Zyz];omega))|skip)
  ·refine pI func115 rfl ntmps115 results115 call115 ?_;(focus (refine wkax (w_1 @ZAt) w_t w_t (w_1 c1) w_t w_t w_y (w_r 0) ?_;(repeat' first|exact w_t|apply w_l);all_goals intros));all_goals exact gL
 ·rw [Zx4 h];have h1:¬1 < a.size:=λx=>h (.inl x);have h2:¬1 < b.size:=λx=>h (.inr x);generalize a++b=t at *;refine pI func115 rfl ntmps115 results115 call115 ?_;(focus (refine wkax w_t w_t w_t (w_1 c2) w_t w_t w_y (w_r 0) ?_;(repeat' first|exact w_t|apply w_l);all_goals intros))
  (all_goals (try simp (disch:=omega) only [go_sem,Zx8,Zx6,Zx5,Zx4,Int.reduceAdd,Int.reduceSub,Int.reduceToNat,Zyh]));(all_goals first|done|rfl|(congr 2;first|done|omega|(rw [Zyn];simp only [bool_to_prop,Zyj,Zyw,Zyx,Zyy,Zyz];omega))|skip)
theorem cnText (c:RC) (ss:List ByteArray) (hl:ss.length≤1000000000) (hs:∀s∈ss,s.size≤1000):Pure prog 48 [c.av,.sl 1 (ss.map strA)] (cRes c ss):=by
 have cc:=cnChk c.k c.ar c.st ss.length hl;have ok:=@Zxu c.k c.ar ss.length;have hlm:(ss.map strA).length=ss.length:=Zx9 ..;have hat:∀j:Nat,j < ss.length→(ss.map strA).getD j .u=strA (ss.getD j ByteArray.empty):=λj hj=>nm_at hj;have hsz:=λj=>nm_sz hs j;obtain⟨k,ar,st⟩:=c;unfold cRes;simp only at *;generalize cErr k ar ss.length=v at *;generalize ss.map strA=M at *;by_cases hv:v=0
 ·rw [Zx4 (by simpa using hv)];subst hv;rcases ok rfl with⟨rfl,a,b,rfl,ha,hb⟩ | ⟨rfl,a,b,c,rfl,ha,hb,hc⟩ | ⟨rfl,a,b,c,d,rfl,ha,hb,hc,hd⟩ | ⟨rfl,rfl⟩
  ·rw [Zx4 zd];unfold cTxt nmA;simp only [gI,Zz0,Zz1,Zzg,Zy2,Zx5,show ¬((2:Int)=1) from by decide,show ¬((3:Int)=1) from by decide,show ¬((3:Int)=2) from by decide,Zyu];have ga:=hat a ha;have za:=hsz a;have gb:=hat b hb;have zb:=hsz b;generalize ss.getD a ByteArray.empty=x at *;generalize ss.getD b ByteArray.empty=y at *;clear hat hsz ok;have j:=Zna ⟨#[32,33,61,32]⟩ x y (by rw [z_ne];omega) zo zo;refine pI func48 rfl ntmps48 results48 call48 ?_;(focus (refine wkax (w_4 @ZAt hlm ga gb) (w_1 cc) w_t (w_1 j) w_t w_t w_y (w_r 5) ?_;(repeat' first|exact w_t|apply w_l);all_goals intros))
   (all_goals (try simp (disch:=omega) only [go_sem,Zx8,Zx6,Zx5,Zx4,Int.reduceAdd,Int.reduceSub,Int.reduceToNat,Zyh]));(all_goals first|done|rfl|(congr 2;first|done|omega|(rw [Zyn];simp only [bool_to_prop,Zyj,Zyw,Zyx,Zyy,Zyz];omega))|skip)
  ·rw [Zx4 zd];unfold cTxt nmA;simp only [gI,Zz0,Zz1,Zzg,Zy2,Zx5,show ¬((2:Int)=1) from by decide,show ¬((3:Int)=1) from by decide,show ¬((3:Int)=2) from by decide,Zyu];have ga:=hat a ha;have za:=hsz a;have gb:=hat b hb;have zb:=hsz b;have gc:=hat c hc;have zc:=hsz c;generalize ss.getD a ByteArray.empty=x at *;generalize ss.getD b ByteArray.empty=y at *;generalize ss.getD c ByteArray.empty=z at *;clear hat hsz ok;have j:=cnJoin3 ⟨#[44,32]⟩ x y z (by rw [z_cm];omega) zo zo zo;have jz:(x++⟨#[44,32]⟩++y++⟨#[44,32]⟩++z).size≤4000:=by simp only [ZAt,z_cm];omega
   generalize x++⟨#[44,32]⟩++y++⟨#[44,32]⟩++z=t at *;refine pI func48 rfl ntmps48 results48 call48 ?_;(focus (refine wkax (w_5 @ZAt hlm ga gb gc) (w_1 cc) w_t (w_1 j) w_t w_t w_y (w_r 5) ?_;(repeat' first|exact w_t|apply w_l);all_goals intros))
   (all_goals (try simp (disch:=omega) only [go_sem,Zx8,Zx6,Zx5,Zx4,Int.reduceAdd,Int.reduceSub,Int.reduceToNat,Zyh]));(all_goals first|done|rfl|(congr 2;first|done|omega|(rw [Zyn];simp only [bool_to_prop,Zyj,Zyw,Zyx,Zyy,Zyz];omega))|skip)
  ·rw [Zx4 zd];unfold cTxt nmA;simp only [gI,Zz0,Zz1,Zzg,Zy2,Zx5,show ¬((2:Int)=1) from by decide,show ¬((3:Int)=1) from by decide,show ¬((3:Int)=2) from by decide,Zyu];have ga:=hat a ha;have za:=hsz a;have gb:=hat b hb;have zb:=hsz b;have gc:=hat c hc;have zc:=hsz c;have gd:=hat d hd;have zd:=hsz d;generalize ss.getD a ByteArray.empty=x at *;generalize ss.getD b ByteArray.empty=y at *;generalize ss.getD c ByteArray.empty=z at *;generalize ss.getD d ByteArray.empty=w at *;clear hat hsz ok;have l1:=cnLine x y zo zo;have l2:=cnLine z w zo zo
   have y1:=Zsj (a:=x) (b:=y) zo zo;have y2:=Zsj (a:=z) (b:=w) zo zo;generalize Zov x y=p at *;generalize Zov z w=q at *;have j:=Zna ⟨#[32,97,110,100,32]⟩ p q (by rw [z_an];omega) zo zo;have jz:(p++⟨#[32,97,110,100,32]⟩++q).size≤5000:=by simp only [ZAt,z_an];omega
   generalize p++⟨#[32,97,110,100,32]⟩++q=t at *;refine pI func48 rfl ntmps48 results48 call48 ?_;(focus (refine wkax (w_6 @ZAt hlm ga gb gc gd) (w_4 cc l1 l2 j) (w_1 (w_d 16 [(6,strA p),(13,strA q),(14,.sl 1 [strA p,strA q]),(15,strA t)] [] [])) w_t w_t w_t w_y (w_r 5) ?_;(repeat' first|exact w_t|apply w_l);all_goals intros))
   (all_goals (try simp (disch:=omega) only [go_sem,Zx8,Zx6,Zx5,Zx4,Int.reduceAdd,Int.reduceSub,Int.reduceToNat,Zyh]));(all_goals first|done|rfl|(congr 2;first|done|omega|(rw [Zyn];simp only [bool_to_prop,Zyj,Zyw,Zyx,Zyy,Zyz];omega))|skip)
  ·rw [Zx5 rfl];by_cases h:st < 0∨(ss.length:Int)≤st
   ·rw [Zx5 h];rcases h with h | h
    ·refine pI func48 rfl ntmps48 results48 call48 ?_;(focus (refine wkax (w_1 hlm) (w_1 cc) w_t w_t w_t w_t w_y (w_r 5) ?_;(repeat' first|exact w_t|apply w_l);all_goals intros))
     (all_goals (try simp (disch:=omega) only [go_sem,Zx8,Zx6,Zx5,Zx4,Int.reduceAdd,Int.reduceSub,Int.reduceToNat,Zyh]));(all_goals first|done|rfl|(congr 2;first|done|omega|(rw [Zyn];simp only [bool_to_prop,Zyj,Zyw,Zyx,Zyy,Zyz];omega))|skip)
    ·refine pI func48 rfl ntmps48 results48 call48 ?_;(focus (refine wkax (w_1 hlm) (w_1 cc) w_t w_t w_t w_t w_y (w_r 5) ?_;(repeat' first|exact w_t|apply w_l);all_goals intros));all_goals exact gL
   ·rw [Zx4 h];obtain⟨s,rfl⟩:∃s:Nat,st=s:=⟨st.toNat,zo⟩;have hss:s < ss.length:=zo;have gs:=hat s hss;have zs:=hsz s;unfold nmA;rw [Zzg];generalize ss.getD s ByteArray.empty=x at *;clear hat hsz ok;refine pI func48 rfl ntmps48 results48 call48 ?_;(focus (refine wkax (w_3 @ZAt hlm gs) (w_1 cc) w_t w_t w_t w_t w_y (w_r 5) ?_;(repeat' first|exact w_t|apply w_l);all_goals intros))
    (all_goals (try simp (disch:=omega) only [go_sem,Zx8,Zx6,Zx5,Zx4,Int.reduceAdd,Int.reduceSub,Int.reduceToNat,Zyh]));(all_goals first|done|rfl|(congr 2;first|done|omega|(rw [Zyn];simp only [bool_to_prop,Zyj,Zyw,Zyx,Zyy,Zyz];omega))|skip)
 ·rw [Zx5 hv];clear hat hsz ok;refine pI func48 rfl ntmps48 results48 call48 ?_;(focus (refine wkax (w_1 hlm) (w_1 cc) w_t w_t w_t w_t w_y (w_r 5) ?_;(repeat' first|exact w_t|apply w_l);all_goals intros))
  (all_goals (try simp (disch:=omega) only [go_sem,Zx8,Zx6,Zx5,Zx4,Int.reduceAdd,Int.reduceSub,Int.reduceToNat,Zyh]));(all_goals first|done|rfl|(congr 2;first|done|omega|(rw [Zyn];simp only [bool_to_prop,Zyj,Zyw,Zyx,Zyy,Zyz];omega))|skip)
attribute [local go_sem] Zjz Zpn Zno Znp
def ss23:List RS:=[⟨1,⟨#[65]⟩,[],⟨false,[],[]⟩⟩,⟨1,⟨#[66]⟩,[],⟨false,[],[]⟩⟩,⟨1,⟨#[67]⟩,[],⟨false,[],[]⟩⟩,⟨7,⟨#[68]⟩,[0,1,2],⟨false,[],[]⟩⟩]
theorem fig23:figE ss23 []=0:=by decide +kernel
theorem big23:(List.range ss23.length).any (bigN ss23)=false:=by decide +kernel
theorem ok23:FigOk ss23:=by
 obtain⟨h1,h2⟩:=Zxg fig23;refine⟨h1,h2,λs hs=>?_,by decide +kernel⟩;have:∀s∈ss23,s.r.l=[]∧s.r.d=[]:=by decide
 obtain⟨e1,e2⟩:=this s hs;refine⟨?_,?_,by rw [e1];simp,by rw [e2];simp⟩
 ·rw [e1];exact λx hx=>by cases hx
 ·rw [e2];exact λx hx=>by cases hx
theorem co23:Pure prog 40 [figA ss23 []] (.tup [frmA (frN ss23 ss23.length).cs (frN ss23 ss23.length).vs,iv 0]):=by
 have sm:∀s∈ss23,s.sm:=λs hs=>by
  have h:=ok23.lm s hs;have h2:∀s∈ss23,s.nm.size≤1∧s.ar.length≤3:=by decide
  obtain⟨a,b⟩:=h2 s hs;exact⟨Zqw h zd,Zye a zd,Zye b zd⟩
 have cr:=Zws ss23 [] zd zd sm (λg hg=>by cases hg);rw [fig23] at cr;have:=Zsv ss23 [] cr ok23
 rwa [Zx4 (by rw [big23];decide)] at this
theorem awOf:Pure prog 16 [.agg [.sl 6 [.agg [iv 1,strA ⟨#[65]⟩,.v (.slice none 0 0),.v (.bool false),.v (.slice none 0 0),.v (.slice none 0 0)],.agg [iv 1,strA ⟨#[66]⟩,.v (.slice none 0 0),.v (.bool false),.v (.slice none 0 0),.v (.slice none 0 0)],.agg [iv 1,strA ⟨#[67]⟩,.v (.slice none 0 0),.v (.bool false),.v (.slice none 0 0),.v (.slice none 0 0)],.agg [iv 7,strA ⟨#[68]⟩,.sl 1 [iv 0,iv 1,iv 2],.v (.bool false),.v (.slice none 0 0),.v (.slice none 0 0)]],.v (.slice none 0 0)]] (.tup [.sl 3 [.agg [iv 1,.sl 1 [iv 1,iv 2],iv 3]],iv 0]):=by
 have c:=cnOf ss23 [] _ _ 0 co23 zd (λ_ i h=>(Zge h ((Zxg fig23).2 i h)).2.1);rw [Zx5 rfl,show(cndN ss23 ss23.length).map RC.av=[.agg [iv 1,.sl 1 [iv 1,iv 2],iv 3]] from by kernel_rfl] at c;refine Zih c (.cons (Vk.aggL (.cons (Vk.slL zr zd zd ?_) (.cons (.nil 5) .nil))) .nil);exact(.cons (.refl _) (.cons (.refl _) (.cons (.nil 1) (.cons (.refl _) (.cons (.nil 1) (.cons (.nil 1) (.cons (.refl _) (.cons (.refl _) (.cons (.nil 1) (.cons (.refl _) (.cons (.nil 1) (.cons (.nil 1) (.cons (.refl _) (.cons (.refl _) (.cons (.nil 1) (.cons (.refl _) (.cons (.nil 1) (.cons (.nil 1) (.cons (.refl _) (.cons (.refl _) (.cons (.refl _) (.cons (.refl _) (.cons (.nil 1) (.cons (.nil 1) .nil))))))))))))))))))))))))
theorem awTxt:Pure prog 48 [.agg [iv 3,.sl 1 [iv 0,iv 1,iv 2,iv 3],iv 0],.sl 1 [strA ⟨#[65]⟩,strA ⟨#[66,49]⟩,strA ⟨#[67]⟩,strA ⟨#[68]⟩]] (.tup [strA ⟨#[40,65,32,66,49,41,32,97,110,100,32,67,68,32,97,114,101,32,110,111,116,32,112,97,114,97,108,108,101,108]⟩,iv 0]):=by
 have c:=cnText ⟨3,[0,1,2,3],0⟩ [⟨#[65]⟩,⟨#[66,49]⟩,⟨#[67]⟩,⟨#[68]⟩] zd zd
 rwa [show cRes ⟨3,[0,1,2,3],0⟩ [⟨#[65]⟩,⟨#[66,49]⟩,⟨#[67]⟩,⟨#[68]⟩]=.tup [strA ⟨#[40,65,32,66,49,41,32,97,110,100,32,67,68,32,97,114,101,32,110,111,116,32,112,97,114,97,108,108,101,108]⟩,iv 0] from by kernel_rfl] at c
theorem aw_sz:∀p:PQ,p∈[((0,0):PQ),(1,0)]→PQ.sz p 4:=λp hp=>by
 have z0:Sz (0:Rat) 4:=(Zci 0 zo).mono zo;have z1:Sz (1:Rat) 4:=(Zci 1 zo).mono zo;rcases List.mem_cons.1 hp with rfl | hp
 ·exact⟨z0,z0⟩
 ·rw [Zzs] at hp;subst hp;exact⟨z1,z0⟩
theorem awH1:Pure prog 18 [.agg [iv 1,.sl 1 [iv 0,iv 1],iv 0],.sl 6 [ptQ 0 0,ptQ 1 0]] (.tup [.v (.bool true),iv 0]):=by
 have c:=Zq8 ⟨1,[0,1],0⟩ [(0,0),(1,0)] zd aw_sz
 rwa [show hRes ⟨1,[0,1],0⟩ [(0,0),(1,0)]=.tup [.v (.bool true),iv 0] from by kernel_rfl] at c
theorem awH2:Pure prog 18 [.agg [iv 2,.sl 1 [iv 0,iv 1,iv 1],iv 0],.sl 6 [ptQ 0 0,ptQ 1 0]] (.tup [.v (.bool false),iv 0]):=by
 have c:=Zq8 ⟨2,[0,1,1],0⟩ [(0,0),(1,0)] zd aw_sz
 rwa [show hRes ⟨2,[0,1,1],0⟩ [(0,0),(1,0)]=.tup [.v (.bool false),iv 0] from by kernel_rfl] at c
theorem aw23:Pure prog 15 [] (.v (.bool true)):=by
 have c1:=awOf;have c2:=awTxt;have c3:=awH1;have c4:=awH2;have o0:Pure prog 42 [iv 0] (ratQ 0):=qOf 0 zo;have o1:Pure prog 42 [iv 1] (ratQ 1):=qOf 1 zo;have cs:Pure prog 49 [.agg [iv 1,.sl 1 [iv 1,iv 2],iv 3],.agg [iv 1,.sl 1 [iv 1,iv 2],iv 3]] (.v (.bool true)):=rkSame ⟨1,[1,2],3⟩ ⟨1,[1,2],3⟩ zd zd;generalize (0:Rat)=q0 at *;generalize (1:Rat)=q1 at *;refine pI func15 rfl ntmps15 results15 call15 ?_;(focus (refine wkax w_t w_t w_t (w_3 c1 c2 cs) (w_4 c3 c4 o0 o1) w_t w_y (w_r 0) ?_;(repeat' first|exact w_t|apply w_l);all_goals intros))
 (all_goals (try simp (disch:=omega) only [go_sem,Zx8,Zx6,Zx5,Zx4,Int.reduceAdd,Int.reduceSub,Int.reduceToNat,Zyh]));(all_goals first|done|rfl|(congr 2;first|done|omega|(rw [Zyn];simp only [bool_to_prop,Zyj,Zyw,Zyx,Zyy,Zyz];omega))|skip)
end Go.Proofs.YtenfejhaohihoaaGreat
namespace Go.Proofs.YtenfejhaohihoaaGreat
open Go Go.RowKit Go.Pg Go.Pol Go.Proofs.Tryz
attribute [-bool_to_prop] Bool.and_eq_decide Bool.or_eq_decide Bool.decide_beq_decide decide_eq_decide
attribute [local go_sem] Zbt Zba Zbb Zbc Ze6 Zbl Zfq Zcn Zbf Zbi Zck Za4 Za6 Zb1 Zc1 Zaz Zbk Zdb Zdd Zcp
theorem Zq3 {p q:PQ} (h:eqP p q=false):dotP p q p q≠0:=λh0=>by
 unfold dotP at h0;obtain⟨h1,h2⟩:=sqs0 h0;have e:p=q:=Prod.ext (by grind) (by grind);subst e;unfold eqP at h;simp at h
abbrev pt0:AV:=.agg [.v (.bool false),.v (.slice none 0 0),.v (.slice none 0 0),.v (.bool false),.v (.slice none 0 0),.v (.slice none 0 0)]
def Ziq (p a b:PQ):PQ:=Zf2 a b (dotP a b a p/dotP a b a b)
def mirP (p a b:PQ):PQ:=((Ziq p a b).1+1*((Ziq p a b).1 - p.1),(Ziq p a b).2+1*((Ziq p a b).2 - p.2))
def meetP (a b c d:PQ):PQ:=Zf2 a b (Zb4 a c c d/Zb4 a b c d)
def othP (p q o:PQ):PQ:=Zf2 p q (2*dotP p o p q/dotP p q p q)
def cenP (a b c:PQ):PQ:=(a.1+1/(2*Zb4 a b a c)*(dotP a b a b*(c.2 - a.2) - dotP a c a c*(b.2 - a.2)),a.2+1/(2*Zb4 a b a c)*(dotP a c a c*(b.1 - a.1) - dotP a b a b*(c.1 - a.1)))
def oncS (o a:PQ) (t:Rat):Rat:=2*((o.1 - a.1)*1+(o.2 - a.2)*t)/(1*1+t*t)
def oncP (o a:PQ) (t:Rat):PQ:=(a.1+oncS o a t*1,a.2+oncS o a t*t)
theorem r13QuoV (a b q:Rat) (e:Int) (c1:Pure prog 197 [ratQ a,ratQ b] (.tup [ratQ q,iv e])):Pure prog 141 [ratQ a,ratQ b] (ratQ q):=by
 refine pI func141 rfl ntmps141 results141 call141 ?_;(focus (refine wkap w_t (w_1 c1) (w_r 0) ?_;(repeat' first|exact w_t|apply w_l);all_goals intros));all_goals exact gL
theorem Zif (a b:Rat) {j k:Nat} (ha:Sz a j) (hb:Sz b k) (hj:j≤20000000000) (hk:k≤20000000000) (h0:b≠0):Pure prog 141 [ratQ a,ratQ b] (ratQ (a/b)):=r13QuoV a b (a/b) 0 (qDiv a b ha hb hj hk h0)
theorem r13NormV (a1 a2 b1 b2 u1 u2 n:Rat) (c1:Pure prog 140 [ptQ a1 a2,ptQ b1 b2] (ptQ u1 u2)) (c2:Pure prog 142 [ptQ u1 u2,ptQ u1 u2] (ratQ n)):Pure prog 145 [ptQ a1 a2,ptQ b1 b2] (ratQ n):=by
 refine pI func145 rfl ntmps145 results145 call145 ?_;(focus (refine wkad w_t (w_2 c1 c2) (w_1 (w_d 1 [(2,ptQ u1 u2),(5,ptQ u1 u2),(6,ratQ n)] [] [4])) ?_;(repeat' first|exact w_t|apply w_l);all_goals intros));all_goals exact gL
theorem Zmf (p q:PQ) {j:Nat} (hp:p.sz j) (hq:q.sz j) (hj:j≤1000000000):Pure prog 145 [p.av,q.av] (ratQ (dotP p q p q)) :=
 r13NormV _ _ _ _ _ _ _ (Zd5 p.1 p.2 q.1 q.2 hp.1 hp.2 hq.1 hq.2 zo) (Zgg (q.1 - p.1) (q.2 - p.2) (q.1 - p.1) (q.2 - p.2) (hq.1.sub hp.1) (hq.2.sub hp.2) (hq.1.sub hp.1) (hq.2.sub hp.2) zo)
theorem r13FootV (p1 p2 a1 a2 b1 b2 u1 u2 w1 w2 n d s x y:Rat) (c0:Pure prog 143 [ptQ a1 a2,ptQ b1 b2] (.v (.bool false))) (c1:Pure prog 140 [ptQ a1 a2,ptQ b1 b2] (ptQ u1 u2)) (c2:Pure prog 140 [ptQ a1 a2,ptQ p1 p2] (ptQ w1 w2)) (c3:Pure prog 142 [ptQ u1 u2,ptQ w1 w2] (ratQ n)) (c4:Pure prog 142 [ptQ u1 u2,ptQ u1 u2] (ratQ d)) (c5:Pure prog 141 [ratQ n,ratQ d] (ratQ s)) (c6:Pure prog 139 [ptQ a1 a2,ratQ s,ptQ u1 u2] (ptQ x y)):Pure prog 81 [ptQ p1 p2,ptQ a1 a2,ptQ b1 b2] (.tup [ptQ x y,iv 0]):=by
 refine pI func81 rfl ntmps81 results81 call81 ?_;(focus (refine wkad w_t (w_7 c0 c1 c2 c3 c4 c5 c6) (w_1 (w_d 4 [(4,ptQ w1 w2),(5,ratQ n),(8,ratQ d),(9,ratQ s),(11,ptQ x y)] [] [6])) ?_;(repeat' first|exact w_t|apply w_l);all_goals intros));all_goals exact gL
theorem r13Foot0 (p1 p2 a1 a2 b1 b2:Rat) (c0:Pure prog 143 [ptQ a1 a2,ptQ b1 b2] (.v (.bool true))):Pure prog 81 [ptQ p1 p2,ptQ a1 a2,ptQ b1 b2] (.tup [pt0,iv 11]):=by
 refine pI func81 rfl ntmps81 results81 call81 ?_;(focus (refine wkad w_t (w_1 c0) w_t ?_;(repeat' first|exact w_t|apply w_l);all_goals intros));all_goals exact gL
theorem Zvp (p a b:PQ) {j:Nat} (hp:p.sz j) (ha:a.sz j) (hb:b.sz j) (hj:j≤100000000):Pure prog 81 [p.av,a.av,b.av] (if eqP a b=true then .tup [pt0,iv 11] else .tup [(Ziq p a b).av,iv 0]):=by
 have c0:=Zig a b ha hb zo
 cases h:eqP a b with
 | true=>rw [h] at c0;exact r13Foot0 _ _ _ _ _ _ c0
 | false =>
   rw [h] at c0;have z1:=Zds ha hb ha hp;have z2:=Zds ha hb ha hb;exact r13FootV _ _ _ _ _ _ _ _ _ _ _ _ _ _ _ c0 (Zd5 a.1 a.2 b.1 b.2 ha.1 ha.2 hb.1 hb.2 zo) (Zd5 a.1 a.2 p.1 p.2 ha.1 ha.2 hp.1 hp.2 zo) (Zgg (b.1 - a.1) (b.2 - a.2) (p.1 - a.1) (p.2 - a.2) (hb.1.sub ha.1) (hb.2.sub ha.2) (hp.1.sub ha.1) (hp.2.sub ha.2) zo) (Zgg (b.1 - a.1) (b.2 - a.2) (b.1 - a.1) (b.2 - a.2) (hb.1.sub ha.1) (hb.2.sub ha.2) (hb.1.sub ha.1) (hb.2.sub ha.2) zo) (Zif _ _ z1 z2 zo zo (Zq3 h)) (Zdl a.1 a.2 _ (b.1 - a.1) (b.2 - a.2) (j:=16*j+10) (ha.1.mono zo) (ha.2.mono zo) ((z1.div z2).mono zo) ((hb.1.sub ha.1).mono zo) ((hb.2.sub ha.2).mono zo) zo)
theorem Zx1 {a b:PQ} {r:Rat} {j k:Nat} (ha:a.sz j) (hb:b.sz j) (hr:Sz r k):(Zf2 a b r).sz (3*j+k+2):=⟨(ha.1.add (hr.mul (hb.1.sub ha.1))).mono zo,(ha.2.add (hr.mul (hb.2.sub ha.2))).mono zo⟩
theorem footP_sz {p a b:PQ} {j:Nat} (hp:p.sz j) (ha:a.sz j) (hb:b.sz j) (h:eqP a b=false):(Ziq p a b).sz (19*j+12):=by
 have:=Zx1 ha hb ((Zds ha hb ha hp).div (Zds ha hb ha hb));exact⟨this.1.mono zo,this.2.mono zo⟩
theorem r13MirV (p1 p2 a1 a2 b1 b2 f1 f2 u1 u2 x y:Rat) (c0:Pure prog 81 [ptQ p1 p2,ptQ a1 a2,ptQ b1 b2] (.tup [ptQ f1 f2,iv 0])) (c1:Pure prog 42 [iv 1] (ratQ 1)) (c2:Pure prog 140 [ptQ p1 p2,ptQ f1 f2] (ptQ u1 u2)) (c3:Pure prog 139 [ptQ f1 f2,ratQ 1,ptQ u1 u2] (ptQ x y)):Pure prog 82 [ptQ p1 p2,ptQ a1 a2,ptQ b1 b2] (.tup [ptQ x y,iv 0]):=by
 generalize (1:Rat)=o at *;refine pI func82 rfl ntmps82 results82 call82 ?_;(focus (refine wkad w_t (w_4 c0 c1 c2 c3) (w_1 (w_d 4 [(1,ratQ o),(4,ptQ u1 u2),(5,ptQ x y)] [] [6])) ?_;(repeat' first|exact w_t|apply w_l);all_goals intros));all_goals exact gL
theorem r13Mir0 (p1 p2 a1 a2 b1 b2:Rat) (c0:Pure prog 81 [ptQ p1 p2,ptQ a1 a2,ptQ b1 b2] (.tup [pt0,iv 11])):Pure prog 82 [ptQ p1 p2,ptQ a1 a2,ptQ b1 b2] (.tup [pt0,iv 11]):=by
 refine pI func82 rfl ntmps82 results82 call82 ?_;(focus (refine wkad w_t (w_1 c0) w_t ?_;(repeat' first|exact w_t|apply w_l);all_goals intros));all_goals exact gL
theorem r13Mir (p a b:PQ) {j:Nat} (hp:p.sz j) (ha:a.sz j) (hb:b.sz j) (hj:j≤100000000):Pure prog 82 [p.av,a.av,b.av] (if eqP a b=true then .tup [pt0,iv 11] else .tup [(mirP p a b).av,iv 0]):=by
 have c0:=Zvp p a b hp ha hb hj
 cases h:eqP a b with
 | true=>rw [h,Zx5 rfl] at c0;exact r13Mir0 _ _ _ _ _ _ c0
 | false =>
   rw [h,Zx4 zd] at c0;have z:=footP_sz hp ha hb h;exact r13MirV _ _ _ _ _ _ _ _ _ _ _ _ c0 (qOf 1 zo) (Zd5 p.1 p.2 (Ziq p a b).1 (Ziq p a b).2 (j:=19*j+12) (hp.1.mono zo) (hp.2.mono zo) z.1 z.2 zo) (Zdl (Ziq p a b).1 (Ziq p a b).2 1 _ _ (j:=20*j+13) (z.1.mono zo) (z.2.mono zo) ((Zci 1 zo).mono zo) ((z.1.sub hp.1).mono zo) ((z.2.sub hp.2).mono zo) zo)
theorem r13MeetV (a1 a2 b1 b2 g1 g2 d1 d2 n m s u1 u2 x y:Rat) (c0:Pure prog 148 [ptQ a1 a2,ptQ b1 b2,ptQ g1 g2,ptQ d1 d2] (ratQ n)) (cs:Pure prog 14 [ratQ n] (iv n.num.sign)) (hn:¬n.num.sign=0) (c1:Pure prog 148 [ptQ a1 a2,ptQ g1 g2,ptQ g1 g2,ptQ d1 d2] (ratQ m)) (c2:Pure prog 141 [ratQ m,ratQ n] (ratQ s)) (c3:Pure prog 140 [ptQ a1 a2,ptQ b1 b2] (ptQ u1 u2)) (c4:Pure prog 139 [ptQ a1 a2,ratQ s,ptQ u1 u2] (ptQ x y)):Pure prog 83 [ptQ a1 a2,ptQ b1 b2,ptQ g1 g2,ptQ d1 d2] (.tup [ptQ x y,iv 0]):=by
 generalize n.num.sign=z at *;refine pI func83 rfl ntmps83 results83 call83 ?_;(focus (refine wkad (w_1 hn) (w_6 c0 cs c1 c2 c3 c4) (w_1 (w_d 4 [(5,ratQ m),(7,ratQ s),(10,ptQ u1 u2),(11,ptQ x y)] [] [8])) ?_;(repeat' first|exact w_t|apply w_l);all_goals intros));all_goals exact gL
theorem r13Meet0 (a1 a2 b1 b2 g1 g2 d1 d2 n:Rat) (c0:Pure prog 148 [ptQ a1 a2,ptQ b1 b2,ptQ g1 g2,ptQ d1 d2] (ratQ n)) (cs:Pure prog 14 [ratQ n] (iv 0)):Pure prog 83 [ptQ a1 a2,ptQ b1 b2,ptQ g1 g2,ptQ d1 d2] (.tup [pt0,iv 11]):=by
 refine pI func83 rfl ntmps83 results83 call83 ?_;(focus (refine wkad w_t (w_2 c0 cs) w_t ?_;(repeat' first|exact w_t|apply w_l);all_goals intros));all_goals exact gL
theorem r13Meet (a b c d:PQ) {j:Nat} (ha:a.sz j) (hb:b.sz j) (hc:c.sz j) (hd:d.sz j) (hj:j≤100000000):Pure prog 83 [a.av,b.av,c.av,d.av] (if Zb4 a b c d=0 then .tup [pt0,iv 11] else .tup [(meetP a b c d).av,iv 0]):=by
 have c0:=Zn4 a b c d ha hb hc hd zo;have z:=Zg0 ha hb hc hd;have z1:=Zg0 ha hc hc hd;have cs:=Zqc (Zb4 a b c d) z zo;by_cases h:Zb4 a b c d=0
 ·rw [Zx5 h];rw [h] at c0 cs;exact r13Meet0 _ _ _ _ _ _ _ _ _ c0 cs
 ·rw [Zx4 h];exact r13MeetV _ _ _ _ _ _ _ _ _ _ _ _ _ _ _ c0 cs (λe=>h (by rw [←Rat.num_eq_zero];exact Int.sign_eq_zero_iff_zero.1 e)) (Zn4 a c c d ha hc hc hd zo) (Zif _ _ z1 z zo zo h) (Zd5 a.1 a.2 b.1 b.2 ha.1 ha.2 hb.1 hb.2 zo) (Zdl a.1 a.2 _ (b.1 - a.1) (b.2 - a.2) (j:=16*j+10) (ha.1.mono zo) (ha.2.mono zo) ((z1.div z).mono zo) ((hb.1.sub ha.1).mono zo) ((hb.2.sub ha.2).mono zo) zo)
theorem sz_2:Sz (2:Rat) 1:=Zci 2 zo
theorem r13OthV (p1 p2 q1 q2 o1 o2 u1 u2 w1 w2 t2 n m d s x y:Rat) (c0:Pure prog 143 [ptQ p1 p2,ptQ q1 q2] (.v (.bool false))) (c1:Pure prog 140 [ptQ p1 p2,ptQ q1 q2] (ptQ u1 u2)) (c2:Pure prog 42 [iv 2] (ratQ t2)) (c3:Pure prog 140 [ptQ p1 p2,ptQ o1 o2] (ptQ w1 w2)) (c4:Pure prog 142 [ptQ w1 w2,ptQ u1 u2] (ratQ n)) (c5:Pure prog 43 [ratQ t2,ratQ n] (ratQ m)) (c6:Pure prog 142 [ptQ u1 u2,ptQ u1 u2] (ratQ d)) (c7:Pure prog 141 [ratQ m,ratQ d] (ratQ s)) (c8:Pure prog 139 [ptQ p1 p2,ratQ s,ptQ u1 u2] (ptQ x y)):Pure prog 84 [ptQ p1 p2,ptQ q1 q2,ptQ o1 o2] (.tup [ptQ x y,iv 0]):=by
 refine pI func84 rfl ntmps84 results84 call84 ?_;(focus (refine wkad w_t (w_9 c0 c1 c2 c3 c4 c5 c6 c7 c8) (w_1 (w_d 4 [(0,ratQ t2),(3,ptQ w1 w2),(5,ratQ n),(6,ratQ m),(9,ratQ d),(10,ratQ s)] [] [])) ?_;(repeat' first|exact w_t|apply w_l);all_goals intros));all_goals exact gL
theorem r13Oth0 (p1 p2 q1 q2 o1 o2:Rat) (c0:Pure prog 143 [ptQ p1 p2,ptQ q1 q2] (.v (.bool true))):Pure prog 84 [ptQ p1 p2,ptQ q1 q2,ptQ o1 o2] (.tup [pt0,iv 11]):=by
 refine pI func84 rfl ntmps84 results84 call84 ?_;(focus (refine wkad w_t (w_1 c0) w_t ?_;(repeat' first|exact w_t|apply w_l);all_goals intros));all_goals exact gL
theorem r13Oth (p q o:PQ) {j:Nat} (hp:p.sz j) (hq:q.sz j) (ho:o.sz j) (hj:j≤100000000):Pure prog 84 [p.av,q.av,o.av] (if eqP p q=true then .tup [pt0,iv 11] else .tup [(othP p q o).av,iv 0]):=by
 have c0:=Zig p q hp hq zo
 cases h:eqP p q with
 | true=>rw [h] at c0;exact r13Oth0 _ _ _ _ _ _ c0
 | false =>
   rw [h] at c0;have z1:=Zds hp ho hp hq;have z2:=Zds hp hq hp hq;have z3:=(sz_2).mul z1;exact r13OthV _ _ _ _ _ _ _ _ _ _ _ _ _ _ _ _ _ c0 (Zd5 p.1 p.2 q.1 q.2 hp.1 hp.2 hq.1 hq.2 zo) (qOf 2 zo) (Zd5 p.1 p.2 o.1 o.2 hp.1 hp.2 ho.1 ho.2 zo) (Zgg (o.1 - p.1) (o.2 - p.2) (q.1 - p.1) (q.2 - p.2) (ho.1.sub hp.1) (ho.2.sub hp.2) (hq.1.sub hp.1) (hq.2.sub hp.2) zo) (qMul 2 (dotP p o p q) sz_2 z1 zo zo) (Zgg (q.1 - p.1) (q.2 - p.2) (q.1 - p.1) (q.2 - p.2) (hq.1.sub hp.1) (hq.2.sub hp.2) (hq.1.sub hp.1) (hq.2.sub hp.2) zo) (Zif _ _ z3 z2 zo zo (Zq3 h)) (Zdl p.1 p.2 _ (q.1 - p.1) (q.2 - p.2) (j:=17*j+20) (hp.1.mono zo) (hp.2.mono zo) ((z3.div z2).mono zo) ((hq.1.sub hp.1).mono zo) ((hq.2.sub hp.2).mono zo) zo)
theorem r13OncV (o1 o2 a1 a2 t e1 t2 w1 w2 n m d s x y:Rat) (c0:Pure prog 42 [iv 1] (ratQ e1)) (c1:Pure prog 42 [iv 2] (ratQ t2)) (c2:Pure prog 140 [ptQ a1 a2,ptQ o1 o2] (ptQ w1 w2)) (c3:Pure prog 142 [ptQ w1 w2,ptQ e1 t] (ratQ n)) (c4:Pure prog 43 [ratQ t2,ratQ n] (ratQ m)) (c5:Pure prog 142 [ptQ e1 t,ptQ e1 t] (ratQ d)) (c6:Pure prog 141 [ratQ m,ratQ d] (ratQ s)) (c7:Pure prog 139 [ptQ a1 a2,ratQ s,ptQ e1 t] (ptQ x y)):Pure prog 75 [ptQ o1 o2,ptQ a1 a2,ratQ t] (ptQ x y):=by
 refine pI func75 rfl ntmps75 results75 call75 ?_;(focus (refine wkad w_t (w_8 c0 c1 c2 c3 c4 c5 c6 c7) (w_2 (w_d 1 [(0,ratQ e1)] [] []) (w_d 2 [(0,ratQ t2),(3,ptQ w1 w2),(5,ratQ n),(6,ratQ m),(9,ratQ d),(10,ratQ s)] [] [])) ?_;(repeat' first|exact w_t|apply w_l);all_goals intros));all_goals exact gL
theorem one_sq (t:Rat):(1:Rat)*1+t*t≠0:=λh=>absurd (sqs0 h).1 zd
theorem r13Onc (o a:PQ) (t:Rat) {j:Nat} (ho:o.sz j) (ha:a.sz j) (ht:Sz t j) (hj:j≤100000000):Pure prog 75 [o.av,a.av,ratQ t] ((oncP o a t).av):=by
 have z0:=Zci 1 zo;have w1:=ho.1.sub ha.1;have w2:=ho.2.sub ha.2;have zn:=(w1.mul z0).add (w2.mul ht);have zm:=(sz_2).mul zn;have zd:=(z0.mul z0).add (ht.mul ht);exact r13OncV _ _ _ _ _ _ _ _ _ _ _ _ _ _ _ (qOf 1 zo) (qOf 2 zo) (Zd5 a.1 a.2 o.1 o.2 ha.1 ha.2 ho.1 ho.2 zo) (Zgg (o.1 - a.1) (o.2 - a.2) 1 t (j:=2*j+2) (w1.mono zo) (w2.mono zo) (z0.mono zo) (ht.mono zo) zo) (qMul 2 _ sz_2 zn zo zo) (Zgg 1 t 1 t (j:=j+1) (z0.mono zo) (ht.mono zo) (z0.mono zo) (ht.mono zo) zo) (Zif _ _ zm zd zo zo (one_sq t)) (Zdl a.1 a.2 _ 1 t (j:=10*j+20) (ha.1.mono zo) (ha.2.mono zo) ((zm.div zd).mono zo) (z0.mono zo) (ht.mono zo) zo)
theorem r13CenV (a1 a2 b1 b2 g1 g2 u1 u2 v1 v2 n t2 d k l p q e p' q' f e1 s x y:Rat) (hn:¬n.num.sign=0) (c0:Pure prog 140 [ptQ a1 a2,ptQ b1 b2] (ptQ u1 u2)) (c1:Pure prog 140 [ptQ a1 a2,ptQ g1 g2] (ptQ v1 v2)) (c2:Pure prog 149 [ptQ u1 u2,ptQ v1 v2] (ratQ n)) (c3:Pure prog 14 [ratQ n] (iv n.num.sign)) (c4:Pure prog 42 [iv 2] (ratQ t2)) (c5:Pure prog 43 [ratQ t2,ratQ n] (ratQ d)) (c6:Pure prog 142 [ptQ u1 u2,ptQ u1 u2] (ratQ k)) (c7:Pure prog 142 [ptQ v1 v2,ptQ v1 v2] (ratQ l)) (c8:Pure prog 43 [ratQ k,ratQ v2] (ratQ p)) (c9:Pure prog 43 [ratQ l,ratQ u2] (ratQ q)) (c10:Pure prog 144 [ratQ p,ratQ q] (ratQ e)) (c11:Pure prog 43 [ratQ l,ratQ u1] (ratQ p')) (c12:Pure prog 43 [ratQ k,ratQ v1] (ratQ q')) (c13:Pure prog 144 [ratQ p',ratQ q'] (ratQ f)) (c14:Pure prog 42 [iv 1] (ratQ e1)) (c15:Pure prog 141 [ratQ e1,ratQ d] (ratQ s)) (c16:Pure prog 139 [ptQ a1 a2,ratQ s,ptQ e f] (ptQ x y)):Pure prog 85 [ptQ a1 a2,ptQ b1 b2,ptQ g1 g2] (.tup [ptQ x y,iv 0]):=by
 generalize n.num.sign=z at *;refine pI func85 rfl ntmps85 results85 call85 ?_;(focus (refine wkax (w_1 hn) (w_8 c0 c1 c2 c3 c4 c5 c6 c7) (w_1 (w_d 5 [(0,ratQ t2),(3,ratQ n),(4,ratQ d)] [] [])) w_t w_t w_t w_t (w_r 0) ?_;(repeat' first|exact w_t|apply w_l);all_goals intros));(focus (refine wkax (w_1 hn) (w_9 c8 c9 c10 c11 c12 c13 c14 c15 c16) (w_3 (w_d 8 [(3,ratQ p),(7,ratQ q),(8,ratQ e)] [] []) (w_d 9 [(3,ratQ p'),(7,ratQ q'),(8,ratQ f)] [] []) (w_d 10 [(1,ratQ e1),(3,ratQ s),(7,ptQ x y)] [] [6])) w_t w_t w_t w_y (w_r 0) ?_;(repeat' first|exact w_t|apply w_l);all_goals intros))
 all_goals exact gL
theorem r13Cen0 (a1 a2 b1 b2 g1 g2 u1 u2 v1 v2 n:Rat) (c0:Pure prog 140 [ptQ a1 a2,ptQ b1 b2] (ptQ u1 u2)) (c1:Pure prog 140 [ptQ a1 a2,ptQ g1 g2] (ptQ v1 v2)) (c2:Pure prog 149 [ptQ u1 u2,ptQ v1 v2] (ratQ n)) (c3:Pure prog 14 [ratQ n] (iv 0)):Pure prog 85 [ptQ a1 a2,ptQ b1 b2,ptQ g1 g2] (.tup [pt0,iv 11]):=by
 refine pI func85 rfl ntmps85 results85 call85 ?_;(focus (refine wkad w_t (w_4 c0 c1 c2 c3) w_t ?_;(repeat' first|exact w_t|apply w_l);all_goals intros));all_goals exact gL
theorem r13Cen (a b c:PQ) {j:Nat} (ha:a.sz j) (hb:b.sz j) (hc:c.sz j) (hj:j≤100000000):Pure prog 85 [a.av,b.av,c.av] (if Zb4 a b a c=0 then .tup [pt0,iv 11] else .tup [(cenP a b c).av,iv 0]):=by
 have z:=Zg0 ha hb ha hc;have cs:=Zqc (Zb4 a b a c) z zo;have c0:=Zd5 a.1 a.2 b.1 b.2 ha.1 ha.2 hb.1 hb.2 zo;have c1:=Zd5 a.1 a.2 c.1 c.2 ha.1 ha.2 hc.1 hc.2 zo;have u1:=hb.1.sub ha.1;have u2:=hb.2.sub ha.2;have v1:=hc.1.sub ha.1;have v2:=hc.2.sub ha.2;have c2:Pure prog 149 [ptQ (b.1 - a.1) (b.2 - a.2),ptQ (c.1 - a.1) (c.2 - a.2)] (ratQ (Zb4 a b a c)):=Zrx _ _ _ _ u1 u2 v1 v2 zo;by_cases h:Zb4 a b a c=0
 ·rw [Zx5 h];rw [h] at c2 cs;exact r13Cen0 _ _ _ _ _ _ _ _ _ _ _ c0 c1 c2 cs
 ·rw [Zx4 h];have zD:=sz_2.mul z;have zk:=Zds ha hb ha hb;have zl:=Zds ha hc ha hc;have p1:=zk.mul v2;have q1:=zl.mul u2;have p2:=zl.mul u1;have q2:=zk.mul v1;exact r13CenV _ _ _ _ _ _ _ _ _ _ _ _ _ _ _ _ _ _ _ _ _ _ _ _ _ (λe=>h (by rw [←Rat.num_eq_zero];exact Int.sign_eq_zero_iff_zero.1 e)) c0 c1 c2 cs (qOf 2 zo) (qMul 2 (Zb4 a b a c) sz_2 z zo zo) (Zgg _ _ _ _ u1 u2 u1 u2 zo) (Zgg _ _ _ _ v1 v2 v1 v2 zo) (qMul (dotP a b a b) _ zk v2 zo zo) (qMul (dotP a c a c) _ zl u2 zo zo) (qSub _ _ p1 q1 zo zo) (qMul (dotP a c a c) _ zl u1 zo zo) (qMul (dotP a b a b) _ zk v1 zo zo) (qSub _ _ p2 q2 zo zo) (qOf 1 zo) (Zif 1 _ (Zci 1 zo) zD zo zo (nz2 zd h)) (Zdl a.1 a.2 _ _ _ (j:=40*j+40) (ha.1.mono zo) (ha.2.mono zo) (((Zci 1 zo).div zD).mono zo) ((p1.sub q1).mono zo) ((p2.sub q2).mono zo) zo)
abbrev rat0:AV:=.agg [.v (.bool false),.v (.slice none 0 0),.v (.slice none 0 0)]
theorem qSqrtV (b:Bool) (N D n d:List Nat) (hb:b=false) (c1:Pure prog 47 [.agg [.v (.bool b),lim N,lim D]] (.agg [.v (.bool b),lim N,lim D])) (c2:Pure prog 228 [lim N] (.tup [lim n,lim []])) (c3:Pure prog 228 [lim D] (.tup [lim d,lim []])) (c4:Pure prog 112 [lim n] (.agg [.v (.bool false),lim n])):Pure prog 199 [.agg [.v (.bool b),lim N,lim D]] (.tup [.agg [.v (.bool false),lim n,lim d],.v (.bool true)]):=by
 subst hb;refine pI func199 rfl ntmps199 results199 call199 ?_;(focus (refine wkap w_t (w_4 c1 c2 c3 c4) (w_r 0) ?_;(repeat' first|exact w_t|apply w_l);all_goals intros));all_goals exact gL
theorem Zvq (b:Bool) (N D n s d t:List Nat) (hb:b=true∨(b=false∧0 < s.length)∨(b=false∧s.length=0∧0 < t.length)) (c1:Pure prog 47 [.agg [.v (.bool b),lim N,lim D]] (.agg [.v (.bool b),lim N,lim D])) (c2:Pure prog 228 [lim N] (.tup [lim n,lim s])) (c3:Pure prog 228 [lim D] (.tup [lim d,lim t])):Pure prog 199 [.agg [.v (.bool b),lim N,lim D]] (.tup [rat0,.v (.bool false)]):=by
 rcases hb with rfl | ⟨rfl,h⟩ | ⟨rfl,h,h'⟩
 ·refine pI func199 rfl ntmps199 results199 call199 ?_;(focus (refine wkap w_t (w_3 c1 c2 c3) (w_r 0) ?_;(repeat' first|exact w_t|apply w_l);all_goals intros));all_goals exact gL
 ·have h1:(0:Int) < (s.length:Int):=zo;refine pI func199 rfl ntmps199 results199 call199 ?_;(focus (refine wkap (w_1 h1) (w_3 c1 c2 c3) (w_r 0) ?_;(repeat' first|exact w_t|apply w_l);all_goals intros));all_goals exact gL
 ·have h1:¬(0:Int) < (s.length:Int):=zo;have h2:(0:Int) < (t.length:Int):=zo;refine pI func199 rfl ntmps199 results199 call199 ?_;(focus (refine wkap (w_2 h1 h2) (w_3 c1 c2 c3) (w_r 0) ?_;(repeat' first|exact w_t|apply w_l);all_goals intros));all_goals exact gL
theorem qSqrt (a:Rat) {j:Nat} (ha:Sz a j) (hj:j≤10000000000):(∃r,Pure prog 199 [ratQ a] (.tup [ratQ r,.v (.bool true)])∧r*r=a∧Sz r j)∨Pure prog 199 [ratQ a] (.tup [rat0,.v (.bool false)]):=by
 obtain⟨n,s,cn,en⟩:=Zvc a.num.natAbs (Zye ha.1 hj);obtain⟨d,t,cd,ed⟩:=Zvc a.den (Zye ha.2 hj);have c1:=Zmg a ha zo;have p1:(toL s).length=0↔s=0:=Za8;have p2:(toL t).length=0↔t=0:=Za8;by_cases hneg:a.num < 0
 ·exact .inr (Zvq _ _ _ _ _ _ _ (.inl (Zx8 hneg)) c1 cn cd)
 by_cases hs:s=0
 ·by_cases ht:t=0
  ·subst hs ht;rw [Zas] at cn cd;have hd:d≠0:=λe=>by
    subst e;exact a.den_nz zo
   have hc:(n:Int).natAbs.Coprime d:=by
    have h:=a.reduced;rw [←en,←ed] at h;exact Nat.Coprime.coprime_dvd_left (ZBt n n) (Nat.Coprime.coprime_dvd_right (ZBt d d) h)
   refine .inl ⟨⟨(n:Int),d,hd,hc⟩,?_,?_,?_,?_⟩
   ·have:=qSqrtV _ _ _ _ _ (Zx6 hneg) c1 cn cd (Zkf n);have e:decide ((n:Int) < 0)=false:=Zx6 zo;simp only [ratQ,e,ZAo];exact this
   ·have e1:∀r:Rat,r=(r.num:Rat)/((r.den:Int):Rat):=λr=>by rw [←Rat.divInt_eq_div,Rat.num_divInt_den]
    have hn:a.num=(n:Int)*(n:Int):=by rw [←Int.natAbs_of_nonneg (Int.not_lt.1 hneg),←en];simp
    have hden:(a.den:Int)=(d:Int)*(d:Int):=by rw [←ed];simp
    have hdr:((d:Int):Rat)≠0:=by rw [Ne,Rat.intCast_eq_zero_iff];omega
    rw [e1 a,hn,hden,e1 (⟨(n:Int),d,hd,hc⟩:Rat),Rat.intCast_mul,Rat.intCast_mul];simp only;generalize ((n:Int):Rat)=x;generalize ((d:Int):Rat)=y at *
    grind
   ·exact Zye (Zc5 (by rw [←en];simp only [ZAo];exact Zye (Nat.le_mul_self n) zo)) ha.1
   ·exact Zye (Zc5 (by rw [←ed];exact Zye (Nat.le_mul_self d) zo)) ha.2
  ·refine .inr (Zvq _ _ _ _ _ _ _ (.inr (.inr ⟨Zx6 hneg,p1.2 hs,zo⟩)) c1 cn cd)
 ·exact .inr (Zvq _ _ _ _ _ _ _ (.inr (.inl ⟨Zx6 hneg,zo⟩)) c1 cn cd)
theorem r13RootV (d:Rat) (b:Bool) (h g:Rat) (hb:b=true→g=h) (z:Int) (hz:¬z < 0) (c1:Pure prog 14 [ratQ d] (iv z)) (c2:Pure prog 199 [ratQ d] (.tup [ratQ h,.v (.bool true)])) (c3:Pure prog 198 [ratQ h] (ratQ g)):Pure prog 146 [ratQ d,.v (.bool b)] (.tup [ratQ g,iv 0]):=by
 cases b with
 | true =>
   have e:=hb rfl;subst e;refine pI func146 rfl ntmps146 results146 call146 ?_;(focus (refine wkap (w_1 hz) (w_2 c1 c2) (w_r 0) ?_;(repeat' first|exact w_t|apply w_l);all_goals intros));all_goals exact gL
 | false =>
   refine pI func146 rfl ntmps146 results146 call146 ?_;(focus (refine wkap (w_1 hz) (w_3 c1 c2 c3) (w_r 0) ?_;(repeat' first|exact w_t|apply w_l);all_goals intros));all_goals exact gL
theorem r13RootP (d h:Rat) (z:Int) (hz:¬z < 0) (c1:Pure prog 14 [ratQ d] (iv z)) (c2:Pure prog 199 [ratQ d] (.tup [ratQ h,.v (.bool true)])):Pure prog 146 [ratQ d,.v (.bool true)] (.tup [ratQ h,iv 0]):=by
 refine pI func146 rfl ntmps146 results146 call146 ?_;(focus (refine wkap (w_1 hz) (w_2 c1 c2) (w_r 0) ?_;(repeat' first|exact w_t|apply w_l);all_goals intros));all_goals exact gL
theorem r13Root1 (d:Rat) (b:Bool) (z:Int) (hz:z < 0) (c1:Pure prog 14 [ratQ d] (iv z)):Pure prog 146 [ratQ d,.v (.bool b)] (.tup [rat0,iv 13]):=by
 refine pI func146 rfl ntmps146 results146 call146 ?_;(focus (refine wkap (w_1 hz) (w_1 c1) (w_r 0) ?_;(repeat' first|exact w_t|apply w_l);all_goals intros));all_goals exact gL
theorem r13Root2 (d:Rat) (b:Bool) (z:Int) (hz:¬z < 0) (c1:Pure prog 14 [ratQ d] (iv z)) (c2:Pure prog 199 [ratQ d] (.tup [rat0,.v (.bool false)])):Pure prog 146 [ratQ d,.v (.bool b)] (.tup [rat0,iv 12]):=by
 refine pI func146 rfl ntmps146 results146 call146 ?_;(focus (refine wkap (w_1 hz) (w_2 c1 c2) (w_r 0) ?_;(repeat' first|exact w_t|apply w_l);all_goals intros));all_goals exact gL
theorem Zvo (d:Rat) (b:Bool) {j:Nat} (hd:Sz d j) (hj:j≤10000000000):(∃h,Pure prog 146 [ratQ d,.v (.bool b)] (.tup [ratQ h,iv 0])∧h*h=d∧Sz h j)∨∃e:Int,(0 < e∧e < 100)∧Pure prog 146 [ratQ d,.v (.bool b)] (.tup [rat0,iv e]):=by
 have c1:=Zqc d hd zo;by_cases hz:d.num.sign < 0
 ·exact .inr ⟨13,⟨by decide,by decide⟩,r13Root1 d b _ hz c1⟩
 ·rcases qSqrt d hd hj with⟨h,c2,e,zh⟩ | c2
  ·cases b with
   | true=>exact .inl ⟨h,r13RootP d h _ hz c1 c2,e,zh⟩
   | false=>exact .inl ⟨-h,r13RootV d false h (-h) (λx=>nomatch x) _ hz c1 c2 (qNeg h zh zo),by grind,zh.neg⟩
  ·exact .inr ⟨12,⟨by decide,by decide⟩,r13Root2 d b _ hz c1 c2⟩
theorem r13ApexV (a1 a2 b1 b2:Rat) (b q:Bool) (c1:Pure prog 143 [ptQ a1 a2,ptQ b1 b2] (.v (.bool q))):Pure prog 78 [ptQ a1 a2,ptQ b1 b2,.v (.bool b)] (.tup [pt0,iv (if q=true then 11 else 12)]):=by
 cases q with
 | true =>
   refine pI func78 rfl ntmps78 results78 call78 ?_;(focus (refine wkap w_t (w_1 c1) (w_r 0) ?_;(repeat' first|exact w_t|apply w_l);all_goals intros));all_goals exact gL
 | false =>
   refine pI func78 rfl ntmps78 results78 call78 ?_;(focus (refine wkap w_t (w_1 c1) (w_r 0) ?_;(repeat' first|exact w_t|apply w_l);all_goals intros));all_goals exact gL
theorem r13Apex (a b:PQ) (l:Bool) {j:Nat} (ha:a.sz j) (hb:b.sz j) (hj:j≤100000000):∃e:Int,(0 < e∧e < 100)∧Pure prog 78 [a.av,b.av,.v (.bool l)] (.tup [pt0,iv e]) :=
 ⟨_,by split<;>decide,r13ApexV a.1 a.2 b.1 b.2 l _ (Zig a b ha hb zo)⟩
theorem r13CutV (a1 a2 b1 b2 o1 o2 p1 p2 u1 u2 w1 w2 n k m mm f g q r d h s x y:Rat) (l:Bool) (c0:Pure prog 143 [ptQ a1 a2,ptQ b1 b2] (.v (.bool false))) (c1:Pure prog 140 [ptQ a1 a2,ptQ b1 b2] (ptQ u1 u2)) (c2:Pure prog 140 [ptQ a1 a2,ptQ o1 o2] (ptQ w1 w2)) (c3:Pure prog 142 [ptQ u1 u2,ptQ w1 w2] (ratQ n)) (c4:Pure prog 142 [ptQ u1 u2,ptQ u1 u2] (ratQ k)) (c5:Pure prog 141 [ratQ n,ratQ k] (ratQ m)) (c6:Pure prog 43 [ratQ m,ratQ m] (ratQ mm)) (c7:Pure prog 145 [ptQ a1 a2,ptQ o1 o2] (ratQ f)) (c8:Pure prog 145 [ptQ o1 o2,ptQ p1 p2] (ratQ g)) (c9:Pure prog 144 [ratQ f,ratQ g] (ratQ q)) (c10:Pure prog 141 [ratQ q,ratQ k] (ratQ r)) (c11:Pure prog 144 [ratQ mm,ratQ r] (ratQ d)) (c12:Pure prog 146 [ratQ d,.v (.bool l)] (.tup [ratQ h,iv 0])) (c13:Pure prog 45 [ratQ m,ratQ h] (ratQ s)) (c14:Pure prog 139 [ptQ a1 a2,ratQ s,ptQ u1 u2] (ptQ x y)):Pure prog 76 [ptQ a1 a2,ptQ b1 b2,ptQ o1 o2,ptQ p1 p2,.v (.bool l)] (.tup [ptQ x y,iv 0]):=by
 refine pI func76 rfl ntmps76 results76 call76 ?_;(focus (refine wkax w_t (w_6 c0 c1 c2 c3 c4 c5) (w_1 (w_d 4 [(3,ptQ w1 w2),(4,ratQ n),(7,ratQ k),(8,ratQ m)] [] [])) w_t w_t w_t w_t (w_r 0) ?_;(repeat' first|exact w_t|apply w_l);all_goals intros));(focus (refine wkax w_t (w_10 c4 c6 c7 c8 c9 c10 c11 c12 c13 c14) (w_2 (w_d 5 [(2,ratQ mm),(5,ratQ f),(8,ratQ g),(9,ratQ q),(12,ratQ k),(13,ratQ r),(14,ratQ d)] [] []) (w_d 9 [(3,ratQ s),(5,ptQ x y)] [] [10])) w_t w_t w_t w_y (w_r 0) ?_;(repeat' first|exact w_t|apply w_l);all_goals intros));all_goals exact gL
theorem r13Cut1 (a1 a2 b1 b2 o1 o2 p1 p2 u1 u2 w1 w2 n k m mm f g q r d:Rat) (l:Bool) (e:Int) (he:0 < e∧e < 100) (c0:Pure prog 143 [ptQ a1 a2,ptQ b1 b2] (.v (.bool false))) (c1:Pure prog 140 [ptQ a1 a2,ptQ b1 b2] (ptQ u1 u2)) (c2:Pure prog 140 [ptQ a1 a2,ptQ o1 o2] (ptQ w1 w2)) (c3:Pure prog 142 [ptQ u1 u2,ptQ w1 w2] (ratQ n)) (c4:Pure prog 142 [ptQ u1 u2,ptQ u1 u2] (ratQ k)) (c5:Pure prog 141 [ratQ n,ratQ k] (ratQ m)) (c6:Pure prog 43 [ratQ m,ratQ m] (ratQ mm)) (c7:Pure prog 145 [ptQ a1 a2,ptQ o1 o2] (ratQ f)) (c8:Pure prog 145 [ptQ o1 o2,ptQ p1 p2] (ratQ g)) (c9:Pure prog 144 [ratQ f,ratQ g] (ratQ q)) (c10:Pure prog 141 [ratQ q,ratQ k] (ratQ r)) (c11:Pure prog 144 [ratQ mm,ratQ r] (ratQ d)) (c12:Pure prog 146 [ratQ d,.v (.bool l)] (.tup [rat0,iv e])):Pure prog 76 [ptQ a1 a2,ptQ b1 b2,ptQ o1 o2,ptQ p1 p2,.v (.bool l)] (.tup [pt0,iv e]):=by
 have hx:¬e=0:=zo;refine pI func76 rfl ntmps76 results76 call76 ?_;(focus (refine wkax (w_1 hx) (w_6 c0 c1 c2 c3 c4 c5) (w_1 (w_d 4 [(3,ptQ w1 w2),(4,ratQ n),(7,ratQ k),(8,ratQ m)] [] [])) w_t w_t w_t w_t (w_r 0) ?_;(repeat' first|exact w_t|apply w_l);all_goals intros));(focus (refine wkad (w_1 hx) (w_8 c4 c6 c7 c8 c9 c10 c11 c12) (w_1 (w_d 5 [(2,ratQ mm),(5,ratQ f),(8,ratQ g),(9,ratQ q),(12,ratQ k),(13,ratQ r),(14,ratQ d)] [] [])) ?_;(repeat' first|exact w_t|apply w_l);all_goals intros));all_goals exact gL
theorem r13Cut0 (a1 a2 b1 b2 o1 o2 p1 p2:Rat) (l:Bool) (c0:Pure prog 143 [ptQ a1 a2,ptQ b1 b2] (.v (.bool true))):Pure prog 76 [ptQ a1 a2,ptQ b1 b2,ptQ o1 o2,ptQ p1 p2,.v (.bool l)] (.tup [pt0,iv 11]):=by
 refine pI func76 rfl ntmps76 results76 call76 ?_;(focus (refine wkad w_t (w_1 c0) w_t ?_;(repeat' first|exact w_t|apply w_l);all_goals intros));all_goals exact gL
def cutP (a b c:PQ) (m h:Rat):PQ:=(a.1+(m+h)*(b.1 - a.1),a.2+(m+h)*(b.2 - a.2))
theorem r13Cut (a b c d:PQ) (l:Bool) {j:Nat} (ha:a.sz j) (hb:b.sz j) (hc:c.sz j) (hd:d.sz j) (hj:j≤100000000):(∃x,Pure prog 76 [a.av,b.av,c.av,d.av,.v (.bool l)] (.tup [PQ.av x,iv 0])∧StR 12 a b c d 0 x)∨∃e:Int,(0 < e∧e < 100)∧Pure prog 76 [a.av,b.av,c.av,d.av,.v (.bool l)] (.tup [pt0,iv e]):=by
 have c0:=Zig a b ha hb zo
 cases h:eqP a b with
 | true=>rw [h] at c0;exact .inr ⟨11,⟨by decide,by decide⟩,r13Cut0 _ _ _ _ _ _ _ _ l c0⟩
 | false =>
   rw [h] at c0;have h0:=Zq3 h;have c1:=Zd5 a.1 a.2 b.1 b.2 ha.1 ha.2 hb.1 hb.2 zo;have c2:=Zd5 a.1 a.2 c.1 c.2 ha.1 ha.2 hc.1 hc.2 zo;have u1:=hb.1.sub ha.1;have u2:=hb.2.sub ha.2;have c3:=Zgg _ _ _ _ u1 u2 (hc.1.sub ha.1) (hc.2.sub ha.2) zo;have c4:=Zgg _ _ _ _ u1 u2 u1 u2 zo;have zn:Sz ((b.1 - a.1)*(c.1 - a.1)+(b.2 - a.2)*(c.2 - a.2)) (8*j+5):=Zds ha hb ha hc;have zk:Sz ((b.1 - a.1)*(b.1 - a.1)+(b.2 - a.2)*(b.2 - a.2)) (8*j+5):=Zds ha hb ha hb;have hk:(b.1 - a.1)*(b.1 - a.1)+(b.2 - a.2)*(b.2 - a.2)≠0:=h0;have c5:=Zif _ _ zn zk zo zo hk;have zm:=(zn.div zk).mono (show _≤16*j+10 by omega)
   have c6:=qMul _ _ zm zm zo zo;have c7:=Zmf a c ha hc zo;have c8:=Zmf c d hc hd zo;have zf:=Zds ha hc ha hc;have zg:=Zds hc hd hc hd;have c9:=qSub _ _ zf zg zo zo;have zq:=(zf.sub zg).mono (show _≤16*j+11 by omega);have c10:=Zif _ _ zq zk zo zo hk;have zr:=(zq.div zk).mono (show _≤24*j+16 by omega);have c11:=qSub _ _ (zm.mul zm) zr zo zo;have zd:=((zm.mul zm).sub zr).mono (show _≤56*j+37 by omega);rcases Zvo _ l zd zo with⟨t,c12,et,zt⟩ | ⟨e,he,c12⟩
   ·refine .inl ⟨(a.1+(((b.1 - a.1)*(c.1 - a.1)+(b.2 - a.2)*(c.2 - a.2))/((b.1 - a.1)*(b.1 - a.1)+(b.2 - a.2)*(b.2 - a.2))+t)*(b.1 - a.1),a.2+(((b.1 - a.1)*(c.1 - a.1)+(b.2 - a.2)*(c.2 - a.2))/((b.1 - a.1)*(b.1 - a.1)+(b.2 - a.2)*(b.2 - a.2))+t)*(b.2 - a.2)),?_,?_⟩
    ·exact r13CutV _ _ _ _ _ _ _ _ _ _ _ _ _ _ _ _ _ _ _ _ _ _ _ _ _ l c0 c1 c2 c3 c4 c5 c6 c7 c8 c9 c10 c11 c12 (qAdd _ _ zm zt zo zo) (Zdl a.1 a.2 _ _ _ (j:=80*j+60) (ha.1.mono zo) (ha.2.mono zo) ((zm.add zt).mono zo) (u1.mono zo) (u2.mono zo) zo)
    ·exact⟨_,_,t,hk,by rw [Rat.div_mul_cancel hk],Rat.div_mul_cancel hk,et,rfl⟩
   ·exact .inr ⟨e,he,r13Cut1 _ _ _ _ _ _ _ _ _ _ _ _ _ _ _ _ _ _ _ _ _ l e he c0 c1 c2 c3 c4 c5 c6 c7 c8 c9 c10 c11 c12⟩
theorem r13IntV (o1 o2 p1 p2 q1 q2 r1 r2 u1 u2 k f g w n t2 kk m t mm d h v1 v2 y1 y2 x y:Rat) (l:Bool) (c0:Pure prog 143 [ptQ o1 o2,ptQ q1 q2] (.v (.bool false))) (c1:Pure prog 140 [ptQ o1 o2,ptQ q1 q2] (ptQ u1 u2)) (c2:Pure prog 142 [ptQ u1 u2,ptQ u1 u2] (ratQ k)) (c3:Pure prog 145 [ptQ o1 o2,ptQ p1 p2] (ratQ f)) (c4:Pure prog 45 [ratQ k,ratQ f] (ratQ g)) (c5:Pure prog 145 [ptQ q1 q2,ptQ r1 r2] (ratQ w)) (c6:Pure prog 144 [ratQ g,ratQ w] (ratQ n)) (c7:Pure prog 42 [iv 2] (ratQ t2)) (c8:Pure prog 43 [ratQ t2,ratQ k] (ratQ kk)) (c9:Pure prog 141 [ratQ n,ratQ kk] (ratQ m)) (c10:Pure prog 141 [ratQ f,ratQ k] (ratQ t)) (c11:Pure prog 43 [ratQ m,ratQ m] (ratQ mm)) (c12:Pure prog 144 [ratQ t,ratQ mm] (ratQ d)) (c13:Pure prog 146 [ratQ d,.v (.bool l)] (.tup [ratQ h,iv 0])) (c14:Pure prog 139 [ptQ o1 o2,ratQ m,ptQ u1 u2] (ptQ y1 y2)) (c15:Pure prog 147 [ptQ u1 u2] (ptQ v1 v2)) (c16:Pure prog 139 [ptQ y1 y2,ratQ h,ptQ v1 v2] (ptQ x y)):Pure prog 77 [ptQ o1 o2,ptQ p1 p2,ptQ q1 q2,ptQ r1 r2,.v (.bool l)] (.tup [ptQ x y,iv 0]):=by
 refine pI func77 rfl ntmps77 results77 call77 ?_;(focus (refine wkax w_t (w_10 c0 c1 c2 c3 c4 c5 c6 c7 c8 c9) (w_1 (w_d 5 [(3,ratQ f),(4,ratQ g),(7,ratQ w),(8,ratQ n),(9,ratQ t2),(11,ratQ kk),(12,ratQ m)] [] [])) w_t w_t w_t w_t (w_r 0) ?_;(repeat' first|exact w_t|apply w_l);all_goals intros));(focus (refine wkad w_t (w_8 c3 c10 c11 c12 c13 c14 c15 c16) (w_2 (w_d 6 [(2,ratQ f),(4,ratQ t),(7,ratQ mm),(8,ratQ d)] [] []) (w_d 10 [(3,ptQ y1 y2),(6,ptQ v1 v2),(7,ptQ x y)] [] [10])) ?_;(repeat' first|exact w_t|apply w_l);all_goals intros));all_goals exact gL
theorem r13Int1 (o1 o2 p1 p2 q1 q2 r1 r2 u1 u2 k f g w n t2 kk m t mm d:Rat) (l:Bool) (e:Int) (he:0 < e∧e < 100) (c0:Pure prog 143 [ptQ o1 o2,ptQ q1 q2] (.v (.bool false))) (c1:Pure prog 140 [ptQ o1 o2,ptQ q1 q2] (ptQ u1 u2)) (c2:Pure prog 142 [ptQ u1 u2,ptQ u1 u2] (ratQ k)) (c3:Pure prog 145 [ptQ o1 o2,ptQ p1 p2] (ratQ f)) (c4:Pure prog 45 [ratQ k,ratQ f] (ratQ g)) (c5:Pure prog 145 [ptQ q1 q2,ptQ r1 r2] (ratQ w)) (c6:Pure prog 144 [ratQ g,ratQ w] (ratQ n)) (c7:Pure prog 42 [iv 2] (ratQ t2)) (c8:Pure prog 43 [ratQ t2,ratQ k] (ratQ kk)) (c9:Pure prog 141 [ratQ n,ratQ kk] (ratQ m)) (c10:Pure prog 141 [ratQ f,ratQ k] (ratQ t)) (c11:Pure prog 43 [ratQ m,ratQ m] (ratQ mm)) (c12:Pure prog 144 [ratQ t,ratQ mm] (ratQ d)) (c13:Pure prog 146 [ratQ d,.v (.bool l)] (.tup [rat0,iv e])):Pure prog 77 [ptQ o1 o2,ptQ p1 p2,ptQ q1 q2,ptQ r1 r2,.v (.bool l)] (.tup [pt0,iv e]):=by
 have hx:¬e=0:=zo;refine pI func77 rfl ntmps77 results77 call77 ?_;(focus (refine wkax (w_1 hx) (w_10 c0 c1 c2 c3 c4 c5 c6 c7 c8 c9) (w_1 (w_d 5 [(3,ratQ f),(4,ratQ g),(7,ratQ w),(8,ratQ n),(9,ratQ t2),(11,ratQ kk),(12,ratQ m)] [] [])) w_t w_t w_t w_t (w_r 0) ?_;(repeat' first|exact w_t|apply w_l);all_goals intros));(focus (refine wkad (w_1 hx) (w_5 c3 c10 c11 c12 c13) (w_1 (w_d 6 [(2,ratQ f),(4,ratQ t),(7,ratQ mm),(8,ratQ d)] [] [])) ?_;(repeat' first|exact w_t|apply w_l);all_goals intros));all_goals exact gL
theorem r13Int0 (o1 o2 p1 p2 q1 q2 r1 r2:Rat) (l:Bool) (c0:Pure prog 143 [ptQ o1 o2,ptQ q1 q2] (.v (.bool true))):Pure prog 77 [ptQ o1 o2,ptQ p1 p2,ptQ q1 q2,ptQ r1 r2,.v (.bool l)] (.tup [pt0,iv 11]):=by
 refine pI func77 rfl ntmps77 results77 call77 ?_;(focus (refine wkad w_t (w_1 c0) w_t ?_;(repeat' first|exact w_t|apply w_l);all_goals intros));all_goals exact gL
theorem r13Int (a b c d:PQ) (l:Bool) {j:Nat} (ha:a.sz j) (hb:b.sz j) (hc:c.sz j) (hd:d.sz j) (hj:j≤100000000):(∃x,Pure prog 77 [a.av,b.av,c.av,d.av,.v (.bool l)] (.tup [PQ.av x,iv 0])∧StR 13 a b c d 0 x)∨∃e:Int,(0 < e∧e < 100)∧Pure prog 77 [a.av,b.av,c.av,d.av,.v (.bool l)] (.tup [pt0,iv e]):=by
 have c0:=Zig a c ha hc zo
 cases h:eqP a c with
 | true=>rw [h] at c0;exact .inr ⟨11,⟨by decide,by decide⟩,r13Int0 _ _ _ _ _ _ _ _ l c0⟩
 | false =>
   rw [h] at c0;have h0:=Zq3 h;have c1:=Zd5 a.1 a.2 c.1 c.2 ha.1 ha.2 hc.1 hc.2 zo;have u1:=hc.1.sub ha.1;have u2:=hc.2.sub ha.2;have c2:=Zgg _ _ _ _ u1 u2 u1 u2 zo;have zk:Sz ((c.1 - a.1)*(c.1 - a.1)+(c.2 - a.2)*(c.2 - a.2)) (8*j+5):=Zds ha hc ha hc;have hk:(c.1 - a.1)*(c.1 - a.1)+(c.2 - a.2)*(c.2 - a.2)≠0:=h0;have c3:=Zmf a b ha hb zo;have zf:=Zds ha hb ha hb;have c4:=qAdd _ _ zk zf zo zo;have c5:=Zmf c d hc hd zo;have zw:=Zds hc hd hc hd;have zg:=(zk.add zf).mono (show _≤16*j+11 by omega);have c6:=qSub _ _ zg zw zo zo;have zn:=(zg.sub zw).mono (show _≤24*j+17 by omega)
   have c7:=qOf 2 zo;have c8:=qMul 2 _ sz_2 zk zo zo;have hkk:=nz2 (show(2:Rat)≠0 by decide) hk;have zkk:=sz_2.mul zk;have c9:=Zif _ _ zn zkk zo zo hkk;have zm:=(zn.div zkk).mono (show _≤32*j+23 by omega);have c10:=Zif _ _ zf zk zo zo hk;have zt:=(zf.div zk).mono (show _≤16*j+10 by omega);have c11:=qMul _ _ zm zm zo zo;have c12:=qSub _ _ zt (zm.mul zm) zo zo;have zd:=(zt.sub (zm.mul zm)).mono (show _≤80*j+57 by omega);rcases Zvo _ l zd zo with⟨s,c13,et,zs⟩ | ⟨e,he,c13⟩
   ·have y1:=(ha.1.add (zm.mul u1)).mono (show _≤40*j+40 by omega);have y2:=(ha.2.add (zm.mul u2)).mono (show _≤40*j+40 by omega);refine .inl ⟨(_,_),r13IntV _ _ _ _ _ _ _ _ _ _ _ _ _ _ _ _ _ _ _ _ _ _ _ _ _ _ _ _ l c0 c1 c2 c3 c4 c5 c6 c7 c8 c9 c10 c11 c12 c13 (Zdl a.1 a.2 _ _ _ (j:=80*j+60) (ha.1.mono zo) (ha.2.mono zo) (zm.mono zo) (u1.mono zo) (u2.mono zo) zo) (Zn2 _ _ u2 zo) (Zdl _ _ _ _ _ (j:=81*j+60) (y1.mono zo) (y2.mono zo) (zs.mono zo) (u2.neg.mono zo) (u1.mono zo) zo),_,_,s,hk,Rat.div_mul_cancel hkk,Rat.div_mul_cancel hk,et,?_⟩;exact Prod.ext (by simp only [dotP];grind) (by simp only [dotP])
   ·exact .inr ⟨e,he,r13Int1 _ _ _ _ _ _ _ _ _ _ _ _ _ _ _ _ _ _ _ _ _ l e he c0 c1 c2 c3 c4 c5 c6 c7 c8 c9 c10 c11 c12 c13⟩
attribute [go_sem] underlying91 underlying88 szA4 byA4 zA4 szSt bySt zSt
attribute [local go_sem] Zcd Zbe Zbh Zcj Zcf Znp Zno
abbrev stA (vs:List Rat) (bs:List AV) (n:Int):AV:=.agg [.sl 3 (vs.map ratQ),.sl 1 bs,iv n]
theorem Zke (v:Rat) (vs bs:List AV) (n:Int) (lv:vs.length≤1000) (lb:bs.length≤1000):Pure prog 73 [.agg [.sl 3 (ratQ v :: vs),.sl 1 bs,iv n]] (.tup [ratQ v,.agg [.sl 3 vs,.sl 1 bs,iv n]]):=by
 refine pI func73 rfl ntmps73 results73 call73 ?_
 (repeat' (first|(with_reducible first|refine stp ?_|apply gx1|apply gx2|apply gx3|apply gx4|apply gx5|apply gx6|apply gx7|apply gy8|apply gz2|apply gz3)|(with_reducible refine Zcv ?_;intro _)|((with_reducible refine gE ?_);(try simp (disch:=omega) only [go_sem,Zy7,Zx8,Zx6,Zx5,Zx4,Int.reduceAdd,Int.reduceSub,Int.reduceToNat,Zyh])<;>first|rfl|omega)|with_reducible refine Zag zd ?_|((with_reducible apply gy1);iterate 3 focus rfl)|((with_reducible apply gy2);iterate 3 focus rfl)|((with_reducible apply gy3);iterate 2 focus rfl)|((with_reducible apply gy4);iterate 1 focus rfl)|((with_reducible apply gy5);iterate 4 focus rfl)|((with_reducible apply gy5c);iterate 4 focus rfl)|((with_reducible apply gy6);iterate 4 focus rfl)|((with_reducible apply Zgz);iterate 3 focus rfl)|((with_reducible apply Zgo);iterate 1 focus rfl)|((with_reducible apply gy7);iterate 1 focus rfl)|((with_reducible apply gy9);(focus ((with_reducible refine gE ?_);(try simp (disch:=omega) only [go_sem,Zy7,Zx8,Zx6,Zx5,Zx4,Int.reduceAdd,Int.reduceSub,Int.reduceToNat,Zyh])<;>rfl)))|((with_reducible apply gz1);(focus first|rfl|(simp (disch:=omega) only [go_sem,Zy7,Zx8,Zx6,Zx5,Zx4,Int.reduceAdd,Int.reduceSub,Int.reduceToNat,Zyh];done)))|((with_reducible apply Zbo (id:=1) (Zdv []) [] [2,3]);(focus kernel_rfl);(focus rfl);(focus kernel_rfl);(focus (simp only [Zyk,Zym,Nat.reduceAdd];rfl)))|((with_reducible first|apply Zcw|apply Zd3|apply Zcy);all_goals (intro hc;(try simp only [bool_to_prop] at hc);try (exfalso;omega)))))
 all_goals exact gL
theorem r22Free0 (vs bs:List AV) (z:Rat) (lv:vs.length≤1000) (lb:bs.length≤1000) (c0:Pure prog 42 [iv 0] (ratQ z)):Pure prog 72 [.agg [.sl 3 vs,.sl 1 bs,iv 0]] (.tup [ptQ z z,.agg [.sl 3 vs,.sl 1 bs,iv 1]]):=by
 refine pI func72 rfl ntmps72 results72 call72 ?_;(focus (refine wkad w_t (w_1 c0) (w_1 (w_d 5 [(0,ratQ z),(1,ratQ z)] [] [2,3])) ?_;(repeat' first|exact w_t|apply w_l);all_goals intros));all_goals exact gL
theorem r22Free1 (vs ws bs:List AV) (v z:Rat) (lv:vs.length≤1000) (lw:ws.length≤1000) (lb:bs.length≤1000) (c0:Pure prog 42 [iv 0] (ratQ z)) (c1:Pure prog 73 [.agg [.sl 3 vs,.sl 1 bs,iv 2]] (.tup [ratQ v,.agg [.sl 3 ws,.sl 1 bs,iv 2]])):Pure prog 72 [.agg [.sl 3 vs,.sl 1 bs,iv 1]] (.tup [ptQ v z,.agg [.sl 3 ws,.sl 1 bs,iv 2]]):=by
 refine pI func72 rfl ntmps72 results72 call72 ?_;(focus (refine wkad w_t (w_2 c0 c1) (w_1 (w_d 8 [(1,ratQ z)] [] [2,3])) ?_;(repeat' first|exact w_t|apply w_l);all_goals intros));all_goals exact gL
theorem r22Free2 (vs ws us bs:List AV) (v w:Rat) (n:Nat) (hn:2≤n) (hN:n≤1000) (lv:vs.length≤1000) (lw:ws.length≤1000) (lu:us.length≤1000) (lb:bs.length≤1000) (c1:Pure prog 73 [.agg [.sl 3 vs,.sl 1 bs,iv ((n+1:Nat):Int)]] (.tup [ratQ v,.agg [.sl 3 ws,.sl 1 bs,iv ((n+1:Nat):Int)]])) (c2:Pure prog 73 [.agg [.sl 3 ws,.sl 1 bs,iv ((n+1:Nat):Int)]] (.tup [ratQ w,.agg [.sl 3 us,.sl 1 bs,iv ((n+1:Nat):Int)]])):Pure prog 72 [.agg [.sl 3 vs,.sl 1 bs,iv (n:Int)]] (.tup [ptQ v w,.agg [.sl 3 us,.sl 1 bs,iv ((n+1:Nat):Int)]]):=by
 have h0:¬(n:Int)=0:=zo;have h1:¬(n:Int)=1:=zo;have h2:(n:Int)+1=((n+1:Nat):Int):=zo;generalize hm:((n+1:Nat):Int)=m at *;refine pI func72 rfl ntmps72 results72 call72 ?_;(focus (refine wkad (w_3 h0 h1 h2) (w_2 c1 c2) (w_1 (w_d 10 [] [] [2,3])) ?_;(repeat' first|exact w_t|apply w_l);all_goals intros));all_goals exact gL
theorem r22F2 (a1 a2 b1 b2:Rat) (nm:ByteArray) (ar:List Int) (r:Rat) (x y:Rat) (c:Pure prog 74 [ptQ a1 a2,ptQ b1 b2,ratQ r] (ptQ x y)):Pure prog 31 [.agg [iv 2,strA nm,ivs ar,.v (.bool (decide (r.num < 0))),lim (toL r.num.natAbs),lim (toL r.den)],.agg [.v (.bool (decide (a1.num < 0))),lim (toL a1.num.natAbs),lim (toL a1.den),.v (.bool (decide (a2.num < 0))),lim (toL a2.num.natAbs),lim (toL a2.den),.v (.bool (decide (b1.num < 0))),lim (toL b1.num.natAbs),lim (toL b1.den),.v (.bool (decide (b2.num < 0))),lim (toL b2.num.natAbs),lim (toL b2.den),.v (.bool false),.v (.slice none 0 0),.v (.slice none 0 0),.v (.bool false),.v (.slice none 0 0),.v (.slice none 0 0),.v (.bool false),.v (.slice none 0 0),.v (.slice none 0 0),.v (.bool false),.v (.slice none 0 0),.v (.slice none 0 0)]] (.tup [ptQ x y,iv 0]):=by
 refine pI func31 rfl ntmps31 results31 call31 ?_;(focus (refine wkap w_t (w_1 c) (w_r 0) ?_;(repeat' first|exact w_t|apply w_l);all_goals intros));all_goals exact gL
theorem r22F3 (a1 a2 b1 b2 c1 c2:Rat) (nm:ByteArray) (ar:List Int) (s:Bool) (l d:List Nat) (x y:Rat) (c:Pure prog 79 [ptQ a1 a2,ptQ b1 b2,ptQ c1 c2] (ptQ x y)):Pure prog 31 [.agg [iv 3,strA nm,ivs ar,.v (.bool s),lim l,lim d],.agg [.v (.bool (decide (a1.num < 0))),lim (toL a1.num.natAbs),lim (toL a1.den),.v (.bool (decide (a2.num < 0))),lim (toL a2.num.natAbs),lim (toL a2.den),.v (.bool (decide (b1.num < 0))),lim (toL b1.num.natAbs),lim (toL b1.den),.v (.bool (decide (b2.num < 0))),lim (toL b2.num.natAbs),lim (toL b2.den),.v (.bool (decide (c1.num < 0))),lim (toL c1.num.natAbs),lim (toL c1.den),.v (.bool (decide (c2.num < 0))),lim (toL c2.num.natAbs),lim (toL c2.den),.v (.bool false),.v (.slice none 0 0),.v (.slice none 0 0),.v (.bool false),.v (.slice none 0 0),.v (.slice none 0 0)]] (.tup [ptQ x y,iv 0]):=by
 refine pI func31 rfl ntmps31 results31 call31 ?_;(focus (refine wkap w_t (w_1 c) (w_r 0) ?_;(repeat' first|exact w_t|apply w_l);all_goals intros));all_goals exact gL
theorem r22F4 (a1 a2 b1 b2 c1 c2:Rat) (nm:ByteArray) (ar:List Int) (s:Bool) (l d:List Nat) (x y:Rat) (c:Pure prog 80 [ptQ a1 a2,ptQ b1 b2,ptQ c1 c2] (ptQ x y)):Pure prog 31 [.agg [iv 4,strA nm,ivs ar,.v (.bool s),lim l,lim d],.agg [.v (.bool (decide (a1.num < 0))),lim (toL a1.num.natAbs),lim (toL a1.den),.v (.bool (decide (a2.num < 0))),lim (toL a2.num.natAbs),lim (toL a2.den),.v (.bool (decide (b1.num < 0))),lim (toL b1.num.natAbs),lim (toL b1.den),.v (.bool (decide (b2.num < 0))),lim (toL b2.num.natAbs),lim (toL b2.den),.v (.bool (decide (c1.num < 0))),lim (toL c1.num.natAbs),lim (toL c1.den),.v (.bool (decide (c2.num < 0))),lim (toL c2.num.natAbs),lim (toL c2.den),.v (.bool false),.v (.slice none 0 0),.v (.slice none 0 0),.v (.bool false),.v (.slice none 0 0),.v (.slice none 0 0)]] (.tup [ptQ x y,iv 0]):=by
 refine pI func31 rfl ntmps31 results31 call31 ?_;(focus (refine wkap w_t (w_1 c) (w_r 0) ?_;(repeat' first|exact w_t|apply w_l);all_goals intros));all_goals exact gL
theorem r22F7 (a1 a2 b1 b2 c1 c2:Rat) (nm:ByteArray) (ar:List Int) (s:Bool) (l d:List Nat) (x y:Rat) (c:Pure prog 81 [ptQ a1 a2,ptQ b1 b2,ptQ c1 c2] (.tup [ptQ x y,iv 0])):Pure prog 31 [.agg [iv 7,strA nm,ivs ar,.v (.bool s),lim l,lim d],.agg [.v (.bool (decide (a1.num < 0))),lim (toL a1.num.natAbs),lim (toL a1.den),.v (.bool (decide (a2.num < 0))),lim (toL a2.num.natAbs),lim (toL a2.den),.v (.bool (decide (b1.num < 0))),lim (toL b1.num.natAbs),lim (toL b1.den),.v (.bool (decide (b2.num < 0))),lim (toL b2.num.natAbs),lim (toL b2.den),.v (.bool (decide (c1.num < 0))),lim (toL c1.num.natAbs),lim (toL c1.den),.v (.bool (decide (c2.num < 0))),lim (toL c2.num.natAbs),lim (toL c2.den),.v (.bool false),.v (.slice none 0 0),.v (.slice none 0 0),.v (.bool false),.v (.slice none 0 0),.v (.slice none 0 0)]] (.tup [ptQ x y,iv 0]):=by
 refine pI func31 rfl ntmps31 results31 call31 ?_;(focus (refine wkap w_t (w_1 c) (w_r 0) ?_;(repeat' first|exact w_t|apply w_l);all_goals intros));all_goals exact gL
theorem r22F7n (a1 a2 b1 b2 c1 c2:Rat) (nm:ByteArray) (ar:List Int) (s:Bool) (l d:List Nat) (e:Int) (c:Pure prog 81 [ptQ a1 a2,ptQ b1 b2,ptQ c1 c2] (.tup [pt0,iv e])):Pure prog 31 [.agg [iv 7,strA nm,ivs ar,.v (.bool s),lim l,lim d],.agg [.v (.bool (decide (a1.num < 0))),lim (toL a1.num.natAbs),lim (toL a1.den),.v (.bool (decide (a2.num < 0))),lim (toL a2.num.natAbs),lim (toL a2.den),.v (.bool (decide (b1.num < 0))),lim (toL b1.num.natAbs),lim (toL b1.den),.v (.bool (decide (b2.num < 0))),lim (toL b2.num.natAbs),lim (toL b2.den),.v (.bool (decide (c1.num < 0))),lim (toL c1.num.natAbs),lim (toL c1.den),.v (.bool (decide (c2.num < 0))),lim (toL c2.num.natAbs),lim (toL c2.den),.v (.bool false),.v (.slice none 0 0),.v (.slice none 0 0),.v (.bool false),.v (.slice none 0 0),.v (.slice none 0 0)]] (.tup [pt0,iv e]):=by
 refine pI func31 rfl ntmps31 results31 call31 ?_;(focus (refine wkap w_t (w_1 c) (w_r 0) ?_;(repeat' first|exact w_t|apply w_l);all_goals intros));all_goals exact gL
theorem r22F8 (a1 a2 b1 b2 c1 c2:Rat) (nm:ByteArray) (ar:List Int) (s:Bool) (l d:List Nat) (x y:Rat) (c:Pure prog 82 [ptQ a1 a2,ptQ b1 b2,ptQ c1 c2] (.tup [ptQ x y,iv 0])):Pure prog 31 [.agg [iv 8,strA nm,ivs ar,.v (.bool s),lim l,lim d],.agg [.v (.bool (decide (a1.num < 0))),lim (toL a1.num.natAbs),lim (toL a1.den),.v (.bool (decide (a2.num < 0))),lim (toL a2.num.natAbs),lim (toL a2.den),.v (.bool (decide (b1.num < 0))),lim (toL b1.num.natAbs),lim (toL b1.den),.v (.bool (decide (b2.num < 0))),lim (toL b2.num.natAbs),lim (toL b2.den),.v (.bool (decide (c1.num < 0))),lim (toL c1.num.natAbs),lim (toL c1.den),.v (.bool (decide (c2.num < 0))),lim (toL c2.num.natAbs),lim (toL c2.den),.v (.bool false),.v (.slice none 0 0),.v (.slice none 0 0),.v (.bool false),.v (.slice none 0 0),.v (.slice none 0 0)]] (.tup [ptQ x y,iv 0]):=by
 refine pI func31 rfl ntmps31 results31 call31 ?_;(focus (refine wkap w_t (w_1 c) (w_r 0) ?_;(repeat' first|exact w_t|apply w_l);all_goals intros));all_goals exact gL
theorem r22F8n (a1 a2 b1 b2 c1 c2:Rat) (nm:ByteArray) (ar:List Int) (s:Bool) (l d:List Nat) (e:Int) (c:Pure prog 82 [ptQ a1 a2,ptQ b1 b2,ptQ c1 c2] (.tup [pt0,iv e])):Pure prog 31 [.agg [iv 8,strA nm,ivs ar,.v (.bool s),lim l,lim d],.agg [.v (.bool (decide (a1.num < 0))),lim (toL a1.num.natAbs),lim (toL a1.den),.v (.bool (decide (a2.num < 0))),lim (toL a2.num.natAbs),lim (toL a2.den),.v (.bool (decide (b1.num < 0))),lim (toL b1.num.natAbs),lim (toL b1.den),.v (.bool (decide (b2.num < 0))),lim (toL b2.num.natAbs),lim (toL b2.den),.v (.bool (decide (c1.num < 0))),lim (toL c1.num.natAbs),lim (toL c1.den),.v (.bool (decide (c2.num < 0))),lim (toL c2.num.natAbs),lim (toL c2.den),.v (.bool false),.v (.slice none 0 0),.v (.slice none 0 0),.v (.bool false),.v (.slice none 0 0),.v (.slice none 0 0)]] (.tup [pt0,iv e]):=by
 refine pI func31 rfl ntmps31 results31 call31 ?_;(focus (refine wkap w_t (w_1 c) (w_r 0) ?_;(repeat' first|exact w_t|apply w_l);all_goals intros));all_goals exact gL
theorem r22F9 (a1 a2 b1 b2 c1 c2 d1 d2:Rat) (nm:ByteArray) (ar:List Int) (s:Bool) (l d:List Nat) (x y:Rat) (c:Pure prog 83 [ptQ a1 a2,ptQ b1 b2,ptQ c1 c2,ptQ d1 d2] (.tup [ptQ x y,iv 0])):Pure prog 31 [.agg [iv 9,strA nm,ivs ar,.v (.bool s),lim l,lim d],.agg [.v (.bool (decide (a1.num < 0))),lim (toL a1.num.natAbs),lim (toL a1.den),.v (.bool (decide (a2.num < 0))),lim (toL a2.num.natAbs),lim (toL a2.den),.v (.bool (decide (b1.num < 0))),lim (toL b1.num.natAbs),lim (toL b1.den),.v (.bool (decide (b2.num < 0))),lim (toL b2.num.natAbs),lim (toL b2.den),.v (.bool (decide (c1.num < 0))),lim (toL c1.num.natAbs),lim (toL c1.den),.v (.bool (decide (c2.num < 0))),lim (toL c2.num.natAbs),lim (toL c2.den),.v (.bool (decide (d1.num < 0))),lim (toL d1.num.natAbs),lim (toL d1.den),.v (.bool (decide (d2.num < 0))),lim (toL d2.num.natAbs),lim (toL d2.den)]] (.tup [ptQ x y,iv 0]):=by
 refine pI func31 rfl ntmps31 results31 call31 ?_;(focus (refine wkap w_t (w_1 c) (w_r 0) ?_;(repeat' first|exact w_t|apply w_l);all_goals intros));all_goals exact gL
theorem r22F9n (a1 a2 b1 b2 c1 c2 d1 d2:Rat) (nm:ByteArray) (ar:List Int) (s:Bool) (l d:List Nat) (e:Int) (c:Pure prog 83 [ptQ a1 a2,ptQ b1 b2,ptQ c1 c2,ptQ d1 d2] (.tup [pt0,iv e])):Pure prog 31 [.agg [iv 9,strA nm,ivs ar,.v (.bool s),lim l,lim d],.agg [.v (.bool (decide (a1.num < 0))),lim (toL a1.num.natAbs),lim (toL a1.den),.v (.bool (decide (a2.num < 0))),lim (toL a2.num.natAbs),lim (toL a2.den),.v (.bool (decide (b1.num < 0))),lim (toL b1.num.natAbs),lim (toL b1.den),.v (.bool (decide (b2.num < 0))),lim (toL b2.num.natAbs),lim (toL b2.den),.v (.bool (decide (c1.num < 0))),lim (toL c1.num.natAbs),lim (toL c1.den),.v (.bool (decide (c2.num < 0))),lim (toL c2.num.natAbs),lim (toL c2.den),.v (.bool (decide (d1.num < 0))),lim (toL d1.num.natAbs),lim (toL d1.den),.v (.bool (decide (d2.num < 0))),lim (toL d2.num.natAbs),lim (toL d2.den)]] (.tup [pt0,iv e]):=by
 refine pI func31 rfl ntmps31 results31 call31 ?_;(focus (refine wkap w_t (w_1 c) (w_r 0) ?_;(repeat' first|exact w_t|apply w_l);all_goals intros));all_goals exact gL
theorem r22F10 (a1 a2 b1 b2 c1 c2:Rat) (nm:ByteArray) (ar:List Int) (s:Bool) (l d:List Nat) (x y:Rat) (c:Pure prog 84 [ptQ a1 a2,ptQ b1 b2,ptQ c1 c2] (.tup [ptQ x y,iv 0])):Pure prog 31 [.agg [iv 10,strA nm,ivs ar,.v (.bool s),lim l,lim d],.agg [.v (.bool (decide (a1.num < 0))),lim (toL a1.num.natAbs),lim (toL a1.den),.v (.bool (decide (a2.num < 0))),lim (toL a2.num.natAbs),lim (toL a2.den),.v (.bool (decide (b1.num < 0))),lim (toL b1.num.natAbs),lim (toL b1.den),.v (.bool (decide (b2.num < 0))),lim (toL b2.num.natAbs),lim (toL b2.den),.v (.bool (decide (c1.num < 0))),lim (toL c1.num.natAbs),lim (toL c1.den),.v (.bool (decide (c2.num < 0))),lim (toL c2.num.natAbs),lim (toL c2.den),.v (.bool false),.v (.slice none 0 0),.v (.slice none 0 0),.v (.bool false),.v (.slice none 0 0),.v (.slice none 0 0)]] (.tup [ptQ x y,iv 0]):=by
 refine pI func31 rfl ntmps31 results31 call31 ?_;(focus (refine wkap w_t (w_1 c) (w_r 0) ?_;(repeat' first|exact w_t|apply w_l);all_goals intros));all_goals exact gL
theorem r22F10n (a1 a2 b1 b2 c1 c2:Rat) (nm:ByteArray) (ar:List Int) (s:Bool) (l d:List Nat) (e:Int) (c:Pure prog 84 [ptQ a1 a2,ptQ b1 b2,ptQ c1 c2] (.tup [pt0,iv e])):Pure prog 31 [.agg [iv 10,strA nm,ivs ar,.v (.bool s),lim l,lim d],.agg [.v (.bool (decide (a1.num < 0))),lim (toL a1.num.natAbs),lim (toL a1.den),.v (.bool (decide (a2.num < 0))),lim (toL a2.num.natAbs),lim (toL a2.den),.v (.bool (decide (b1.num < 0))),lim (toL b1.num.natAbs),lim (toL b1.den),.v (.bool (decide (b2.num < 0))),lim (toL b2.num.natAbs),lim (toL b2.den),.v (.bool (decide (c1.num < 0))),lim (toL c1.num.natAbs),lim (toL c1.den),.v (.bool (decide (c2.num < 0))),lim (toL c2.num.natAbs),lim (toL c2.den),.v (.bool false),.v (.slice none 0 0),.v (.slice none 0 0),.v (.bool false),.v (.slice none 0 0),.v (.slice none 0 0)]] (.tup [pt0,iv e]):=by
 refine pI func31 rfl ntmps31 results31 call31 ?_;(focus (refine wkap w_t (w_1 c) (w_r 0) ?_;(repeat' first|exact w_t|apply w_l);all_goals intros));all_goals exact gL
theorem r22F11 (a1 a2 b1 b2 c1 c2:Rat) (nm:ByteArray) (ar:List Int) (s:Bool) (l d:List Nat) (x y:Rat) (c:Pure prog 85 [ptQ a1 a2,ptQ b1 b2,ptQ c1 c2] (.tup [ptQ x y,iv 0])):Pure prog 31 [.agg [iv 11,strA nm,ivs ar,.v (.bool s),lim l,lim d],.agg [.v (.bool (decide (a1.num < 0))),lim (toL a1.num.natAbs),lim (toL a1.den),.v (.bool (decide (a2.num < 0))),lim (toL a2.num.natAbs),lim (toL a2.den),.v (.bool (decide (b1.num < 0))),lim (toL b1.num.natAbs),lim (toL b1.den),.v (.bool (decide (b2.num < 0))),lim (toL b2.num.natAbs),lim (toL b2.den),.v (.bool (decide (c1.num < 0))),lim (toL c1.num.natAbs),lim (toL c1.den),.v (.bool (decide (c2.num < 0))),lim (toL c2.num.natAbs),lim (toL c2.den),.v (.bool false),.v (.slice none 0 0),.v (.slice none 0 0),.v (.bool false),.v (.slice none 0 0),.v (.slice none 0 0)]] (.tup [ptQ x y,iv 0]):=by
 refine pI func31 rfl ntmps31 results31 call31 ?_;(focus (refine wkap w_t (w_1 c) (w_r 0) ?_;(repeat' first|exact w_t|apply w_l);all_goals intros));all_goals exact gL
theorem r22F11n (a1 a2 b1 b2 c1 c2:Rat) (nm:ByteArray) (ar:List Int) (s:Bool) (l d:List Nat) (e:Int) (c:Pure prog 85 [ptQ a1 a2,ptQ b1 b2,ptQ c1 c2] (.tup [pt0,iv e])):Pure prog 31 [.agg [iv 11,strA nm,ivs ar,.v (.bool s),lim l,lim d],.agg [.v (.bool (decide (a1.num < 0))),lim (toL a1.num.natAbs),lim (toL a1.den),.v (.bool (decide (a2.num < 0))),lim (toL a2.num.natAbs),lim (toL a2.den),.v (.bool (decide (b1.num < 0))),lim (toL b1.num.natAbs),lim (toL b1.den),.v (.bool (decide (b2.num < 0))),lim (toL b2.num.natAbs),lim (toL b2.den),.v (.bool (decide (c1.num < 0))),lim (toL c1.num.natAbs),lim (toL c1.den),.v (.bool (decide (c2.num < 0))),lim (toL c2.num.natAbs),lim (toL c2.den),.v (.bool false),.v (.slice none 0 0),.v (.slice none 0 0),.v (.bool false),.v (.slice none 0 0),.v (.slice none 0 0)]] (.tup [pt0,iv e]):=by
 refine pI func31 rfl ntmps31 results31 call31 ?_;(focus (refine wkap w_t (w_1 c) (w_r 0) ?_;(repeat' first|exact w_t|apply w_l);all_goals intros));all_goals exact gL
theorem r22C1 (x y:Rat) (vs ws bs:List AV) (n m:Int) (lv:vs.length≤1000) (lw:ws.length≤1000) (lb:bs.length≤1000) (c:Pure prog 72 [.agg [.sl 3 vs,.sl 1 bs,iv n]] (.tup [ptQ x y,.agg [.sl 3 ws,.sl 1 bs,iv m]])):Pure prog 30 [iv 1,.agg [.v (.bool false),.v (.slice none 0 0),.v (.slice none 0 0),.v (.bool false),.v (.slice none 0 0),.v (.slice none 0 0),.v (.bool false),.v (.slice none 0 0),.v (.slice none 0 0),.v (.bool false),.v (.slice none 0 0),.v (.slice none 0 0),.v (.bool false),.v (.slice none 0 0),.v (.slice none 0 0),.v (.bool false),.v (.slice none 0 0),.v (.slice none 0 0),.v (.bool false),.v (.slice none 0 0),.v (.slice none 0 0),.v (.bool false),.v (.slice none 0 0),.v (.slice none 0 0)],.agg [.sl 3 vs,.sl 1 bs,iv n]] (.tup [ptQ x y,iv 0,.agg [.sl 3 ws,.sl 1 bs,iv m]]):=by
 refine pI func30 rfl ntmps30 results30 call30 ?_;(focus (refine wkad w_t (w_1 c) (w_1 (w_d 3 [] [] [6,8])) ?_;(repeat' first|exact w_t|apply w_l);all_goals intros));all_goals exact gL
theorem r22C5 (a1 a2 b1 b2 v x y:Rat) (vs ws bs:List AV) (n m:Int) (lv:vs.length≤1000) (lw:ws.length≤1000) (lb:bs.length≤1000) (c:Pure prog 73 [.agg [.sl 3 vs,.sl 1 bs,iv n]] (.tup [ratQ v,.agg [.sl 3 ws,.sl 1 bs,iv m]])) (c1:Pure prog 74 [ptQ a1 a2,ptQ b1 b2,ratQ v] (ptQ x y)):Pure prog 30 [iv 5,.agg [.v (.bool (decide (a1.num < 0))),lim (toL a1.num.natAbs),lim (toL a1.den),.v (.bool (decide (a2.num < 0))),lim (toL a2.num.natAbs),lim (toL a2.den),.v (.bool (decide (b1.num < 0))),lim (toL b1.num.natAbs),lim (toL b1.den),.v (.bool (decide (b2.num < 0))),lim (toL b2.num.natAbs),lim (toL b2.den),.v (.bool false),.v (.slice none 0 0),.v (.slice none 0 0),.v (.bool false),.v (.slice none 0 0),.v (.slice none 0 0),.v (.bool false),.v (.slice none 0 0),.v (.slice none 0 0),.v (.bool false),.v (.slice none 0 0),.v (.slice none 0 0)],.agg [.sl 3 vs,.sl 1 bs,iv n]] (.tup [ptQ x y,iv 0,.agg [.sl 3 ws,.sl 1 bs,iv m]]):=by
 refine pI func30 rfl ntmps30 results30 call30 ?_;(focus (refine wkad w_t (w_2 c c1) (w_1 (w_d 7 [(5,ptQ x y)] [] [6,8])) ?_;(repeat' first|exact w_t|apply w_l);all_goals intros));all_goals exact gL
theorem r22C6 (a1 a2 b1 b2 v x y:Rat) (vs ws bs:List AV) (n m:Int) (lv:vs.length≤1000) (lw:ws.length≤1000) (lb:bs.length≤1000) (c:Pure prog 73 [.agg [.sl 3 vs,.sl 1 bs,iv n]] (.tup [ratQ v,.agg [.sl 3 ws,.sl 1 bs,iv m]])) (c1:Pure prog 75 [ptQ a1 a2,ptQ b1 b2,ratQ v] (ptQ x y)):Pure prog 30 [iv 6,.agg [.v (.bool (decide (a1.num < 0))),lim (toL a1.num.natAbs),lim (toL a1.den),.v (.bool (decide (a2.num < 0))),lim (toL a2.num.natAbs),lim (toL a2.den),.v (.bool (decide (b1.num < 0))),lim (toL b1.num.natAbs),lim (toL b1.den),.v (.bool (decide (b2.num < 0))),lim (toL b2.num.natAbs),lim (toL b2.den),.v (.bool false),.v (.slice none 0 0),.v (.slice none 0 0),.v (.bool false),.v (.slice none 0 0),.v (.slice none 0 0),.v (.bool false),.v (.slice none 0 0),.v (.slice none 0 0),.v (.bool false),.v (.slice none 0 0),.v (.slice none 0 0)],.agg [.sl 3 vs,.sl 1 bs,iv n]] (.tup [ptQ x y,iv 0,.agg [.sl 3 ws,.sl 1 bs,iv m]]):=by
 refine pI func30 rfl ntmps30 results30 call30 ?_;(focus (refine wkad w_t (w_2 c c1) (w_1 (w_d 8 [(5,ptQ x y)] [] [6,8])) ?_;(repeat' first|exact w_t|apply w_l);all_goals intros));all_goals exact gL
theorem r22C12 (a1 a2 b1 b2 c1 c2 d1 d2:Rat) (x y:Rat) (l:Bool) (vs bs:List AV) (n:Int) (lv:vs.length≤1000) (lb:bs.length≤1000) (c:Pure prog 76 [ptQ a1 a2,ptQ b1 b2,ptQ c1 c2,ptQ d1 d2,.v (.bool l)] (.tup [ptQ x y,iv 0])):Pure prog 30 [iv 12,.agg [.v (.bool (decide (a1.num < 0))),lim (toL a1.num.natAbs),lim (toL a1.den),.v (.bool (decide (a2.num < 0))),lim (toL a2.num.natAbs),lim (toL a2.den),.v (.bool (decide (b1.num < 0))),lim (toL b1.num.natAbs),lim (toL b1.den),.v (.bool (decide (b2.num < 0))),lim (toL b2.num.natAbs),lim (toL b2.den),.v (.bool (decide (c1.num < 0))),lim (toL c1.num.natAbs),lim (toL c1.den),.v (.bool (decide (c2.num < 0))),lim (toL c2.num.natAbs),lim (toL c2.den),.v (.bool (decide (d1.num < 0))),lim (toL d1.num.natAbs),lim (toL d1.den),.v (.bool (decide (d2.num < 0))),lim (toL d2.num.natAbs),lim (toL d2.den)],.agg [.sl 3 vs,.sl 1 (.v (.bool l) :: bs),iv n]] (.tup [ptQ x y,iv 0,.agg [.sl 3 vs,.sl 1 bs,iv n]]):=by
 refine pI func30 rfl ntmps30 results30 call30 ?_
 (repeat' (first|(with_reducible first|refine stp ?_|apply gx1|apply gx2|apply gx3|apply gx4|apply gx5|apply gx6|apply gx7|apply gy8|apply gz2|apply gz3|refine gw0 (c) ?_ ?_|refine gw3 (c) ?_ ?_ ?_)|(with_reducible refine Zcv ?_;intro _)|((with_reducible refine gE ?_);(try simp (disch:=omega) only [go_sem,Zy7,Zx8,Zx6,Zx5,Zx4,Int.reduceAdd,Int.reduceSub,Int.reduceToNat,Zyh])<;>first|rfl|omega)|with_reducible refine Zag zd ?_|((with_reducible apply gy1);iterate 3 focus rfl)|((with_reducible apply gy2);iterate 3 focus rfl)|((with_reducible apply gy3);iterate 2 focus rfl)|((with_reducible apply gy4);iterate 1 focus rfl)|((with_reducible apply gy5);iterate 4 focus rfl)|((with_reducible apply gy5c);iterate 4 focus rfl)|((with_reducible apply gy6);iterate 4 focus rfl)|((with_reducible apply Zgz);iterate 3 focus rfl)|((with_reducible apply Zgo);iterate 1 focus rfl)|((with_reducible apply gy7);iterate 1 focus rfl)|((with_reducible apply gy9);(focus ((with_reducible refine gE ?_);(try simp (disch:=omega) only [go_sem,Zy7,Zx8,Zx6,Zx5,Zx4,Int.reduceAdd,Int.reduceSub,Int.reduceToNat,Zyh])<;>rfl)))|((with_reducible apply gz1);(focus first|rfl|(simp (disch:=omega) only [go_sem,Zy7,Zx8,Zx6,Zx5,Zx4,Int.reduceAdd,Int.reduceSub,Int.reduceToNat,Zyh];done)))|((with_reducible apply Zbo (id:=19) (Zdv []) [] [6,8]);(focus kernel_rfl);(focus rfl);(focus kernel_rfl);(focus (simp only [Zyk,Zym,Nat.reduceAdd];rfl)))|((with_reducible first|apply Zcw|apply Zd3|apply Zcy);all_goals (intro hc;(try simp only [bool_to_prop] at hc);try (exfalso;omega)))))
 all_goals exact gL
theorem r22C12n (a1 a2 b1 b2 c1 c2 d1 d2:Rat) (e:Int) (l:Bool) (vs bs:List AV) (n:Int) (lv:vs.length≤1000) (lb:bs.length≤1000) (c:Pure prog 76 [ptQ a1 a2,ptQ b1 b2,ptQ c1 c2,ptQ d1 d2,.v (.bool l)] (.tup [pt0,iv e])):Pure prog 30 [iv 12,.agg [.v (.bool (decide (a1.num < 0))),lim (toL a1.num.natAbs),lim (toL a1.den),.v (.bool (decide (a2.num < 0))),lim (toL a2.num.natAbs),lim (toL a2.den),.v (.bool (decide (b1.num < 0))),lim (toL b1.num.natAbs),lim (toL b1.den),.v (.bool (decide (b2.num < 0))),lim (toL b2.num.natAbs),lim (toL b2.den),.v (.bool (decide (c1.num < 0))),lim (toL c1.num.natAbs),lim (toL c1.den),.v (.bool (decide (c2.num < 0))),lim (toL c2.num.natAbs),lim (toL c2.den),.v (.bool (decide (d1.num < 0))),lim (toL d1.num.natAbs),lim (toL d1.den),.v (.bool (decide (d2.num < 0))),lim (toL d2.num.natAbs),lim (toL d2.den)],.agg [.sl 3 vs,.sl 1 (.v (.bool l) :: bs),iv n]] (.tup [pt0,iv e,.agg [.sl 3 vs,.sl 1 bs,iv n]]):=by
 refine pI func30 rfl ntmps30 results30 call30 ?_
 (repeat' (first|(with_reducible first|refine stp ?_|apply gx1|apply gx2|apply gx3|apply gx4|apply gx5|apply gx6|apply gx7|apply gy8|apply gz2|apply gz3|refine gw0 (c) ?_ ?_|refine gw3 (c) ?_ ?_ ?_)|(with_reducible refine Zcv ?_;intro _)|((with_reducible refine gE ?_);(try simp (disch:=omega) only [go_sem,Zy7,Zx8,Zx6,Zx5,Zx4,Int.reduceAdd,Int.reduceSub,Int.reduceToNat,Zyh])<;>first|rfl|omega)|with_reducible refine Zag zd ?_|((with_reducible apply gy1);iterate 3 focus rfl)|((with_reducible apply gy2);iterate 3 focus rfl)|((with_reducible apply gy3);iterate 2 focus rfl)|((with_reducible apply gy4);iterate 1 focus rfl)|((with_reducible apply gy5);iterate 4 focus rfl)|((with_reducible apply gy5c);iterate 4 focus rfl)|((with_reducible apply gy6);iterate 4 focus rfl)|((with_reducible apply Zgz);iterate 3 focus rfl)|((with_reducible apply Zgo);iterate 1 focus rfl)|((with_reducible apply gy7);iterate 1 focus rfl)|((with_reducible apply gy9);(focus ((with_reducible refine gE ?_);(try simp (disch:=omega) only [go_sem,Zy7,Zx8,Zx6,Zx5,Zx4,Int.reduceAdd,Int.reduceSub,Int.reduceToNat,Zyh])<;>rfl)))|((with_reducible apply gz1);(focus first|rfl|(simp (disch:=omega) only [go_sem,Zy7,Zx8,Zx6,Zx5,Zx4,Int.reduceAdd,Int.reduceSub,Int.reduceToNat,Zyh];done)))|((with_reducible apply Zbo (id:=19) (Zdv []) [] [6,8]);(focus kernel_rfl);(focus rfl);(focus kernel_rfl);(focus (simp only [Zyk,Zym,Nat.reduceAdd];rfl)))|((with_reducible first|apply Zcw|apply Zd3|apply Zcy);all_goals (intro hc;(try simp only [bool_to_prop] at hc);try (exfalso;omega)))))
 all_goals exact gL
theorem r22C13 (a1 a2 b1 b2 c1 c2 d1 d2:Rat) (x y:Rat) (l:Bool) (vs bs:List AV) (n:Int) (lv:vs.length≤1000) (lb:bs.length≤1000) (c:Pure prog 77 [ptQ a1 a2,ptQ b1 b2,ptQ c1 c2,ptQ d1 d2,.v (.bool l)] (.tup [ptQ x y,iv 0])):Pure prog 30 [iv 13,.agg [.v (.bool (decide (a1.num < 0))),lim (toL a1.num.natAbs),lim (toL a1.den),.v (.bool (decide (a2.num < 0))),lim (toL a2.num.natAbs),lim (toL a2.den),.v (.bool (decide (b1.num < 0))),lim (toL b1.num.natAbs),lim (toL b1.den),.v (.bool (decide (b2.num < 0))),lim (toL b2.num.natAbs),lim (toL b2.den),.v (.bool (decide (c1.num < 0))),lim (toL c1.num.natAbs),lim (toL c1.den),.v (.bool (decide (c2.num < 0))),lim (toL c2.num.natAbs),lim (toL c2.den),.v (.bool (decide (d1.num < 0))),lim (toL d1.num.natAbs),lim (toL d1.den),.v (.bool (decide (d2.num < 0))),lim (toL d2.num.natAbs),lim (toL d2.den)],.agg [.sl 3 vs,.sl 1 (.v (.bool l) :: bs),iv n]] (.tup [ptQ x y,iv 0,.agg [.sl 3 vs,.sl 1 bs,iv n]]):=by
 refine pI func30 rfl ntmps30 results30 call30 ?_
 (repeat' (first|(with_reducible first|refine stp ?_|apply gx1|apply gx2|apply gx3|apply gx4|apply gx5|apply gx6|apply gx7|apply gy8|apply gz2|apply gz3|refine gw0 (c) ?_ ?_|refine gw3 (c) ?_ ?_ ?_)|(with_reducible refine Zcv ?_;intro _)|((with_reducible refine gE ?_);(try simp (disch:=omega) only [go_sem,Zy7,Zx8,Zx6,Zx5,Zx4,Int.reduceAdd,Int.reduceSub,Int.reduceToNat,Zyh])<;>first|rfl|omega)|with_reducible refine Zag zd ?_|((with_reducible apply gy1);iterate 3 focus rfl)|((with_reducible apply gy2);iterate 3 focus rfl)|((with_reducible apply gy3);iterate 2 focus rfl)|((with_reducible apply gy4);iterate 1 focus rfl)|((with_reducible apply gy5);iterate 4 focus rfl)|((with_reducible apply gy5c);iterate 4 focus rfl)|((with_reducible apply gy6);iterate 4 focus rfl)|((with_reducible apply Zgz);iterate 3 focus rfl)|((with_reducible apply Zgo);iterate 1 focus rfl)|((with_reducible apply gy7);iterate 1 focus rfl)|((with_reducible apply gy9);(focus ((with_reducible refine gE ?_);(try simp (disch:=omega) only [go_sem,Zy7,Zx8,Zx6,Zx5,Zx4,Int.reduceAdd,Int.reduceSub,Int.reduceToNat,Zyh])<;>rfl)))|((with_reducible apply gz1);(focus first|rfl|(simp (disch:=omega) only [go_sem,Zy7,Zx8,Zx6,Zx5,Zx4,Int.reduceAdd,Int.reduceSub,Int.reduceToNat,Zyh];done)))|((with_reducible apply Zbo (id:=19) (Zdv []) [] [6,8]);(focus kernel_rfl);(focus rfl);(focus kernel_rfl);(focus (simp only [Zyk,Zym,Nat.reduceAdd];rfl)))|((with_reducible first|apply Zcw|apply Zd3|apply Zcy);all_goals (intro hc;(try simp only [bool_to_prop] at hc);try (exfalso;omega)))))
 all_goals exact gL
theorem r22C13n (a1 a2 b1 b2 c1 c2 d1 d2:Rat) (e:Int) (l:Bool) (vs bs:List AV) (n:Int) (lv:vs.length≤1000) (lb:bs.length≤1000) (c:Pure prog 77 [ptQ a1 a2,ptQ b1 b2,ptQ c1 c2,ptQ d1 d2,.v (.bool l)] (.tup [pt0,iv e])):Pure prog 30 [iv 13,.agg [.v (.bool (decide (a1.num < 0))),lim (toL a1.num.natAbs),lim (toL a1.den),.v (.bool (decide (a2.num < 0))),lim (toL a2.num.natAbs),lim (toL a2.den),.v (.bool (decide (b1.num < 0))),lim (toL b1.num.natAbs),lim (toL b1.den),.v (.bool (decide (b2.num < 0))),lim (toL b2.num.natAbs),lim (toL b2.den),.v (.bool (decide (c1.num < 0))),lim (toL c1.num.natAbs),lim (toL c1.den),.v (.bool (decide (c2.num < 0))),lim (toL c2.num.natAbs),lim (toL c2.den),.v (.bool (decide (d1.num < 0))),lim (toL d1.num.natAbs),lim (toL d1.den),.v (.bool (decide (d2.num < 0))),lim (toL d2.num.natAbs),lim (toL d2.den)],.agg [.sl 3 vs,.sl 1 (.v (.bool l) :: bs),iv n]] (.tup [pt0,iv e,.agg [.sl 3 vs,.sl 1 bs,iv n]]):=by
 refine pI func30 rfl ntmps30 results30 call30 ?_
 (repeat' (first|(with_reducible first|refine stp ?_|apply gx1|apply gx2|apply gx3|apply gx4|apply gx5|apply gx6|apply gx7|apply gy8|apply gz2|apply gz3|refine gw0 (c) ?_ ?_|refine gw3 (c) ?_ ?_ ?_)|(with_reducible refine Zcv ?_;intro _)|((with_reducible refine gE ?_);(try simp (disch:=omega) only [go_sem,Zy7,Zx8,Zx6,Zx5,Zx4,Int.reduceAdd,Int.reduceSub,Int.reduceToNat,Zyh])<;>first|rfl|omega)|with_reducible refine Zag zd ?_|((with_reducible apply gy1);iterate 3 focus rfl)|((with_reducible apply gy2);iterate 3 focus rfl)|((with_reducible apply gy3);iterate 2 focus rfl)|((with_reducible apply gy4);iterate 1 focus rfl)|((with_reducible apply gy5);iterate 4 focus rfl)|((with_reducible apply gy5c);iterate 4 focus rfl)|((with_reducible apply gy6);iterate 4 focus rfl)|((with_reducible apply Zgz);iterate 3 focus rfl)|((with_reducible apply Zgo);iterate 1 focus rfl)|((with_reducible apply gy7);iterate 1 focus rfl)|((with_reducible apply gy9);(focus ((with_reducible refine gE ?_);(try simp (disch:=omega) only [go_sem,Zy7,Zx8,Zx6,Zx5,Zx4,Int.reduceAdd,Int.reduceSub,Int.reduceToNat,Zyh])<;>rfl)))|((with_reducible apply gz1);(focus first|rfl|(simp (disch:=omega) only [go_sem,Zy7,Zx8,Zx6,Zx5,Zx4,Int.reduceAdd,Int.reduceSub,Int.reduceToNat,Zyh];done)))|((with_reducible apply Zbo (id:=19) (Zdv []) [] [6,8]);(focus kernel_rfl);(focus rfl);(focus kernel_rfl);(focus (simp only [Zyk,Zym,Nat.reduceAdd];rfl)))|((with_reducible first|apply Zcw|apply Zd3|apply Zcy);all_goals (intro hc;(try simp only [bool_to_prop] at hc);try (exfalso;omega)))))
 all_goals exact gL
theorem r22C14n (a1 a2 b1 b2:Rat) (e:Int) (l:Bool) (vs bs:List AV) (n:Int) (lv:vs.length≤1000) (lb:bs.length≤1000) (c:Pure prog 78 [ptQ a1 a2,ptQ b1 b2,.v (.bool l)] (.tup [pt0,iv e])):Pure prog 30 [iv 14,.agg [.v (.bool (decide (a1.num < 0))),lim (toL a1.num.natAbs),lim (toL a1.den),.v (.bool (decide (a2.num < 0))),lim (toL a2.num.natAbs),lim (toL a2.den),.v (.bool (decide (b1.num < 0))),lim (toL b1.num.natAbs),lim (toL b1.den),.v (.bool (decide (b2.num < 0))),lim (toL b2.num.natAbs),lim (toL b2.den),.v (.bool false),.v (.slice none 0 0),.v (.slice none 0 0),.v (.bool false),.v (.slice none 0 0),.v (.slice none 0 0),.v (.bool false),.v (.slice none 0 0),.v (.slice none 0 0),.v (.bool false),.v (.slice none 0 0),.v (.slice none 0 0)],.agg [.sl 3 vs,.sl 1 (.v (.bool l) :: bs),iv n]] (.tup [pt0,iv e,.agg [.sl 3 vs,.sl 1 bs,iv n]]):=by
 refine pI func30 rfl ntmps30 results30 call30 ?_
 (repeat' (first|(with_reducible first|refine stp ?_|apply gx1|apply gx2|apply gx3|apply gx4|apply gx5|apply gx6|apply gx7|apply gy8|apply gz2|apply gz3|refine gw0 (c) ?_ ?_|refine gw3 (c) ?_ ?_ ?_)|(with_reducible refine Zcv ?_;intro _)|((with_reducible refine gE ?_);(try simp (disch:=omega) only [go_sem,Zy7,Zx8,Zx6,Zx5,Zx4,Int.reduceAdd,Int.reduceSub,Int.reduceToNat,Zyh])<;>first|rfl|omega)|with_reducible refine Zag zd ?_|((with_reducible apply gy1);iterate 3 focus rfl)|((with_reducible apply gy2);iterate 3 focus rfl)|((with_reducible apply gy3);iterate 2 focus rfl)|((with_reducible apply gy4);iterate 1 focus rfl)|((with_reducible apply gy5);iterate 4 focus rfl)|((with_reducible apply gy5c);iterate 4 focus rfl)|((with_reducible apply gy6);iterate 4 focus rfl)|((with_reducible apply Zgz);iterate 3 focus rfl)|((with_reducible apply Zgo);iterate 1 focus rfl)|((with_reducible apply gy7);iterate 1 focus rfl)|((with_reducible apply gy9);(focus ((with_reducible refine gE ?_);(try simp (disch:=omega) only [go_sem,Zy7,Zx8,Zx6,Zx5,Zx4,Int.reduceAdd,Int.reduceSub,Int.reduceToNat,Zyh])<;>rfl)))|((with_reducible apply gz1);(focus first|rfl|(simp (disch:=omega) only [go_sem,Zy7,Zx8,Zx6,Zx5,Zx4,Int.reduceAdd,Int.reduceSub,Int.reduceToNat,Zyh];done)))|((with_reducible apply Zbo (id:=19) (Zdv []) [] [6,8]);(focus kernel_rfl);(focus rfl);(focus kernel_rfl);(focus (simp only [Zyk,Zym,Nat.reduceAdd];rfl)))|((with_reducible first|apply Zcw|apply Zd3|apply Zcy);all_goals (intro hc;(try simp only [bool_to_prop] at hc);try (exfalso;omega)))))
 all_goals exact gL
attribute [local go_sem] Zcr Zcq Znq Zph Zuc Zjz Zpf Zpn
abbrev stV (W C:List AV) (n:Int):AV:=.agg [.sl 3 W,.sl 1 C,iv n]
def arrA:List PQ→AV
 | []=>.agg [.v (.bool false),.v (.slice none 0 0),.v (.slice none 0 0),.v (.bool false),.v (.slice none 0 0),.v (.slice none 0 0),.v (.bool false),.v (.slice none 0 0),.v (.slice none 0 0),.v (.bool false),.v (.slice none 0 0),.v (.slice none 0 0),.v (.bool false),.v (.slice none 0 0),.v (.slice none 0 0),.v (.bool false),.v (.slice none 0 0),.v (.slice none 0 0),.v (.bool false),.v (.slice none 0 0),.v (.slice none 0 0),.v (.bool false),.v (.slice none 0 0),.v (.slice none 0 0)]
 | [a,b]=>.agg [.v (.bool (decide (a.1.num < 0))),lim (toL a.1.num.natAbs),lim (toL a.1.den),.v (.bool (decide (a.2.num < 0))),lim (toL a.2.num.natAbs),lim (toL a.2.den),.v (.bool (decide (b.1.num < 0))),lim (toL b.1.num.natAbs),lim (toL b.1.den),.v (.bool (decide (b.2.num < 0))),lim (toL b.2.num.natAbs),lim (toL b.2.den),.v (.bool false),.v (.slice none 0 0),.v (.slice none 0 0),.v (.bool false),.v (.slice none 0 0),.v (.slice none 0 0),.v (.bool false),.v (.slice none 0 0),.v (.slice none 0 0),.v (.bool false),.v (.slice none 0 0),.v (.slice none 0 0)]
 | [a,b,c]=>.agg [.v (.bool (decide (a.1.num < 0))),lim (toL a.1.num.natAbs),lim (toL a.1.den),.v (.bool (decide (a.2.num < 0))),lim (toL a.2.num.natAbs),lim (toL a.2.den),.v (.bool (decide (b.1.num < 0))),lim (toL b.1.num.natAbs),lim (toL b.1.den),.v (.bool (decide (b.2.num < 0))),lim (toL b.2.num.natAbs),lim (toL b.2.den),.v (.bool (decide (c.1.num < 0))),lim (toL c.1.num.natAbs),lim (toL c.1.den),.v (.bool (decide (c.2.num < 0))),lim (toL c.2.num.natAbs),lim (toL c.2.den),.v (.bool false),.v (.slice none 0 0),.v (.slice none 0 0),.v (.bool false),.v (.slice none 0 0),.v (.slice none 0 0)]
 | [a,b,c,d]=>.agg [.v (.bool (decide (a.1.num < 0))),lim (toL a.1.num.natAbs),lim (toL a.1.den),.v (.bool (decide (a.2.num < 0))),lim (toL a.2.num.natAbs),lim (toL a.2.den),.v (.bool (decide (b.1.num < 0))),lim (toL b.1.num.natAbs),lim (toL b.1.den),.v (.bool (decide (b.2.num < 0))),lim (toL b.2.num.natAbs),lim (toL b.2.den),.v (.bool (decide (c.1.num < 0))),lim (toL c.1.num.natAbs),lim (toL c.1.den),.v (.bool (decide (c.2.num < 0))),lim (toL c.2.num.natAbs),lim (toL c.2.den),.v (.bool (decide (d.1.num < 0))),lim (toL d.1.num.natAbs),lim (toL d.1.den),.v (.bool (decide (d.2.num < 0))),lim (toL d.2.num.natAbs),lim (toL d.2.den)]
 | _=>.u
abbrev Zqy:AV:=.agg [.v (.slice none 0 0),.v (.slice none 0 0),.v (.slice none 0 0)]
abbrev twoB (k:Int):Bool:=decide (k=12∨k=13∨k=14)
theorem Zkd (k:Int):Pure prog 29 [iv k] (.v (.bool (twoB k))):=by
 by_cases h:k=12∨k=13∨k=14
 ·rw [show twoB k=true from Zx8 h];rcases h with rfl | rfl | rfl
  ·refine pI func29 rfl ntmps29 results29 call29 ?_;(focus (refine wkap w_t w_t (w_r 0) ?_;(repeat' first|exact w_t|apply w_l);all_goals intros));all_goals exact gL
  ·refine pI func29 rfl ntmps29 results29 call29 ?_;(focus (refine wkap w_t w_t (w_r 0) ?_;(repeat' first|exact w_t|apply w_l);all_goals intros));all_goals exact gL
  ·refine pI func29 rfl ntmps29 results29 call29 ?_;(focus (refine wkap w_t w_t (w_r 0) ?_;(repeat' first|exact w_t|apply w_l);all_goals intros));all_goals exact gL
 ·rw [show twoB k=false from Zx6 h];have h1:¬k=12:=λe=>h (.inl e);have h2:¬k=13:=λe=>h (.inr (.inl e));have h3:¬k=14:=λe=>h (.inr (.inr e));refine pI func29 rfl ntmps29 results29 call29 ?_;(focus (refine wkap (w_3 h1 h2 h3) w_t (w_r 0) ?_;(repeat' first|exact w_t|apply w_l);all_goals intros));all_goals exact gL
def Zk8 (s:RS) (A:List PQ) (W C:List AV) (n:Int) (pt:AV) (e:Int) (W' C':List AV) (n':Int):Prop :=
 if s.k=1∨s.k=5∨s.k=6∨twoB s.k=true then Pure prog 30 [iv s.k,arrA A,stV W C n] (.tup [pt,iv e,stV W' C' n'])
 else Pure prog 31 [s.av,arrA A] (.tup [pt,iv e])∧W'=W∧C'=C∧n'=n
abbrev ptE (b:Bool) (l1 l2:List Nat) (c:Bool) (l3 l4:List Nat):AV:=.agg [.v (.bool b),lim l1,lim l2,.v (.bool c),lim l3,lim l4]
theorem pt0_vk:Vk pt0 (ptE false [] [] false [] []):=Vk.aggL (.cons (.refl _) (.cons (.nil 1) (.cons (.nil 1) (.cons (.refl _) (.cons (.nil 1) (.cons (.nil 1) .nil))))))
theorem Zvw {s:RS} {A:List PQ} {W C:List AV} {n:Int} {e:Int} {W' C':List AV} {n':Int} (h:Zk8 s A W C n pt0 e W' C' n'):Zk8 s A W C n (ptE false [] [] false [] []) e W' C' n':=by
 unfold Zk8 at h ⊢;split
 ·rename_i hc;rw [Zx5 hc] at h;exact Zdm h (Vk.tupL (.cons pt0_vk (.cons (.refl _) (.cons (.refl _) .nil))))
 ·rename_i hc;rw [Zx4 hc] at h;exact⟨Zdm h.1 (Vk.tupL (.cons pt0_vk (.cons (.refl _) .nil))),h.2⟩
def argP (P:List PQ) (s:RS):List PQ:=s.ar.map λa=>P.getD a.toNat (0,0)
theorem ar_nat {l:List Int} {i:Nat} (h:∀j,j < l.length→0≤gI l j∧gI l j < (i:Int)):∃js:List Nat,l=js.map (λj:Nat=>(j:Int))∧∀j∈js,j < i:=by
 have h':∀a∈l,0≤a∧a < (i:Int):=λa ha=>by
  obtain⟨j,hj,rfl⟩:=List.mem_iff_getElem.1 ha;have:=h j hj
  rwa [show gI l j=l[j] from by unfold gI;rw [Zyg,Zyf hj];rfl] at this
 refine⟨l.map Int.toNat,?_,λj hj=>?_⟩
 ·rw [List.map_map]
  conv=>lhs;rw [←List.map_id l]
  exact ZAj λa ha=>by show a=((a.toNat:Nat):Int);have:=h' a ha;omega
 ·obtain⟨a,ha,rfl⟩:=List.mem_map.1 hj;have:=h' a ha;omega
theorem Zxz {k:Int} {n:Nat} (h:(n:Int)=arS k):(k=1∧n=0)∨((k=2∨k=5∨k=6∨k=14)∧n=2)∨((k=3∨k=4∨k=7∨k=8∨k=10∨k=11)∧n=3)∨((k=9∨k=12∨k=13)∧n=4):=by
 unfold arS at h
 repeat' split at h
 all_goals omega
theorem r22At1 (ss:List RS) (gs:List RG) (V B:List AV) (n m:Nat) (hl:V.length≠n∨(V.length=n∧B.length≠m)) (cc:Pure prog 28 [figA ss gs] (.tup [iv n,iv m,iv 0])):Pure prog 8 [figA ss gs,.sl 3 V,.sl 1 B] (.tup [Zqy,iv 0,iv 16]):=by
 show Pure _ _ [.agg [.sl 6 (ss.map RS.av),.sl 5 (gs.map RG.av)],_,_] _;have cc:Pure prog 28 [.agg [.sl 6 (ss.map RS.av),.sl 5 (gs.map RG.av)]] _:=cc;generalize ss.map RS.av=M at *;generalize gs.map RG.av=N at *;rcases hl with h | ⟨h,h'⟩
 ·have h1:¬(V.length:Int)=(n:Int):=zo;refine pI func8 rfl ntmps8 results8 call8 ?_;(focus (refine wkap (w_1 h1) (w_1 cc) (w_r 0) ?_;(repeat' first|exact w_t|apply w_l);all_goals intros));all_goals exact gL
 ·have h1:(V.length:Int)=(n:Int):=zo;have h2:¬(B.length:Int)=(m:Int):=zo;refine pI func8 rfl ntmps8 results8 call8 ?_;(focus (refine wkap (w_2 h1 h2) (w_1 cc) (w_r 0) ?_;(repeat' first|exact w_t|apply w_l);all_goals intros));all_goals exact gL
theorem r22AtV (ss:List RS) (gs:List RG) (V B:List AV) (hl:ss.length≤8) (lV:V.length≤1000) (lB:B.length≤1000) (cc:Pure prog 28 [figA ss gs] (.tup [iv V.length,iv B.length,iv 0]))
 (K:Nat) (hK:K≤ss.length) (P:Nat→List PQ) (W C:Nat→List AV) (n:Nat→Int) (lW:∀i,(W i).length≤1000) (lC:∀i,(C i).length≤1000) (hP:∀i,i≤K→(P i).length=i) (p0:P 0=[]) (w0:W 0=V) (c0:C 0=B) (n0:n 0=0)
 (har:∀i (h:i < ss.length),(ss[i].ar.length:Int)=arS ss[i].k∧0≤arS ss[i].k∧∀j,j < ss[i].ar.length→0≤gI ss[i].ar j∧gI ss[i].ar j < (i:Int))
 (hst:∀i (h:i < ss.length),i < K→∃x:PQ,P (i+1)=P i++[x]∧Zk8 ss[i] (argP (P i) ss[i]) (W i) (C i) (n i) x.av 0 (W (i+1)) (C (i+1)) (n (i+1)))
 (r:AV) (hr:(K=ss.length∧r=.tup [.agg [.sl 3 V,.sl 1 B,.sl 6 ((P K).map PQ.av)],iv 0,iv 0])∨∃(h:K < ss.length) (e:Int) (W' C':List AV) (n':Int),(0 < e∧e < 100)∧Zk8 ss[K] (argP (P K) ss[K]) (W K) (C K) (n K) pt0 e W' C' n'∧r=.tup [Zqy,iv K,iv e]) :
 Pure prog 8 [figA ss gs,.sl 3 V,.sl 1 B] (r):=by
 have hg:∀i (h:i < ss.length),(ss.map RS.av).getD i .u=ss[i].av:=λi h=>Zaj RS.av h;have hls:(ss.map RS.av).length=ss.length:=Zx9 ..;show Pure _ _ [.agg [.sl 6 (ss.map RS.av),.sl 5 (gs.map RG.av)],_,_] _;have c1:Pure prog 28 [.agg [.sl 6 (ss.map RS.av),.sl 5 (gs.map RG.av)]] _:=cc;clear cc;generalize ss.map RS.av=M at *;generalize gs.map RG.av=N at *;refine pI func8 rfl ntmps8 results8 call8 ?_;(focus (refine wkap (w_1 hls) (w_1 c1) (w_r 0) ?_;(repeat' first|exact w_t|apply w_l);all_goals intros));rename_i g1 g2 g3;refine Zf5 (Frz.nilOwn (d:=13) 37 6 90 (gC)) ?_
 refine Zad (ι:=Nat) (λi e m=>i≤K∧e 1=.sl 3 V∧e 2=.sl 1 B∧e 3=.pbox 3 g1 0∧e 6=.pbox 6 g2 0∧e 12=.pbox 12 g3 0∧e 14=iv i∧m 3=some (.box g1 25 [.sl 6 M,.sl 5 N] false)∧m 6=some (.box g2 33 [.v (.slice none 0 0),.v (.slice none 0 0),.v (.slice none 0 0)] false)∧m 12=some (.box g3 88 [.sl 3 (W i),.sl 1 (C i),iv (n i)] false)∧∃sv,e 13=.own 37 sv∧m 37=some (.row sv 90 6 ((P i).map PQ.av) 0)) (λi=>ss.length - i) 0 zr ?_ ?_
 ·rintro i e m ⟨hi,e1,e2,e3,e6,e12,e14,m3,m6,m12,sv,e13,m13⟩
  by_cases hlt:i < ss.length
  ·have hgi:=hg i hlt;obtain⟨ha1,ha2,ha3⟩:=har i hlt;have hPi:=hP i hi;have hlw:=lW i;have hlc:=lC i;have hlw':=lW (i+1);have hlc':=lC (i+1)
   have ho:∃(b1 b2:Bool) (l1 l2 l3 l4:List Nat) (e':Int) (W' C':List AV) (n':Int),Zk8 ss[i] (argP (P i) ss[i]) (W i) (C i) (n i) (ptE b1 l1 l2 b2 l3 l4) e' W' C' n'∧(e'=0→i < K∧W'=W (i+1)∧C'=C (i+1)∧n'=n (i+1)∧∃x:PQ,x.av=ptE b1 l1 l2 b2 l3 l4∧P (i+1)=P i++[x])∧(e'≠0→r=.tup [Zqy,iv i,iv e']):=by
    rcases Zyr i K with h | h
    ·obtain⟨x,h1,h2⟩:=hst i hlt h;exact⟨_,_,_,_,_,_,0,_,_,_,h2,λ_=>⟨h,rfl,rfl,rfl,x,rfl,h1⟩,λh0=>absurd rfl h0⟩
    ·have hik:i=K:=zo;subst hik;rcases hr with⟨h,-⟩ | ⟨_,e',W',C',n',h1,h2,h3⟩
     ·omega
     ·exact⟨false,false,[],[],[],[],e',W',C',n',Zvw h2,λh0=>zo,λ_=>h3⟩
   have hlP:(P i).length≤8:=zo;have hgL:∀j,j < (P i).length→((P i).map PQ.av).getD j .u=((P i).getD j (0,0)).av:=λj hj=>by rw [Zaj PQ.av hj,Zyg,Zyf hj];rfl
   have hlm:((P i).map PQ.av).length=(P i).length:=Zx9 ..;have hmp:∀x:PQ,(P i++[x]).map PQ.av=(P i).map PQ.av++[x.av]:=λx=>Zys ..;clear hst hr hg har hP lW lC p0 w0 c0 n0;generalize ss[i]=s at *;obtain⟨k,nm,ar,⟨rs,rl,rd⟩⟩:=s;obtain⟨js,hjs,hjl⟩:∃js:List Nat,ar=js.map (λj:Nat=>(j:Int))∧∀j∈js,j < i:=ar_nat ha3;have hjn:ar.length=js.length:=by rw [hjs,Zx9]
   have hag:argP (P i) ⟨k,nm,ar,⟨rs,rl,rd⟩⟩=js.map λj=>(P i).getD j (0,0):=by
    unfold argP;rw [hjs,List.map_map];exact ZAj λj _=>rfl
   rw [hag] at ho;simp only at ho ha1 ha2;rw [hjn] at ha1;subst hjs;clear hag hjn ha3;have hk:=Zxz ha1;have hlt':(i:Int) < (ss.length:Int):=zo;have hlm':((P i).map PQ.av).length=i:=by rw [hlm,hPi]
   clear hlm ha1 ha2;obtain _ | ⟨a,_ | ⟨b,_ | ⟨c,_ | ⟨d,_ | ⟨x,js⟩⟩⟩⟩⟩:=js
   ·simp only [Zyk,Zym] at hk;simp only [Zzc,Zy6] at ho hgi;clear hgL hjl;generalize (P i).map PQ.av=L at *;obtain rfl:k=1:=by clear ho;omega
    obtain⟨b1,b2,l1,l2,l3,l4,e',W',C',n',hp,hq1,hq2⟩:=ho;have hp:=(if_pos (show _ from by first|exact .inl rfl|exact .inr (.inl rfl)|exact .inr (.inr (.inl rfl))|exact .inr (.inr (.inr rfl)))).mp hp;dsimp only [arrA] at hp;(focus (refine wkap (w_17 e1 e2 e3 e6 e12 e14 m3 m6 m12 e13 m13 hls hlt' hlm' hlw hlc hgi) (w_1 hp) (w_r 6) ?_;(repeat' first|exact w_t|apply w_l);all_goals intros))
    ·rename_i hc;have hr:=hq2 hc;subst hr
     (all_goals (try simp (disch:=omega) only [go_sem,e6,m6,Zx8,Zx6,Zx5,Zx4,Int.reduceAdd,Int.reduceSub,Int.reduceToNat,Zyh]));(all_goals first|done|rfl|(congr 2;first|done|omega|(rw [Zyn];simp only [bool_to_prop,Zyj,Zyw,Zyx,Zyy,Zyz];omega))|skip)
    ·rename_i hc;obtain⟨hiK,w1,w2,w3,x,hxa,hx⟩:=hq1 zo;exact⟨i+1,⟨zo,gW e1,gW e2,gW e3,gW e6,gW e12,gS,gW m3,gW m6,by rw [←w1,←w2,←w3];exact gC,_,gC,by rw [hx,hmp,hxa];exact gC⟩,zo⟩
   ·exact absurd hk (by simp only [Zyk,Zym];omega)
   ·simp only [Zyk,Zym] at hk;simp only [Zzc,Zy6] at ho hgi;have ga:=hgL a (by have:=hjl a zs;clear ho;omega);have gb:=hgL b (by have:=hjl b zs;clear ho;omega);generalize (P i).getD a (0,0)=xa at *;obtain⟨xa1,xa2⟩:=xa;generalize (P i).getD b (0,0)=xb at *;obtain⟨xb1,xb2⟩:=xb;have lt_all:a < i∧b < i:=⟨hjl a zs,hjl b zs⟩;clear hgL hjl;generalize (P i).map PQ.av=L at *;by_cases h5:k=5
    ·subst h5;obtain⟨b1,b2,l1,l2,l3,l4,e',W',C',n',hp,hq1,hq2⟩:=ho;have hp:=(if_pos (show _ from by first|exact .inl rfl|exact .inr (.inl rfl)|exact .inr (.inr (.inl rfl))|exact .inr (.inr (.inr rfl)))).mp hp;dsimp only [arrA] at hp;(focus (refine wkap (w_19 e1 e2 e3 e6 e12 e14 m3 m6 m12 e13 m13 hls hlt' hlm' hlw hlc hgi ga gb) (w_1 hp) (w_r 6) ?_;(repeat' first|exact w_t|apply w_l);all_goals intros))
     ·rename_i hc;have hr:=hq2 hc;subst hr
      (all_goals (try simp (disch:=omega) only [go_sem,e6,m6,Zx8,Zx6,Zx5,Zx4,Int.reduceAdd,Int.reduceSub,Int.reduceToNat,Zyh]));(all_goals first|done|rfl|(congr 2;first|done|omega|(rw [Zyn];simp only [bool_to_prop,Zyj,Zyw,Zyx,Zyy,Zyz];omega))|skip)
     ·rename_i hc;obtain⟨hiK,w1,w2,w3,x,hxa,hx⟩:=hq1 zo;exact⟨i+1,⟨zo,gW e1,gW e2,gW e3,gW e6,gW e12,gS,gW m3,gW m6,by rw [←w1,←w2,←w3];exact gC,_,gC,by rw [hx,hmp,hxa];exact gC⟩,zo⟩
    by_cases h6:k=6
    ·subst h6;obtain⟨b1,b2,l1,l2,l3,l4,e',W',C',n',hp,hq1,hq2⟩:=ho;have hp:=(if_pos (show _ from by first|exact .inl rfl|exact .inr (.inl rfl)|exact .inr (.inr (.inl rfl))|exact .inr (.inr (.inr rfl)))).mp hp;dsimp only [arrA] at hp;(focus (refine wkap (w_19 e1 e2 e3 e6 e12 e14 m3 m6 m12 e13 m13 hls hlt' hlm' hlw hlc hgi ga gb) (w_1 hp) (w_r 6) ?_;(repeat' first|exact w_t|apply w_l);all_goals intros))
     ·rename_i hc;have hr:=hq2 hc;subst hr
      (all_goals (try simp (disch:=omega) only [go_sem,e6,m6,Zx8,Zx6,Zx5,Zx4,Int.reduceAdd,Int.reduceSub,Int.reduceToNat,Zyh]));(all_goals first|done|rfl|(congr 2;first|done|omega|(rw [Zyn];simp only [bool_to_prop,Zyj,Zyw,Zyx,Zyy,Zyz];omega))|skip)
     ·rename_i hc;obtain⟨hiK,w1,w2,w3,x,hxa,hx⟩:=hq1 zo;exact⟨i+1,⟨zo,gW e1,gW e2,gW e3,gW e6,gW e12,gS,gW m3,gW m6,by rw [←w1,←w2,←w3];exact gC,_,gC,by rw [hx,hmp,hxa];exact gC⟩,zo⟩
    by_cases h14:k=14
    ·subst h14;have c2:Pure prog 29 [iv 14] (.v (.bool true)):=Zkd 14;obtain⟨b1,b2,l1,l2,l3,l4,e',W',C',n',hp,hq1,hq2⟩:=ho;have hp:=(if_pos (show _ from by first|exact .inl rfl|exact .inr (.inl rfl)|exact .inr (.inr (.inl rfl))|exact .inr (.inr (.inr rfl)))).mp hp;dsimp only [arrA] at hp;(focus (refine wkap (w_19 e1 e2 e3 e6 e12 e14 m3 m6 m12 e13 m13 hls hlt' hlm' hlw hlc hgi ga gb) (w_2 c2 hp) (w_r 6) ?_;(repeat' first|exact w_t|apply w_l);all_goals intros))
     ·rename_i hc;have hr:=hq2 hc;subst hr
      (all_goals (try simp (disch:=omega) only [go_sem,e6,m6,Zx8,Zx6,Zx5,Zx4,Int.reduceAdd,Int.reduceSub,Int.reduceToNat,Zyh]));(all_goals first|done|rfl|(congr 2;first|done|omega|(rw [Zyn];simp only [bool_to_prop,Zyj,Zyw,Zyx,Zyy,Zyz];omega))|skip)
     ·rename_i hc;obtain⟨hiK,w1,w2,w3,x,hxa,hx⟩:=hq1 zo;exact⟨i+1,⟨zo,gW e1,gW e2,gW e3,gW e6,gW e12,gS,gW m3,gW m6,by rw [←w1,←w2,←w3];exact gC,_,gC,by rw [hx,hmp,hxa];exact gC⟩,zo⟩
    have hf:twoB k=false:=Zx6 (by clear ho;omega);have h1':¬k=1:=by clear ho;omega
    have h5':¬k=5:=by clear ho;omega
    have h6':¬k=6:=by clear ho;omega
    have c2:Pure prog 29 [iv k] (.v (.bool false)):=by rw [←hf];exact Zkd k
    have hnf:¬(k=1∨k=5∨k=6∨twoB k=true):=by clear ho;rw [hf];simp;omega
    obtain⟨b1,b2,l1,l2,l3,l4,e',W',C',n',hp,hq1,hq2⟩:=ho;obtain⟨hp,q1,q2,q3⟩:=(if_neg hnf).mp hp;dsimp only [arrA] at hp;(focus (refine wkap (w_22 e1 e2 e3 e6 e12 e14 m3 m6 m12 e13 m13 hls hlt' hlm' hlw hlc hgi ga gb h1' h5' h6') (w_2 c2 hp) (w_r 6) ?_;(repeat' first|exact w_t|apply w_l);all_goals intros))
    ·rename_i hc;have hr:=hq2 hc;subst hr
     (all_goals (try simp (disch:=omega) only [go_sem,e6,m6,Zx8,Zx6,Zx5,Zx4,Int.reduceAdd,Int.reduceSub,Int.reduceToNat,Zyh]));(all_goals first|done|rfl|(congr 2;first|done|omega|(rw [Zyn];simp only [bool_to_prop,Zyj,Zyw,Zyx,Zyy,Zyz];omega))|skip)
    ·rename_i hc;obtain⟨hiK,w1,w2,w3,x,hxa,hx⟩:=hq1 zo;exact⟨i+1,⟨zo,gW e1,gW e2,gW e3,gW e6,gW e12,gS,gW m3,gW m6,by rw [←w1,←w2,←w3,q1,q2,q3];exact gW m12,_,gC,by rw [hx,hmp,hxa];exact gC⟩,zo⟩
   ·simp only [Zyk,Zym] at hk;simp only [Zzc,Zy6] at ho hgi;have ga:=hgL a (by have:=hjl a zs;clear ho;omega);have gb:=hgL b (by have:=hjl b zs;clear ho;omega);have gc:=hgL c (by have:=hjl c zs;clear ho;omega);generalize (P i).getD a (0,0)=xa at *;obtain⟨xa1,xa2⟩:=xa;generalize (P i).getD b (0,0)=xb at *;obtain⟨xb1,xb2⟩:=xb;generalize (P i).getD c (0,0)=xc at *;obtain⟨xc1,xc2⟩:=xc;have lt_all:a < i∧b < i∧c < i:=⟨hjl a zs,hjl b zs,hjl c zs⟩;clear hgL hjl;generalize (P i).map PQ.av=L at *;have hf:twoB k=false:=Zx6 (by clear ho;omega);have h1':¬k=1:=by clear ho;omega
    have h5':¬k=5:=by clear ho;omega
    have h6':¬k=6:=by clear ho;omega
    have c2:Pure prog 29 [iv k] (.v (.bool false)):=by rw [←hf];exact Zkd k
    have hnf:¬(k=1∨k=5∨k=6∨twoB k=true):=by clear ho;rw [hf];simp;omega
    obtain⟨b1,b2,l1,l2,l3,l4,e',W',C',n',hp,hq1,hq2⟩:=ho;obtain⟨hp,q1,q2,q3⟩:=(if_neg hnf).mp hp;dsimp only [arrA] at hp;(focus (refine wkap (w_23 e1 e2 e3 e6 e12 e14 m3 m6 m12 e13 m13 hls hlt' hlm' hlw hlc hgi ga gb gc h1' h5' h6') (w_2 c2 hp) (w_r 6) ?_;(repeat' first|exact w_t|apply w_l);all_goals intros))
    ·rename_i hc;have hr:=hq2 hc;subst hr
     (all_goals (try simp (disch:=omega) only [go_sem,e6,m6,Zx8,Zx6,Zx5,Zx4,Int.reduceAdd,Int.reduceSub,Int.reduceToNat,Zyh]));(all_goals first|done|rfl|(congr 2;first|done|omega|(rw [Zyn];simp only [bool_to_prop,Zyj,Zyw,Zyx,Zyy,Zyz];omega))|skip)
    ·rename_i hc;obtain⟨hiK,w1,w2,w3,x,hxa,hx⟩:=hq1 zo;exact⟨i+1,⟨zo,gW e1,gW e2,gW e3,gW e6,gW e12,gS,gW m3,gW m6,by rw [←w1,←w2,←w3,q1,q2,q3];exact gW m12,_,gC,by rw [hx,hmp,hxa];exact gC⟩,zo⟩
   ·simp only [Zyk,Zym] at hk;simp only [Zzc,Zy6] at ho hgi;have ga:=hgL a (by have:=hjl a zs;clear ho;omega);have gb:=hgL b (by have:=hjl b zs;clear ho;omega);have gc:=hgL c (by have:=hjl c zs;clear ho;omega);have gd:=hgL d (by have:=hjl d zs;clear ho;omega);generalize (P i).getD a (0,0)=xa at *;obtain⟨xa1,xa2⟩:=xa;generalize (P i).getD b (0,0)=xb at *;obtain⟨xb1,xb2⟩:=xb;generalize (P i).getD c (0,0)=xc at *;obtain⟨xc1,xc2⟩:=xc;generalize (P i).getD d (0,0)=xd at *;obtain⟨xd1,xd2⟩:=xd;have lt_all:a < i∧b < i∧c < i∧d < i:=⟨hjl a zs,hjl b zs,hjl c zs,hjl d zs⟩
    clear hgL hjl;generalize (P i).map PQ.av=L at *;by_cases h12:k=12
    ·subst h12;have c2:Pure prog 29 [iv 12] (.v (.bool true)):=Zkd 12;obtain⟨b1,b2,l1,l2,l3,l4,e',W',C',n',hp,hq1,hq2⟩:=ho;have hp:=(if_pos (show _ from by first|exact .inl rfl|exact .inr (.inl rfl)|exact .inr (.inr (.inl rfl))|exact .inr (.inr (.inr rfl)))).mp hp;dsimp only [arrA] at hp;(focus (refine wkap (w_21 e1 e2 e3 e6 e12 e14 m3 m6 m12 e13 m13 hls hlt' hlm' hlw hlc hgi ga gb gc gd) (w_2 c2 hp) (w_r 6) ?_;(repeat' first|exact w_t|apply w_l);all_goals intros))
     ·rename_i hc;have hr:=hq2 hc;subst hr
      (all_goals (try simp (disch:=omega) only [go_sem,e6,m6,Zx8,Zx6,Zx5,Zx4,Int.reduceAdd,Int.reduceSub,Int.reduceToNat,Zyh]));(all_goals first|done|rfl|(congr 2;first|done|omega|(rw [Zyn];simp only [bool_to_prop,Zyj,Zyw,Zyx,Zyy,Zyz];omega))|skip)
     ·rename_i hc;obtain⟨hiK,w1,w2,w3,x,hxa,hx⟩:=hq1 zo;exact⟨i+1,⟨zo,gW e1,gW e2,gW e3,gW e6,gW e12,gS,gW m3,gW m6,by rw [←w1,←w2,←w3];exact gC,_,gC,by rw [hx,hmp,hxa];exact gC⟩,zo⟩
    by_cases h13:k=13
    ·subst h13;have c2:Pure prog 29 [iv 13] (.v (.bool true)):=Zkd 13;obtain⟨b1,b2,l1,l2,l3,l4,e',W',C',n',hp,hq1,hq2⟩:=ho;have hp:=(if_pos (show _ from by first|exact .inl rfl|exact .inr (.inl rfl)|exact .inr (.inr (.inl rfl))|exact .inr (.inr (.inr rfl)))).mp hp;dsimp only [arrA] at hp;(focus (refine wkap (w_21 e1 e2 e3 e6 e12 e14 m3 m6 m12 e13 m13 hls hlt' hlm' hlw hlc hgi ga gb gc gd) (w_2 c2 hp) (w_r 6) ?_;(repeat' first|exact w_t|apply w_l);all_goals intros))
     ·rename_i hc;have hr:=hq2 hc;subst hr
      (all_goals (try simp (disch:=omega) only [go_sem,e6,m6,Zx8,Zx6,Zx5,Zx4,Int.reduceAdd,Int.reduceSub,Int.reduceToNat,Zyh]));(all_goals first|done|rfl|(congr 2;first|done|omega|(rw [Zyn];simp only [bool_to_prop,Zyj,Zyw,Zyx,Zyy,Zyz];omega))|skip)
     ·rename_i hc;obtain⟨hiK,w1,w2,w3,x,hxa,hx⟩:=hq1 zo;exact⟨i+1,⟨zo,gW e1,gW e2,gW e3,gW e6,gW e12,gS,gW m3,gW m6,by rw [←w1,←w2,←w3];exact gC,_,gC,by rw [hx,hmp,hxa];exact gC⟩,zo⟩
    have hf:twoB k=false:=Zx6 (by clear ho;omega);have h1':¬k=1:=by clear ho;omega
    have h5':¬k=5:=by clear ho;omega
    have h6':¬k=6:=by clear ho;omega
    have c2:Pure prog 29 [iv k] (.v (.bool false)):=by rw [←hf];exact Zkd k
    have hnf:¬(k=1∨k=5∨k=6∨twoB k=true):=by clear ho;rw [hf];simp;omega
    obtain⟨b1,b2,l1,l2,l3,l4,e',W',C',n',hp,hq1,hq2⟩:=ho;obtain⟨hp,q1,q2,q3⟩:=(if_neg hnf).mp hp;dsimp only [arrA] at hp;(focus (refine wkap (w_24 e1 e2 e3 e6 e12 e14 m3 m6 m12 e13 m13 hls hlt' hlm' hlw hlc hgi ga gb gc gd h1' h5' h6') (w_2 c2 hp) (w_r 6) ?_;(repeat' first|exact w_t|apply w_l);all_goals intros))
    ·rename_i hc;have hr:=hq2 hc;subst hr
     (all_goals (try simp (disch:=omega) only [go_sem,e6,m6,Zx8,Zx6,Zx5,Zx4,Int.reduceAdd,Int.reduceSub,Int.reduceToNat,Zyh]));(all_goals first|done|rfl|(congr 2;first|done|omega|(rw [Zyn];simp only [bool_to_prop,Zyj,Zyw,Zyx,Zyy,Zyz];omega))|skip)
    ·rename_i hc;obtain⟨hiK,w1,w2,w3,x,hxa,hx⟩:=hq1 zo;exact⟨i+1,⟨zo,gW e1,gW e2,gW e3,gW e6,gW e12,gS,gW m3,gW m6,by rw [←w1,←w2,←w3,q1,q2,q3];exact gW m12,_,gC,by rw [hx,hmp,hxa];exact gC⟩,zo⟩
   ·exact absurd hk (by simp only [Zyk,Zym];omega)
  ·have hik:i=ss.length:=zo;have hiK:i=K:=zo;rcases hr with⟨-,hr⟩ | ⟨h,-⟩
   ·subst hr;subst hiK;have hlt':¬(i:Int) < (ss.length:Int):=zo;clear hst hg har hP lW lC p0 w0 c0 n0;generalize (P i).map PQ.av=L at *;(focus (refine wklp (w_13 e1 e2 e3 e6 e12 e14 m3 m6 m12 e13 m13 hls hlt') w_t (w_3 e6 m6 m13) (w_r 0) ?_;(repeat' first|exact w_t|apply w_l);all_goals intros))
   ·omega
 ·exact⟨Zyi _,gC,gC,gC,gC,gC,gC,gC,gC,by rw [w0,c0,n0];exact gC,_,gC,by rw [p0];(simp (disch:=omega) only [go_sem,Zy6]<;>repeat' first|rfl|refine⟨?_,?_⟩)⟩
def Zpm (k:Int) (a b c d x:PQ):Prop :=
 if k=7 then eqP b c=false∧x=Ziq a b c
 else if k=8 then eqP b c=false∧x=mirP a b c
 else if k=9 then Zb4 a b c d≠0∧x=meetP a b c d
 else if k=10 then eqP a b=false∧x=othP a b c
 else if k=11 then Zb4 a b a c≠0∧x=cenP a b c
 else True
theorem Zkn {k:Int} {a b c d x:PQ} (h7:7≤k) (h11:k≤11) (h:Zpm k a b c d x):StR k a b c d 0 x:=by
 unfold Zpm at h;unfold StR;rw [Zx4 zo,Zx4 zo,Zx4 zo,Zx4 zo];by_cases k7:k=7
 ·rw [Zx5 k7] at h;rw [Zx5 (.inl k7)];obtain⟨h0,rfl⟩:=h;have hn:(c.1 - b.1)*(c.1 - b.1)+(c.2 - b.2)*(c.2 - b.2)≠0:=Zq3 h0;refine⟨dotP b c b a/dotP b c b c,hn,?_,by rw [Zx5 k7];rfl⟩;rw [ZAk];exact Rat.div_mul_cancel hn
 rw [Zx4 k7] at h;by_cases k8:k=8
 ·rw [Zx5 k8] at h;rw [Zx5 (.inr k8)];obtain⟨h0,rfl⟩:=h;have hn:(c.1 - b.1)*(c.1 - b.1)+(c.2 - b.2)*(c.2 - b.2)≠0:=Zq3 h0;refine⟨dotP b c b a/dotP b c b c,hn,?_,?_⟩
  ·rw [ZAk];exact Rat.div_mul_cancel hn
  ·rw [Zx4 k7];unfold mirP Ziq Zf2;generalize dotP b c b a/dotP b c b c=s;exact Prod.ext (by simp only;grind) (by simp only;grind)
 rw [Zx4 k8] at h;rw [Zx4 zo];by_cases k9:k=9
 ·rw [Zx5 k9] at h;rw [Zx5 k9];obtain⟨h0,rfl⟩:=h;exact⟨Zb4 a c c d/Zb4 a b c d,h0,Rat.div_mul_cancel h0,rfl⟩
 rw [Zx4 k9] at h;rw [Zx4 k9];by_cases k10:k=10
 ·rw [Zx5 k10] at h;rw [Zx5 k10];obtain⟨h0,rfl⟩:=h;have hn:(b.1 - a.1)*(b.1 - a.1)+(b.2 - a.2)*(b.2 - a.2)≠0:=Zq3 h0;refine⟨2*dotP a c a b/dotP a b a b,hn,?_,rfl⟩;rw [show 2*dotP a c a b/dotP a b a b*((b.1 - a.1)*(b.1 - a.1)+(b.2 - a.2)*(b.2 - a.2))=2*dotP a c a b from Rat.div_mul_cancel hn];unfold dotP
  grind
 rw [Zx4 k10] at h;rw [Zx4 k10];have k11:k=11:=zo;rw [Zx5 k11] at h;rw [Zx5 k11];obtain⟨h0,rfl⟩:=h;have hn:2*((b.1 - a.1)*(c.2 - a.2) - (b.2 - a.2)*(c.1 - a.1))≠0:=nz2 zd h0;exact⟨1/(2*Zb4 a b a c),hn,Rat.div_mul_cancel hn,rfl⟩
theorem Zw3 (k:Nat) (hk:1≤k):Hv k ((0,0):PQ):=by
 have z:IB k (0*1:Rat):=⟨0,by rw [Rat.zero_mul];rfl,ZBu k⟩;exact⟨1,by decide,IB.one.mono hk,z,z⟩
theorem Zwa (t:Rat):1+t*t≠0:=λh=>absurd (sqs0 (x:=1) (y:=t) (by rw [ZAk];exact h)).1 zd
theorem st_hv {k:Int} {a b c d x:PQ} {q:Rat} {K:Nat} (h:StR k a b c d q x) (ha:Hv K a) (hb:Hv K b) (hc:Hv K c) (hd:Hv K d) (hq:Hq 64 q) (hK:70≤K):Hv (11*K) x:=by
 unfold StR at h;by_cases k2:k=2∨k=5
 ·rw [Zx5 k2] at h;subst h;exact(hv_along ha hb hq zo).mono zo
 rw [Zx4 k2] at h;by_cases k3:k=3
 ·rw [Zx5 k3] at h;subst h;exact(hv_shift ha hb hc).mono zo
 rw [Zx4 k3] at h;by_cases k4:k=4
 ·rw [Zx5 k4] at h;subst h;exact(hv_turn ha hb hc).mono zo
 rw [Zx4 k4] at h;by_cases k6:k=6
 ·rw [Zx5 k6] at h;obtain⟨s,hs,rfl⟩:=h;exact(hv_onc ha hb hq zo hs (Zwa q)).mono zo
 rw [Zx4 k6] at h;by_cases k7:k=7∨k=8
 ·rw [Zx5 k7] at h;obtain⟨s,h0,hs,rfl⟩:=h;split
  ·exact(Zsp ha hb hc (IB.one.mono zd) h0 hs).mono zo
  ·exact(Zw4 ha hb hc h0 hs).mono zo
 rw [Zx4 k7] at h;by_cases k9:k=9
 ·rw [Zx5 k9] at h;obtain⟨s,h0,hs,rfl⟩:=h;exact(hv_meet ha hb hc hd h0 hs).mono zo
 rw [Zx4 k9] at h;by_cases k10:k=10
 ·rw [Zx5 k10] at h;obtain⟨s,h0,hs,rfl⟩:=h;exact(Zsp hc ha hb IB.two h0 hs).mono zo
 rw [Zx4 k10] at h;by_cases k11:k=11
 ·rw [Zx5 k11] at h;obtain⟨s,h0,hs,rfl⟩:=h;exact(Zw6 ha hb hc h0 hs).mono zo
 rw [Zx4 k11] at h;by_cases k12:k=12
 ·rw [Zx5 k12] at h;obtain⟨m,u,t,h0,hm,hu,ht,rfl⟩:=h;exact(hv_cut ha hb hc hd h0 hm hu ht).mono zo
 rw [Zx4 k12] at h;by_cases k13:k=13
 ·rw [Zx5 k13] at h;obtain⟨m,t,s,h0,hm,ht,hs,rfl⟩:=h;exact(hv_inter ha hb hc hd h0 hm ht hs).mono zo
 rw [Zx4 k13] at h;exact h.elim
def useN (k:Int) (n:Nat):Nat:=if k=1 then min n 2 else if k=5∨k=6 then 1 else 0
def brN (k:Int):Nat:=if twoB k=true then 1 else 0
abbrev bvA (b:Bool):AV:=.v (.bool b)
def PtR (s:RS) (A:List PQ) (W:List Rat) (n:Nat) (x:PQ):Prop :=
 if s.k=1 then x=(if n=0 then (0,0) else if n=1 then (W.getD 0 0,0) else (W.getD 0 0,W.getD 1 0))
 else StR s.k (A.getD 0 (0,0)) (A.getD 1 (0,0)) (A.getD 2 (0,0)) (A.getD 3 (0,0)) (if s.k=2 then s.r.q else W.getD 0 0) x∧Zpm s.k (A.getD 0 (0,0)) (A.getD 1 (0,0)) (A.getD 2 (0,0)) (A.getD 3 (0,0)) x
def Outc (s:RS) (A:List PQ) (W:List Rat) (C:List Bool) (n:Nat):Prop :=
 (∃x:PQ,Zk8 s A (W.map ratQ) (C.map bvA) n x.av 0 ((W.drop (useN s.k n)).map ratQ) ((C.drop (brN s.k)).map bvA) ((if s.k=1 then n+1 else n:Nat):Int)∧PtR s A W n x) ∨
 ∃(e:Int) (W' C':List AV) (n':Int),(0 < e∧e < 100)∧Zk8 s A (W.map ratQ) (C.map bvA) n pt0 e W' C' n'
theorem sz_of_hv {K:Nat} {p:PQ} (h:Hv K p) (hK:K≤1400000000):p.sz 100000000:=by
 have:=hv_sz h;exact⟨this.1.mono zo,this.2.mono zo⟩
theorem hq_sz {q:Rat} (h:Sz q 2):Sz q 100000000:=h.mono zo
theorem st_q {k:Int} {a b c d x:PQ} {q:Rat} (h7:7≤k) (h13:k≤13) (h:StR k a b c d 0 x):StR k a b c d q x:=by
 unfold StR at h ⊢;rw [Zx4 zo,Zx4 zo,Zx4 zo,Zx4 zo] at h ⊢;exact h
theorem out7 (a b c:PQ) (ha:a.sz 100000000) (hb:b.sz 100000000) (hc:c.sz 100000000) (nm:ByteArray) (ar:List Int) (r:RQ) (W:List Rat) (C:List Bool) (n:Nat) (lW:W.length≤1000) (lC:C.length≤1000):Outc ⟨7,nm,ar,r⟩ [a,b,c] W C n:=by
 have c0:=Zvp a b c ha hb hc zo
 cases h:eqP b c with
 | true =>
   rw [h,Zx5 rfl] at c0;exact .inr ⟨11,_,_,_,⟨by decide,by decide⟩,(Zx4 (show ¬((7:Int)=1∨(7:Int)=5∨(7:Int)=6∨twoB 7=true) from by decide)).mpr ⟨r22F7n a.1 a.2 b.1 b.2 c.1 c.2 nm ar r.s r.l r.d 11 c0,rfl,rfl,rfl⟩⟩
 | false =>
   rw [h,Zx4 zd] at c0;have hm:Zpm 7 a b c (0,0) (Ziq a b c):=⟨h,rfl⟩;have hs:=Zkn zd zd hm;exact .inl ⟨Ziq a b c,(Zx4 (show ¬((7:Int)=1∨(7:Int)=5∨(7:Int)=6∨twoB 7=true) from by decide)).mpr ⟨r22F7 a.1 a.2 b.1 b.2 c.1 c.2 nm ar r.s r.l r.d _ _ c0,rfl,rfl,rfl⟩,(Zx4 (show ¬((7:Int)=1) from by decide)).mpr ⟨st_q (k:=7) zd zd hs,hm⟩⟩
theorem out8 (a b c:PQ) (ha:a.sz 100000000) (hb:b.sz 100000000) (hc:c.sz 100000000) (nm:ByteArray) (ar:List Int) (r:RQ) (W:List Rat) (C:List Bool) (n:Nat) (lW:W.length≤1000) (lC:C.length≤1000):Outc ⟨8,nm,ar,r⟩ [a,b,c] W C n:=by
 have c0:=r13Mir a b c ha hb hc zo
 cases h:eqP b c with
 | true =>
   rw [h,Zx5 rfl] at c0;exact .inr ⟨11,_,_,_,⟨by decide,by decide⟩,(Zx4 (show ¬((8:Int)=1∨(8:Int)=5∨(8:Int)=6∨twoB 8=true) from by decide)).mpr ⟨r22F8n a.1 a.2 b.1 b.2 c.1 c.2 nm ar r.s r.l r.d 11 c0,rfl,rfl,rfl⟩⟩
 | false =>
   rw [h,Zx4 zd] at c0;have hm:Zpm 8 a b c (0,0) (mirP a b c):=⟨h,rfl⟩;have hs:=Zkn zd zd hm;exact .inl ⟨mirP a b c,(Zx4 (show ¬((8:Int)=1∨(8:Int)=5∨(8:Int)=6∨twoB 8=true) from by decide)).mpr ⟨r22F8 a.1 a.2 b.1 b.2 c.1 c.2 nm ar r.s r.l r.d _ _ c0,rfl,rfl,rfl⟩,(Zx4 (show ¬((8:Int)=1) from by decide)).mpr ⟨st_q (k:=8) zd zd hs,hm⟩⟩
theorem out9 (a b c d:PQ) (ha:a.sz 100000000) (hb:b.sz 100000000) (hc:c.sz 100000000) (hd:d.sz 100000000) (nm:ByteArray) (ar:List Int) (r:RQ) (W:List Rat) (C:List Bool) (n:Nat) (lW:W.length≤1000) (lC:C.length≤1000):Outc ⟨9,nm,ar,r⟩ [a,b,c,d] W C n:=by
 have c0:=r13Meet a b c d ha hb hc hd zo;by_cases h:Zb4 a b c d=0
 ·rw [Zx5 h] at c0;exact .inr ⟨11,_,_,_,⟨by decide,by decide⟩,(Zx4 (show ¬((9:Int)=1∨(9:Int)=5∨(9:Int)=6∨twoB 9=true) from by decide)).mpr ⟨r22F9n a.1 a.2 b.1 b.2 c.1 c.2 d.1 d.2 nm ar r.s r.l r.d 11 c0,rfl,rfl,rfl⟩⟩
 ·rw [Zx4 h] at c0;have hm:Zpm 9 a b c d (meetP a b c d):=⟨h,rfl⟩;have hs:=Zkn zd zd hm;exact .inl ⟨meetP a b c d,(Zx4 (show ¬((9:Int)=1∨(9:Int)=5∨(9:Int)=6∨twoB 9=true) from by decide)).mpr ⟨r22F9 a.1 a.2 b.1 b.2 c.1 c.2 d.1 d.2 nm ar r.s r.l r.d _ _ c0,rfl,rfl,rfl⟩,(Zx4 (show ¬((9:Int)=1) from by decide)).mpr ⟨st_q (k:=9) zd zd hs,hm⟩⟩
theorem out10 (a b c:PQ) (ha:a.sz 100000000) (hb:b.sz 100000000) (hc:c.sz 100000000) (nm:ByteArray) (ar:List Int) (r:RQ) (W:List Rat) (C:List Bool) (n:Nat) (lW:W.length≤1000) (lC:C.length≤1000):Outc ⟨10,nm,ar,r⟩ [a,b,c] W C n:=by
 have c0:=r13Oth a b c ha hb hc zo
 cases h:eqP a b with
 | true =>
   rw [h,Zx5 rfl] at c0;exact .inr ⟨11,_,_,_,⟨by decide,by decide⟩,(Zx4 (show ¬((10:Int)=1∨(10:Int)=5∨(10:Int)=6∨twoB 10=true) from by decide)).mpr ⟨r22F10n a.1 a.2 b.1 b.2 c.1 c.2 nm ar r.s r.l r.d 11 c0,rfl,rfl,rfl⟩⟩
 | false =>
   rw [h,Zx4 zd] at c0;have hm:Zpm 10 a b c (0,0) (othP a b c):=⟨h,rfl⟩;have hs:=Zkn zd zd hm;exact .inl ⟨othP a b c,(Zx4 (show ¬((10:Int)=1∨(10:Int)=5∨(10:Int)=6∨twoB 10=true) from by decide)).mpr ⟨r22F10 a.1 a.2 b.1 b.2 c.1 c.2 nm ar r.s r.l r.d _ _ c0,rfl,rfl,rfl⟩,(Zx4 (show ¬((10:Int)=1) from by decide)).mpr ⟨st_q (k:=10) zd zd hs,hm⟩⟩
theorem out11 (a b c:PQ) (ha:a.sz 100000000) (hb:b.sz 100000000) (hc:c.sz 100000000) (nm:ByteArray) (ar:List Int) (r:RQ) (W:List Rat) (C:List Bool) (n:Nat) (lW:W.length≤1000) (lC:C.length≤1000):Outc ⟨11,nm,ar,r⟩ [a,b,c] W C n:=by
 have c0:=r13Cen a b c ha hb hc zo;by_cases h:Zb4 a b a c=0
 ·rw [Zx5 h] at c0;exact .inr ⟨11,_,_,_,⟨by decide,by decide⟩,(Zx4 (show ¬((11:Int)=1∨(11:Int)=5∨(11:Int)=6∨twoB 11=true) from by decide)).mpr ⟨r22F11n a.1 a.2 b.1 b.2 c.1 c.2 nm ar r.s r.l r.d 11 c0,rfl,rfl,rfl⟩⟩
 ·rw [Zx4 h] at c0;have hm:Zpm 11 a b c (0,0) (cenP a b c):=⟨h,rfl⟩;have hs:=Zkn zd zd hm;exact .inl ⟨cenP a b c,(Zx4 (show ¬((11:Int)=1∨(11:Int)=5∨(11:Int)=6∨twoB 11=true) from by decide)).mpr ⟨r22F11 a.1 a.2 b.1 b.2 c.1 c.2 nm ar r.s r.l r.d _ _ c0,rfl,rfl,rfl⟩,(Zx4 (show ¬((11:Int)=1) from by decide)).mpr ⟨st_q (k:=11) zd zd hs,hm⟩⟩
theorem out2 (a b:PQ) (ha:a.sz 100000000) (hb:b.sz 100000000) (nm:ByteArray) (ar:List Int) (r:RQ) (W:List Rat) (C:List Bool) (n:Nat) (lW:W.length≤1000) (lC:C.length≤1000) (hr:r.ok=true) (hl:r.lm 2):Outc ⟨2,nm,ar,r⟩ [a,b] W C n:=by
 obtain⟨e,z⟩:=RQ.ok_av hl hr;have c0:=Zn3 a b r.q ha hb (hq_sz z) zo;have c1:=r22F2 a.1 a.2 b.1 b.2 nm ar r.q _ _ c0
 have e':RS.av ⟨2,nm,ar,r⟩=.agg [iv 2,strA nm,ivs ar,.v (.bool (decide (r.q.num < 0))),lim (toL r.q.num.natAbs),lim (toL r.q.den)]:=by
  have:=e;injection this with this
  simp only [List.cons.injEq,and_true] at this;simp only [RS.av,this.1,this.2.1,this.2.2]
 rw [←e'] at c1;exact .inl ⟨Zf2 a b r.q,(Zx4 (show ¬((2:Int)=1∨(2:Int)=5∨(2:Int)=6∨twoB 2=true) from by decide)).mpr ⟨c1,rfl,rfl,rfl⟩,(Zx4 (show ¬((2:Int)=1) from by decide)).mpr ⟨rfl,trivial⟩⟩
theorem out3 (a b c:PQ) (ha:a.sz 100000000) (hb:b.sz 100000000) (hc:c.sz 100000000) (nm:ByteArray) (ar:List Int) (r:RQ) (W:List Rat) (C:List Bool) (n:Nat) (lW:W.length≤1000) (lC:C.length≤1000):Outc ⟨3,nm,ar,r⟩ [a,b,c] W C n:=by
 have c0:=r13Shift a b c ha hb hc zo;exact .inl ⟨Zjc a b c,(Zx4 (show ¬((3:Int)=1∨(3:Int)=5∨(3:Int)=6∨twoB 3=true) from by decide)).mpr ⟨r22F3 a.1 a.2 b.1 b.2 c.1 c.2 nm ar r.s r.l r.d _ _ c0,rfl,rfl,rfl⟩,(Zx4 (show ¬((3:Int)=1) from by decide)).mpr ⟨show Zjc a b c=(a.1+(c.1 - b.1),a.2+(c.2 - b.2)) by unfold Zjc;rw [ZAk,ZAk],trivial⟩⟩
theorem out4 (a b c:PQ) (ha:a.sz 100000000) (hb:b.sz 100000000) (hc:c.sz 100000000) (nm:ByteArray) (ar:List Int) (r:RQ) (W:List Rat) (C:List Bool) (n:Nat) (lW:W.length≤1000) (lC:C.length≤1000):Outc ⟨4,nm,ar,r⟩ [a,b,c] W C n:=by
 have c0:=r13Turn a b c ha hb hc zo;exact .inl ⟨Znm a b c,(Zx4 (show ¬((4:Int)=1∨(4:Int)=5∨(4:Int)=6∨twoB 4=true) from by decide)).mpr ⟨r22F4 a.1 a.2 b.1 b.2 c.1 c.2 nm ar r.s r.l r.d _ _ c0,rfl,rfl,rfl⟩,(Zx4 (show ¬((4:Int)=1) from by decide)).mpr ⟨show Znm a b c=(a.1 - (c.2 - b.2),a.2+(c.1 - b.1)) by unfold Znm;exact Prod.ext (by simp only;grind) (by simp only;grind),trivial⟩⟩
theorem out12 (a b c d:PQ) (ha:a.sz 100000000) (hb:b.sz 100000000) (hc:c.sz 100000000) (hd:d.sz 100000000) (nm:ByteArray) (ar:List Int) (r:RQ) (W:List Rat) (C:List Bool) (n:Nat) (lW:W.length≤1000) (lC:C.length≤1000) (eC:1≤C.length):Outc ⟨12,nm,ar,r⟩ [a,b,c,d] W C n:=by
 obtain _ | ⟨l,C⟩:=C
 ·simp at eC
 have lC':C.length≤1000:=by rw [Zyk] at lC;omega
 rcases r13Cut a b c d l ha hb hc hd zo with⟨x,c0,hs⟩ | ⟨e,he,c0⟩
 ·exact .inl ⟨x,(Zx5 (show _ from by first|exact .inl rfl|exact .inr (.inl rfl)|exact .inr (.inr (.inl rfl))|exact .inr (.inr (.inr rfl)))).mpr (r22C12 a.1 a.2 b.1 b.2 c.1 c.2 d.1 d.2 x.1 x.2 l (W.map ratQ) (C.map bvA) n (by rw [Zx9];exact lW) (by rw [Zx9];exact lC') c0),(Zx4 (show ¬((12:Int)=1) from by decide)).mpr ⟨st_q (k:=12) zd zd hs,trivial⟩⟩
 ·exact .inr ⟨e,_,_,_,he,(Zx5 (show _ from by first|exact .inl rfl|exact .inr (.inl rfl)|exact .inr (.inr (.inl rfl))|exact .inr (.inr (.inr rfl)))).mpr (r22C12n a.1 a.2 b.1 b.2 c.1 c.2 d.1 d.2 e l (W.map ratQ) (C.map bvA) n (by rw [Zx9];exact lW) (by rw [Zx9];exact lC') c0)⟩
theorem out13 (a b c d:PQ) (ha:a.sz 100000000) (hb:b.sz 100000000) (hc:c.sz 100000000) (hd:d.sz 100000000) (nm:ByteArray) (ar:List Int) (r:RQ) (W:List Rat) (C:List Bool) (n:Nat) (lW:W.length≤1000) (lC:C.length≤1000) (eC:1≤C.length):Outc ⟨13,nm,ar,r⟩ [a,b,c,d] W C n:=by
 obtain _ | ⟨l,C⟩:=C
 ·simp at eC
 have lC':C.length≤1000:=by rw [Zyk] at lC;omega
 rcases r13Int a b c d l ha hb hc hd zo with⟨x,c0,hs⟩ | ⟨e,he,c0⟩
 ·exact .inl ⟨x,(Zx5 (show _ from by first|exact .inl rfl|exact .inr (.inl rfl)|exact .inr (.inr (.inl rfl))|exact .inr (.inr (.inr rfl)))).mpr (r22C13 a.1 a.2 b.1 b.2 c.1 c.2 d.1 d.2 x.1 x.2 l (W.map ratQ) (C.map bvA) n (by rw [Zx9];exact lW) (by rw [Zx9];exact lC') c0),(Zx4 (show ¬((13:Int)=1) from by decide)).mpr ⟨st_q (k:=13) zd zd hs,trivial⟩⟩
 ·exact .inr ⟨e,_,_,_,he,(Zx5 (show _ from by first|exact .inl rfl|exact .inr (.inl rfl)|exact .inr (.inr (.inl rfl))|exact .inr (.inr (.inr rfl)))).mpr (r22C13n a.1 a.2 b.1 b.2 c.1 c.2 d.1 d.2 e l (W.map ratQ) (C.map bvA) n (by rw [Zx9];exact lW) (by rw [Zx9];exact lC') c0)⟩
theorem out14 (a b:PQ) (ha:a.sz 100000000) (hb:b.sz 100000000) (nm:ByteArray) (ar:List Int) (r:RQ) (W:List Rat) (C:List Bool) (n:Nat) (lW:W.length≤1000) (lC:C.length≤1000) (eC:1≤C.length):Outc ⟨14,nm,ar,r⟩ [a,b] W C n:=by
 obtain _ | ⟨l,C⟩:=C
 ·simp at eC
 have lC':C.length≤1000:=by rw [Zyk] at lC;omega
 obtain⟨e,he,c0⟩:=r13Apex a b l ha hb zo;exact .inr ⟨e,_,_,_,he,(Zx5 (show _ from by first|exact .inl rfl|exact .inr (.inl rfl)|exact .inr (.inr (.inl rfl))|exact .inr (.inr (.inr rfl)))).mpr (r22C14n a.1 a.2 b.1 b.2 e l (W.map ratQ) (C.map bvA) n (by rw [Zx9];exact lW) (by rw [Zx9];exact lC') c0)⟩
theorem out5 (a b:PQ) (ha:a.sz 100000000) (hb:b.sz 100000000) (nm:ByteArray) (ar:List Int) (r:RQ) (W:List Rat) (C:List Bool) (n:Nat) (lW:W.length≤1000) (lC:C.length≤1000) (eW:1≤W.length) (hW:∀q∈W,Sz q 2):Outc ⟨5,nm,ar,r⟩ [a,b] W C n:=by
 obtain _ | ⟨v,W⟩:=W
 ·simp at eW
 have lW':W.length≤1000:=by rw [Zyk] at lW;omega
 have c0:=Zke v (W.map ratQ) (C.map bvA) n (by rw [Zx9];exact lW') (by rw [Zx9];exact lC);have c1:=Zn3 a b v ha hb (hq_sz (hW v (ZAl ..))) zo;exact .inl ⟨Zf2 a b v,(Zx5 (show _ from by first|exact .inl rfl|exact .inr (.inl rfl)|exact .inr (.inr (.inl rfl))|exact .inr (.inr (.inr rfl)))).mpr (r22C5 a.1 a.2 b.1 b.2 v _ _ ((v :: W).map ratQ) (W.map ratQ) (C.map bvA) n n (by rw [Zx9];exact lW) (by rw [Zx9];exact lW') (by rw [Zx9];exact lC) c0 c1),(Zx4 (show ¬((5:Int)=1) from by decide)).mpr ⟨rfl,trivial⟩⟩
theorem out6 (a b:PQ) (ha:a.sz 100000000) (hb:b.sz 100000000) (nm:ByteArray) (ar:List Int) (r:RQ) (W:List Rat) (C:List Bool) (n:Nat) (lW:W.length≤1000) (lC:C.length≤1000) (eW:1≤W.length) (hW:∀q∈W,Sz q 2):Outc ⟨6,nm,ar,r⟩ [a,b] W C n:=by
 obtain _ | ⟨v,W⟩:=W
 ·simp at eW
 have lW':W.length≤1000:=by rw [Zyk] at lW;omega
 have c0:=Zke v (W.map ratQ) (C.map bvA) n (by rw [Zx9];exact lW') (by rw [Zx9];exact lC);have c1:=r13Onc a b v ha hb (hq_sz (hW v (ZAl ..))) zo;exact .inl ⟨oncP a b v,(Zx5 (show _ from by first|exact .inl rfl|exact .inr (.inl rfl)|exact .inr (.inr (.inl rfl))|exact .inr (.inr (.inr rfl)))).mpr (r22C6 a.1 a.2 b.1 b.2 v _ _ ((v :: W).map ratQ) (W.map ratQ) (C.map bvA) n n (by rw [Zx9];exact lW) (by rw [Zx9];exact lW') (by rw [Zx9];exact lC) c0 c1),(Zx4 (show ¬((6:Int)=1) from by decide)).mpr ⟨⟨oncS a b v,show oncS a b v*(1+v*v)=2*((a.1 - b.1)+v*(a.2 - b.2)) from by unfold oncS;rw [show(1:Rat)+v*v=1*1+v*v by rw [ZAk],Rat.div_mul_cancel (one_sq v)];grind,show oncP a b v=(b.1+oncS a b v,b.2+oncS a b v*v) from by unfold oncP;rw [ZBr]⟩,trivial⟩⟩
theorem out1 (nm:ByteArray) (ar:List Int) (r:RQ) (W:List Rat) (C:List Bool) (n:Nat) (lW:W.length≤1000) (lC:C.length≤1000) (hn:n≤999) (eW:min n 2≤W.length):Outc ⟨1,nm,ar,r⟩ [] W C n:=by
 have z0:Pure prog 42 [iv 0] (ratQ 0):=qOf 0 zo;by_cases h0:n=0
 ·subst h0;have c0:=r22Free0 (W.map ratQ) (C.map bvA) 0 (by rw [Zx9];exact lW) (by rw [Zx9];exact lC) z0;exact .inl ⟨(0,0),(Zx5 (show _ from by first|exact .inl rfl|exact .inr (.inl rfl)|exact .inr (.inr (.inl rfl))|exact .inr (.inr (.inr rfl)))).mpr (r22C1 0 0 (W.map ratQ) (W.map ratQ) (C.map bvA) 0 1 (by rw [Zx9];exact lW) (by rw [Zx9];exact lW) (by rw [Zx9];exact lC) c0),(Zx5 rfl).mpr rfl⟩
 by_cases h1:n=1
 ·subst h1;obtain _ | ⟨v,W⟩:=W
  ·simp at eW
  have lW':W.length≤1000:=by rw [Zyk] at lW;omega
  have c1:=Zke v (W.map ratQ) (C.map bvA) 2 (by rw [Zx9];exact lW') (by rw [Zx9];exact lC);have c0:=r22Free1 ((v :: W).map ratQ) (W.map ratQ) (C.map bvA) v 0 (by rw [Zx9];exact lW) (by rw [Zx9];exact lW') (by rw [Zx9];exact lC) z0 c1;exact .inl ⟨(v,0),(Zx5 (show _ from by first|exact .inl rfl|exact .inr (.inl rfl)|exact .inr (.inr (.inl rfl))|exact .inr (.inr (.inr rfl)))).mpr (r22C1 v 0 ((v :: W).map ratQ) (W.map ratQ) (C.map bvA) 1 2 (by rw [Zx9];exact lW) (by rw [Zx9];exact lW') (by rw [Zx9];exact lC) c0),(Zx5 rfl).mpr rfl⟩
 obtain _ | ⟨v,_ | ⟨w,W⟩⟩:=W
 ·simp at eW;omega
 ·simp at eW;omega
 have lW':W.length≤998:=by rw [Zyk,Zyk] at lW;omega
 have e2:useN 1 n=2:=by unfold useN;rw [Zx5 rfl];omega
 have c1:=Zke v ((w :: W).map ratQ) (C.map bvA) ((n+1:Nat):Int) (by rw [Zx9,Zyk];omega) (by rw [Zx9];exact lC);have c2:=Zke w (W.map ratQ) (C.map bvA) ((n+1:Nat):Int) (by rw [Zx9];omega) (by rw [Zx9];exact lC);have c0:=r22Free2 ((v :: w :: W).map ratQ) ((w :: W).map ratQ) (W.map ratQ) (C.map bvA) v w n zo zo (by rw [Zx9];exact lW) (by rw [Zx9,Zyk];omega) (by rw [Zx9];omega) (by rw [Zx9];exact lC) c1 c2;refine .inl ⟨(v,w),?_,(Zx5 rfl).mpr ?_⟩
 ·rw [show useN (RS.k ⟨1,nm,ar,r⟩) n=2 from e2];exact(Zx5 (show _ from by first|exact .inl rfl|exact .inr (.inl rfl)|exact .inr (.inr (.inl rfl))|exact .inr (.inr (.inr rfl)))).mpr (r22C1 v w ((v :: w :: W).map ratQ) (W.map ratQ) (C.map bvA) n ((n+1:Nat):Int) (by rw [Zx9];exact lW) (by rw [Zx9];omega) (by rw [Zx9];exact lC) c0)
 ·rw [Zx4 h0,Zx4 h1];rfl
theorem outAll (s:RS) (A:List PQ) (W:List Rat) (C:List Bool) (n:Nat) (hl:(A.length:Int)=arS s.k) (hA:∀p∈A,p.sz 100000000) (hW:∀q∈W,Sz q 2) (lW:W.length≤1000) (lC:C.length≤1000) (hn:n≤999) (eW:useN s.k n≤W.length) (eC:brN s.k≤C.length) (hr:s.k=2→s.r.ok=true) (hm:s.r.lm 2):Outc s A W C n:=by
 obtain⟨k,nm,ar,r⟩:=s;simp only at *;have hk:=Zxz hl;obtain _ | ⟨a,_ | ⟨b,_ | ⟨c,_ | ⟨d,_ | ⟨x,A⟩⟩⟩⟩⟩:=A<;>simp only [Zyk,Zym] at hk
 ·obtain rfl:k=1:=zo;exact out1 nm ar r W C n lW lC hn eW
 ·omega
 ·have ha:=hA a zs;have hb:=hA b zs;have:k=2∨k=5∨k=6∨k=14:=zo;rcases this with rfl | rfl | rfl | rfl
  ·exact out2 a b ha hb nm ar r W C n lW lC (hr rfl) hm
  ·exact out5 a b ha hb nm ar r W C n lW lC eW hW
  ·exact out6 a b ha hb nm ar r W C n lW lC eW hW
  ·exact out14 a b ha hb nm ar r W C n lW lC eC
 ·have ha:=hA a zs;have hb:=hA b zs;have hc:=hA c zs;have:k=3∨k=4∨k=7∨k=8∨k=10∨k=11:=zo;rcases this with rfl | rfl | rfl | rfl | rfl | rfl
  ·exact out3 a b c ha hb hc nm ar r W C n lW lC
  ·exact out4 a b c ha hb hc nm ar r W C n lW lC
  ·exact out7 a b c ha hb hc nm ar r W C n lW lC
  ·exact out8 a b c ha hb hc nm ar r W C n lW lC
  ·exact out10 a b c ha hb hc nm ar r W C n lW lC
  ·exact out11 a b c ha hb hc nm ar r W C n lW lC
 ·have ha:=hA a zs;have hb:=hA b zs;have hc:=hA c zs;have hd:=hA d zs;have:k=9∨k=12∨k=13:=zo;rcases this with rfl | rfl | rfl
  ·exact out9 a b c d ha hb hc hd nm ar r W C n lW lC
  ·exact out12 a b c d ha hb hc hd nm ar r W C n lW lC eC
  ·exact out13 a b c d ha hb hc hd nm ar r W C n lW lC eC
 ·omega
theorem Zl5 {α:Type} {l:List α} {i:Nat} (h:i < l.length):l.take (i+1)=l.take i++[l[i]]:=by rw [List.take_add_one,Zyf h];rfl
def twoN (ss:List RS) (i:Nat):Nat:=((ss.take i).filter λs=>twoB s.k).length
theorem Zps (ss:List RS) (i:Nat):twoN ss i≤i:=Zye (List.length_filter_le _ _) (by rw [Zyp];omega)
theorem twoN_y {ss:List RS} {i:Nat} (hi:i < ss.length) (h:twoB ss[i].k=true):twoN ss (i+1)=twoN ss i+1:=by
 unfold twoN;rw [Zl5 hi,ZCy,Zy0];simp only [ZCz,h,Zx5,List.filter_nil,Zyk,Zym]
theorem twoN_n {ss:List RS} {i:Nat} (hi:i < ss.length) (h:twoB ss[i].k=false):twoN ss (i+1)=twoN ss i:=by
 unfold twoN;rw [Zl5 hi,ZCy,Zy0];simp only [ZCz,h,Zyj,Zyu,List.filter_nil,Zym,Zzf]
theorem r22Cho (ss:List RS) (gs:List RG) (cs:List (Po × Po)) (vs:List Vt) (hl:ss.length≤1000) (hv:vs.length≤70) (co:Pure prog 9 [figA ss gs] (.tup [frmA cs vs,iv 0])):Pure prog 28 [figA ss gs] (.tup [iv (Zen vs vs.length).length,iv (twoN ss ss.length),iv 0]):=by
 have hg:∀i (h:i < ss.length),(ss.map RS.av).getD i .u=ss[i].av:=λi h=>Zaj RS.av h;have hls:(ss.map RS.av).length=ss.length:=Zx9 ..;have c2:Pure prog 39 [.agg [.sl 2 (cs.map coA),.sl 3 (vs.map Vt.av)]] (ivs (Zen vs vs.length)):=Zru cs vs hv;have hpl:=Zob vs vs.length;have hil:((Zen vs vs.length).map iv).length=(Zen vs vs.length).length:=Zx9 ..;show Pure _ _ [.agg [.sl 6 (ss.map RS.av),.sl 5 (gs.map RG.av)]] _;have c1:Pure prog 9 [.agg [.sl 6 (ss.map RS.av),.sl 5 (gs.map RG.av)]] (.tup [.agg [.sl 2 (cs.map coA),.sl 3 (vs.map Vt.av)],iv 0]):=co
 clear co;have hty:=λi (h:i < ss.length)=>twoN_y (ss:=ss) h;have htn:=λi (h:i < ss.length)=>twoN_n (ss:=ss) h;have htl:=Zps ss;generalize ss.map RS.av=M at *;generalize gs.map RG.av=N at *;generalize cs.map coA=C at *;generalize vs.map Vt.av=V at *;generalize Zen vs vs.length=p at *;refine pI func28 rfl ntmps28 results28 call28 ?_;(focus (refine wkap (w_1 hls) (w_1 c1) (w_r 0) ?_;(repeat' first|exact w_t|apply w_l);all_goals intros));rename_i g1 g5;refine Zad (ι:=Nat) (λi e m=>i≤ss.length∧e 1=.pbox 1 g1 0∧e 5=.pbox 5 g5 0∧e 8=iv i∧e 7=iv (twoN ss i)∧m 1=some (.box g1 25 [.sl 6 M,.sl 5 N] false)∧m 5=some (.box g5 40 [.sl 2 C,.sl 3 V] false)) (λi=>ss.length - i) 0 zr ?_ ?_
 ·rintro i e m ⟨hi,e1,e5,e8,e7,m1,m5⟩
  by_cases hlt:i < ss.length
  ·have hgi:=hg i hlt;have hlt':(i:Int) < (ss.length:Int):=zo;have hy:=hty i hlt;have hn:=htn i hlt;have h3:=htl i;have ct:=Zkd ss[i].k;clear hg hty htn htl;generalize ss[i]=s at *;obtain⟨k,nm,ar,⟨rs,rl,rd⟩⟩:=s;simp only at *;generalize twoB k=b at *;generalize hT:twoN ss i=T at *
   cases b with
   | true =>
     have hy:=hy rfl;(focus (refine wkap (w_9 e1 e5 e8 e7 m1 m5 hls hgi hlt') (w_1 ct) (w_r 0) ?_;(repeat' first|exact w_t|apply w_l);all_goals intros));exact⟨i+1,⟨zo,gW e1,gW e5,gS,by rw [hy];exact gS,gW m1,gW m5⟩,zo⟩
   | false =>
     have hn:=hn rfl;(focus (refine wkap (w_9 e1 e5 e8 e7 m1 m5 hls hgi hlt') (w_1 ct) (w_r 0) ?_;(repeat' first|exact w_t|apply w_l);all_goals intros));exact⟨i+1,⟨zo,gW e1,gW e5,gS,by rw [hn];exact gW e7,gW m1,gW m5⟩,zo⟩
  ·have hin:i=ss.length:=zo;subst hin;have hlt':¬(ss.length:Int) < (ss.length:Int):=zo;have h3:=htl ss.length;clear hg hty htn htl;generalize twoN ss ss.length=T at *;(focus (refine wkap (w_9 e1 e5 e8 e7 m1 m5 hls hlt' hil) (w_1 c2) (w_r 0) ?_;(repeat' first|exact w_t|apply w_l);all_goals intros));all_goals exact gM (w_1 hil)
 ·exact⟨Zyi _,gC,gC,gC,gC,gC,gC⟩
theorem hq_pt {v w:Rat} (hv:Hq 64 v) (hw:Hq 64 w):Hv 128 ((v,w):PQ):=by
 obtain⟨d,h0,h1,h2⟩:=hv;obtain⟨c,g0,g1,g2⟩:=hw;refine Hv.of (k:=128) (d:=d*c) (X:=v*d*c) (Y:=w*c*d) (nz2 h0 g0) ((h1.mul g1).mono zo) ?_ ?_ ((h2.mul g1).mono zo) ((g2.mul h1).mono zo) (Zx7 _)
 ·simp only;grind
 ·simp only;grind
theorem Zw7:Hq 64 (0:Rat):=⟨1,by decide,IB.one.mono zo,⟨0,by rw [Rat.zero_mul];rfl,ZBu 64⟩⟩
theorem Zsq {W:List Rat} (hW:∀q∈W,Sz q 2) (i:Nat):Hq 64 (W.getD i 0):=by
 rw [Zyg];rcases Zyr i W.length with h | h
 ·rw [Zyf h];exact sz_hq (hW _ (Zyl h))
 ·rw [Zzl h];exact Zw7
theorem Zo3 {A:List PQ} {K:Nat} (hA:∀p∈A,Hv K p) (hK:70≤K) (i:Nat):Hv K (A.getD i (0,0)):=by
 rw [Zyg];rcases Zyr i A.length with h | h
 ·rw [Zyf h];exact hA _ (Zyl h)
 ·rw [Zzl h];exact Zw3 K zo
theorem ptr_hv {s:RS} {A:List PQ} {W:List Rat} {n K:Nat} {x:PQ} (h:PtR s A W n x) (hA:∀p∈A,Hv K p) (hK:70≤K) (hW:∀q∈W,Sz q 2) (hm:s.r.lm 2) (hr:s.k=2→s.r.ok=true):Hv (11*K) x:=by
 unfold PtR at h;by_cases h1:s.k=1
 ·rw [Zx5 h1] at h;subst h;split
  ·exact Zw3 _ zo
  ·split
   ·exact(hq_pt (Zsq hW 0) Zw7).mono zo
   ·exact(hq_pt (Zsq hW 0) (Zsq hW 1)).mono zo
 ·rw [Zx4 h1] at h;refine st_hv h.1 (Zo3 hA hK 0) (Zo3 hA hK 1) (Zo3 hA hK 2) (Zo3 hA hK 3) ?_ hK;split
  ·rename_i h2;exact sz_hq (RQ.ok_av hm (hr h2)).2
  ·exact Zsq hW 0
def RunAt (ss:List RS) (Vs:List Rat) (Bs:List Bool) (u nf:Nat→Nat) (L:List PQ) (i:Nat) (h:i < ss.length) (x:PQ):Prop :=
 Zk8 ss[i] (argP L ss[i]) ((Vs.drop (u i)).map ratQ) ((Bs.drop (twoN ss i)).map bvA) (nf i) x.av 0 ((Vs.drop (u (i+1))).map ratQ) ((Bs.drop (twoN ss (i+1))).map bvA) (nf (i+1))∧PtR ss[i] (argP L ss[i]) (Vs.drop (u i)) (nf i) x
def RunEr (ss:List RS) (Vs:List Rat) (Bs:List Bool) (u nf:Nat→Nat) (L:List PQ) (i:Nat):Prop :=
 ∃(h:i < ss.length) (e:Int) (W' C':List AV) (n':Int),(0 < e∧e < 100)∧Zk8 ss[i] (argP L ss[i]) ((Vs.drop (u i)).map ratQ) ((Bs.drop (twoN ss i)).map bvA) (nf i) pt0 e W' C' n'
theorem pow_70 {i:Nat} (h:i≤7):70≤70*11 ^ i∧70*11 ^ i≤1400000000:=by
 have:11 ^ i≤11 ^ 7:=Zzj zo h;have:=Zz7 (show 11 ^ i≠0 from Nat.ne_of_gt (ZB5 zo));omega
theorem run22 (ss:List RS) (Vs:List Rat) (Bs:List Bool) (u nf:Nat→Nat) (hl:ss.length≤8) (her:∀i,i < ss.length→errS ss i=0) (hlm:∀s∈ss,s.r.lm 2) (hVs:∀q∈Vs,Sz q 2) (lV:Vs.length≤900) (lB:Bs.length≤900)
 (hu:∀i (h:i < ss.length),u (i+1)=u i+useN ss[i].k (nf i)) (hnf:∀i (h:i < ss.length),nf (i+1)=if ss[i].k=1 then nf i+1 else nf i) (hn9:∀i,i≤ss.length→nf i≤900) (eV:∀i,i≤ss.length→u i≤Vs.length) (eB:∀i,i≤ss.length→twoN ss i≤Bs.length) :
 ∀m,m≤ss.length→∃L:List PQ,L.length≤m∧(∀i (h:i < ss.length) (h':i < L.length),RunAt ss Vs Bs u nf (L.take i) i h L[i])∧(∀i (h':i < L.length),Hv (70*11 ^ (i+1)) L[i])∧(L.length=m∨RunEr ss Vs Bs u nf L L.length):=by
 intro m
 induction m with
 | zero=>exact λ_=>⟨[],Zx7 _,λi _ h'=>absurd h' (Nat.not_lt_zero _),λi h'=>absurd h' (Nat.not_lt_zero _),.inl rfl⟩
 | succ m ih =>
   intro hm;obtain⟨L,h1,h2,h3,h4⟩:=ih zo;rcases h4 with h4 | h4
   ·have hlt:m < ss.length:=zo;obtain⟨k1,k2,k3,k4⟩:=Zge hlt (her m hlt);have hp:=pow_70 (i:=m) zo;have hLv:∀p∈L,Hv (70*11 ^ m) p:=λp hp=>by
     obtain⟨j,hj,rfl⟩:=List.mem_iff_getElem.1 hp;exact(h3 j hj).mono (ZAh _ (Zzj zo zo))
    have hA:∀p∈argP L ss[m],Hv (70*11 ^ m) p:=λp hp'=>by
     obtain⟨a,-,rfl⟩:=List.mem_map.1 hp';exact Zo3 hLv hp.1 _
    have hW:∀q∈Vs.drop (u m),Sz q 2:=λq hq=>hVs q (Zz8 hq);have e1:=hu m hlt;have e2:=eV (m+1) hm;have e3:=eB (m+1) hm
    have e4:twoN ss (m+1)=twoN ss m+brN ss[m].k:=by
     unfold brN;by_cases hb:twoB ss[m].k=true
     ·rw [twoN_y hlt hb,Zx5 hb]
     ·rw [twoN_n hlt (by simpa using hb),Zx4 hb];rfl
    have o:=outAll ss[m] (argP L ss[m]) (Vs.drop (u m)) (Bs.drop (twoN ss m)) (nf m) (by unfold argP;rw [Zx9];exact k2) (λp hp'=>sz_of_hv (hA p hp') hp.2) hW (by rw [Zzx];omega) (by rw [Zzx];omega) (by have:=hn9 m zo;omega) (by rw [Zzx];omega) (by rw [Zzx];omega) k4 (hlm _ (Zyl hlt));rcases o with⟨x,ho,hx⟩ | ⟨e,W',C',n',he,ho⟩
    ·rw [ZBc,ZBc,←e1,←e4,←hnf m hlt] at ho;refine⟨L++[x],by rw [Zy0];simp only [Zyk,Zym];omega,λi h h'=>?_,λi h'=>?_,.inl (by rw [Zy0];simp only [Zyk,Zym];omega)⟩
     ·rcases Zyr i L.length with hi | hi
      ·rw [List.take_append_of_le_length zo,List.getElem_append_left hi];exact h2 i h hi
      ·have:i=L.length:=by rw [Zy0] at h';simp only [Zyk,Zym] at h';omega
       subst this;rw [List.take_left,List.getElem_append_right (Zx7 _)];simp only [ZBi,List.getElem_cons_zero];subst h4;exact⟨ho,hx⟩
     ·rcases Zyr i L.length with hi | hi
      ·rw [List.getElem_append_left hi];exact h3 i hi
      ·have:i=L.length:=by rw [Zy0] at h';simp only [Zyk,Zym] at h';omega
       subst this;rw [List.getElem_append_right (Zx7 _)];simp only [ZBi,List.getElem_cons_zero];subst h4;exact(ptr_hv hx hA hp.1 hW (hlm _ (Zyl hlt)) k4).mono (by rw [Zzi];omega)
    ·refine⟨L,zo,h2,h3,.inr ?_⟩;subst h4;exact⟨hlt,e,W',C',n',he,ho⟩
   ·exact⟨L,zo,h2,h3,.inr h4⟩
end Go.Proofs.YtenfejhaohihoaaGreat
