/- Contracts of the functions that the law reaches, and the rules by which they are walked. They say what a call hands back for every input within the bounds that each names; no other condition. -/
import Derived.Test.YtenfejhaohihoaaGreatBv8
set_option linter.unusedSimpArgs false
set_option linter.unusedVariables false
set_option maxRecDepth 20000
set_option maxHeartbeats 16000000
namespace Go.Proofs.YtenfejhaohihoaaGreat
open Go Go.RowKit Go.Pg Go.Pol Go.Proofs.Tryz
attribute [-bool_to_prop] Bool.and_eq_decide Bool.or_eq_decide Bool.decide_beq_decide decide_eq_decide
theorem few_in {ss:List RS} {gs:List RG} (hs:∀s∈ss,s.sm) (h:fewB ss gs=true):ss.length≤8∧figE ss gs=0∧FigOk ss∧Zkk ss gs=true:=by
 unfold fewB at h;simp only [Zz4,ZAg,ZBy] at h;obtain⟨h1,h2,h3,h4,h5,h6⟩:=h;refine⟨h1,h3,⟨zo,Zmk h3,λs hm=>?_,?_⟩,h4⟩
 ·have:=h5 s hm;unfold rat2 at this;simp only [Zz4,ZAg] at this;obtain⟨k1,k2,k3,k4⟩:=(hs s hm).1;exact⟨k1,k2,this.1,this.2⟩
 ·have:=Zxf ss ss.length;omega
theorem Zvh (ss:List RS) {i j:Nat} (h:j < i):∀d,gI (wts ss (i+d)) j=gI (wts ss i) j
 | 0=>rfl
 | d+1=>by
   show gI (wts ss (i+d)++[_]) j=_;rw [Zyf,Zib,Zzc zo];exact Zvh ss h d
theorem Ztw {ss:List RS} {gs:List RG} (hl:ss.length≤8) (ok:FigOk ss) (ht:Zkk ss gs=true):(∀j,j < ss.length→bigN ss j=false)∧∀j,CB ((frN ss ss.length).cs.getD j ([],[])):=by
 have hw:∀j,gI (wts ss ss.length) j≤8:=λj=>by
  by_cases h:j < (wts ss ss.length).length
  ·unfold Zkk at ht;simp only [Zz4,ZBy,ZAg] at ht;rw [Ze5 h];exact ht.1 _ (Zzt h)
  ·rw [Zb9 zo];omega
 have big:∀j,j < ss.length→bigN ss j=false:=λj hj=>by
  rw [Zlq hj];have hv:=vs_le ss (j+1);rw [Zea hj] at hv;have h1:=frN_w ss (j+1) j;have h2:=Zvh ss (show j < j+1 by omega) (ss.length - (j+1));rw [show j+1+(ss.length - (j+1))=ss.length by omega] at h2;have h3:=hw j;rw [Zea hj,Zzo,ZAy (by rw [Zcm];omega),Zcm,ZCo] at h1;simp only [ZEg,ZA8] at h1;simp only [ZCb,ZBr];simp only at hv;omega
 refine⟨big,λj=>?_⟩;obtain⟨D,hD,hn⟩:=ok.fi (Zze _) big;have h1:=frN_w ss ss.length j;have h3:=hw j;by_cases hj:j < (frN ss ss.length).cs.length
 ·obtain⟨c1,c2⟩:=hD.co hn _ (Zay (d:=(([],[]):Pt)) hj);exact⟨⟨c1.st,c1.pk.mono (Zze _) zo,zo⟩,⟨c2.st,c2.pk.mono (Zze _) zo,zo⟩⟩
 ·rw [Zzo,ZAr zo];exact⟨.nil,.nil⟩
theorem Zr1 {vs:List Vt} {i:Int} {w:Nat}:∀{n:Nat},fstN vs i n=some w→w < n
 | 0,h=>by cases h
 | n+1,h=>by
   unfold fstN at h;split at h
   ·rename_i v hv;have:=Zr1 hv;injection h with h
    omega
   ·split at h
    ·injection h with h;omega
    ·cases h
theorem Zr0 {vs:List Vt} {i:Int}:∀{n:Nat},fstN vs i n=none→∀j,j < n→(vs.getD j (0,0,0)).2.1≠i
 | 0,_,j,hj=>zo
 | n+1,h,j,hj=>by
   unfold fstN at h;split at h
   ·cases h
   ·rename_i hn;split at h
    ·cases h
    ·rename_i hx;by_cases e:j=n
     ·rw [e];exact hx
     ·exact Zr0 hn j zo
theorem Zvi (ss:List RS) (i:Nat):∀d,∃l,(frN ss (i+d)).vs=(frN ss i).vs++l
 | 0=>⟨[],by rw [ZA6];rfl⟩
 | d+1=>by
   obtain⟨l,hl⟩:=Zvi ss i d;refine⟨l++((frN ss (i+d)).nxt (i+d) (ss.getD (i+d) RS.zero)).1,?_⟩;show(frN ss (i+d)).vs++_=_;rw [hl,ZAk];rfl
theorem Ztz {ss:List RS} {i:Nat} (hi:i < ss.length) (hk:ss[i].k=6):∃w,fstN (frN ss ss.length).vs i (frN ss ss.length).vs.length=some w∧w < (frN ss ss.length).vs.length:=by
 cases h:fstN (frN ss ss.length).vs i (frN ss ss.length).vs.length with
 | some w=>exact⟨w,rfl,Zr1 h⟩
 | none =>
   exfalso;obtain⟨l,hl⟩:=Zvi ss (i+1) (ss.length - (i+1));rw [show i+1+(ss.length - (i+1))=ss.length by omega,Zea hi] at hl
   have hn:((frN ss i).nxt i ss[i]).1=[(1,(i:Int),0),(2,(i:Int),1),(2,(i:Int),2)]:=by
    unfold FS.nxt;simp [hk]
   simp only at hl;rw [hn] at hl;have hm:((1,(i:Int),0):Vt)∈(frN ss ss.length).vs:=by rw [hl];simp
   obtain⟨j,hj,e⟩:=List.mem_iff_getElem.1 hm;have:=Zr0 h j hj;rw [Zzo,Zzn hj,e] at this;exact this rfl
def eqE (ss:List RS) (i:Nat):List Po :=
 let f:=frN ss ss.length
 let s:=ss.getD i RS.zero
 let p:=λk=>f.cs.getD (gI s.ar k).toNat ([],[])
 eqsM s.k (p 0) (p 1) (p 2) (p 3) (f.cs.getD i ([],[])) (parM f.vs i)
theorem Zyn {ss:List RS} {i:Nat} {s:RS} (hi:i < ss.length) (hs:ss[i]=s):eqE ss i=eqsM s.k ((frN ss ss.length).cs.getD (gI s.ar 0).toNat ([],[])) ((frN ss ss.length).cs.getD (gI s.ar 1).toNat ([],[])) ((frN ss ss.length).cs.getD (gI s.ar 2).toNat ([],[])) ((frN ss ss.length).cs.getD (gI s.ar 3).toNat ([],[])) ((frN ss ss.length).cs.getD i ([],[])) (parM (frN ss ss.length).vs i):=by
 unfold eqE;rw [show ss.getD i RS.zero=s from by rw [Zzo,Zzn hi,hs];rfl]
theorem Zo9 {vs:List Vt} {i:Int} {w:Nat} (h:fstN vs i vs.length=some w):parM vs i=varM w:=by unfold parM;rw [h]
theorem eqs_len (k:Int) (a b c d x:Pt) (t:Po):(eqsM k a b c d x t).length≤2:=by
 unfold eqsM Zll Zf6
 repeat' split
 all_goals simp
theorem hySt {ss:List RS} {gs:List RG} (hl:ss.length≤8) (ok:FigOk ss) (ht:Zkk ss gs=true) {i:Nat} (hi:i < ss.length):Pure prog 41 [figA ss gs,frmA (frN ss ss.length).cs (frN ss ss.length).vs,iv i] (.tup [.sl 1 ((eqE ss i).map poA),iv 0]):=by
 have hcb:=(Ztw hl ok ht).2;have hvl:=vs_le ss ss.length;have hcl:=Zcm ss ss.length;have hcv:=λhk=>Ztz (ss:=ss) hi hk;obtain⟨h0,hal,hai,-⟩:=Zgu hi (ok.er i hi);have hai:∀k,k < ss[i].ar.length→0≤gI ss[i].ar k∧gI ss[i].ar k < (ss.length:Int):=λk hk=>by have:=hai k hk;omega
 generalize hs:ss[i]=s at *;rw [Zyn hi hs];have cp:=Zx6 (frN ss ss.length).cs (frN ss ss.length).vs (i:Int) zo;have har:∀k,k < s.ar.length→0≤gI s.ar k∧gI s.ar k < ((frN ss ss.length).cs.length:Int):=λk hk=>by rw [hcl];exact hai k hk
 have h4:s.ar.length≤4:=by have:=Zt2 s.k;omega
 have kk:s.k=1∨s.k=2∨s.k=3∨s.k=4∨s.k=5∨s.k=6∨s.k=7∨s.k=8∨s.k=9∨s.k=10∨s.k=11∨s.k=12∨s.k=13∨s.k=14:=by
  unfold arS at h0
  repeat' split at h0
  all_goals omega
 generalize hf:frN ss ss.length=f at *;obtain⟨k,nm,ar,r⟩:=s;simp only at *;rcases kk with rfl | rfl | rfl | rfl | rfl | rfl | rfl | rfl | rfl | rfl | rfl | rfl | rfl | rfl
 ·obtain rfl:ar=[]:=List.length_eq_zero_iff.1 (by rw [show arS 1=0 from rfl] at hal;omega);refine Zda ss gs f.cs f.vs i _ _ _ _ hi hs hcl rfl har h4 cp ?_;rw [show(ptsN f.cs []).map coA=[] from by simp [ptsN]];exact hyE0 1 _ _ _ (.inl zo)
 ·obtain⟨a,b,rfl,la,lb⟩:=ar2 (n:=ss.length) (by rw [hal];rfl) hai;refine Zda ss gs f.cs f.vs i _ _ _ _ hi hs hcl rfl har h4 cp ?_;simp only [gI,ZA4,ZA5,ZAo,List.getD_nil];rw [show(ptsN f.cs [((a:Nat):Int),((b:Nat):Int)]).map coA=[coA (f.cs.getD a ([],[])),coA (f.cs.getD b ([],[]))] from by simp [ptsN]];exact hyE0 2 _ _ _ (.inl zo)
 ·obtain⟨a,b,c,rfl,la,lb,lc⟩:=ar3 (n:=ss.length) (by rw [hal];rfl) hai;refine Zda ss gs f.cs f.vs i _ _ _ _ hi hs hcl rfl har h4 cp ?_;simp only [gI,ZA4,ZA5,ZAo,List.getD_nil];rw [show(ptsN f.cs [((a:Nat):Int),((b:Nat):Int),((c:Nat):Int)]).map coA=[coA (f.cs.getD a ([],[])),coA (f.cs.getD b ([],[])),coA (f.cs.getD c ([],[]))] from by simp [ptsN]];exact hyE0 3 _ _ _ (.inl zo)
 ·obtain⟨a,b,c,rfl,la,lb,lc⟩:=ar3 (n:=ss.length) (by rw [hal];rfl) hai;refine Zda ss gs f.cs f.vs i _ _ _ _ hi hs hcl rfl har h4 cp ?_;simp only [gI,ZA4,ZA5,ZAo,List.getD_nil];rw [show(ptsN f.cs [((a:Nat):Int),((b:Nat):Int),((c:Nat):Int)]).map coA=[coA (f.cs.getD a ([],[])),coA (f.cs.getD b ([],[])),coA (f.cs.getD c ([],[]))] from by simp [ptsN]];exact hyE0 4 _ _ _ (.inl zo)
 ·obtain⟨a,b,rfl,la,lb⟩:=ar2 (n:=ss.length) (by rw [hal];rfl) hai;refine Zda ss gs f.cs f.vs i _ _ _ _ hi hs hcl rfl har h4 cp ?_;simp only [gI,ZA4,ZA5,ZAo,List.getD_nil];rw [show(ptsN f.cs [((a:Nat):Int),((b:Nat):Int)]).map coA=[coA (f.cs.getD a ([],[])),coA (f.cs.getD b ([],[]))] from by simp [ptsN]];exact hyE0 5 _ _ _ (.inl zo)
 ·obtain⟨a,b,rfl,la,lb⟩:=ar2 (n:=ss.length) (by rw [hal];rfl) hai;refine Zda ss gs f.cs f.vs i _ _ _ _ hi hs hcl rfl har h4 cp ?_;simp only [gI,ZA4,ZA5,ZAo,List.getD_nil];rw [show(ptsN f.cs [((a:Nat):Int),((b:Nat):Int)]).map coA=[coA (f.cs.getD a ([],[])),coA (f.cs.getD b ([],[]))] from by simp [ptsN]];obtain⟨w,hw,hw2⟩:=hcv rfl;rw [Zo9 hw];exact hyE6 (varM w) (Zed w) (hcb a) (hcb b) (hcb i)
 ·obtain⟨a,b,c,rfl,la,lb,lc⟩:=ar3 (n:=ss.length) (by rw [hal];rfl) hai;refine Zda ss gs f.cs f.vs i _ _ _ _ hi hs hcl rfl har h4 cp ?_;simp only [gI,ZA4,ZA5,ZAo,List.getD_nil];rw [show(ptsN f.cs [((a:Nat):Int),((b:Nat):Int),((c:Nat):Int)]).map coA=[coA (f.cs.getD a ([],[])),coA (f.cs.getD b ([],[])),coA (f.cs.getD c ([],[]))] from by simp [ptsN]];exact hyE7 _ (hcb a) (hcb b) (hcb c) (hcb i)
 ·obtain⟨a,b,c,rfl,la,lb,lc⟩:=ar3 (n:=ss.length) (by rw [hal];rfl) hai;refine Zda ss gs f.cs f.vs i _ _ _ _ hi hs hcl rfl har h4 cp ?_;simp only [gI,ZA4,ZA5,ZAo,List.getD_nil];rw [show(ptsN f.cs [((a:Nat):Int),((b:Nat):Int),((c:Nat):Int)]).map coA=[coA (f.cs.getD a ([],[])),coA (f.cs.getD b ([],[])),coA (f.cs.getD c ([],[]))] from by simp [ptsN]];exact hyE8 _ (hcb a) (hcb b) (hcb c) (hcb i)
 ·obtain⟨a,b,c,d,rfl,la,lb,lc,ld⟩:=ar4 (n:=ss.length) (by rw [hal];rfl) hai;refine Zda ss gs f.cs f.vs i _ _ _ _ hi hs hcl rfl har h4 cp ?_;simp only [gI,ZA4,ZA5,ZAo,List.getD_nil];rw [show(ptsN f.cs [((a:Nat):Int),((b:Nat):Int),((c:Nat):Int),((d:Nat):Int)]).map coA=[coA (f.cs.getD a ([],[])),coA (f.cs.getD b ([],[])),coA (f.cs.getD c ([],[])),coA (f.cs.getD d ([],[]))] from by simp [ptsN]];exact hyE9 _ (hcb a) (hcb b) (hcb c) (hcb d) (hcb i)
 ·obtain⟨a,b,c,rfl,la,lb,lc⟩:=ar3 (n:=ss.length) (by rw [hal];rfl) hai;refine Zda ss gs f.cs f.vs i _ _ _ _ hi hs hcl rfl har h4 cp ?_;simp only [gI,ZA4,ZA5,ZAo,List.getD_nil];rw [show(ptsN f.cs [((a:Nat):Int),((b:Nat):Int),((c:Nat):Int)]).map coA=[coA (f.cs.getD a ([],[])),coA (f.cs.getD b ([],[])),coA (f.cs.getD c ([],[]))] from by simp [ptsN]];exact hyE10 _ (hcb a) (hcb b) (hcb c) (hcb i)
 ·obtain⟨a,b,c,rfl,la,lb,lc⟩:=ar3 (n:=ss.length) (by rw [hal];rfl) hai;refine Zda ss gs f.cs f.vs i _ _ _ _ hi hs hcl rfl har h4 cp ?_;simp only [gI,ZA4,ZA5,ZAo,List.getD_nil];rw [show(ptsN f.cs [((a:Nat):Int),((b:Nat):Int),((c:Nat):Int)]).map coA=[coA (f.cs.getD a ([],[])),coA (f.cs.getD b ([],[])),coA (f.cs.getD c ([],[]))] from by simp [ptsN]];exact hyE11 _ (hcb a) (hcb b) (hcb c) (hcb i)
 ·obtain⟨a,b,c,d,rfl,la,lb,lc,ld⟩:=ar4 (n:=ss.length) (by rw [hal];rfl) hai;refine Zda ss gs f.cs f.vs i _ _ _ _ hi hs hcl rfl har h4 cp ?_;simp only [gI,ZA4,ZA5,ZAo,List.getD_nil];rw [show(ptsN f.cs [((a:Nat):Int),((b:Nat):Int),((c:Nat):Int),((d:Nat):Int)]).map coA=[coA (f.cs.getD a ([],[])),coA (f.cs.getD b ([],[])),coA (f.cs.getD c ([],[])),coA (f.cs.getD d ([],[]))] from by simp [ptsN]];exact hyE12 _ (hcb a) (hcb b) (hcb c) (hcb d) (hcb i)
 ·obtain⟨a,b,c,d,rfl,la,lb,lc,ld⟩:=ar4 (n:=ss.length) (by rw [hal];rfl) hai;refine Zda ss gs f.cs f.vs i _ _ _ _ hi hs hcl rfl har h4 cp ?_;simp only [gI,ZA4,ZA5,ZAo,List.getD_nil];rw [show(ptsN f.cs [((a:Nat):Int),((b:Nat):Int),((c:Nat):Int),((d:Nat):Int)]).map coA=[coA (f.cs.getD a ([],[])),coA (f.cs.getD b ([],[])),coA (f.cs.getD c ([],[])),coA (f.cs.getD d ([],[]))] from by simp [ptsN]];exact hyE13 _ (hcb a) (hcb b) (hcb c) (hcb d) (hcb i)
 ·obtain⟨a,b,rfl,la,lb⟩:=ar2 (n:=ss.length) (by rw [hal];rfl) hai;refine Zda ss gs f.cs f.vs i _ _ _ _ hi hs hcl rfl har h4 cp ?_;simp only [gI,ZA4,ZA5,ZAo,List.getD_nil];rw [show(ptsN f.cs [((a:Nat):Int),((b:Nat):Int)]).map coA=[coA (f.cs.getD a ([],[])),coA (f.cs.getD b ([],[]))] from by simp [ptsN]];exact hyE14 _ (hcb a) (hcb b) (hcb i)
attribute [local go_sem] Zcf Zcy Zec Zbm Zbo Zbn Zb5 Zb6 Zdc Zdn Zc6 Zdm Zdl Zdt Zdd Zbg Zbh Zcj Zd0 Za5 Zb4 Zdw Zdz Zf3 Zdv Zdy Zf2 Zbq Zbt Zcw Zbu Zc4 Zd2 Zgg Zgi Zjs Zj1 Zn6 Zof Zg0 Zhd Zkj Zj4
def ssF:List RS:=[⟨1,⟨#[65]⟩,[],⟨false,[],[]⟩⟩,⟨1,⟨#[66]⟩,[],⟨false,[],[]⟩⟩,⟨1,⟨#[67]⟩,[],⟨false,[],[]⟩⟩,⟨7,⟨#[70]⟩,[2,0,1],⟨false,[],[]⟩⟩]
theorem figF:figE ssF []=0:=by decide +kernel
theorem bigF:(List.range ssF.length).any (bigN ssF)=false:=by decide +kernel
theorem csF:(frN ssF ssF.length).cs=[([],[]),(varM 0,[]),(varM 1,varM 2),(varM 3,varM 4)]:=by kernel_rfl
theorem vsF:(frN ssF ssF.length).vs.length≤64:=by decide +kernel
theorem okF:FigOk ssF:=by
 obtain⟨h1,h2⟩:=figE_ok figF;refine⟨h1,h2,λs hs=>?_,by decide +kernel⟩;have:∀s∈ssF,s.r.l=[]∧s.r.d=[]:=by decide
 obtain⟨e1,e2⟩:=this s hs;refine⟨?_,?_,by rw [e1];simp,by rw [e2];simp⟩
 ·rw [e1];exact λx hx=>by cases hx
 ·rw [e2];exact λx hx=>by cases hx
theorem Zxe:PB [] 8 110 8:=.nil
theorem Zn7 (v:Nat):PB (varM v) 8 110 8:=(Zed v).mono zo zo zo
theorem Zqx (p:Po):subM p []=p:=Zkg p
theorem crossF:Zb0 ([],[]) (varM 0,[]) ([],[]) (varM 3,varM 4)=mlM (varM 0) (varM 4):=by
 unfold Zb0;simp only [Zqx];rw [show mlM [] (varM 3)=[] from Zka _,Zqx]
theorem dotF:dotM ([],[]) (varM 0,[]) (varM 1,varM 2) (varM 3,varM 4)=subM (mlM (varM 0) (varM 3)) (mlM (varM 0) (varM 1)):=by
 unfold dotM;simp only [Zqx];rw [show mlM [] (subM (varM 4) (varM 2))=[] from Zka _,show ∀p:Po,addM p []=p from Zkg,mul_subR (Zb1 3) (Zb1 1) (Zb1 0)]
theorem coF:Pure prog 40 [figA ssF []] (.tup [frmA (frN ssF ssF.length).cs (frN ssF ssF.length).vs,iv 0]):=by
 have sm:∀s∈ssF,s.sm:=λs hs=>by
  have h:=okF.lm s hs;have h2:∀s∈ssF,s.nm.size≤1∧s.ar.length≤3:=by decide
  obtain⟨a,b⟩:=h2 s hs;exact⟨Zru h zd,Zzi a zd,Zzi b zd⟩
 have cr:=Zxv ssF [] zd zd sm (λg hg=>by cases hg);rw [figF] at cr;have:=Ztx ssF [] cr okF
 rwa [Zzb (by rw [bigF];decide)] at this
theorem awFoot:Pure prog 22 [] (figA ssF []):=by
 refine Zdh (r:=.agg [.sl 6 [.agg [iv 1,strA ⟨#[65]⟩,.v (.slice none 0 0),.v (.bool false),.v (.slice none 0 0),.v (.slice none 0 0)],.agg [iv 1,strA ⟨#[66]⟩,.v (.slice none 0 0),.v (.bool false),.v (.slice none 0 0),.v (.slice none 0 0)],.agg [iv 1,strA ⟨#[67]⟩,.v (.slice none 0 0),.v (.bool false),.v (.slice none 0 0),.v (.slice none 0 0)],.agg [iv 7,strA ⟨#[70]⟩,.sl 1 [iv 2,iv 0,iv 1],.v (.bool false),.v (.slice none 0 0),.v (.slice none 0 0)]],.v (.slice none 0 0)]) ?_ (Vk.aggL (.cons (Vk.slL zr zd zd ?_) (.cons (.nil 5) .nil)))
 ·refine pI func22 rfl ntmps22 results22 call22 ?_;(focus (refine wklp w_t w_t w_t (w_r 0) ?_;(repeat' first|exact w_t|apply w_l);all_goals intros))
 ·exact(.cons (.refl _) (.cons (.refl _) (.cons (.nil 1) (.cons (.refl _) (.cons (.nil 1) (.cons (.nil 1) (.cons (.refl _) (.cons (.refl _) (.cons (.nil 1) (.cons (.refl _) (.cons (.nil 1) (.cons (.nil 1) (.cons (.refl _) (.cons (.refl _) (.cons (.nil 1) (.cons (.refl _) (.cons (.nil 1) (.cons (.nil 1) (.cons (.refl _) (.cons (.refl _) (.cons (.refl _) (.cons (.refl _) (.cons (.nil 1) (.cons (.nil 1) .nil))))))))))))))))))))))))
def EF (i:Nat):List Po:=if i=3 then [mlM (varM 0) (varM 4),subM (mlM (varM 0) (varM 3)) (mlM (varM 0) (varM 1))] else []
theorem ofF:Pure prog 12 [figA ssF []] (.tup [.sl 1 [poA (mlM (varM 0) (varM 4)),poA (subM (mlM (varM 0) (varM 3)) (mlM (varM 0) (varM 1)))],iv 0]):=by
 have hc:=csF;have st:∀i,i < ssF.length→Pure prog 41 [figA ssF [],frmA (frN ssF ssF.length).cs (frN ssF ssF.length).vs,iv i] (.tup [.sl 1 ((EF i).map poA),iv 0]):=λi hi=>by
  have cp:=Zx6 (frN ssF ssF.length).cs (frN ssF ssF.length).vs i (by have:=vsF;omega);have har:∀k,k < ssF[i].ar.length→0≤gI ssF[i].ar k∧gI ssF[i].ar k < ((frN ssF ssF.length).cs.length:Int):=λk hk=>by
   have:=(Zgu hi (okF.er i hi)).2.2.1 k hk;rw [Zcm];omega
  have h4:ssF[i].ar.length≤4:=by have h1:=(Zgu hi (okF.er i hi)).2.1;have:=Zt2 ssF[i].k;omega
  by_cases h3:i=3
  ·subst h3;refine Zda ssF [] _ _ 3 ssF[3] (varM 3,varM 4) _ (EF 3) hi rfl (Zcm ssF _) (by rw [hc];rfl) har h4 cp ?_;have:=hyE7 (a:=(varM 1,varM 2)) (b:=([],[])) (c:=(varM 0,[])) (x:=(varM 3,varM 4)) (parM (frN ssF ssF.length).vs 3) ⟨Zn7 1,Zn7 2⟩ ⟨Zxe,Zxe⟩ ⟨Zn7 0,Zxe⟩ ⟨Zn7 3,Zn7 4⟩;rw [crossF,dotF] at this;rw [hc];exact this
  ·have hk:ssF[i].k=1:=by
    have:∀i (h:i < ssF.length),i≠3→ssF[i].k=1:=by decide
    exact this i hi h3
   refine Zda ssF [] _ _ i ssF[i] _ _ (EF i) hi rfl (Zcm ssF _) rfl har h4 cp ?_;rw [hk,show EF i=[] from Zzb h3];exact hyE0 1 _ _ _ (.inl zo)
 have z04:PB (mlM (varM 0) (varM 4)) 1 3 2:=((Zed 0).mul (Zed 4)).mono zo zo zo;have z03:PB (mlM (varM 0) (varM 3)) 1 3 2:=((Zed 0).mul (Zed 3)).mono zo zo zo;have z01:PB (mlM (varM 0) (varM 1)) 1 3 2:=((Zed 0).mul (Zed 1)).mono zo zo zo;have hb:(List.range ssF.length).any (bigE EF)=false:=any_no λj hj=>by
  unfold bigE EF;split
  ·have h1:=z04.l;have h2:=(z03.sub z01).l;simp;omega
  ·rfl
 have:=hyOf ssF [] _ _ EF (λi=>by unfold EF;split<;>simp) zd coF st;rw [Zzb (by rw [hb];simp)] at this;exact this
theorem awV (a b:Nat) (ha:a < 64) (hb:b < 64):Pure prog 23 [iv a,iv b] (poA (mlM (varM a) (varM b))):=by
 have c1:=rpVar a zo;have c2:=rpVar b zo;have c3:=(Zi3 (Zed a) (Zed b) zo zo zo zo zo zo zo zo zo).2;generalize mlM (varM a) (varM b)=r at *;generalize varM a=p at *;generalize varM b=q at *;refine pI func23 rfl ntmps23 results23 call23 ?_;(focus (refine wkax w_t (w_1 c3) w_t w_t (w_2 c1 c2) w_t w_y (w_r 0) ?_;(repeat' first|exact w_t|apply w_l);all_goals intros))
 (all_goals (try simp (disch:=omega) only [go_sem,Zzf,Zzd,Zzc,Zzb,Int.reduceAdd,Int.reduceSub,Int.reduceToNat,Zzh]));(all_goals first|done|rfl|(congr 2;first|done|omega|(rw [Zzz];simp only [bool_to_prop,Zzr,ZAa,ZAb,ZAc,ZAd];omega))|skip)
theorem aw22:Pure prog 7 [] (.v (.bool true)):=by
 have cF:=awFoot;have cO:=ofF;have k1:Pure prog 23 [iv 0,iv 4] (poA (mlM (varM 0) (varM 4))):=awV 0 4 zo zo;have k2:Pure prog 23 [iv 0,iv 3] (poA (mlM (varM 0) (varM 3))):=awV 0 3 zo zo;have k3:Pure prog 23 [iv 0,iv 1] (poA (mlM (varM 0) (varM 1))):=awV 0 1 zo zo;have z04:PB (mlM (varM 0) (varM 4)) 1 3 2:=((Zed 0).mul (Zed 4)).mono zo zo zo;have z03:PB (mlM (varM 0) (varM 3)) 1 3 2:=((Zed 0).mul (Zed 3)).mono zo zo zo;have z01:PB (mlM (varM 0) (varM 1)) 1 3 2:=((Zed 0).mul (Zed 1)).mono zo zo zo;have cs:=(Znp z03 z01 zo zo zo zo zo zo).2;have eqs:∀{p:Po} {n j e:Nat},PB p n j e→n≤1000→j≤1000→e≤100→Pure prog 70 [poA p,poA p] (.v (.bool true)):=λ{p n j e} h hn hj he=>by
  have l:=h.l;have:=rpEqual p p h.k h.k h.s.dom h.s.dom zo zo zo zo zo zo
  rwa [Zzf rfl] at this
 have sm:=lwSame [mlM (varM 0) (varM 4),subM (mlM (varM 0) (varM 3)) (mlM (varM 0) (varM 1))] zs (λp hp=>by
  rcases List.mem_cons.1 hp with rfl | hp
  ·exact eqs z04 zo zo zo
  ·rw [ZAs] at hp;subst hp;exact eqs (z03.sub z01) zo zo zo)
 have sm:Pure prog 26 [.sl 1 [poA (mlM (varM 0) (varM 4)),poA (subM (mlM (varM 0) (varM 3)) (mlM (varM 0) (varM 1)))],.sl 1 [poA (mlM (varM 0) (varM 4)),poA (subM (mlM (varM 0) (varM 3)) (mlM (varM 0) (varM 1)))]] (.v (.bool true)):=sm;have cF:Pure prog 22 [] (.agg [.sl 6 (ssF.map RS.av),.sl 5 []]):=cF;have cO:Pure prog 12 [.agg [.sl 6 (ssF.map RS.av),.sl 5 []]] (.tup [.sl 1 [poA (mlM (varM 0) (varM 4)),poA (subM (mlM (varM 0) (varM 3)) (mlM (varM 0) (varM 1)))],iv 0]):=cO;clear eqs z04 z03 z01;generalize ssF.map RS.av=M at *;generalize subM (mlM (varM 0) (varM 3)) (mlM (varM 0) (varM 1))=q at *
 generalize mlM (varM 0) (varM 4)=p at *;generalize mlM (varM 0) (varM 3)=u at *;generalize mlM (varM 0) (varM 1)=w at *;refine pI func7 rfl ntmps7 results7 call7 ?_;(focus (refine wkax w_t (w_3 cF cO cs) w_t (w_1 sm) (w_3 k1 k2 k3) w_t w_y (w_r 0) ?_;(repeat' first|exact w_t|apply w_l);all_goals intros))
 (all_goals (try simp (disch:=omega) only [go_sem,Zzf,Zzd,Zzc,Zzb,Int.reduceAdd,Int.reduceSub,Int.reduceToNat,Zzh]));(all_goals first|done|rfl|(congr 2;first|done|omega|(rw [Zzz];simp only [bool_to_prop,Zzr,ZAa,ZAb,ZAc,ZAd];omega))|skip)
structure RCo where
 x:List RT
 y:List RT
abbrev RCo.av (c:RCo):AV:=.agg [.sl 4 (c.x.map RT.av),.sl 4 (c.y.map RT.av)]
def RCo.lm (c:RCo) (k:Nat):Prop:=(∀t∈c.x,t.r.lm k)∧∀t∈c.y,t.r.lm k
def RCo.ok (c:RCo):Bool:=cooP c.x && cooP c.y
def RCo.pt (c:RCo):Pt:=(c.x.map RT.tm,c.y.map RT.tm)
theorem RCo.in {c:RCo} {k:Nat} (h:c.lm k) (ho:c.ok=true):c.av=coA c.pt∧CB c.pt:=by
 unfold RCo.ok at ho;rw [Zz4] at ho;obtain⟨e1,p1⟩:=coo_in h.1 ho.1;obtain⟨e2,p2⟩:=coo_in h.2 ho.2;exact⟨by show AV.agg [_,_]=AV.agg [_,_];rw [e1,e2];rfl,p1,p2⟩
theorem eqs_pb {k:Int} {a b c d x:Pt} {t:Po} (ha:CB a) (hb:CB b) (hc:CB c) (hd:CB d) (hx:CB x) (ht:PB t 1 1 1):∀p∈eqsM k a b c d x t,PB p 30000 800000 24:=by
 have cr:∀{a b c d:Pt},CB a→CB b→CB c→CB d→PB (Zb0 a b c d) 30000 800000 24:=λh1 h2 h3 h4=>(h1.cross h2 h3 h4).mono zo zo zo;have dt:∀{a b c d:Pt},CB a→CB b→CB c→CB d→PB (dotM a b c d) 30000 800000 24:=λh1 h2 h3 h4=>(h1.dot h2 h3 h4).mono zo zo zo;have df:∀{a b c d:Pt},CB a→CB b→CB c→CB d→PB (Zeb a b c d) 30000 800000 24:=λh1 h2 h3 h4=>((h1.dot h2 h1 h2).sub (h3.dot h4 h3 h4)).mono zo zo zo;have two:∀{p q:Po},PB p 30000 800000 24→PB q 30000 800000 24→∀u∈[p,q],PB u 30000 800000 24:=λh1 h2 u hu=>by
  rcases List.mem_cons.1 hu with rfl | hu
  ·exact h1
  ·rw [ZAs] at hu;subst hu;exact h2
 unfold eqsM;split
 ·unfold Zll;obtain⟨x1,y1⟩:=hb.df ha;obtain⟨x2,y2⟩:=hb.df hx;have zt:PB (mlM t (subM a.2 b.2)) 16 3600 9:=(ht.mul y1).mono zo zo zo;have zd:PB (addM (subM a.1 b.1) (mlM t (subM a.2 b.2))) 32 3822 9:=(x1.add zt).mono zo zo zo;have zs:PB (dblM (addM (subM a.1 b.1) (mlM t (subM a.2 b.2)))) 64 7645 9:=zd.dbl.mono zo zo zo;have zl:PB (Zfm t) 2 5 2:=(Zf7.add (ht.mul ht)).mono zo zo zo;exact two (((zl.mul x2).sub zs).mono zo zo zo) (((zl.mul y2).sub (ht.mul zs)).mono zo zo zo)
 ·split
  ·exact two (cr hb hc hb hx) (dt hb hc ha hx)
  ·split
   ·exact two (dt hb hc ha hx) (((hb.cross hc hb ha).add (hb.cross hc hb hx)).mono zo zo zo)
   ·split
    ·exact two (cr ha hb ha hx) (cr hc hd hc hx)
    ·split
     ·unfold Zf6;obtain⟨w1,w2⟩:=ha.df hx;obtain⟨u1,u2⟩:=ha.df hb;have zn:=ha.dot hb ha hb;have zs:=(ha.dot hc ha hb).dbl;exact two (((zn.mul w1).sub (zs.mul u1)).mono zo zo zo) (((zn.mul w2).sub (zs.mul u2)).mono zo zo zo)
     ·split
      ·exact two (df ha hx hb hx) (df ha hx hc hx)
      ·split
       ·exact two (cr ha hb ha hx) (df hc hx hc hd)
       ·split
        ·exact two (df ha hx ha hb) (df hc hx hc hd)
        ·split
         ·exact two (df ha hx ha hb) (df hb hx ha hb)
         ·exact λu hu=>by cases hu
theorem Zym (ss:List RS) (i:Nat):(eqE ss i).length≤2:=eqs_len ..
end Go.Proofs.YtenfejhaohihoaaGreat
section
namespace Go.Pol
structure CO {α:Type} (cmp:α→α→Int):Prop where
 eqz:∀a b,cmp a b=0→a=b
 refl:∀a,cmp a a=0
 flip:∀a b,cmp a b < 0↔0 < cmp b a
 tr:∀a b c,cmp a b < 0→cmp b c < 0→cmp a c < 0
structure CP {α:Type} (cmp:α→α→Int):Prop where
 tr:∀{a b c},cmp a b≤0→cmp b c≤0→cmp a c≤0
 tot:∀a b,¬cmp a b < 0→cmp b a≤0
theorem CP.key {α β:Type} {cmp:α→α→Int} (o:CP cmp) (f:β→α):CP (λs t=>cmp (f s) (f t)):=⟨λh k=>o.tr h k,λ_ _ h=>o.tot _ _ h⟩
namespace CO
variable {α:Type} {cmp:α→α→Int}
theorem le_tr (o:CO cmp) {a b c:α} (h:cmp a b≤0) (k:cmp b c≤0):cmp a c≤0:=by
 by_cases h0:cmp a b=0
 ·rw [o.eqz a b h0];exact k
 ·by_cases k0:cmp b c=0
  ·rw [←o.eqz b c k0];exact h
  ·have:=o.tr a b c zo zo;omega
theorem le_total (o:CO cmp) (a b:α) (h:¬cmp a b < 0):cmp b a≤0:=by
 have:=(o.flip b a);have:=(o.flip a b);omega
theorem cp (o:CO cmp):CP cmp:=⟨λh k=>o.le_tr h k,o.le_total⟩
end CO
section
variable {α:Type} (cmp:α→α→Int)
def Asc (l:List α):Prop:=l.Pairwise λa b=>cmp a b≤0
def insI (P:List α) (x:α):Nat→List α
 | 0=>x :: P
 | j+1=>if cmp x (P.getD j x) < 0 then insI P x j else P.take (j+1)++x :: P.drop (j+1)
def srtN (L:List α):Nat→List α
 | 0=>[]
 | n+1=>match L[n]? with
   | some x=>insI cmp (srtN L n) x (srtN L n).length
   | none=>srtN L n
def srtQ (L:List α):List α:=srtN cmp L L.length
variable {cmp}
def putQ (cmp:α→α→Int):List α→α→List α
 | [],q=>[q]
 | a :: l,q=>if cmp a q≤0 then a :: putQ cmp l q else q :: a :: l
end
section
variable {α:Type} (cmp:α→α→Int)
def lexL:List α→List α→Int
 | [],[]=>0
 | [],_ :: _=>-1
 | _ :: _,[]=>1
 | a :: l,b :: m=>if cmp a b=0 then lexL l m else cmp a b
def ordL (l m:List α):Int:=if l.length < m.length then -1 else if m.length < l.length then 1 else lexL cmp l m
variable {cmp}
end
section
variable {κ:Type} [DecidableEq κ]
def addC:List (Rat × κ)→Rat × κ→List (Rat × κ)
 | [],t=>[t]
 | s :: l,t=>if s.2=t.2 then (s.1+t.1,s.2) :: l else s :: addC l t
def Dst (l:List (Rat × κ)):Prop:=l.Pairwise λs t=>s.2≠t.2
end
section
variable {κ:Type} (cmp:κ→κ→Int)
def sumG (l:List (Rat × κ)):List (Rat × κ):=sumH (λx y=>cmp y x < 0) (l.map λt=>if t.1=0 then [] else [t])
variable {cmp}
end
section
variable {κ:Type} [DecidableEq κ]
variable (cmp:κ→κ→Int)
def sumC (l:List (Rat × κ)):List (Rat × κ):=srtQ (λs t=>cmp s.2 t.2) ((l.foldl addC []).filter λt=>decide (t.1≠0))
variable {cmp}
end
end Go.Pol
end
namespace Go.Pol
section
def cl (q:Rat):Nat:=(q.num.natAbs+q.den - 1)/q.den
theorem cl_le {q:Rat} {B:Nat}:cl q≤B↔q.num.natAbs≤B*q.den:=by
 have h:0 < q.den:=ZBe q.den_nz;unfold cl;rw [←Nat.lt_succ_iff,ZCe h,ZC1];omega
theorem cl_self (q:Rat):q.num.natAbs≤cl q*q.den:=cl_le.1 (Zze _)
theorem Zlv {q:Rat} {D:Nat} (h:q.den ∣ D):BQ D (cl q) q:=⟨h,cl_self q⟩
theorem Zyy (a b:Rat):cl (a+b)≤cl a+cl b:=cl_le.2 ((Zlv (ZCx a.den b.den)).add (Zlv (Nat.dvd_mul_left b.den a.den))).2
theorem Zyx (a b:Rat):cl (a*b)≤cl a*cl b:=cl_le.2 ((Zlv (ZB1 a.den)).mul (Zlv (ZB1 b.den))).2
theorem Znv {a b:Rat} {D:Nat} (h:a.den ∣ D) (k:b.den ∣ D):(a+b).den ∣ D:=((Zlv h).add (Zlv k)).1
theorem Zr6 {a b:Rat} {D E:Nat} (h:a.den ∣ D) (k:b.den ∣ E):(a*b).den ∣ D*E:=((Zlv h).mul (Zlv k)).1
variable {κ:Type}
def n1 (l:List (Rat × κ)):Nat:=(l.map λt=>cl t.1).sum
theorem Za7 (t:Rat × κ) (l:List (Rat × κ)):n1 (t :: l)=cl t.1+n1 l:=rfl
theorem Zxl (l m:List (Rat × κ)):n1 (l++m)=n1 l+n1 m:=by unfold n1;rw [Zzw,List.sum_append]
theorem n1_mem {l:List (Rat × κ)} {t:Rat × κ} (h:t∈l):cl t.1≤n1 l:=by
 induction l with
 | nil=>cases h
 | cons s l ih =>
   rw [Za7];rcases List.mem_cons.1 h with rfl | h
   ·omega
   ·have:=ih h;omega
theorem Zxk (f:Rat × κ→Bool) (l:List (Rat × κ)):n1 (l.filter f)≤n1 l:=by
 induction l with
 | nil=>exact Zze _
 | cons t l ih =>
   rw [ZD5];split
   ·rw [Za7,Za7];omega
   ·rw [Za7];omega
theorem Zxj (l:List (Rat × κ)) (i:Nat):n1 (l.take i)≤n1 l:=by
 have:=Zxl (l.take i) (l.drop i);rw [ZBl] at this;omega
def NB (D B:Nat) (l:List (Rat × κ)):Prop:=(∀t∈l,t.1.den ∣ D)∧n1 l≤B
theorem NB.nil (D B:Nat):NB D B ([]:List (Rat × κ)):=⟨λt h=>(by cases h),Zzp _⟩
theorem NB.mono {D B E C:Nat} {l:List (Rat × κ)} (h:NB D B l) (hd:D ∣ E) (hb:B≤C):NB E C l:=⟨λt ht=>Nat.dvd_trans (h.1 t ht) hd,Zzi h.2 hb⟩
theorem NB.filter {D B:Nat} {l:List (Rat × κ)} (h:NB D B l) (f:Rat × κ→Bool):NB D B (l.filter f):=⟨λt ht=>h.1 t (List.mem_filter.1 ht).1,Zzi (Zxk f l) h.2⟩
theorem NB.take {D B:Nat} {l:List (Rat × κ)} (h:NB D B l) (i:Nat):NB D B (l.take i):=⟨λt ht=>h.1 t (ZAq ht),Zzi (Zxj l i) h.2⟩
theorem NB.app {D B C:Nat} {l m:List (Rat × κ)} (h:NB D B l) (k:NB D C m):NB D (B+C) (l++m) :=
 ⟨λt ht=>(List.mem_append.1 ht).elim (h.1 t) (k.1 t),by rw [Zxl];exact ZBv h.2 k.2⟩
theorem NB.scale {D B E:Nat} {l:List (Rat × κ)} (h:NB D B l) {a:Rat} (ha:a.den ∣ E):NB (D*E) (B*cl a) (Zas a l):=by
 refine⟨λt ht=>?_,Zzi ?_ (Zz7 _ h.2)⟩
 ·obtain⟨s,hs,rfl⟩:=List.mem_map.1 ht;exact Zr6 (h.1 s hs) ha
 ·clear h
  induction l with
  | nil=>exact Zzp _
  | cons t l ih =>
    show cl (t.1*a)+n1 (Zas a l)≤(cl t.1+n1 l)*cl a;rw [Zz5];exact ZBv (Zyx _ _) ih
end
section
variable {κ:Type} [DecidableEq κ]
theorem n1_addC (l:List (Rat × κ)) (t:Rat × κ):n1 (addC l t)≤n1 l+cl t.1:=by
 induction l with
 | nil=>show cl t.1+0≤0+cl t.1;omega
 | cons s l ih =>
   unfold addC;split
   ·rw [Za7,Za7];have:=Zyy s.1 t.1;simp only;omega
   ·rw [Za7,Za7];omega
theorem den_addC {D:Nat} {l:List (Rat × κ)} {t:Rat × κ} (h:∀s∈l,s.1.den ∣ D) (ht:t.1.den ∣ D):∀s∈addC l t,s.1.den ∣ D:=by
 induction l with
 | nil=>intro s hs;rw [List.mem_singleton.1 hs];exact ht
 | cons u l ih =>
   intro s hs;unfold addC at hs;split at hs
   ·rcases List.mem_cons.1 hs with rfl | hs
    ·exact Znv (h u (.head _)) ht
    ·exact h s (.tail _ hs)
   ·rcases List.mem_cons.1 hs with rfl | hs
    ·exact h _ (.head _)
    ·exact ih (λv hv=>h v (.tail _ hv)) s hs
theorem NB.addC {D B C:Nat} {l:List (Rat × κ)} (h:NB D B l) {t:Rat × κ} (ht:t.1.den ∣ D) (hc:cl t.1≤C):NB D (B+C) (addC l t) :=
 ⟨den_addC h.1 ht,Zzi (n1_addC l t) (ZBv h.2 hc)⟩
end
section
variable {κ:Type} {lt:κ→κ→Prop} [DecidableRel lt]
theorem NB.addP {D B C:Nat} {p q:List (Rat × κ)} (hp:NB D B p) (hq:NB D C q):NB D (B+C) (addP lt p q):=by
 suffices h:(∀t∈Go.Pol.addP lt p q,t.1.den ∣ D)∧n1 (Go.Pol.addP lt p q)≤n1 p+n1 q from⟨h.1,Zzi h.2 (ZBv hp.2 hq.2)⟩
 replace hp:=hp.1
 replace hq:=hq.1
 fun_induction Go.Pol.addP lt p q with
 | case1 q=>exact⟨hq,by show n1 q≤0+n1 q;omega⟩
 | case2 s p=>exact⟨hp,ZDf _ _⟩
 | case3 s p u q h1 ih =>
   obtain⟨a,b⟩:=ih (λt h=>hp t (.tail _ h)) hq;exact⟨λt ht=>by
    rcases List.mem_cons.1 ht with rfl | ht
    ·exact hp _ (.head _)
    ·exact a t ht,by rw [Za7,Za7];omega⟩
 | case4 s p u q h1 h2 ih =>
   obtain⟨a,b⟩:=ih hp (λt h=>hq t (.tail _ h));exact⟨λt ht=>by
    rcases List.mem_cons.1 ht with rfl | ht
    ·exact hq _ (.head _)
    ·exact a t ht,by rw [Za7,Za7 u];omega⟩
 | case5 s p u q h1 h2 h3 ih =>
   obtain⟨a,b⟩:=ih (λt h=>hp t (.tail _ h)) (λt h=>hq t (.tail _ h));exact⟨a,by rw [Za7,Za7];omega⟩
 | case6 s p u q h1 h2 h3 ih =>
   obtain⟨a,b⟩:=ih (λt h=>hp t (.tail _ h)) (λt h=>hq t (.tail _ h));exact⟨λt ht=>by
    rcases List.mem_cons.1 ht with rfl | ht
    ·exact Znv (hp _ (.head _)) (hq _ (.head _))
    ·exact a t ht,by rw [Za7,Za7,Za7];have:=Zyy s.1 u.1;simp only;omega⟩
theorem sumH_nb {D:Nat} (l:List (List (Rat × κ))) (h:∀p∈l,∀t∈p,t.1.den ∣ D):NB D ((l.map n1).sum) (sumH lt l):=by
 fun_induction sumH lt l with
 | case1=>exact .nil _ _
 | case2 p=>exact⟨h p (.head _),by simp⟩
 | case3 p q l ih1 ih2 =>
   have:=(ih1 λu hu=>h u (ZAq hu)).addP (lt:=lt) (ih2 λu hu=>h u (ZBg hu))
   rwa [←List.sum_append,←Zzw,ZBl] at this
end
section
variable {κ:Type} {cmp:κ→κ→Int}
theorem NB.sumG {D B:Nat} {l:List (Rat × κ)} (h:NB D B l):NB D B (sumG cmp l):=by
 have:=sumH_nb (lt:=λx y=>cmp y x < 0) (D:=D) (l.map λt=>if t.1=0 then [] else [t]) λp hp t ht=>by
  obtain⟨s,hs,rfl⟩:=List.mem_map.1 hp;split at ht
  ·cases ht
  ·rw [List.mem_singleton.1 ht];exact h.1 s hs
 refine this.mono (ZB1 _) (Zzi ?_ h.2);clear this h
 induction l with
 | nil=>exact Zze _
 | cons t l ih =>
   rw [Zz3,Zz3,List.sum_cons,Za7];refine ZBv ?_ ih;split
   ·exact Zzp _
   ·show cl t.1+0≤_;omega
def prodL (mu:κ→κ→κ) (l m:List (Rat × κ)):List (Rat × κ):=l.flatMap λs=>m.map λt=>(s.1*t.1,mu s.2 t.2)
theorem Zuo (mu:κ→κ→κ) (s:Rat × κ) (l m:List (Rat × κ)):prodL mu (s :: l) m=(m.map λt=>(s.1*t.1,mu s.2 t.2))++prodL mu l m:=rfl
theorem Zwv {mu:κ→κ→κ} {l m:List (Rat × κ)} {u:Rat × κ} (h:u∈prodL mu l m):∃s∈l,∃t∈m,u=(s.1*t.1,mu s.2 t.2):=by
 obtain⟨s,hs,hu⟩:=List.mem_flatMap.1 h;obtain⟨t,ht,rfl⟩:=List.mem_map.1 hu;exact⟨s,hs,t,ht,rfl⟩
theorem NB.prodL {mu:κ→κ→κ} {D B E C:Nat} {l m:List (Rat × κ)} (h:NB D B l) (k:NB E C m):NB (D*E) (B*C) (prodL mu l m):=by
 refine⟨λu hu=>?_,Zzi ?_ (ZBz h.2 k.2)⟩
 ·obtain⟨s,hs,t,ht,rfl⟩:=Zwv hu;exact Zr6 (h.1 s hs) (k.1 t ht)
 ·clear h k
  induction l with
  | nil=>exact Zzp _
  | cons s l ih =>
    rw [Zuo,Zxl,Za7,Zz5];refine ZBv ?_ ih;clear ih
    induction m with
    | nil=>exact Zzp _
    | cons t m ih =>
      rw [Zz3,Za7,Za7,ZAi];exact ZBv (Zyx _ _) ih
end
section
variable {κ:Type}
end
section
variable {κ:Type} {lt:κ→κ→Prop} [DecidableRel lt] {D:κ→Prop}
end
structure RG {κ:Type} (D:κ→Prop) (cmp:κ→κ→Int) (mu:κ→κ→κ) (e:κ):Prop where
 o:CO cmp
 comm:∀a b,mu a b=mu b a
 assoc:∀a b c,mu (mu a b) c=mu a (mu b c)
 one:∀a,D a→mu a e=a
 cl:∀a b,D a→D b→D (mu a b)
 de:D e
section
variable {κ:Type} {D:κ→Prop} {cmp:κ→κ→Int} {mu:κ→κ→κ} {e:κ}
abbrev SQ (D:κ→Prop) (cmp:κ→κ→Int) (p:List (Rat × κ)):Prop:=Srt D (λx y=>cmp y x < 0) p
abbrev adG (cmp:κ→κ→Int) (p q:List (Rat × κ)):List (Rat × κ):=addP (λx y=>cmp y x < 0) p q
def mlG (cmp:κ→κ→Int) (mu:κ→κ→κ) (p q:List (Rat × κ)):List (Rat × κ):=sumG cmp (prodL mu p q)
def pwG (cmp:κ→κ→Int) (mu:κ→κ→κ) (e:κ) (a:List (Rat × κ)):Nat→List (Rat × κ)
 | 0=>[((1:Rat),e)]
 | n+1=>mlG cmp mu (pwG cmp mu e a n) a
def rfG (cmp:κ→κ→Int) (mu:κ→κ→κ) (e:κ) (P:Nat→List (Rat × κ)) (a d:List (Rat × κ)) (m:Nat):Nat→List (Rat × κ)
 | 0=>[]
 | k+1=>adG cmp (rfG cmp mu e P a d m k) (mlG cmp mu (mlG cmp mu (P k) (pwG cmp mu e a k)) (pwG cmp mu e d (m - k)))
def hnG (cmp:κ→κ→Int) (mu:κ→κ→κ) (e:κ) (P:Nat→List (Rat × κ)) (a d:List (Rat × κ)) (m:Nat):Nat→List (Rat × κ)
 | 0=>[]
 | n+1=>adG cmp (mlG cmp mu (hnG cmp mu e P a d m n) a) (mlG cmp mu (P (m - n)) (pwG cmp mu e d n))
end
end Go.Pol
namespace Go.Proofs.YtenfejhaohihoaaGreat
open Go Go.RowKit Go.Pg Go.Pol Go.Proofs.Tryz
theorem Zxm (p q:Po):n1 (addM p q)≤n1 p+n1 q:=by
 show n1 (addP ltM p q)≤_
 fun_induction addP ltM p q with
 | case1 q=>exact Nat.le_add_left _ _
 | case2 s p=>exact ZDf _ _
 | case3 s p u q h1 ih=>rw [Za7,Za7 s p];omega
 | case4 s p u q h1 h2 ih=>rw [Za7,Za7 u q];omega
 | case5 s p u q h1 h2 h3 ih=>rw [Za7,Za7];omega
 | case6 s p u q h1 h2 h3 ih=>rw [Za7,Za7 s,Za7 u];have:=Zyy s.1 u.1;simp only;omega
theorem n1_times (p:Po) (t:Tm):n1 (Zah mulM p t)≤n1 p*cl t.1:=by
 induction p with
 | nil=>exact Zzp _
 | cons s p ih =>
   show cl (s.1*t.1)+n1 (Zah mulM p t)≤(cl s.1+n1 p)*cl t.1;rw [Zz5];exact ZBv (Zyx _ _) ih
structure NE (p:Po) (D B e v:Nat):Prop where
 s:SrtM p
 d:∀t∈p,t.1.den ∣ D
 b:n1 p≤B
 m:∀t∈p,t.2.length≤v∧∀j,gI t.2 j≤(e:Int)
theorem NE.mono {p:Po} {D B e v E C f w:Nat} (h:NE p D B e v) (hd:D ∣ E) (hb:B≤C) (he:e≤f) (hv:v≤w):NE p E C f w :=
 ⟨h.s,λt ht=>Nat.dvd_trans (h.d t ht) hd,Zzi h.b hb,λt ht=>⟨Zzi (h.m t ht).1 hv,λj=>by have:=(h.m t ht).2 j;omega⟩⟩
theorem NE.nil {D B e v:Nat}:NE [] D B e v:=⟨.nil,λt h=>(by cases h),Zzp _,λt h=>(by cases h)⟩
theorem NE.add {p q:Po} {D B C e f v:Nat} (h:NE p D B e v) (g:NE q D C f v):NE (addM p q) D (B+C) (max e f) v:=by
 refine⟨Za4 ordM h.s g.s,λt ht=>?_,Zzi (Zxm p q) (ZBv h.b g.b),λt ht=>?_⟩
 ·rcases Zf8 ht with k | k | ⟨s,hs,u,hu,rfl⟩
  ·exact h.d t k
  ·exact g.d t k
  ·exact Znv (h.d s hs) (g.d u hu)
 ·rcases Zf8 ht with k | k | ⟨s,hs,u,hu,rfl⟩
  ·exact⟨(h.m t k).1,λj=>by have:=(h.m t k).2 j;omega⟩
  ·exact⟨(g.m t k).1,λj=>by have:=(g.m t k).2 j;omega⟩
  ·exact⟨(h.m s hs).1,λj=>by have:=(h.m s hs).2 j;simp only;omega⟩
theorem NE.neg {p:Po} {D B e v:Nat} (h:NE p D B e v):NE (Zas (-1) p) D B e v:=by
 have hn:NB (D*1) (n1 p*cl (-1)) (Zas (-1) p):=NB.scale ⟨h.d,Zze _⟩ zd;refine⟨Zbd h.s neg1,λt ht=>by have:=hn.1 t ht;rwa [ZBx] at this,?_,λt ht=>?_⟩
 ·have:=hn.2;rw [show cl (-1)=1 from rfl,ZBx] at this;exact Zzi this h.b
 ·obtain⟨s,hs,rfl⟩:=List.mem_map.1 ht;exact h.m s hs
theorem NE.sub {p q:Po} {D B C e f v:Nat} (h:NE p D B e v) (g:NE q D C f v):NE (subM p q) D (B+C) (max e f) v:=h.add g.neg
theorem ne_times {p:Po} {t:Tm} {D E B e f v:Nat} (h:NE p D B e v) (ht:t.1.den ∣ E) (hm:t.2.length≤v∧∀j,gI t.2 j≤(f:Int)) :
 (∀u∈Zah mulM p t,u.1.den ∣ D*E)∧∀u∈Zah mulM p t,u.2.length≤v∧∀j,gI u.2 j≤((e+f:Nat):Int):=by
 constructor
 ·intro u hu;obtain⟨s,hs,rfl⟩:=List.mem_map.1 hu;exact Zr6 (h.d s hs) ht
 ·intro u hu;obtain⟨s,hs,rfl⟩:=List.mem_map.1 hu;refine⟨?_,λj=>?_⟩
  ·show(mulM s.2 t.2).length≤v;rw [Zgn];have:=(h.m s hs).1;omega
  ·show gI (mulM s.2 t.2) j≤_;rw [Zft _ rfl];have:=(h.m s hs).2 j;have:=hm.2 j;omega
theorem Zxg {p:Po} {D E B e f v:Nat} (h:NE p D B e v):∀(q out:Po),(∀t∈q,t.1.den ∣ E)→(∀t∈q,t.2.length≤v∧∀j,gI t.2 j≤(f:Int))→(∀t∈out,t.1.den ∣ D*E)→(∀t∈out,t.2.length≤v∧∀j,gI t.2 j≤((e+f:Nat):Int)) →
 (∀t∈q.foldl (λout t=>addP ltM out (Zah mulM p t)) out,t.1.den ∣ D*E)∧n1 (q.foldl (λout t=>addP ltM out (Zah mulM p t)) out)≤n1 out+n1 p*n1 q∧∀t∈q.foldl (λout t=>addP ltM out (Zah mulM p t)) out,t.2.length≤v∧∀j,gI t.2 j≤((e+f:Nat):Int)
 | [],out,_,_,h1,h2=>⟨h1,ZDf _ _,h2⟩
 | t :: q,out,hq,hm,h1,h2=>by
   obtain⟨k1,k2⟩:=ne_times h (hq t (.head _)) (hm t (.head _));have k3:=n1_times p t;have k4:=Zxm out (Zah mulM p t);obtain⟨r1,r2,r3⟩:=Zxg h q (addP ltM out (Zah mulM p t)) (λu hu=>hq u (.tail _ hu)) (λu hu=>hm u (.tail _ hu))
    (λu hu=>by
     rcases Zf8 hu with k | k | ⟨s,hs,w,hw,rfl⟩
     ·exact h1 u k
     ·exact k1 u k
     ·exact Znv (h1 s hs) (k1 w hw))
    (λu hu=>by
     rcases Zf8 hu with k | k | ⟨s,hs,w,hw,rfl⟩
     ·exact h2 u k
     ·exact k2 u k
     ·exact h2 s hs)
   refine⟨r1,Zzi r2 ?_,r3⟩;rw [Za7,ZAi];have k4:n1 (addP ltM out (Zah mulM p t))≤n1 out+n1 (Zah mulM p t):=k4;omega
theorem NE.mul {p q:Po} {D E B C e f v:Nat} (h:NE p D B e v) (g:NE q E C f v):NE (mlM p q) (D*E) (B*C) (e+f) v:=by
 obtain⟨r1,r2,r3⟩:=Zxg h q [] g.d g.m (λt h=>by cases h) (λt h=>by cases h);refine⟨Zam ordM mulK h.s g.s,r1,Zzi r2 ?_,r3⟩;rw [show n1 ([]:Po)=0 from rfl,ZAf];exact ZBz h.b g.b
theorem bq_pow {x:Rat} {D B:Nat} (h:BQ D B x) (hB:1≤B) {e:Nat}:∀n,n≤e→BQ (D ^ e) (B ^ e) (x ^ n):=by
 have key:∀n,BQ (D ^ n) (B ^ n) (x ^ n):=λn=>by
  induction n with
  | zero=>rw [Rat.pow_zero];exact BQ.int 1 (by rw [ZD1];decide)
  | succ n ih=>rw [Rat.pow_succ,ZAp,ZAp];exact ih.mul h
 exact λn hn=>(key n).mono (Nat.pow_dvd_pow D hn) (ZAt hB hn)
def sumN (s:Nat→Nat):Nat→Nat
 | 0=>0
 | k+1=>sumN s k+s k
def denE (x:Nat→Rat) (e:Nat):Nat→Nat
 | 0=>1
 | k+1=>denE x e k*(x k).den ^ e
theorem Znw (x:Nat→Rat) (e:Nat):∀k,denE x e k≠0
 | 0=>by unfold denE;omega
 | k+1=>ZCj (Znw x e k) (Nat.ne_of_gt (ZDc (ZBe (x k).den_nz)))
theorem Zqv (s:Nat→Nat) (k:Nat):∀d,sumN s k≤sumN s (k+d)
 | 0=>Zze _
 | d+1=>Zzi (Zqv s k d) (ZDf _ _)
theorem Zl3 {s r:Nat→Nat}:∀k,(∀j,j < k→s j=r j)→sumN s k=sumN r k
 | 0,_=>rfl
 | k+1,h=>by
   show sumN s k+s k=sumN r k+r k;rw [Zl3 k λj hj=>h j zo,h k zo]
theorem Zl2 {s:Nat→Nat} {c:Nat} (k:Nat):∀d,(∀j,k≤j→j < k+d→s j≤c)→sumN s (k+d)≤sumN s k+d*c
 | 0,_=>by rw [ZDr];exact Zze _
 | d+1,h=>by
   have h1:=Zl2 k d λj h1 h2=>h j h1 zo;have h2:=h (k+d) zo zo;show sumN s (k+d)+s (k+d)≤_;rw [ZC1];omega
theorem Zsa {x:Nat→Rat} {s:Nat→Nat} {v e:Nat} (hx:∀j,j < v→Sz (x j) (s j)) {m:List Int} (hm:∀j,gI m j≤(e:Int)):∀k,k≤v→BQ (denE x e k) (65536 ^ (e*sumN s k)) (mvN x m k)
 | 0,_=>BQ.int 1 (by show 1≤_;exact Nat.one_le_pow _ _ zd)
 | k+1,h=>by
   have h1:=Zsa hx hm k zo;have h2:=Zad.1 (hx k zo).1;have h3:BQ (x k).den (65536 ^ s k) (x k):=⟨ZB1 _,Zzi (Nat.le_of_lt h2) (ZCg _ (ZBe (x k).den_nz))⟩;have h4:=bq_pow h3 (Nat.one_le_pow _ _ zd) (e:=e) (gI m k).toNat (by have:=hm k;omega);have h5:=h1.mul h4;rw [←Nat.pow_mul,←ZAw] at h5;show BQ (denE x e k*(x k).den ^ e) (65536 ^ (e*(sumN s k+s k))) (mvN x m k*x k ^ (gI m k).toNat);rw [ZAi,Zz9 e (s k)];exact h5
theorem Zr7 {x:Nat→Rat} {s:Nat→Nat} {v e:Nat} (hx:∀j,j < v→Sz (x j) (s j)):∀k,k≤v→denE x e k≤65536 ^ (e*sumN s k)
 | 0,_=>Nat.one_le_pow _ _ zd
 | k+1,h=>by
   have h1:=Zr7 (e:=e) hx k zo;have h2:=Zad.1 (hx k zo).2;show denE x e k*(x k).den ^ e≤65536 ^ (e*(sumN s k+s k));rw [ZAi,ZAw,Zz9 e (s k),Nat.pow_mul _ (s k) e];exact ZBz h1 (Nat.pow_le_pow_left (Nat.le_of_lt h2) e)
theorem mvN_len (x:Nat→Rat) {m:List Int} {v:Nat} (h:m.length≤v):mvN x m v=mv x m:=by
 have:=Zte x m (v - m.length)
 rwa [show m.length+(v - m.length)=v by omega] at this
theorem bq_evs {x:Nat→Rat} {s:Nat→Nat} {v e D:Nat} (hx:∀j,j < v→Sz (x j) (s j)):∀p:Po,(∀t∈p,t.1.den ∣ D)→(∀t∈p,t.2.length≤v∧∀j,gI t.2 j≤(e:Int))→BQ (D*denE x e v) (n1 p*65536 ^ (e*sumN s v)) (evP x p)
 | [],_,_=>by
   rw [show evP x []=((0:Int):Rat) from rfl];exact BQ.int 0 (Zzp _)
 | t :: p,hd,hm=>by
   have h1:=bq_evs hx p (λu hu=>hd u (.tail _ hu)) λu hu=>hm u (.tail _ hu);have h2:=(Zlv (hd t (.head _))).mul (Zsa hx (hm t (.head _)).2 v (Zze _));rw [mvN_len x (hm t (.head _)).1] at h2;have h3:=h2.add h1;rw [←Zz5] at h3;exact h3
theorem Zhs {D d E n:Nat} (h:D < 65536 ^ d) (hE:E≤65536 ^ n):D*E < 65536 ^ (d+n):=by
 rw [ZAw];exact ZCp (ZBb _ hE) (ZDz h (ZDc zd))
theorem ne_szs {p:Po} {D B e v:Nat} (h:NE p D B e v) {x:Nat→Rat} {s:Nat→Nat} (hx:∀j,j < v→Sz (x j) (s j)) {d b S K:Nat} (h0:D≠0) (hD:D < 65536 ^ d) (hB:B < 65536 ^ b) (hS:sumN s v≤S) (hK:d+b+2*(e*S)≤K) :
 (∀t∈p,∀k,k≤t.2.length→Sz (t.1*mvN x t.2 k) K)∧∀i,i≤p.length→Sz (evP x (p.take i)) K:=by
 have hes:e*sumN s v≤e*S:=ZBb _ hS;constructor
 ·intro t ht k hk;have hkv:k≤v:=Zzi hk (h.m t ht).1;have h1:=(Zlv (h.d t ht)).mul (Zsa hx (h.m t ht).2 k hkv)
  have hek:sumN s k≤sumN s v:=by
   have:=Zqv s k (v - k)
   rwa [show k+(v - k)=v by omega] at this
  have hek:e*sumN s k≤e*sumN s v:=ZBb _ hek;have hcb:cl t.1 < 65536 ^ b:=ZCp (Zzi (n1_mem ht) h.b) hB;exact(bq_sz h1 (ZCj h0 (Znw x e k)) (Zhs hD (Zr7 hx k hkv)) (Zhs hcb (Zze _))).mono zo
 ·intro i hi;have h1:=bq_evs hx (p.take i) (λt ht=>h.d t (ZAq ht)) λt ht=>h.m t (ZAq ht);have hn:n1 (p.take i) < 65536 ^ b:=ZCp (Zzi (Zxj p i) h.b) hB;exact(bq_sz h1 (ZCj h0 (Znw x e v)) (Zhs hD (Zr7 hx v (Zze _))) (Zhs hn (Zze _))).mono zo
end Go.Proofs.YtenfejhaohihoaaGreat
namespace Go.Proofs.YtenfejhaohihoaaGreat
open Go Go.RowKit Go.Pg Go.Proofs.Tryz
attribute [-bool_to_prop] Bool.and_eq_decide Bool.or_eq_decide Bool.decide_beq_decide decide_eq_decide
attribute [go_sem] underlying69 szSlStr zSlStr szCond byCond zCond
attribute [local go_sem] Zcf Zcy Zec Zc6
structure RC where
 k:Int
 ar:List Int
 st:Int
abbrev RC.av (c:RC):AV:=.agg [iv c.k,ivs c.ar,iv c.st]
def cAr (k:Int):Int:=if k=1 then 2 else if k=2 then 3 else if k=3 then 4 else if k=4 then 0 else -1
def cErr (k:Int) (ar:List Int) (n:Nat):Int:=if cAr k < 0 then 8 else if (ar.length:Int)≠cAr k then 1 else if outB n ar=true then 2 else 0
def lineB (a b:ByteArray):ByteArray:=if 1 < a.size∨1 < b.size then ⟨#[40]⟩++a++⟨#[32]⟩++b++⟨#[41]⟩ else a++b
def cTxt (k:Int) (x y z w:ByteArray):ByteArray :=
 if k=1 then x++⟨#[32,33,61,32]⟩++y
 else if k=2 then x++⟨#[44,32]⟩++y++⟨#[44,32]⟩++z++⟨#[32,97,114,101,32,110,111,116,32,99,111,108,108,105,110,101,97,114]⟩
 else lineB x y++⟨#[32,97,110,100,32]⟩++lineB z w++⟨#[32,97,114,101,32,110,111,116,32,112,97,114,97,108,108,101,108]⟩
abbrev nmA (ss:List ByteArray) (j:Int):ByteArray:=ss.getD j.toNat ByteArray.empty
def cRes (c:RC) (ss:List ByteArray):AV :=
 if cErr c.k c.ar ss.length≠0 then .tup [strA ⟨#[]⟩,iv (cErr c.k c.ar ss.length)]
 else if c.k=4 then (if c.st < 0∨(ss.length:Int)≤c.st then .tup [strA ⟨#[]⟩,iv 2] else .tup [strA (⟨#[115,108,111,112,101,32,111,102,32]⟩++nmA ss c.st),iv 0])
 else .tup [strA (cTxt c.k (nmA ss (gI c.ar 0)) (nmA ss (gI c.ar 1)) (nmA ss (gI c.ar 2)) (nmA ss (gI c.ar 3))),iv 0]
attribute [go_sem] underlying27 underlying33 zSlR zSlB szIns zIns
attribute [local go_sem] Zbm Zbo Zbn Zl1 Zt4 Zqt Zqu
def eqP (p q:PQ):Bool:=decide (p.1=q.1) && decide (p.2=q.2)
abbrev ptN (ps:List PQ) (j:Int):PQ:=ps.getD j.toNat (0,0)
def cHld (k:Int) (x y z w:PQ):Bool :=
 if k=1 then !eqP x y
 else if k=2 then !decide ((Zbs x y x z).num.sign=0)
 else if k=3 then !decide ((Zbs x y z w).num.sign=0)
 else true
def hRes (c:RC) (ps:List PQ):AV :=
 if cErr c.k c.ar ps.length≠0 then .tup [.v (.bool false),iv (cErr c.k c.ar ps.length)]
 else .tup [.v (.bool (cHld c.k (ptN ps (gI c.ar 0)) (ptN ps (gI c.ar 1)) (ptN ps (gI c.ar 2)) (ptN ps (gI c.ar 3)))),iv 0]
theorem Zwx (p q:PQ) {j:Nat} (hp:p.sz j) (hq:q.sz j) (hj:j≤1000000000):Pure prog 56 [p.av,q.av] (.v (.bool (eqP p q))):=by
 have c1:=Zsz p.1 q.1 hp.1 hq.1 zo zo;have c2:=Zsz p.2 q.2 hp.2 hq.2 zo zo;unfold eqP;clear hp hq;obtain⟨a,b⟩:=p;obtain⟨c,d⟩:=q;simp only at *;generalize decide (a=c)=u at *;generalize decide (b=d)=v at *;cases u;all_goals
  refine pI func56 rfl ntmps56 results56 call56 ?_;(focus (refine wklp w_t (w_2 c1 c2) w_t (w_r 0) ?_;(repeat' first|exact w_t|apply w_l);all_goals intros))
theorem Zit (p q:PQ) {j:Nat} (hp:p.sz j) (hq:q.sz j) (hj:j≤1000000000):Pure prog 143 [p.av,q.av] (.v (.bool (eqP p q))):=by
 have c1:=Zs1 p.1 q.1 hp.1 hq.1 zo zo;have c2:=Zs1 p.2 q.2 hp.2 hq.2 zo zo;unfold eqP;clear hp hq;obtain⟨a,b⟩:=p;obtain⟨c,d⟩:=q;simp only at *;generalize decide (a=c)=u at *;generalize decide (b=d)=v at *;cases u;all_goals
  refine pI func143 rfl ntmps143 results143 call143 ?_;(focus (refine wklp w_t (w_2 c1 c2) w_t (w_r 0) ?_;(repeat' first|exact w_t|apply w_l);all_goals intros))
def RQ.four (r:RQ):Bool:=decide (r.l.length≤4) && decide (r.d.length≤4)
def RP.fine (p:RP):Bool:=p.x.four && (p.y.four && (p.x.ok && p.y.ok))
def fineB (ps:List RP):Bool:=decide (ps.length≤12) && ps.all RP.fine
end Go.Proofs.YtenfejhaohihoaaGreat
namespace Go.Proofs.YtenfejhaohihoaaGreat
open Go Go.RowKit Go.Pg Go.Pol Go.Proofs.Tryz
attribute [-bool_to_prop] Bool.and_eq_decide Bool.or_eq_decide Bool.decide_beq_decide decide_eq_decide
attribute [local go_sem] Zcf Zbm Zbn Zbo Zfb Zbu Zfv Zc4 Zbq Zbt Zcw Zbg Zbh Zcj Zd0 Za5 Zb4 Zdl Zdt Zdd
theorem Znt {p q:PQ} (h:eqP p q=false):dotP p q p q≠0:=λh0=>by
 unfold dotP at h0;obtain⟨h1,h2⟩:=sqs0 h0;have e:p=q:=Prod.ext (by grind) (by grind);subst e;unfold eqP at h;simp at h
abbrev pt0:AV:=.agg [.v (.bool false),.v (.slice none 0 0),.v (.slice none 0 0),.v (.bool false),.v (.slice none 0 0),.v (.slice none 0 0)]
def Zf0 (p a b:PQ):PQ:=Zgf a b (dotP a b a p/dotP a b a b)
def mirP (p a b:PQ):PQ:=((Zf0 p a b).1+1*((Zf0 p a b).1 - p.1),(Zf0 p a b).2+1*((Zf0 p a b).2 - p.2))
def Zxt (a b c d:PQ):PQ:=Zgf a b (Zbs a c c d/Zbs a b c d)
def othP (p q o:PQ):PQ:=Zgf p q (2*dotP p o p q/dotP p q p q)
def cenP (a b c:PQ):PQ:=(a.1+1/(2*Zbs a b a c)*(dotP a b a b*(c.2 - a.2) - dotP a c a c*(b.2 - a.2)),a.2+1/(2*Zbs a b a c)*(dotP a c a c*(b.1 - a.1) - dotP a b a b*(c.1 - a.1)))
def oncS (o a:PQ) (t:Rat):Rat:=2*((o.1 - a.1)*1+(o.2 - a.2)*t)/(1*1+t*t)
def oncP (o a:PQ) (t:Rat):PQ:=(a.1+oncS o a t*1,a.2+oncS o a t*t)
theorem r13QuoV (a b q:Rat) (e:Int) (c1:Pure prog 197 [ratQ a,ratQ b] (.tup [ratQ q,iv e])):Pure prog 141 [ratQ a,ratQ b] (ratQ q):=by
 refine pI func141 rfl ntmps141 results141 call141 ?_;(focus (refine wkap w_t (w_1 c1) (w_r 0) ?_;(repeat' first|exact w_t|apply w_l);all_goals intros));all_goals exact gL
theorem Zis (a b:Rat) {j k:Nat} (ha:Sz a j) (hb:Sz b k) (hj:j≤20000000000) (hk:k≤20000000000) (h0:b≠0):Pure prog 141 [ratQ a,ratQ b] (ratQ (a/b)):=r13QuoV a b (a/b) 0 (qDiv a b ha hb hj hk h0)
theorem r13NormV (a1 a2 b1 b2 u1 u2 n:Rat) (c1:Pure prog 140 [ptQ a1 a2,ptQ b1 b2] (ptQ u1 u2)) (c2:Pure prog 142 [ptQ u1 u2,ptQ u1 u2] (ratQ n)):Pure prog 145 [ptQ a1 a2,ptQ b1 b2] (ratQ n):=by
 refine pI func145 rfl ntmps145 results145 call145 ?_;(focus (refine wkad w_t (w_2 c1 c2) (w_1 (w_d 1 [(2,ptQ u1 u2),(5,ptQ u1 u2),(6,ratQ n)] [] [4])) ?_;(repeat' first|exact w_t|apply w_l);all_goals intros));all_goals exact gL
theorem Zm5 (p q:PQ) {j:Nat} (hp:p.sz j) (hq:q.sz j) (hj:j≤1000000000):Pure prog 145 [p.av,q.av] (ratQ (dotP p q p q)) :=
 r13NormV _ _ _ _ _ _ _ (Zee p.1 p.2 q.1 q.2 hp.1 hp.2 hq.1 hq.2 zo) (Zgw (q.1 - p.1) (q.2 - p.2) (q.1 - p.1) (q.2 - p.2) (hq.1.sub hp.1) (hq.2.sub hp.2) (hq.1.sub hp.1) (hq.2.sub hp.2) zo)
theorem r13FootV (p1 p2 a1 a2 b1 b2 u1 u2 w1 w2 n d s x y:Rat) (c0:Pure prog 143 [ptQ a1 a2,ptQ b1 b2] (.v (.bool false))) (c1:Pure prog 140 [ptQ a1 a2,ptQ b1 b2] (ptQ u1 u2)) (c2:Pure prog 140 [ptQ a1 a2,ptQ p1 p2] (ptQ w1 w2)) (c3:Pure prog 142 [ptQ u1 u2,ptQ w1 w2] (ratQ n)) (c4:Pure prog 142 [ptQ u1 u2,ptQ u1 u2] (ratQ d)) (c5:Pure prog 141 [ratQ n,ratQ d] (ratQ s)) (c6:Pure prog 139 [ptQ a1 a2,ratQ s,ptQ u1 u2] (ptQ x y)):Pure prog 81 [ptQ p1 p2,ptQ a1 a2,ptQ b1 b2] (.tup [ptQ x y,iv 0]):=by
 refine pI func81 rfl ntmps81 results81 call81 ?_;(focus (refine wkad w_t (w_7 c0 c1 c2 c3 c4 c5 c6) (w_1 (w_d 4 [(4,ptQ w1 w2),(5,ratQ n),(8,ratQ d),(9,ratQ s),(11,ptQ x y)] [] [6])) ?_;(repeat' first|exact w_t|apply w_l);all_goals intros));all_goals exact gL
theorem r13Foot0 (p1 p2 a1 a2 b1 b2:Rat) (c0:Pure prog 143 [ptQ a1 a2,ptQ b1 b2] (.v (.bool true))):Pure prog 81 [ptQ p1 p2,ptQ a1 a2,ptQ b1 b2] (.tup [pt0,iv 11]):=by
 refine pI func81 rfl ntmps81 results81 call81 ?_;(focus (refine wkad w_t (w_1 c0) w_t ?_;(repeat' first|exact w_t|apply w_l);all_goals intros));all_goals exact gL
theorem Zwr (p a b:PQ) {j:Nat} (hp:p.sz j) (ha:a.sz j) (hb:b.sz j) (hj:j≤100000000):Pure prog 81 [p.av,a.av,b.av] (if eqP a b=true then .tup [pt0,iv 11] else .tup [(Zf0 p a b).av,iv 0]):=by
 have c0:=Zit a b ha hb zo
 cases h:eqP a b with
 | true=>rw [h] at c0;exact r13Foot0 _ _ _ _ _ _ c0
 | false =>
   rw [h] at c0;have z1:=Zci ha hb ha hp;have z2:=Zci ha hb ha hb;exact r13FootV _ _ _ _ _ _ _ _ _ _ _ _ _ _ _ c0 (Zee a.1 a.2 b.1 b.2 ha.1 ha.2 hb.1 hb.2 zo) (Zee a.1 a.2 p.1 p.2 ha.1 ha.2 hp.1 hp.2 zo) (Zgw (b.1 - a.1) (b.2 - a.2) (p.1 - a.1) (p.2 - a.2) (hb.1.sub ha.1) (hb.2.sub ha.2) (hp.1.sub ha.1) (hp.2.sub ha.2) zo) (Zgw (b.1 - a.1) (b.2 - a.2) (b.1 - a.1) (b.2 - a.2) (hb.1.sub ha.1) (hb.2.sub ha.2) (hb.1.sub ha.1) (hb.2.sub ha.2) zo) (Zis _ _ z1 z2 zo zo (Znt h)) (Zdg a.1 a.2 _ (b.1 - a.1) (b.2 - a.2) (j:=16*j+10) (ha.1.mono zo) (ha.2.mono zo) ((z1.div z2).mono zo) ((hb.1.sub ha.1).mono zo) ((hb.2.sub ha.2).mono zo) zo)
theorem Zy8 {a b:PQ} {r:Rat} {j k:Nat} (ha:a.sz j) (hb:b.sz j) (hr:Sz r k):(Zgf a b r).sz (3*j+k+2):=⟨(ha.1.add (hr.mul (hb.1.sub ha.1))).mono zo,(ha.2.add (hr.mul (hb.2.sub ha.2))).mono zo⟩
theorem Ztu {p a b:PQ} {j:Nat} (hp:p.sz j) (ha:a.sz j) (hb:b.sz j) (h:eqP a b=false):(Zf0 p a b).sz (19*j+12):=by
 have:=Zy8 ha hb ((Zci ha hb ha hp).div (Zci ha hb ha hb));exact⟨this.1.mono zo,this.2.mono zo⟩
theorem r13MirV (p1 p2 a1 a2 b1 b2 f1 f2 u1 u2 x y:Rat) (c0:Pure prog 81 [ptQ p1 p2,ptQ a1 a2,ptQ b1 b2] (.tup [ptQ f1 f2,iv 0])) (c1:Pure prog 42 [iv 1] (ratQ 1)) (c2:Pure prog 140 [ptQ p1 p2,ptQ f1 f2] (ptQ u1 u2)) (c3:Pure prog 139 [ptQ f1 f2,ratQ 1,ptQ u1 u2] (ptQ x y)):Pure prog 82 [ptQ p1 p2,ptQ a1 a2,ptQ b1 b2] (.tup [ptQ x y,iv 0]):=by
 generalize (1:Rat)=o at *;refine pI func82 rfl ntmps82 results82 call82 ?_;(focus (refine wkad w_t (w_4 c0 c1 c2 c3) (w_1 (w_d 4 [(1,ratQ o),(4,ptQ u1 u2),(5,ptQ x y)] [] [6])) ?_;(repeat' first|exact w_t|apply w_l);all_goals intros));all_goals exact gL
theorem r13Mir0 (p1 p2 a1 a2 b1 b2:Rat) (c0:Pure prog 81 [ptQ p1 p2,ptQ a1 a2,ptQ b1 b2] (.tup [pt0,iv 11])):Pure prog 82 [ptQ p1 p2,ptQ a1 a2,ptQ b1 b2] (.tup [pt0,iv 11]):=by
 refine pI func82 rfl ntmps82 results82 call82 ?_;(focus (refine wkad w_t (w_1 c0) w_t ?_;(repeat' first|exact w_t|apply w_l);all_goals intros));all_goals exact gL
theorem r13Mir (p a b:PQ) {j:Nat} (hp:p.sz j) (ha:a.sz j) (hb:b.sz j) (hj:j≤100000000):Pure prog 82 [p.av,a.av,b.av] (if eqP a b=true then .tup [pt0,iv 11] else .tup [(mirP p a b).av,iv 0]):=by
 have c0:=Zwr p a b hp ha hb hj
 cases h:eqP a b with
 | true=>rw [h,Zzc rfl] at c0;exact r13Mir0 _ _ _ _ _ _ c0
 | false =>
   rw [h,Zzb zd] at c0;have z:=Ztu hp ha hb h;exact r13MirV _ _ _ _ _ _ _ _ _ _ _ _ c0 (qOf 1 zo) (Zee p.1 p.2 (Zf0 p a b).1 (Zf0 p a b).2 (j:=19*j+12) (hp.1.mono zo) (hp.2.mono zo) z.1 z.2 zo) (Zdg (Zf0 p a b).1 (Zf0 p a b).2 1 _ _ (j:=20*j+13) (z.1.mono zo) (z.2.mono zo) ((Zco 1 zo).mono zo) ((z.1.sub hp.1).mono zo) ((z.2.sub hp.2).mono zo) zo)
theorem r13MeetV (a1 a2 b1 b2 g1 g2 d1 d2 n m s u1 u2 x y:Rat) (c0:Pure prog 148 [ptQ a1 a2,ptQ b1 b2,ptQ g1 g2,ptQ d1 d2] (ratQ n)) (cs:Pure prog 14 [ratQ n] (iv n.num.sign)) (hn:¬n.num.sign=0) (c1:Pure prog 148 [ptQ a1 a2,ptQ g1 g2,ptQ g1 g2,ptQ d1 d2] (ratQ m)) (c2:Pure prog 141 [ratQ m,ratQ n] (ratQ s)) (c3:Pure prog 140 [ptQ a1 a2,ptQ b1 b2] (ptQ u1 u2)) (c4:Pure prog 139 [ptQ a1 a2,ratQ s,ptQ u1 u2] (ptQ x y)):Pure prog 83 [ptQ a1 a2,ptQ b1 b2,ptQ g1 g2,ptQ d1 d2] (.tup [ptQ x y,iv 0]):=by
 generalize n.num.sign=z at *;refine pI func83 rfl ntmps83 results83 call83 ?_;(focus (refine wkad (w_1 hn) (w_6 c0 cs c1 c2 c3 c4) (w_1 (w_d 4 [(5,ratQ m),(7,ratQ s),(10,ptQ u1 u2),(11,ptQ x y)] [] [8])) ?_;(repeat' first|exact w_t|apply w_l);all_goals intros));all_goals exact gL
theorem r13Meet0 (a1 a2 b1 b2 g1 g2 d1 d2 n:Rat) (c0:Pure prog 148 [ptQ a1 a2,ptQ b1 b2,ptQ g1 g2,ptQ d1 d2] (ratQ n)) (cs:Pure prog 14 [ratQ n] (iv 0)):Pure prog 83 [ptQ a1 a2,ptQ b1 b2,ptQ g1 g2,ptQ d1 d2] (.tup [pt0,iv 11]):=by
 refine pI func83 rfl ntmps83 results83 call83 ?_;(focus (refine wkad w_t (w_2 c0 cs) w_t ?_;(repeat' first|exact w_t|apply w_l);all_goals intros));all_goals exact gL
theorem r13Meet (a b c d:PQ) {j:Nat} (ha:a.sz j) (hb:b.sz j) (hc:c.sz j) (hd:d.sz j) (hj:j≤100000000):Pure prog 83 [a.av,b.av,c.av,d.av] (if Zbs a b c d=0 then .tup [pt0,iv 11] else .tup [(Zxt a b c d).av,iv 0]):=by
 have c0:=Zoy a b c d ha hb hc hd zo;have z:=Zgd ha hb hc hd;have z1:=Zgd ha hc hc hd;have cs:=Zra (Zbs a b c d) z zo;by_cases h:Zbs a b c d=0
 ·rw [Zzc h];rw [h] at c0 cs;exact r13Meet0 _ _ _ _ _ _ _ _ _ c0 cs
 ·rw [Zzb h];exact r13MeetV _ _ _ _ _ _ _ _ _ _ _ _ _ _ _ c0 cs (λe=>h (by rw [←Rat.num_eq_zero];exact Int.sign_eq_zero_iff_zero.1 e)) (Zoy a c c d ha hc hc hd zo) (Zis _ _ z1 z zo zo h) (Zee a.1 a.2 b.1 b.2 ha.1 ha.2 hb.1 hb.2 zo) (Zdg a.1 a.2 _ (b.1 - a.1) (b.2 - a.2) (j:=16*j+10) (ha.1.mono zo) (ha.2.mono zo) ((z1.div z).mono zo) ((hb.1.sub ha.1).mono zo) ((hb.2.sub ha.2).mono zo) zo)
theorem sz_2:Sz (2:Rat) 1:=Zco 2 zo
theorem r13OthV (p1 p2 q1 q2 o1 o2 u1 u2 w1 w2 t2 n m d s x y:Rat) (c0:Pure prog 143 [ptQ p1 p2,ptQ q1 q2] (.v (.bool false))) (c1:Pure prog 140 [ptQ p1 p2,ptQ q1 q2] (ptQ u1 u2)) (c2:Pure prog 42 [iv 2] (ratQ t2)) (c3:Pure prog 140 [ptQ p1 p2,ptQ o1 o2] (ptQ w1 w2)) (c4:Pure prog 142 [ptQ w1 w2,ptQ u1 u2] (ratQ n)) (c5:Pure prog 43 [ratQ t2,ratQ n] (ratQ m)) (c6:Pure prog 142 [ptQ u1 u2,ptQ u1 u2] (ratQ d)) (c7:Pure prog 141 [ratQ m,ratQ d] (ratQ s)) (c8:Pure prog 139 [ptQ p1 p2,ratQ s,ptQ u1 u2] (ptQ x y)):Pure prog 84 [ptQ p1 p2,ptQ q1 q2,ptQ o1 o2] (.tup [ptQ x y,iv 0]):=by
 refine pI func84 rfl ntmps84 results84 call84 ?_;(focus (refine wkad w_t (w_9 c0 c1 c2 c3 c4 c5 c6 c7 c8) (w_1 (w_d 4 [(0,ratQ t2),(3,ptQ w1 w2),(5,ratQ n),(6,ratQ m),(9,ratQ d),(10,ratQ s)] [] [])) ?_;(repeat' first|exact w_t|apply w_l);all_goals intros));all_goals exact gL
theorem r13Oth0 (p1 p2 q1 q2 o1 o2:Rat) (c0:Pure prog 143 [ptQ p1 p2,ptQ q1 q2] (.v (.bool true))):Pure prog 84 [ptQ p1 p2,ptQ q1 q2,ptQ o1 o2] (.tup [pt0,iv 11]):=by
 refine pI func84 rfl ntmps84 results84 call84 ?_;(focus (refine wkad w_t (w_1 c0) w_t ?_;(repeat' first|exact w_t|apply w_l);all_goals intros));all_goals exact gL
theorem r13Oth (p q o:PQ) {j:Nat} (hp:p.sz j) (hq:q.sz j) (ho:o.sz j) (hj:j≤100000000):Pure prog 84 [p.av,q.av,o.av] (if eqP p q=true then .tup [pt0,iv 11] else .tup [(othP p q o).av,iv 0]):=by
 have c0:=Zit p q hp hq zo
 cases h:eqP p q with
 | true=>rw [h] at c0;exact r13Oth0 _ _ _ _ _ _ c0
 | false =>
   rw [h] at c0;have z1:=Zci hp ho hp hq;have z2:=Zci hp hq hp hq;have z3:=(sz_2).mul z1;exact r13OthV _ _ _ _ _ _ _ _ _ _ _ _ _ _ _ _ _ c0 (Zee p.1 p.2 q.1 q.2 hp.1 hp.2 hq.1 hq.2 zo) (qOf 2 zo) (Zee p.1 p.2 o.1 o.2 hp.1 hp.2 ho.1 ho.2 zo) (Zgw (o.1 - p.1) (o.2 - p.2) (q.1 - p.1) (q.2 - p.2) (ho.1.sub hp.1) (ho.2.sub hp.2) (hq.1.sub hp.1) (hq.2.sub hp.2) zo) (qMul 2 (dotP p o p q) sz_2 z1 zo zo) (Zgw (q.1 - p.1) (q.2 - p.2) (q.1 - p.1) (q.2 - p.2) (hq.1.sub hp.1) (hq.2.sub hp.2) (hq.1.sub hp.1) (hq.2.sub hp.2) zo) (Zis _ _ z3 z2 zo zo (Znt h)) (Zdg p.1 p.2 _ (q.1 - p.1) (q.2 - p.2) (j:=17*j+20) (hp.1.mono zo) (hp.2.mono zo) ((z3.div z2).mono zo) ((hq.1.sub hp.1).mono zo) ((hq.2.sub hp.2).mono zo) zo)
theorem r13OncV (o1 o2 a1 a2 t e1 t2 w1 w2 n m d s x y:Rat) (c0:Pure prog 42 [iv 1] (ratQ e1)) (c1:Pure prog 42 [iv 2] (ratQ t2)) (c2:Pure prog 140 [ptQ a1 a2,ptQ o1 o2] (ptQ w1 w2)) (c3:Pure prog 142 [ptQ w1 w2,ptQ e1 t] (ratQ n)) (c4:Pure prog 43 [ratQ t2,ratQ n] (ratQ m)) (c5:Pure prog 142 [ptQ e1 t,ptQ e1 t] (ratQ d)) (c6:Pure prog 141 [ratQ m,ratQ d] (ratQ s)) (c7:Pure prog 139 [ptQ a1 a2,ratQ s,ptQ e1 t] (ptQ x y)):Pure prog 75 [ptQ o1 o2,ptQ a1 a2,ratQ t] (ptQ x y):=by
 refine pI func75 rfl ntmps75 results75 call75 ?_;(focus (refine wkad w_t (w_8 c0 c1 c2 c3 c4 c5 c6 c7) (w_2 (w_d 1 [(0,ratQ e1)] [] []) (w_d 2 [(0,ratQ t2),(3,ptQ w1 w2),(5,ratQ n),(6,ratQ m),(9,ratQ d),(10,ratQ s)] [] [])) ?_;(repeat' first|exact w_t|apply w_l);all_goals intros));all_goals exact gL
theorem one_sq (t:Rat):(1:Rat)*1+t*t≠0:=λh=>absurd (sqs0 h).1 zd
theorem r13Onc (o a:PQ) (t:Rat) {j:Nat} (ho:o.sz j) (ha:a.sz j) (ht:Sz t j) (hj:j≤100000000):Pure prog 75 [o.av,a.av,ratQ t] ((oncP o a t).av):=by
 have z0:=Zco 1 zo;have w1:=ho.1.sub ha.1;have w2:=ho.2.sub ha.2;have zn:=(w1.mul z0).add (w2.mul ht);have zm:=(sz_2).mul zn;have zd:=(z0.mul z0).add (ht.mul ht);exact r13OncV _ _ _ _ _ _ _ _ _ _ _ _ _ _ _ (qOf 1 zo) (qOf 2 zo) (Zee a.1 a.2 o.1 o.2 ha.1 ha.2 ho.1 ho.2 zo) (Zgw (o.1 - a.1) (o.2 - a.2) 1 t (j:=2*j+2) (w1.mono zo) (w2.mono zo) (z0.mono zo) (ht.mono zo) zo) (qMul 2 _ sz_2 zn zo zo) (Zgw 1 t 1 t (j:=j+1) (z0.mono zo) (ht.mono zo) (z0.mono zo) (ht.mono zo) zo) (Zis _ _ zm zd zo zo (one_sq t)) (Zdg a.1 a.2 _ 1 t (j:=10*j+20) (ha.1.mono zo) (ha.2.mono zo) ((zm.div zd).mono zo) (z0.mono zo) (ht.mono zo) zo)
theorem r13CenV (a1 a2 b1 b2 g1 g2 u1 u2 v1 v2 n t2 d k l p q e p' q' f e1 s x y:Rat) (hn:¬n.num.sign=0) (c0:Pure prog 140 [ptQ a1 a2,ptQ b1 b2] (ptQ u1 u2)) (c1:Pure prog 140 [ptQ a1 a2,ptQ g1 g2] (ptQ v1 v2)) (c2:Pure prog 149 [ptQ u1 u2,ptQ v1 v2] (ratQ n)) (c3:Pure prog 14 [ratQ n] (iv n.num.sign)) (c4:Pure prog 42 [iv 2] (ratQ t2)) (c5:Pure prog 43 [ratQ t2,ratQ n] (ratQ d)) (c6:Pure prog 142 [ptQ u1 u2,ptQ u1 u2] (ratQ k)) (c7:Pure prog 142 [ptQ v1 v2,ptQ v1 v2] (ratQ l)) (c8:Pure prog 43 [ratQ k,ratQ v2] (ratQ p)) (c9:Pure prog 43 [ratQ l,ratQ u2] (ratQ q)) (c10:Pure prog 144 [ratQ p,ratQ q] (ratQ e)) (c11:Pure prog 43 [ratQ l,ratQ u1] (ratQ p')) (c12:Pure prog 43 [ratQ k,ratQ v1] (ratQ q')) (c13:Pure prog 144 [ratQ p',ratQ q'] (ratQ f)) (c14:Pure prog 42 [iv 1] (ratQ e1)) (c15:Pure prog 141 [ratQ e1,ratQ d] (ratQ s)) (c16:Pure prog 139 [ptQ a1 a2,ratQ s,ptQ e f] (ptQ x y)):Pure prog 85 [ptQ a1 a2,ptQ b1 b2,ptQ g1 g2] (.tup [ptQ x y,iv 0]):=by
 generalize n.num.sign=z at *;refine pI func85 rfl ntmps85 results85 call85 ?_;(focus (refine wkax (w_1 hn) (w_8 c0 c1 c2 c3 c4 c5 c6 c7) (w_1 (w_d 5 [(0,ratQ t2),(3,ratQ n),(4,ratQ d)] [] [])) w_t w_t w_t w_t (w_r 0) ?_;(repeat' first|exact w_t|apply w_l);all_goals intros));(focus (refine wkax (w_1 hn) (w_9 c8 c9 c10 c11 c12 c13 c14 c15 c16) (w_3 (w_d 8 [(3,ratQ p),(7,ratQ q),(8,ratQ e)] [] []) (w_d 9 [(3,ratQ p'),(7,ratQ q'),(8,ratQ f)] [] []) (w_d 10 [(1,ratQ e1),(3,ratQ s),(7,ptQ x y)] [] [6])) w_t w_t w_t w_y (w_r 0) ?_;(repeat' first|exact w_t|apply w_l);all_goals intros))
 all_goals exact gL
theorem r13Cen0 (a1 a2 b1 b2 g1 g2 u1 u2 v1 v2 n:Rat) (c0:Pure prog 140 [ptQ a1 a2,ptQ b1 b2] (ptQ u1 u2)) (c1:Pure prog 140 [ptQ a1 a2,ptQ g1 g2] (ptQ v1 v2)) (c2:Pure prog 149 [ptQ u1 u2,ptQ v1 v2] (ratQ n)) (c3:Pure prog 14 [ratQ n] (iv 0)):Pure prog 85 [ptQ a1 a2,ptQ b1 b2,ptQ g1 g2] (.tup [pt0,iv 11]):=by
 refine pI func85 rfl ntmps85 results85 call85 ?_;(focus (refine wkad w_t (w_4 c0 c1 c2 c3) w_t ?_;(repeat' first|exact w_t|apply w_l);all_goals intros));all_goals exact gL
theorem r13Cen (a b c:PQ) {j:Nat} (ha:a.sz j) (hb:b.sz j) (hc:c.sz j) (hj:j≤100000000):Pure prog 85 [a.av,b.av,c.av] (if Zbs a b a c=0 then .tup [pt0,iv 11] else .tup [(cenP a b c).av,iv 0]):=by
 have z:=Zgd ha hb ha hc;have cs:=Zra (Zbs a b a c) z zo;have c0:=Zee a.1 a.2 b.1 b.2 ha.1 ha.2 hb.1 hb.2 zo;have c1:=Zee a.1 a.2 c.1 c.2 ha.1 ha.2 hc.1 hc.2 zo;have u1:=hb.1.sub ha.1;have u2:=hb.2.sub ha.2;have v1:=hc.1.sub ha.1;have v2:=hc.2.sub ha.2;have c2:Pure prog 149 [ptQ (b.1 - a.1) (b.2 - a.2),ptQ (c.1 - a.1) (c.2 - a.2)] (ratQ (Zbs a b a c)):=Zs0 _ _ _ _ u1 u2 v1 v2 zo;by_cases h:Zbs a b a c=0
 ·rw [Zzc h];rw [h] at c2 cs;exact r13Cen0 _ _ _ _ _ _ _ _ _ _ _ c0 c1 c2 cs
 ·rw [Zzb h];have zD:=sz_2.mul z;have zk:=Zci ha hb ha hb;have zl:=Zci ha hc ha hc;have p1:=zk.mul v2;have q1:=zl.mul u2;have p2:=zl.mul u1;have q2:=zk.mul v1;exact r13CenV _ _ _ _ _ _ _ _ _ _ _ _ _ _ _ _ _ _ _ _ _ _ _ _ _ (λe=>h (by rw [←Rat.num_eq_zero];exact Int.sign_eq_zero_iff_zero.1 e)) c0 c1 c2 cs (qOf 2 zo) (qMul 2 (Zbs a b a c) sz_2 z zo zo) (Zgw _ _ _ _ u1 u2 u1 u2 zo) (Zgw _ _ _ _ v1 v2 v1 v2 zo) (qMul (dotP a b a b) _ zk v2 zo zo) (qMul (dotP a c a c) _ zl u2 zo zo) (qSub _ _ p1 q1 zo zo) (qMul (dotP a c a c) _ zl u1 zo zo) (qMul (dotP a b a b) _ zk v1 zo zo) (qSub _ _ p2 q2 zo zo) (qOf 1 zo) (Zis 1 _ (Zco 1 zo) zD zo zo (nz2 zd h)) (Zdg a.1 a.2 _ _ _ (j:=40*j+40) (ha.1.mono zo) (ha.2.mono zo) (((Zco 1 zo).div zD).mono zo) ((p1.sub q1).mono zo) ((p2.sub q2).mono zo) zo)
abbrev rat0:AV:=.agg [.v (.bool false),.v (.slice none 0 0),.v (.slice none 0 0)]
theorem qSqrtV (b:Bool) (N D n d:List Nat) (hb:b=false) (c1:Pure prog 47 [.agg [.v (.bool b),lim N,lim D]] (.agg [.v (.bool b),lim N,lim D])) (c2:Pure prog 228 [lim N] (.tup [lim n,lim []])) (c3:Pure prog 228 [lim D] (.tup [lim d,lim []])) (c4:Pure prog 112 [lim n] (.agg [.v (.bool false),lim n])):Pure prog 199 [.agg [.v (.bool b),lim N,lim D]] (.tup [.agg [.v (.bool false),lim n,lim d],.v (.bool true)]):=by
 subst hb;refine pI func199 rfl ntmps199 results199 call199 ?_;(focus (refine wkap w_t (w_4 c1 c2 c3 c4) (w_r 0) ?_;(repeat' first|exact w_t|apply w_l);all_goals intros));all_goals exact gL
theorem Zws (b:Bool) (N D n s d t:List Nat) (hb:b=true∨(b=false∧0 < s.length)∨(b=false∧s.length=0∧0 < t.length)) (c1:Pure prog 47 [.agg [.v (.bool b),lim N,lim D]] (.agg [.v (.bool b),lim N,lim D])) (c2:Pure prog 228 [lim N] (.tup [lim n,lim s])) (c3:Pure prog 228 [lim D] (.tup [lim d,lim t])):Pure prog 199 [.agg [.v (.bool b),lim N,lim D]] (.tup [rat0,.v (.bool false)]):=by
 rcases hb with rfl | ⟨rfl,h⟩ | ⟨rfl,h,h'⟩
 ·refine pI func199 rfl ntmps199 results199 call199 ?_;(focus (refine wkap w_t (w_3 c1 c2 c3) (w_r 0) ?_;(repeat' first|exact w_t|apply w_l);all_goals intros));all_goals exact gL
 ·have h1:(0:Int) < (s.length:Int):=zo;refine pI func199 rfl ntmps199 results199 call199 ?_;(focus (refine wkap (w_1 h1) (w_3 c1 c2 c3) (w_r 0) ?_;(repeat' first|exact w_t|apply w_l);all_goals intros));all_goals exact gL
 ·have h1:¬(0:Int) < (s.length:Int):=zo;have h2:(0:Int) < (t.length:Int):=zo;refine pI func199 rfl ntmps199 results199 call199 ?_;(focus (refine wkap (w_2 h1 h2) (w_3 c1 c2 c3) (w_r 0) ?_;(repeat' first|exact w_t|apply w_l);all_goals intros));all_goals exact gL
theorem qSqrt (a:Rat) {j:Nat} (ha:Sz a j) (hj:j≤10000000000):(∃r,Pure prog 199 [ratQ a] (.tup [ratQ r,.v (.bool true)])∧r*r=a∧Sz r j)∨Pure prog 199 [ratQ a] (.tup [rat0,.v (.bool false)]):=by
 obtain⟨n,s,cn,en⟩:=Zwf a.num.natAbs (Zzi ha.1 hj);obtain⟨d,t,cd,ed⟩:=Zwf a.den (Zzi ha.2 hj);have c1:=Zm6 a ha zo;have p1:(toL s).length=0↔s=0:=Zbb;have p2:(toL t).length=0↔t=0:=Zbb;by_cases hneg:a.num < 0
 ·exact .inr (Zws _ _ _ _ _ _ _ (.inl (Zzf hneg)) c1 cn cd)
 by_cases hs:s=0
 ·by_cases ht:t=0
  ·subst hs ht;rw [Zat] at cn cd;have hd:d≠0:=λe=>by
    subst e;exact a.den_nz zo
   have hc:(n:Int).natAbs.Coprime d:=by
    have h:=a.reduced;rw [←en,←ed] at h;exact Nat.Coprime.coprime_dvd_left (ZCx n n) (Nat.Coprime.coprime_dvd_right (ZCx d d) h)
   refine .inl ⟨⟨(n:Int),d,hd,hc⟩,?_,?_,?_,?_⟩
   ·have:=qSqrtV _ _ _ _ _ (Zzd hneg) c1 cn cd (Zkx n);have e:decide ((n:Int) < 0)=false:=Zzd zo;simp only [ratQ,e,ZBu];exact this
   ·have e1:∀r:Rat,r=(r.num:Rat)/((r.den:Int):Rat):=λr=>by rw [←Rat.divInt_eq_div,Rat.num_divInt_den]
    have hn:a.num=(n:Int)*(n:Int):=by rw [←Int.natAbs_of_nonneg (Int.not_lt.1 hneg),←en];simp
    have hden:(a.den:Int)=(d:Int)*(d:Int):=by rw [←ed];simp
    have hdr:((d:Int):Rat)≠0:=by rw [Ne,Rat.intCast_eq_zero_iff];omega
    rw [e1 a,hn,hden,e1 (⟨(n:Int),d,hd,hc⟩:Rat),Rat.intCast_mul,Rat.intCast_mul];simp only;generalize ((n:Int):Rat)=x;generalize ((d:Int):Rat)=y at *
    grind
   ·exact Zzi (Zc1 (by rw [←en];simp only [ZBu];exact Zzi (Nat.le_mul_self n) zo)) ha.1
   ·exact Zzi (Zc1 (by rw [←ed];exact Zzi (Nat.le_mul_self d) zo)) ha.2
  ·refine .inr (Zws _ _ _ _ _ _ _ (.inr (.inr ⟨Zzd hneg,p1.2 hs,zo⟩)) c1 cn cd)
 ·exact .inr (Zws _ _ _ _ _ _ _ (.inr (.inl ⟨Zzd hneg,zo⟩)) c1 cn cd)
theorem r13RootV (d:Rat) (b:Bool) (h g:Rat) (hb:b=true→g=h) (z:Int) (hz:¬z < 0) (c1:Pure prog 14 [ratQ d] (iv z)) (c2:Pure prog 199 [ratQ d] (.tup [ratQ h,.v (.bool true)])) (c3:Pure prog 198 [ratQ h] (ratQ g)):Pure prog 146 [ratQ d,.v (.bool b)] (.tup [ratQ g,iv 0]):=by
 cases b with
 | true =>
   have e:=hb rfl;subst e;refine pI func146 rfl ntmps146 results146 call146 ?_;(focus (refine wkap (w_1 hz) (w_2 c1 c2) (w_r 0) ?_;(repeat' first|exact w_t|apply w_l);all_goals intros));all_goals exact gL
 | false =>
   refine pI func146 rfl ntmps146 results146 call146 ?_;(focus (refine wkap (w_1 hz) (w_3 c1 c2 c3) (w_r 0) ?_;(repeat' first|exact w_t|apply w_l);all_goals intros));all_goals exact gL
theorem r13RootP (d h:Rat) (z:Int) (hz:¬z < 0) (c1:Pure prog 14 [ratQ d] (iv z)) (c2:Pure prog 199 [ratQ d] (.tup [ratQ h,.v (.bool true)])):Pure prog 146 [ratQ d,.v (.bool true)] (.tup [ratQ h,iv 0]):=by
 refine pI func146 rfl ntmps146 results146 call146 ?_;(focus (refine wkap (w_1 hz) (w_2 c1 c2) (w_r 0) ?_;(repeat' first|exact w_t|apply w_l);all_goals intros));all_goals exact gL
theorem r13Root1 (d:Rat) (b:Bool) (z:Int) (hz:z < 0) (c1:Pure prog 14 [ratQ d] (iv z)):Pure prog 146 [ratQ d,.v (.bool b)] (.tup [rat0,iv 13]):=by
 refine pI func146 rfl ntmps146 results146 call146 ?_;(focus (refine wkap (w_1 hz) (w_1 c1) (w_r 0) ?_;(repeat' first|exact w_t|apply w_l);all_goals intros));all_goals exact gL
theorem r13Root2 (d:Rat) (b:Bool) (z:Int) (hz:¬z < 0) (c1:Pure prog 14 [ratQ d] (iv z)) (c2:Pure prog 199 [ratQ d] (.tup [rat0,.v (.bool false)])):Pure prog 146 [ratQ d,.v (.bool b)] (.tup [rat0,iv 12]):=by
 refine pI func146 rfl ntmps146 results146 call146 ?_;(focus (refine wkap (w_1 hz) (w_2 c1 c2) (w_r 0) ?_;(repeat' first|exact w_t|apply w_l);all_goals intros));all_goals exact gL
theorem Zwq (d:Rat) (b:Bool) {j:Nat} (hd:Sz d j) (hj:j≤10000000000):(∃h,Pure prog 146 [ratQ d,.v (.bool b)] (.tup [ratQ h,iv 0])∧h*h=d∧Sz h j)∨∃e:Int,(0 < e∧e < 100)∧Pure prog 146 [ratQ d,.v (.bool b)] (.tup [rat0,iv e]):=by
 have c1:=Zra d hd zo;by_cases hz:d.num.sign < 0
 ·exact .inr ⟨13,⟨by decide,by decide⟩,r13Root1 d b _ hz c1⟩
 ·rcases qSqrt d hd hj with⟨h,c2,e,zh⟩ | c2
  ·cases b with
   | true=>exact .inl ⟨h,r13RootP d h _ hz c1 c2,e,zh⟩
   | false=>exact .inl ⟨-h,r13RootV d false h (-h) (λx=>nomatch x) _ hz c1 c2 (qNeg h zh zo),by grind,zh.neg⟩
  ·exact .inr ⟨12,⟨by decide,by decide⟩,r13Root2 d b _ hz c1 c2⟩
theorem r13ApexV (a1 a2 b1 b2:Rat) (b q:Bool) (c1:Pure prog 143 [ptQ a1 a2,ptQ b1 b2] (.v (.bool q))):Pure prog 78 [ptQ a1 a2,ptQ b1 b2,.v (.bool b)] (.tup [pt0,iv (if q=true then 11 else 12)]):=by
 cases q with
 | true =>
   refine pI func78 rfl ntmps78 results78 call78 ?_;(focus (refine wkap w_t (w_1 c1) (w_r 0) ?_;(repeat' first|exact w_t|apply w_l);all_goals intros));all_goals exact gL
 | false =>
   refine pI func78 rfl ntmps78 results78 call78 ?_;(focus (refine wkap w_t (w_1 c1) (w_r 0) ?_;(repeat' first|exact w_t|apply w_l);all_goals intros));all_goals exact gL
theorem r13Apex (a b:PQ) (l:Bool) {j:Nat} (ha:a.sz j) (hb:b.sz j) (hj:j≤100000000):∃e:Int,(0 < e∧e < 100)∧Pure prog 78 [a.av,b.av,.v (.bool l)] (.tup [pt0,iv e]) :=
 ⟨_,by split<;>decide,r13ApexV a.1 a.2 b.1 b.2 l _ (Zit a b ha hb zo)⟩
theorem r13CutV (a1 a2 b1 b2 o1 o2 p1 p2 u1 u2 w1 w2 n k m mm f g q r d h s x y:Rat) (l:Bool) (c0:Pure prog 143 [ptQ a1 a2,ptQ b1 b2] (.v (.bool false))) (c1:Pure prog 140 [ptQ a1 a2,ptQ b1 b2] (ptQ u1 u2)) (c2:Pure prog 140 [ptQ a1 a2,ptQ o1 o2] (ptQ w1 w2)) (c3:Pure prog 142 [ptQ u1 u2,ptQ w1 w2] (ratQ n)) (c4:Pure prog 142 [ptQ u1 u2,ptQ u1 u2] (ratQ k)) (c5:Pure prog 141 [ratQ n,ratQ k] (ratQ m)) (c6:Pure prog 43 [ratQ m,ratQ m] (ratQ mm)) (c7:Pure prog 145 [ptQ a1 a2,ptQ o1 o2] (ratQ f)) (c8:Pure prog 145 [ptQ o1 o2,ptQ p1 p2] (ratQ g)) (c9:Pure prog 144 [ratQ f,ratQ g] (ratQ q)) (c10:Pure prog 141 [ratQ q,ratQ k] (ratQ r)) (c11:Pure prog 144 [ratQ mm,ratQ r] (ratQ d)) (c12:Pure prog 146 [ratQ d,.v (.bool l)] (.tup [ratQ h,iv 0])) (c13:Pure prog 45 [ratQ m,ratQ h] (ratQ s)) (c14:Pure prog 139 [ptQ a1 a2,ratQ s,ptQ u1 u2] (ptQ x y)):Pure prog 76 [ptQ a1 a2,ptQ b1 b2,ptQ o1 o2,ptQ p1 p2,.v (.bool l)] (.tup [ptQ x y,iv 0]):=by
 refine pI func76 rfl ntmps76 results76 call76 ?_;(focus (refine wkax w_t (w_6 c0 c1 c2 c3 c4 c5) (w_1 (w_d 4 [(3,ptQ w1 w2),(4,ratQ n),(7,ratQ k),(8,ratQ m)] [] [])) w_t w_t w_t w_t (w_r 0) ?_;(repeat' first|exact w_t|apply w_l);all_goals intros));(focus (refine wkax w_t (w_10 c4 c6 c7 c8 c9 c10 c11 c12 c13 c14) (w_2 (w_d 5 [(2,ratQ mm),(5,ratQ f),(8,ratQ g),(9,ratQ q),(12,ratQ k),(13,ratQ r),(14,ratQ d)] [] []) (w_d 9 [(3,ratQ s),(5,ptQ x y)] [] [10])) w_t w_t w_t w_y (w_r 0) ?_;(repeat' first|exact w_t|apply w_l);all_goals intros));all_goals exact gL
theorem r13Cut1 (a1 a2 b1 b2 o1 o2 p1 p2 u1 u2 w1 w2 n k m mm f g q r d:Rat) (l:Bool) (e:Int) (he:0 < e∧e < 100) (c0:Pure prog 143 [ptQ a1 a2,ptQ b1 b2] (.v (.bool false))) (c1:Pure prog 140 [ptQ a1 a2,ptQ b1 b2] (ptQ u1 u2)) (c2:Pure prog 140 [ptQ a1 a2,ptQ o1 o2] (ptQ w1 w2)) (c3:Pure prog 142 [ptQ u1 u2,ptQ w1 w2] (ratQ n)) (c4:Pure prog 142 [ptQ u1 u2,ptQ u1 u2] (ratQ k)) (c5:Pure prog 141 [ratQ n,ratQ k] (ratQ m)) (c6:Pure prog 43 [ratQ m,ratQ m] (ratQ mm)) (c7:Pure prog 145 [ptQ a1 a2,ptQ o1 o2] (ratQ f)) (c8:Pure prog 145 [ptQ o1 o2,ptQ p1 p2] (ratQ g)) (c9:Pure prog 144 [ratQ f,ratQ g] (ratQ q)) (c10:Pure prog 141 [ratQ q,ratQ k] (ratQ r)) (c11:Pure prog 144 [ratQ mm,ratQ r] (ratQ d)) (c12:Pure prog 146 [ratQ d,.v (.bool l)] (.tup [rat0,iv e])):Pure prog 76 [ptQ a1 a2,ptQ b1 b2,ptQ o1 o2,ptQ p1 p2,.v (.bool l)] (.tup [pt0,iv e]):=by
 have hx:¬e=0:=zo;refine pI func76 rfl ntmps76 results76 call76 ?_;(focus (refine wkax (w_1 hx) (w_6 c0 c1 c2 c3 c4 c5) (w_1 (w_d 4 [(3,ptQ w1 w2),(4,ratQ n),(7,ratQ k),(8,ratQ m)] [] [])) w_t w_t w_t w_t (w_r 0) ?_;(repeat' first|exact w_t|apply w_l);all_goals intros));(focus (refine wkad (w_1 hx) (w_8 c4 c6 c7 c8 c9 c10 c11 c12) (w_1 (w_d 5 [(2,ratQ mm),(5,ratQ f),(8,ratQ g),(9,ratQ q),(12,ratQ k),(13,ratQ r),(14,ratQ d)] [] [])) ?_;(repeat' first|exact w_t|apply w_l);all_goals intros));all_goals exact gL
theorem r13Cut0 (a1 a2 b1 b2 o1 o2 p1 p2:Rat) (l:Bool) (c0:Pure prog 143 [ptQ a1 a2,ptQ b1 b2] (.v (.bool true))):Pure prog 76 [ptQ a1 a2,ptQ b1 b2,ptQ o1 o2,ptQ p1 p2,.v (.bool l)] (.tup [pt0,iv 11]):=by
 refine pI func76 rfl ntmps76 results76 call76 ?_;(focus (refine wkad w_t (w_1 c0) w_t ?_;(repeat' first|exact w_t|apply w_l);all_goals intros));all_goals exact gL
def cutP (a b c:PQ) (m h:Rat):PQ:=(a.1+(m+h)*(b.1 - a.1),a.2+(m+h)*(b.2 - a.2))
theorem r13Cut (a b c d:PQ) (l:Bool) {j:Nat} (ha:a.sz j) (hb:b.sz j) (hc:c.sz j) (hd:d.sz j) (hj:j≤100000000):(∃x,Pure prog 76 [a.av,b.av,c.av,d.av,.v (.bool l)] (.tup [PQ.av x,iv 0])∧StR 12 a b c d 0 x)∨∃e:Int,(0 < e∧e < 100)∧Pure prog 76 [a.av,b.av,c.av,d.av,.v (.bool l)] (.tup [pt0,iv e]):=by
 have c0:=Zit a b ha hb zo
 cases h:eqP a b with
 | true=>rw [h] at c0;exact .inr ⟨11,⟨by decide,by decide⟩,r13Cut0 _ _ _ _ _ _ _ _ l c0⟩
 | false =>
   rw [h] at c0;have h0:=Znt h;have c1:=Zee a.1 a.2 b.1 b.2 ha.1 ha.2 hb.1 hb.2 zo;have c2:=Zee a.1 a.2 c.1 c.2 ha.1 ha.2 hc.1 hc.2 zo;have u1:=hb.1.sub ha.1;have u2:=hb.2.sub ha.2;have c3:=Zgw _ _ _ _ u1 u2 (hc.1.sub ha.1) (hc.2.sub ha.2) zo;have c4:=Zgw _ _ _ _ u1 u2 u1 u2 zo;have zn:Sz ((b.1 - a.1)*(c.1 - a.1)+(b.2 - a.2)*(c.2 - a.2)) (8*j+5):=Zci ha hb ha hc;have zk:Sz ((b.1 - a.1)*(b.1 - a.1)+(b.2 - a.2)*(b.2 - a.2)) (8*j+5):=Zci ha hb ha hb;have hk:(b.1 - a.1)*(b.1 - a.1)+(b.2 - a.2)*(b.2 - a.2)≠0:=h0;have c5:=Zis _ _ zn zk zo zo hk;have zm:=(zn.div zk).mono (show _≤16*j+10 by omega)
   have c6:=qMul _ _ zm zm zo zo;have c7:=Zm5 a c ha hc zo;have c8:=Zm5 c d hc hd zo;have zf:=Zci ha hc ha hc;have zg:=Zci hc hd hc hd;have c9:=qSub _ _ zf zg zo zo;have zq:=(zf.sub zg).mono (show _≤16*j+11 by omega);have c10:=Zis _ _ zq zk zo zo hk;have zr:=(zq.div zk).mono (show _≤24*j+16 by omega);have c11:=qSub _ _ (zm.mul zm) zr zo zo;have zd:=((zm.mul zm).sub zr).mono (show _≤56*j+37 by omega);rcases Zwq _ l zd zo with⟨t,c12,et,zt⟩ | ⟨e,he,c12⟩
   ·refine .inl ⟨(a.1+(((b.1 - a.1)*(c.1 - a.1)+(b.2 - a.2)*(c.2 - a.2))/((b.1 - a.1)*(b.1 - a.1)+(b.2 - a.2)*(b.2 - a.2))+t)*(b.1 - a.1),a.2+(((b.1 - a.1)*(c.1 - a.1)+(b.2 - a.2)*(c.2 - a.2))/((b.1 - a.1)*(b.1 - a.1)+(b.2 - a.2)*(b.2 - a.2))+t)*(b.2 - a.2)),?_,?_⟩
    ·exact r13CutV _ _ _ _ _ _ _ _ _ _ _ _ _ _ _ _ _ _ _ _ _ _ _ _ _ l c0 c1 c2 c3 c4 c5 c6 c7 c8 c9 c10 c11 c12 (qAdd _ _ zm zt zo zo) (Zdg a.1 a.2 _ _ _ (j:=80*j+60) (ha.1.mono zo) (ha.2.mono zo) ((zm.add zt).mono zo) (u1.mono zo) (u2.mono zo) zo)
    ·exact⟨_,_,t,hk,by rw [Rat.div_mul_cancel hk],Rat.div_mul_cancel hk,et,rfl⟩
   ·exact .inr ⟨e,he,r13Cut1 _ _ _ _ _ _ _ _ _ _ _ _ _ _ _ _ _ _ _ _ _ l e he c0 c1 c2 c3 c4 c5 c6 c7 c8 c9 c10 c11 c12⟩
theorem r13IntV (o1 o2 p1 p2 q1 q2 r1 r2 u1 u2 k f g w n t2 kk m t mm d h v1 v2 y1 y2 x y:Rat) (l:Bool) (c0:Pure prog 143 [ptQ o1 o2,ptQ q1 q2] (.v (.bool false))) (c1:Pure prog 140 [ptQ o1 o2,ptQ q1 q2] (ptQ u1 u2)) (c2:Pure prog 142 [ptQ u1 u2,ptQ u1 u2] (ratQ k)) (c3:Pure prog 145 [ptQ o1 o2,ptQ p1 p2] (ratQ f)) (c4:Pure prog 45 [ratQ k,ratQ f] (ratQ g)) (c5:Pure prog 145 [ptQ q1 q2,ptQ r1 r2] (ratQ w)) (c6:Pure prog 144 [ratQ g,ratQ w] (ratQ n)) (c7:Pure prog 42 [iv 2] (ratQ t2)) (c8:Pure prog 43 [ratQ t2,ratQ k] (ratQ kk)) (c9:Pure prog 141 [ratQ n,ratQ kk] (ratQ m)) (c10:Pure prog 141 [ratQ f,ratQ k] (ratQ t)) (c11:Pure prog 43 [ratQ m,ratQ m] (ratQ mm)) (c12:Pure prog 144 [ratQ t,ratQ mm] (ratQ d)) (c13:Pure prog 146 [ratQ d,.v (.bool l)] (.tup [ratQ h,iv 0])) (c14:Pure prog 139 [ptQ o1 o2,ratQ m,ptQ u1 u2] (ptQ y1 y2)) (c15:Pure prog 147 [ptQ u1 u2] (ptQ v1 v2)) (c16:Pure prog 139 [ptQ y1 y2,ratQ h,ptQ v1 v2] (ptQ x y)):Pure prog 77 [ptQ o1 o2,ptQ p1 p2,ptQ q1 q2,ptQ r1 r2,.v (.bool l)] (.tup [ptQ x y,iv 0]):=by
 refine pI func77 rfl ntmps77 results77 call77 ?_;(focus (refine wkax w_t (w_10 c0 c1 c2 c3 c4 c5 c6 c7 c8 c9) (w_1 (w_d 5 [(3,ratQ f),(4,ratQ g),(7,ratQ w),(8,ratQ n),(9,ratQ t2),(11,ratQ kk),(12,ratQ m)] [] [])) w_t w_t w_t w_t (w_r 0) ?_;(repeat' first|exact w_t|apply w_l);all_goals intros));(focus (refine wkad w_t (w_8 c3 c10 c11 c12 c13 c14 c15 c16) (w_2 (w_d 6 [(2,ratQ f),(4,ratQ t),(7,ratQ mm),(8,ratQ d)] [] []) (w_d 10 [(3,ptQ y1 y2),(6,ptQ v1 v2),(7,ptQ x y)] [] [10])) ?_;(repeat' first|exact w_t|apply w_l);all_goals intros));all_goals exact gL
theorem r13Int1 (o1 o2 p1 p2 q1 q2 r1 r2 u1 u2 k f g w n t2 kk m t mm d:Rat) (l:Bool) (e:Int) (he:0 < e∧e < 100) (c0:Pure prog 143 [ptQ o1 o2,ptQ q1 q2] (.v (.bool false))) (c1:Pure prog 140 [ptQ o1 o2,ptQ q1 q2] (ptQ u1 u2)) (c2:Pure prog 142 [ptQ u1 u2,ptQ u1 u2] (ratQ k)) (c3:Pure prog 145 [ptQ o1 o2,ptQ p1 p2] (ratQ f)) (c4:Pure prog 45 [ratQ k,ratQ f] (ratQ g)) (c5:Pure prog 145 [ptQ q1 q2,ptQ r1 r2] (ratQ w)) (c6:Pure prog 144 [ratQ g,ratQ w] (ratQ n)) (c7:Pure prog 42 [iv 2] (ratQ t2)) (c8:Pure prog 43 [ratQ t2,ratQ k] (ratQ kk)) (c9:Pure prog 141 [ratQ n,ratQ kk] (ratQ m)) (c10:Pure prog 141 [ratQ f,ratQ k] (ratQ t)) (c11:Pure prog 43 [ratQ m,ratQ m] (ratQ mm)) (c12:Pure prog 144 [ratQ t,ratQ mm] (ratQ d)) (c13:Pure prog 146 [ratQ d,.v (.bool l)] (.tup [rat0,iv e])):Pure prog 77 [ptQ o1 o2,ptQ p1 p2,ptQ q1 q2,ptQ r1 r2,.v (.bool l)] (.tup [pt0,iv e]):=by
 have hx:¬e=0:=zo;refine pI func77 rfl ntmps77 results77 call77 ?_;(focus (refine wkax (w_1 hx) (w_10 c0 c1 c2 c3 c4 c5 c6 c7 c8 c9) (w_1 (w_d 5 [(3,ratQ f),(4,ratQ g),(7,ratQ w),(8,ratQ n),(9,ratQ t2),(11,ratQ kk),(12,ratQ m)] [] [])) w_t w_t w_t w_t (w_r 0) ?_;(repeat' first|exact w_t|apply w_l);all_goals intros));(focus (refine wkad (w_1 hx) (w_5 c3 c10 c11 c12 c13) (w_1 (w_d 6 [(2,ratQ f),(4,ratQ t),(7,ratQ mm),(8,ratQ d)] [] [])) ?_;(repeat' first|exact w_t|apply w_l);all_goals intros));all_goals exact gL
theorem r13Int0 (o1 o2 p1 p2 q1 q2 r1 r2:Rat) (l:Bool) (c0:Pure prog 143 [ptQ o1 o2,ptQ q1 q2] (.v (.bool true))):Pure prog 77 [ptQ o1 o2,ptQ p1 p2,ptQ q1 q2,ptQ r1 r2,.v (.bool l)] (.tup [pt0,iv 11]):=by
 refine pI func77 rfl ntmps77 results77 call77 ?_;(focus (refine wkad w_t (w_1 c0) w_t ?_;(repeat' first|exact w_t|apply w_l);all_goals intros));all_goals exact gL
theorem r13Int (a b c d:PQ) (l:Bool) {j:Nat} (ha:a.sz j) (hb:b.sz j) (hc:c.sz j) (hd:d.sz j) (hj:j≤100000000):(∃x,Pure prog 77 [a.av,b.av,c.av,d.av,.v (.bool l)] (.tup [PQ.av x,iv 0])∧StR 13 a b c d 0 x)∨∃e:Int,(0 < e∧e < 100)∧Pure prog 77 [a.av,b.av,c.av,d.av,.v (.bool l)] (.tup [pt0,iv e]):=by
 have c0:=Zit a c ha hc zo
 cases h:eqP a c with
 | true=>rw [h] at c0;exact .inr ⟨11,⟨by decide,by decide⟩,r13Int0 _ _ _ _ _ _ _ _ l c0⟩
 | false =>
   rw [h] at c0;have h0:=Znt h;have c1:=Zee a.1 a.2 c.1 c.2 ha.1 ha.2 hc.1 hc.2 zo;have u1:=hc.1.sub ha.1;have u2:=hc.2.sub ha.2;have c2:=Zgw _ _ _ _ u1 u2 u1 u2 zo;have zk:Sz ((c.1 - a.1)*(c.1 - a.1)+(c.2 - a.2)*(c.2 - a.2)) (8*j+5):=Zci ha hc ha hc;have hk:(c.1 - a.1)*(c.1 - a.1)+(c.2 - a.2)*(c.2 - a.2)≠0:=h0;have c3:=Zm5 a b ha hb zo;have zf:=Zci ha hb ha hb;have c4:=qAdd _ _ zk zf zo zo;have c5:=Zm5 c d hc hd zo;have zw:=Zci hc hd hc hd;have zg:=(zk.add zf).mono (show _≤16*j+11 by omega);have c6:=qSub _ _ zg zw zo zo;have zn:=(zg.sub zw).mono (show _≤24*j+17 by omega)
   have c7:=qOf 2 zo;have c8:=qMul 2 _ sz_2 zk zo zo;have hkk:=nz2 (show(2:Rat)≠0 by decide) hk;have zkk:=sz_2.mul zk;have c9:=Zis _ _ zn zkk zo zo hkk;have zm:=(zn.div zkk).mono (show _≤32*j+23 by omega);have c10:=Zis _ _ zf zk zo zo hk;have zt:=(zf.div zk).mono (show _≤16*j+10 by omega);have c11:=qMul _ _ zm zm zo zo;have c12:=qSub _ _ zt (zm.mul zm) zo zo;have zd:=(zt.sub (zm.mul zm)).mono (show _≤80*j+57 by omega);rcases Zwq _ l zd zo with⟨s,c13,et,zs⟩ | ⟨e,he,c13⟩
   ·have y1:=(ha.1.add (zm.mul u1)).mono (show _≤40*j+40 by omega);have y2:=(ha.2.add (zm.mul u2)).mono (show _≤40*j+40 by omega);refine .inl ⟨(_,_),r13IntV _ _ _ _ _ _ _ _ _ _ _ _ _ _ _ _ _ _ _ _ _ _ _ _ _ _ _ _ l c0 c1 c2 c3 c4 c5 c6 c7 c8 c9 c10 c11 c12 c13 (Zdg a.1 a.2 _ _ _ (j:=80*j+60) (ha.1.mono zo) (ha.2.mono zo) (zm.mono zo) (u1.mono zo) (u2.mono zo) zo) (Zow _ _ u2 zo) (Zdg _ _ _ _ _ (j:=81*j+60) (y1.mono zo) (y2.mono zo) (zs.mono zo) (u2.neg.mono zo) (u1.mono zo) zo),_,_,s,hk,Rat.div_mul_cancel hkk,Rat.div_mul_cancel hk,et,?_⟩;exact Prod.ext (by simp only [dotP];grind) (by simp only [dotP])
   ·exact .inr ⟨e,he,r13Int1 _ _ _ _ _ _ _ _ _ _ _ _ _ _ _ _ _ _ _ _ _ l e he c0 c1 c2 c3 c4 c5 c6 c7 c8 c9 c10 c11 c12 c13⟩
attribute [go_sem] underlying91 underlying88 szA4 byA4 zA4 szSt bySt zSt
attribute [local go_sem] Zcy Zb5 Zb6 Zdc Zc6 Zqu Zqt
abbrev stA (vs:List Rat) (bs:List AV) (n:Int):AV:=.agg [.sl 3 (vs.map ratQ),.sl 1 bs,iv n]
theorem Zkw (v:Rat) (vs bs:List AV) (n:Int) (lv:vs.length≤1000) (lb:bs.length≤1000):Pure prog 73 [.agg [.sl 3 (ratQ v :: vs),.sl 1 bs,iv n]] (.tup [ratQ v,.agg [.sl 3 vs,.sl 1 bs,iv n]]):=by
 refine pI func73 rfl ntmps73 results73 call73 ?_
 (repeat' (first|(with_reducible first|refine stp ?_|apply gx1|apply gx2|apply gx3|apply gx4|apply gx5|apply gx6|apply gx7|apply gy8|apply gz2|apply gz3)|(with_reducible refine Zck ?_;intro _)|((with_reducible refine gE ?_);(try simp (disch:=omega) only [go_sem,ZAe,Zzf,Zzd,Zzc,Zzb,Int.reduceAdd,Int.reduceSub,Int.reduceToNat,Zzh])<;>first|rfl|omega)|with_reducible refine Zaf zd ?_|((with_reducible apply gy1);iterate 3 focus rfl)|((with_reducible apply gy2);iterate 3 focus rfl)|((with_reducible apply gy3);iterate 2 focus rfl)|((with_reducible apply gy4);iterate 1 focus rfl)|((with_reducible apply gy5);iterate 4 focus rfl)|((with_reducible apply gy5c);iterate 4 focus rfl)|((with_reducible apply gy6);iterate 4 focus rfl)|((with_reducible apply Zfk);iterate 3 focus rfl)|((with_reducible apply Zfi);iterate 1 focus rfl)|((with_reducible apply gy7);iterate 1 focus rfl)|((with_reducible apply gy9);(focus ((with_reducible refine gE ?_);(try simp (disch:=omega) only [go_sem,ZAe,Zzf,Zzd,Zzc,Zzb,Int.reduceAdd,Int.reduceSub,Int.reduceToNat,Zzh])<;>rfl)))|((with_reducible apply gz1);(focus first|rfl|(simp (disch:=omega) only [go_sem,ZAe,Zzf,Zzd,Zzc,Zzb,Int.reduceAdd,Int.reduceSub,Int.reduceToNat,Zzh];done)))|((with_reducible apply Za6 (id:=1) (Zcz []) [] [2,3]);(focus kernel_rfl);(focus rfl);(focus kernel_rfl);(focus (simp only [Zzq,Zzs,Nat.reduceAdd];rfl)))|((with_reducible first|apply Zca|apply Zcp|apply Zcb);all_goals (intro hc;(try simp only [bool_to_prop] at hc);try (exfalso;omega)))))
 all_goals exact gL
theorem r22Free0 (vs bs:List AV) (z:Rat) (lv:vs.length≤1000) (lb:bs.length≤1000) (c0:Pure prog 42 [iv 0] (ratQ z)):Pure prog 72 [.agg [.sl 3 vs,.sl 1 bs,iv 0]] (.tup [ptQ z z,.agg [.sl 3 vs,.sl 1 bs,iv 1]]):=by
 refine pI func72 rfl ntmps72 results72 call72 ?_;(focus (refine wkad w_t (w_1 c0) (w_1 (w_d 5 [(0,ratQ z),(1,ratQ z)] [] [2,3])) ?_;(repeat' first|exact w_t|apply w_l);all_goals intros));all_goals exact gL
theorem r22Free1 (vs ws bs:List AV) (v z:Rat) (lv:vs.length≤1000) (lw:ws.length≤1000) (lb:bs.length≤1000) (c0:Pure prog 42 [iv 0] (ratQ z)) (c1:Pure prog 73 [.agg [.sl 3 vs,.sl 1 bs,iv 2]] (.tup [ratQ v,.agg [.sl 3 ws,.sl 1 bs,iv 2]])):Pure prog 72 [.agg [.sl 3 vs,.sl 1 bs,iv 1]] (.tup [ptQ v z,.agg [.sl 3 ws,.sl 1 bs,iv 2]]):=by
 refine pI func72 rfl ntmps72 results72 call72 ?_;(focus (refine wkad w_t (w_2 c0 c1) (w_1 (w_d 8 [(1,ratQ z)] [] [2,3])) ?_;(repeat' first|exact w_t|apply w_l);all_goals intros));all_goals exact gL
theorem r22Free2 (vs ws us bs:List AV) (v w:Rat) (n:Nat) (hn:2≤n) (hN:n≤1000) (lv:vs.length≤1000) (lw:ws.length≤1000) (lu:us.length≤1000) (lb:bs.length≤1000) (c1:Pure prog 73 [.agg [.sl 3 vs,.sl 1 bs,iv ((n+1:Nat):Int)]] (.tup [ratQ v,.agg [.sl 3 ws,.sl 1 bs,iv ((n+1:Nat):Int)]])) (c2:Pure prog 73 [.agg [.sl 3 ws,.sl 1 bs,iv ((n+1:Nat):Int)]] (.tup [ratQ w,.agg [.sl 3 us,.sl 1 bs,iv ((n+1:Nat):Int)]])):Pure prog 72 [.agg [.sl 3 vs,.sl 1 bs,iv (n:Int)]] (.tup [ptQ v w,.agg [.sl 3 us,.sl 1 bs,iv ((n+1:Nat):Int)]]):=by
 have h0:¬(n:Int)=0:=zo;have h1:¬(n:Int)=1:=zo;have h2:(n:Int)+1=((n+1:Nat):Int):=zo;generalize hm:((n+1:Nat):Int)=m at *;refine pI func72 rfl ntmps72 results72 call72 ?_;(focus (refine wkad (w_3 h0 h1 h2) (w_2 c1 c2) (w_1 (w_d 10 [] [] [2,3])) ?_;(repeat' first|exact w_t|apply w_l);all_goals intros));all_goals exact gL
theorem r22F2 (a1 a2 b1 b2:Rat) (nm:ByteArray) (ar:List Int) (r:Rat) (x y:Rat) (c:Pure prog 74 [ptQ a1 a2,ptQ b1 b2,ratQ r] (ptQ x y)):Pure prog 31 [.agg [iv 2,strA nm,ivs ar,.v (.bool (decide (r.num < 0))),lim (toL r.num.natAbs),lim (toL r.den)],.agg [.v (.bool (decide (a1.num < 0))),lim (toL a1.num.natAbs),lim (toL a1.den),.v (.bool (decide (a2.num < 0))),lim (toL a2.num.natAbs),lim (toL a2.den),.v (.bool (decide (b1.num < 0))),lim (toL b1.num.natAbs),lim (toL b1.den),.v (.bool (decide (b2.num < 0))),lim (toL b2.num.natAbs),lim (toL b2.den),.v (.bool false),.v (.slice none 0 0),.v (.slice none 0 0),.v (.bool false),.v (.slice none 0 0),.v (.slice none 0 0),.v (.bool false),.v (.slice none 0 0),.v (.slice none 0 0),.v (.bool false),.v (.slice none 0 0),.v (.slice none 0 0)]] (.tup [ptQ x y,iv 0]):=by
 refine pI func31 rfl ntmps31 results31 call31 ?_;(focus (refine wkap w_t (w_1 c) (w_r 0) ?_;(repeat' first|exact w_t|apply w_l);all_goals intros));all_goals exact gL
theorem r22F3 (a1 a2 b1 b2 c1 c2:Rat) (nm:ByteArray) (ar:List Int) (s:Bool) (l d:List Nat) (x y:Rat) (c:Pure prog 79 [ptQ a1 a2,ptQ b1 b2,ptQ c1 c2] (ptQ x y)):Pure prog 31 [.agg [iv 3,strA nm,ivs ar,.v (.bool s),lim l,lim d],.agg [.v (.bool (decide (a1.num < 0))),lim (toL a1.num.natAbs),lim (toL a1.den),.v (.bool (decide (a2.num < 0))),lim (toL a2.num.natAbs),lim (toL a2.den),.v (.bool (decide (b1.num < 0))),lim (toL b1.num.natAbs),lim (toL b1.den),.v (.bool (decide (b2.num < 0))),lim (toL b2.num.natAbs),lim (toL b2.den),.v (.bool (decide (c1.num < 0))),lim (toL c1.num.natAbs),lim (toL c1.den),.v (.bool (decide (c2.num < 0))),lim (toL c2.num.natAbs),lim (toL c2.den),.v (.bool false),.v (.slice none 0 0),.v (.slice none 0 0),.v (.bool false),.v (.slice none 0 0),.v (.slice none 0 0)]] (.tup [ptQ x y,iv 0]):=by
 refine pI func31 rfl ntmps31 results31 call31 ?_;(focus (refine wkap w_t (w_1 c) (w_r 0) ?_;(repeat' first|exact w_t|apply w_l);all_goals intros));all_goals exact gL
theorem r22F4 (a1 a2 b1 b2 c1 c2:Rat) (nm:ByteArray) (ar:List Int) (s:Bool) (l d:List Nat) (x y:Rat) (c:Pure prog 80 [ptQ a1 a2,ptQ b1 b2,ptQ c1 c2] (ptQ x y)):Pure prog 31 [.agg [iv 4,strA nm,ivs ar,.v (.bool s),lim l,lim d],.agg [.v (.bool (decide (a1.num < 0))),lim (toL a1.num.natAbs),lim (toL a1.den),.v (.bool (decide (a2.num < 0))),lim (toL a2.num.natAbs),lim (toL a2.den),.v (.bool (decide (b1.num < 0))),lim (toL b1.num.natAbs),lim (toL b1.den),.v (.bool (decide (b2.num < 0))),lim (toL b2.num.natAbs),lim (toL b2.den),.v (.bool (decide (c1.num < 0))),lim (toL c1.num.natAbs),lim (toL c1.den),.v (.bool (decide (c2.num < 0))),lim (toL c2.num.natAbs),lim (toL c2.den),.v (.bool false),.v (.slice none 0 0),.v (.slice none 0 0),.v (.bool false),.v (.slice none 0 0),.v (.slice none 0 0)]] (.tup [ptQ x y,iv 0]):=by
 refine pI func31 rfl ntmps31 results31 call31 ?_;(focus (refine wkap w_t (w_1 c) (w_r 0) ?_;(repeat' first|exact w_t|apply w_l);all_goals intros));all_goals exact gL
theorem r22F7 (a1 a2 b1 b2 c1 c2:Rat) (nm:ByteArray) (ar:List Int) (s:Bool) (l d:List Nat) (x y:Rat) (c:Pure prog 81 [ptQ a1 a2,ptQ b1 b2,ptQ c1 c2] (.tup [ptQ x y,iv 0])):Pure prog 31 [.agg [iv 7,strA nm,ivs ar,.v (.bool s),lim l,lim d],.agg [.v (.bool (decide (a1.num < 0))),lim (toL a1.num.natAbs),lim (toL a1.den),.v (.bool (decide (a2.num < 0))),lim (toL a2.num.natAbs),lim (toL a2.den),.v (.bool (decide (b1.num < 0))),lim (toL b1.num.natAbs),lim (toL b1.den),.v (.bool (decide (b2.num < 0))),lim (toL b2.num.natAbs),lim (toL b2.den),.v (.bool (decide (c1.num < 0))),lim (toL c1.num.natAbs),lim (toL c1.den),.v (.bool (decide (c2.num < 0))),lim (toL c2.num.natAbs),lim (toL c2.den),.v (.bool false),.v (.slice none 0 0),.v (.slice none 0 0),.v (.bool false),.v (.slice none 0 0),.v (.slice none 0 0)]] (.tup [ptQ x y,iv 0]):=by
 refine pI func31 rfl ntmps31 results31 call31 ?_;(focus (refine wkap w_t (w_1 c) (w_r 0) ?_;(repeat' first|exact w_t|apply w_l);all_goals intros));all_goals exact gL
theorem r22F7n (a1 a2 b1 b2 c1 c2:Rat) (nm:ByteArray) (ar:List Int) (s:Bool) (l d:List Nat) (e:Int) (c:Pure prog 81 [ptQ a1 a2,ptQ b1 b2,ptQ c1 c2] (.tup [pt0,iv e])):Pure prog 31 [.agg [iv 7,strA nm,ivs ar,.v (.bool s),lim l,lim d],.agg [.v (.bool (decide (a1.num < 0))),lim (toL a1.num.natAbs),lim (toL a1.den),.v (.bool (decide (a2.num < 0))),lim (toL a2.num.natAbs),lim (toL a2.den),.v (.bool (decide (b1.num < 0))),lim (toL b1.num.natAbs),lim (toL b1.den),.v (.bool (decide (b2.num < 0))),lim (toL b2.num.natAbs),lim (toL b2.den),.v (.bool (decide (c1.num < 0))),lim (toL c1.num.natAbs),lim (toL c1.den),.v (.bool (decide (c2.num < 0))),lim (toL c2.num.natAbs),lim (toL c2.den),.v (.bool false),.v (.slice none 0 0),.v (.slice none 0 0),.v (.bool false),.v (.slice none 0 0),.v (.slice none 0 0)]] (.tup [pt0,iv e]):=by
 refine pI func31 rfl ntmps31 results31 call31 ?_;(focus (refine wkap w_t (w_1 c) (w_r 0) ?_;(repeat' first|exact w_t|apply w_l);all_goals intros));all_goals exact gL
theorem r22F8 (a1 a2 b1 b2 c1 c2:Rat) (nm:ByteArray) (ar:List Int) (s:Bool) (l d:List Nat) (x y:Rat) (c:Pure prog 82 [ptQ a1 a2,ptQ b1 b2,ptQ c1 c2] (.tup [ptQ x y,iv 0])):Pure prog 31 [.agg [iv 8,strA nm,ivs ar,.v (.bool s),lim l,lim d],.agg [.v (.bool (decide (a1.num < 0))),lim (toL a1.num.natAbs),lim (toL a1.den),.v (.bool (decide (a2.num < 0))),lim (toL a2.num.natAbs),lim (toL a2.den),.v (.bool (decide (b1.num < 0))),lim (toL b1.num.natAbs),lim (toL b1.den),.v (.bool (decide (b2.num < 0))),lim (toL b2.num.natAbs),lim (toL b2.den),.v (.bool (decide (c1.num < 0))),lim (toL c1.num.natAbs),lim (toL c1.den),.v (.bool (decide (c2.num < 0))),lim (toL c2.num.natAbs),lim (toL c2.den),.v (.bool false),.v (.slice none 0 0),.v (.slice none 0 0),.v (.bool false),.v (.slice none 0 0),.v (.slice none 0 0)]] (.tup [ptQ x y,iv 0]):=by
 refine pI func31 rfl ntmps31 results31 call31 ?_;(focus (refine wkap w_t (w_1 c) (w_r 0) ?_;(repeat' first|exact w_t|apply w_l);all_goals intros));all_goals exact gL
theorem r22F8n (a1 a2 b1 b2 c1 c2:Rat) (nm:ByteArray) (ar:List Int) (s:Bool) (l d:List Nat) (e:Int) (c:Pure prog 82 [ptQ a1 a2,ptQ b1 b2,ptQ c1 c2] (.tup [pt0,iv e])):Pure prog 31 [.agg [iv 8,strA nm,ivs ar,.v (.bool s),lim l,lim d],.agg [.v (.bool (decide (a1.num < 0))),lim (toL a1.num.natAbs),lim (toL a1.den),.v (.bool (decide (a2.num < 0))),lim (toL a2.num.natAbs),lim (toL a2.den),.v (.bool (decide (b1.num < 0))),lim (toL b1.num.natAbs),lim (toL b1.den),.v (.bool (decide (b2.num < 0))),lim (toL b2.num.natAbs),lim (toL b2.den),.v (.bool (decide (c1.num < 0))),lim (toL c1.num.natAbs),lim (toL c1.den),.v (.bool (decide (c2.num < 0))),lim (toL c2.num.natAbs),lim (toL c2.den),.v (.bool false),.v (.slice none 0 0),.v (.slice none 0 0),.v (.bool false),.v (.slice none 0 0),.v (.slice none 0 0)]] (.tup [pt0,iv e]):=by
 refine pI func31 rfl ntmps31 results31 call31 ?_;(focus (refine wkap w_t (w_1 c) (w_r 0) ?_;(repeat' first|exact w_t|apply w_l);all_goals intros));all_goals exact gL
theorem r22F9 (a1 a2 b1 b2 c1 c2 d1 d2:Rat) (nm:ByteArray) (ar:List Int) (s:Bool) (l d:List Nat) (x y:Rat) (c:Pure prog 83 [ptQ a1 a2,ptQ b1 b2,ptQ c1 c2,ptQ d1 d2] (.tup [ptQ x y,iv 0])):Pure prog 31 [.agg [iv 9,strA nm,ivs ar,.v (.bool s),lim l,lim d],.agg [.v (.bool (decide (a1.num < 0))),lim (toL a1.num.natAbs),lim (toL a1.den),.v (.bool (decide (a2.num < 0))),lim (toL a2.num.natAbs),lim (toL a2.den),.v (.bool (decide (b1.num < 0))),lim (toL b1.num.natAbs),lim (toL b1.den),.v (.bool (decide (b2.num < 0))),lim (toL b2.num.natAbs),lim (toL b2.den),.v (.bool (decide (c1.num < 0))),lim (toL c1.num.natAbs),lim (toL c1.den),.v (.bool (decide (c2.num < 0))),lim (toL c2.num.natAbs),lim (toL c2.den),.v (.bool (decide (d1.num < 0))),lim (toL d1.num.natAbs),lim (toL d1.den),.v (.bool (decide (d2.num < 0))),lim (toL d2.num.natAbs),lim (toL d2.den)]] (.tup [ptQ x y,iv 0]):=by
 refine pI func31 rfl ntmps31 results31 call31 ?_;(focus (refine wkap w_t (w_1 c) (w_r 0) ?_;(repeat' first|exact w_t|apply w_l);all_goals intros));all_goals exact gL
theorem r22F9n (a1 a2 b1 b2 c1 c2 d1 d2:Rat) (nm:ByteArray) (ar:List Int) (s:Bool) (l d:List Nat) (e:Int) (c:Pure prog 83 [ptQ a1 a2,ptQ b1 b2,ptQ c1 c2,ptQ d1 d2] (.tup [pt0,iv e])):Pure prog 31 [.agg [iv 9,strA nm,ivs ar,.v (.bool s),lim l,lim d],.agg [.v (.bool (decide (a1.num < 0))),lim (toL a1.num.natAbs),lim (toL a1.den),.v (.bool (decide (a2.num < 0))),lim (toL a2.num.natAbs),lim (toL a2.den),.v (.bool (decide (b1.num < 0))),lim (toL b1.num.natAbs),lim (toL b1.den),.v (.bool (decide (b2.num < 0))),lim (toL b2.num.natAbs),lim (toL b2.den),.v (.bool (decide (c1.num < 0))),lim (toL c1.num.natAbs),lim (toL c1.den),.v (.bool (decide (c2.num < 0))),lim (toL c2.num.natAbs),lim (toL c2.den),.v (.bool (decide (d1.num < 0))),lim (toL d1.num.natAbs),lim (toL d1.den),.v (.bool (decide (d2.num < 0))),lim (toL d2.num.natAbs),lim (toL d2.den)]] (.tup [pt0,iv e]):=by
 refine pI func31 rfl ntmps31 results31 call31 ?_;(focus (refine wkap w_t (w_1 c) (w_r 0) ?_;(repeat' first|exact w_t|apply w_l);all_goals intros));all_goals exact gL
theorem r22F10 (a1 a2 b1 b2 c1 c2:Rat) (nm:ByteArray) (ar:List Int) (s:Bool) (l d:List Nat) (x y:Rat) (c:Pure prog 84 [ptQ a1 a2,ptQ b1 b2,ptQ c1 c2] (.tup [ptQ x y,iv 0])):Pure prog 31 [.agg [iv 10,strA nm,ivs ar,.v (.bool s),lim l,lim d],.agg [.v (.bool (decide (a1.num < 0))),lim (toL a1.num.natAbs),lim (toL a1.den),.v (.bool (decide (a2.num < 0))),lim (toL a2.num.natAbs),lim (toL a2.den),.v (.bool (decide (b1.num < 0))),lim (toL b1.num.natAbs),lim (toL b1.den),.v (.bool (decide (b2.num < 0))),lim (toL b2.num.natAbs),lim (toL b2.den),.v (.bool (decide (c1.num < 0))),lim (toL c1.num.natAbs),lim (toL c1.den),.v (.bool (decide (c2.num < 0))),lim (toL c2.num.natAbs),lim (toL c2.den),.v (.bool false),.v (.slice none 0 0),.v (.slice none 0 0),.v (.bool false),.v (.slice none 0 0),.v (.slice none 0 0)]] (.tup [ptQ x y,iv 0]):=by
 refine pI func31 rfl ntmps31 results31 call31 ?_;(focus (refine wkap w_t (w_1 c) (w_r 0) ?_;(repeat' first|exact w_t|apply w_l);all_goals intros));all_goals exact gL
theorem r22F10n (a1 a2 b1 b2 c1 c2:Rat) (nm:ByteArray) (ar:List Int) (s:Bool) (l d:List Nat) (e:Int) (c:Pure prog 84 [ptQ a1 a2,ptQ b1 b2,ptQ c1 c2] (.tup [pt0,iv e])):Pure prog 31 [.agg [iv 10,strA nm,ivs ar,.v (.bool s),lim l,lim d],.agg [.v (.bool (decide (a1.num < 0))),lim (toL a1.num.natAbs),lim (toL a1.den),.v (.bool (decide (a2.num < 0))),lim (toL a2.num.natAbs),lim (toL a2.den),.v (.bool (decide (b1.num < 0))),lim (toL b1.num.natAbs),lim (toL b1.den),.v (.bool (decide (b2.num < 0))),lim (toL b2.num.natAbs),lim (toL b2.den),.v (.bool (decide (c1.num < 0))),lim (toL c1.num.natAbs),lim (toL c1.den),.v (.bool (decide (c2.num < 0))),lim (toL c2.num.natAbs),lim (toL c2.den),.v (.bool false),.v (.slice none 0 0),.v (.slice none 0 0),.v (.bool false),.v (.slice none 0 0),.v (.slice none 0 0)]] (.tup [pt0,iv e]):=by
 refine pI func31 rfl ntmps31 results31 call31 ?_;(focus (refine wkap w_t (w_1 c) (w_r 0) ?_;(repeat' first|exact w_t|apply w_l);all_goals intros));all_goals exact gL
theorem r22F11 (a1 a2 b1 b2 c1 c2:Rat) (nm:ByteArray) (ar:List Int) (s:Bool) (l d:List Nat) (x y:Rat) (c:Pure prog 85 [ptQ a1 a2,ptQ b1 b2,ptQ c1 c2] (.tup [ptQ x y,iv 0])):Pure prog 31 [.agg [iv 11,strA nm,ivs ar,.v (.bool s),lim l,lim d],.agg [.v (.bool (decide (a1.num < 0))),lim (toL a1.num.natAbs),lim (toL a1.den),.v (.bool (decide (a2.num < 0))),lim (toL a2.num.natAbs),lim (toL a2.den),.v (.bool (decide (b1.num < 0))),lim (toL b1.num.natAbs),lim (toL b1.den),.v (.bool (decide (b2.num < 0))),lim (toL b2.num.natAbs),lim (toL b2.den),.v (.bool (decide (c1.num < 0))),lim (toL c1.num.natAbs),lim (toL c1.den),.v (.bool (decide (c2.num < 0))),lim (toL c2.num.natAbs),lim (toL c2.den),.v (.bool false),.v (.slice none 0 0),.v (.slice none 0 0),.v (.bool false),.v (.slice none 0 0),.v (.slice none 0 0)]] (.tup [ptQ x y,iv 0]):=by
 refine pI func31 rfl ntmps31 results31 call31 ?_;(focus (refine wkap w_t (w_1 c) (w_r 0) ?_;(repeat' first|exact w_t|apply w_l);all_goals intros));all_goals exact gL
theorem r22F11n (a1 a2 b1 b2 c1 c2:Rat) (nm:ByteArray) (ar:List Int) (s:Bool) (l d:List Nat) (e:Int) (c:Pure prog 85 [ptQ a1 a2,ptQ b1 b2,ptQ c1 c2] (.tup [pt0,iv e])):Pure prog 31 [.agg [iv 11,strA nm,ivs ar,.v (.bool s),lim l,lim d],.agg [.v (.bool (decide (a1.num < 0))),lim (toL a1.num.natAbs),lim (toL a1.den),.v (.bool (decide (a2.num < 0))),lim (toL a2.num.natAbs),lim (toL a2.den),.v (.bool (decide (b1.num < 0))),lim (toL b1.num.natAbs),lim (toL b1.den),.v (.bool (decide (b2.num < 0))),lim (toL b2.num.natAbs),lim (toL b2.den),.v (.bool (decide (c1.num < 0))),lim (toL c1.num.natAbs),lim (toL c1.den),.v (.bool (decide (c2.num < 0))),lim (toL c2.num.natAbs),lim (toL c2.den),.v (.bool false),.v (.slice none 0 0),.v (.slice none 0 0),.v (.bool false),.v (.slice none 0 0),.v (.slice none 0 0)]] (.tup [pt0,iv e]):=by
 refine pI func31 rfl ntmps31 results31 call31 ?_;(focus (refine wkap w_t (w_1 c) (w_r 0) ?_;(repeat' first|exact w_t|apply w_l);all_goals intros));all_goals exact gL
theorem r22C1 (x y:Rat) (vs ws bs:List AV) (n m:Int) (lv:vs.length≤1000) (lw:ws.length≤1000) (lb:bs.length≤1000) (c:Pure prog 72 [.agg [.sl 3 vs,.sl 1 bs,iv n]] (.tup [ptQ x y,.agg [.sl 3 ws,.sl 1 bs,iv m]])):Pure prog 30 [iv 1,.agg [.v (.bool false),.v (.slice none 0 0),.v (.slice none 0 0),.v (.bool false),.v (.slice none 0 0),.v (.slice none 0 0),.v (.bool false),.v (.slice none 0 0),.v (.slice none 0 0),.v (.bool false),.v (.slice none 0 0),.v (.slice none 0 0),.v (.bool false),.v (.slice none 0 0),.v (.slice none 0 0),.v (.bool false),.v (.slice none 0 0),.v (.slice none 0 0),.v (.bool false),.v (.slice none 0 0),.v (.slice none 0 0),.v (.bool false),.v (.slice none 0 0),.v (.slice none 0 0)],.agg [.sl 3 vs,.sl 1 bs,iv n]] (.tup [ptQ x y,iv 0,.agg [.sl 3 ws,.sl 1 bs,iv m]]):=by
 refine pI func30 rfl ntmps30 results30 call30 ?_;(focus (refine wkad w_t (w_1 c) (w_1 (w_d 3 [] [] [6,8])) ?_;(repeat' first|exact w_t|apply w_l);all_goals intros));all_goals exact gL
theorem r22C5 (a1 a2 b1 b2 v x y:Rat) (vs ws bs:List AV) (n m:Int) (lv:vs.length≤1000) (lw:ws.length≤1000) (lb:bs.length≤1000) (c:Pure prog 73 [.agg [.sl 3 vs,.sl 1 bs,iv n]] (.tup [ratQ v,.agg [.sl 3 ws,.sl 1 bs,iv m]])) (c1:Pure prog 74 [ptQ a1 a2,ptQ b1 b2,ratQ v] (ptQ x y)):Pure prog 30 [iv 5,.agg [.v (.bool (decide (a1.num < 0))),lim (toL a1.num.natAbs),lim (toL a1.den),.v (.bool (decide (a2.num < 0))),lim (toL a2.num.natAbs),lim (toL a2.den),.v (.bool (decide (b1.num < 0))),lim (toL b1.num.natAbs),lim (toL b1.den),.v (.bool (decide (b2.num < 0))),lim (toL b2.num.natAbs),lim (toL b2.den),.v (.bool false),.v (.slice none 0 0),.v (.slice none 0 0),.v (.bool false),.v (.slice none 0 0),.v (.slice none 0 0),.v (.bool false),.v (.slice none 0 0),.v (.slice none 0 0),.v (.bool false),.v (.slice none 0 0),.v (.slice none 0 0)],.agg [.sl 3 vs,.sl 1 bs,iv n]] (.tup [ptQ x y,iv 0,.agg [.sl 3 ws,.sl 1 bs,iv m]]):=by
 refine pI func30 rfl ntmps30 results30 call30 ?_;(focus (refine wkad w_t (w_2 c c1) (w_1 (w_d 7 [(5,ptQ x y)] [] [6,8])) ?_;(repeat' first|exact w_t|apply w_l);all_goals intros));all_goals exact gL
theorem r22C6 (a1 a2 b1 b2 v x y:Rat) (vs ws bs:List AV) (n m:Int) (lv:vs.length≤1000) (lw:ws.length≤1000) (lb:bs.length≤1000) (c:Pure prog 73 [.agg [.sl 3 vs,.sl 1 bs,iv n]] (.tup [ratQ v,.agg [.sl 3 ws,.sl 1 bs,iv m]])) (c1:Pure prog 75 [ptQ a1 a2,ptQ b1 b2,ratQ v] (ptQ x y)):Pure prog 30 [iv 6,.agg [.v (.bool (decide (a1.num < 0))),lim (toL a1.num.natAbs),lim (toL a1.den),.v (.bool (decide (a2.num < 0))),lim (toL a2.num.natAbs),lim (toL a2.den),.v (.bool (decide (b1.num < 0))),lim (toL b1.num.natAbs),lim (toL b1.den),.v (.bool (decide (b2.num < 0))),lim (toL b2.num.natAbs),lim (toL b2.den),.v (.bool false),.v (.slice none 0 0),.v (.slice none 0 0),.v (.bool false),.v (.slice none 0 0),.v (.slice none 0 0),.v (.bool false),.v (.slice none 0 0),.v (.slice none 0 0),.v (.bool false),.v (.slice none 0 0),.v (.slice none 0 0)],.agg [.sl 3 vs,.sl 1 bs,iv n]] (.tup [ptQ x y,iv 0,.agg [.sl 3 ws,.sl 1 bs,iv m]]):=by
 refine pI func30 rfl ntmps30 results30 call30 ?_;(focus (refine wkad w_t (w_2 c c1) (w_1 (w_d 8 [(5,ptQ x y)] [] [6,8])) ?_;(repeat' first|exact w_t|apply w_l);all_goals intros));all_goals exact gL
theorem r22C12 (a1 a2 b1 b2 c1 c2 d1 d2:Rat) (x y:Rat) (l:Bool) (vs bs:List AV) (n:Int) (lv:vs.length≤1000) (lb:bs.length≤1000) (c:Pure prog 76 [ptQ a1 a2,ptQ b1 b2,ptQ c1 c2,ptQ d1 d2,.v (.bool l)] (.tup [ptQ x y,iv 0])):Pure prog 30 [iv 12,.agg [.v (.bool (decide (a1.num < 0))),lim (toL a1.num.natAbs),lim (toL a1.den),.v (.bool (decide (a2.num < 0))),lim (toL a2.num.natAbs),lim (toL a2.den),.v (.bool (decide (b1.num < 0))),lim (toL b1.num.natAbs),lim (toL b1.den),.v (.bool (decide (b2.num < 0))),lim (toL b2.num.natAbs),lim (toL b2.den),.v (.bool (decide (c1.num < 0))),lim (toL c1.num.natAbs),lim (toL c1.den),.v (.bool (decide (c2.num < 0))),lim (toL c2.num.natAbs),lim (toL c2.den),.v (.bool (decide (d1.num < 0))),lim (toL d1.num.natAbs),lim (toL d1.den),.v (.bool (decide (d2.num < 0))),lim (toL d2.num.natAbs),lim (toL d2.den)],.agg [.sl 3 vs,.sl 1 (.v (.bool l) :: bs),iv n]] (.tup [ptQ x y,iv 0,.agg [.sl 3 vs,.sl 1 bs,iv n]]):=by
 refine pI func30 rfl ntmps30 results30 call30 ?_
 (repeat' (first|(with_reducible first|refine stp ?_|apply gx1|apply gx2|apply gx3|apply gx4|apply gx5|apply gx6|apply gx7|apply gy8|apply gz2|apply gz3|refine gw0 (c) ?_ ?_|refine gw3 (c) ?_ ?_ ?_)|(with_reducible refine Zck ?_;intro _)|((with_reducible refine gE ?_);(try simp (disch:=omega) only [go_sem,ZAe,Zzf,Zzd,Zzc,Zzb,Int.reduceAdd,Int.reduceSub,Int.reduceToNat,Zzh])<;>first|rfl|omega)|with_reducible refine Zaf zd ?_|((with_reducible apply gy1);iterate 3 focus rfl)|((with_reducible apply gy2);iterate 3 focus rfl)|((with_reducible apply gy3);iterate 2 focus rfl)|((with_reducible apply gy4);iterate 1 focus rfl)|((with_reducible apply gy5);iterate 4 focus rfl)|((with_reducible apply gy5c);iterate 4 focus rfl)|((with_reducible apply gy6);iterate 4 focus rfl)|((with_reducible apply Zfk);iterate 3 focus rfl)|((with_reducible apply Zfi);iterate 1 focus rfl)|((with_reducible apply gy7);iterate 1 focus rfl)|((with_reducible apply gy9);(focus ((with_reducible refine gE ?_);(try simp (disch:=omega) only [go_sem,ZAe,Zzf,Zzd,Zzc,Zzb,Int.reduceAdd,Int.reduceSub,Int.reduceToNat,Zzh])<;>rfl)))|((with_reducible apply gz1);(focus first|rfl|(simp (disch:=omega) only [go_sem,ZAe,Zzf,Zzd,Zzc,Zzb,Int.reduceAdd,Int.reduceSub,Int.reduceToNat,Zzh];done)))|((with_reducible apply Za6 (id:=19) (Zcz []) [] [6,8]);(focus kernel_rfl);(focus rfl);(focus kernel_rfl);(focus (simp only [Zzq,Zzs,Nat.reduceAdd];rfl)))|((with_reducible first|apply Zca|apply Zcp|apply Zcb);all_goals (intro hc;(try simp only [bool_to_prop] at hc);try (exfalso;omega)))))
 all_goals exact gL
theorem r22C12n (a1 a2 b1 b2 c1 c2 d1 d2:Rat) (e:Int) (l:Bool) (vs bs:List AV) (n:Int) (lv:vs.length≤1000) (lb:bs.length≤1000) (c:Pure prog 76 [ptQ a1 a2,ptQ b1 b2,ptQ c1 c2,ptQ d1 d2,.v (.bool l)] (.tup [pt0,iv e])):Pure prog 30 [iv 12,.agg [.v (.bool (decide (a1.num < 0))),lim (toL a1.num.natAbs),lim (toL a1.den),.v (.bool (decide (a2.num < 0))),lim (toL a2.num.natAbs),lim (toL a2.den),.v (.bool (decide (b1.num < 0))),lim (toL b1.num.natAbs),lim (toL b1.den),.v (.bool (decide (b2.num < 0))),lim (toL b2.num.natAbs),lim (toL b2.den),.v (.bool (decide (c1.num < 0))),lim (toL c1.num.natAbs),lim (toL c1.den),.v (.bool (decide (c2.num < 0))),lim (toL c2.num.natAbs),lim (toL c2.den),.v (.bool (decide (d1.num < 0))),lim (toL d1.num.natAbs),lim (toL d1.den),.v (.bool (decide (d2.num < 0))),lim (toL d2.num.natAbs),lim (toL d2.den)],.agg [.sl 3 vs,.sl 1 (.v (.bool l) :: bs),iv n]] (.tup [pt0,iv e,.agg [.sl 3 vs,.sl 1 bs,iv n]]):=by
 refine pI func30 rfl ntmps30 results30 call30 ?_
 (repeat' (first|(with_reducible first|refine stp ?_|apply gx1|apply gx2|apply gx3|apply gx4|apply gx5|apply gx6|apply gx7|apply gy8|apply gz2|apply gz3|refine gw0 (c) ?_ ?_|refine gw3 (c) ?_ ?_ ?_)|(with_reducible refine Zck ?_;intro _)|((with_reducible refine gE ?_);(try simp (disch:=omega) only [go_sem,ZAe,Zzf,Zzd,Zzc,Zzb,Int.reduceAdd,Int.reduceSub,Int.reduceToNat,Zzh])<;>first|rfl|omega)|with_reducible refine Zaf zd ?_|((with_reducible apply gy1);iterate 3 focus rfl)|((with_reducible apply gy2);iterate 3 focus rfl)|((with_reducible apply gy3);iterate 2 focus rfl)|((with_reducible apply gy4);iterate 1 focus rfl)|((with_reducible apply gy5);iterate 4 focus rfl)|((with_reducible apply gy5c);iterate 4 focus rfl)|((with_reducible apply gy6);iterate 4 focus rfl)|((with_reducible apply Zfk);iterate 3 focus rfl)|((with_reducible apply Zfi);iterate 1 focus rfl)|((with_reducible apply gy7);iterate 1 focus rfl)|((with_reducible apply gy9);(focus ((with_reducible refine gE ?_);(try simp (disch:=omega) only [go_sem,ZAe,Zzf,Zzd,Zzc,Zzb,Int.reduceAdd,Int.reduceSub,Int.reduceToNat,Zzh])<;>rfl)))|((with_reducible apply gz1);(focus first|rfl|(simp (disch:=omega) only [go_sem,ZAe,Zzf,Zzd,Zzc,Zzb,Int.reduceAdd,Int.reduceSub,Int.reduceToNat,Zzh];done)))|((with_reducible apply Za6 (id:=19) (Zcz []) [] [6,8]);(focus kernel_rfl);(focus rfl);(focus kernel_rfl);(focus (simp only [Zzq,Zzs,Nat.reduceAdd];rfl)))|((with_reducible first|apply Zca|apply Zcp|apply Zcb);all_goals (intro hc;(try simp only [bool_to_prop] at hc);try (exfalso;omega)))))
 all_goals exact gL
theorem r22C13 (a1 a2 b1 b2 c1 c2 d1 d2:Rat) (x y:Rat) (l:Bool) (vs bs:List AV) (n:Int) (lv:vs.length≤1000) (lb:bs.length≤1000) (c:Pure prog 77 [ptQ a1 a2,ptQ b1 b2,ptQ c1 c2,ptQ d1 d2,.v (.bool l)] (.tup [ptQ x y,iv 0])):Pure prog 30 [iv 13,.agg [.v (.bool (decide (a1.num < 0))),lim (toL a1.num.natAbs),lim (toL a1.den),.v (.bool (decide (a2.num < 0))),lim (toL a2.num.natAbs),lim (toL a2.den),.v (.bool (decide (b1.num < 0))),lim (toL b1.num.natAbs),lim (toL b1.den),.v (.bool (decide (b2.num < 0))),lim (toL b2.num.natAbs),lim (toL b2.den),.v (.bool (decide (c1.num < 0))),lim (toL c1.num.natAbs),lim (toL c1.den),.v (.bool (decide (c2.num < 0))),lim (toL c2.num.natAbs),lim (toL c2.den),.v (.bool (decide (d1.num < 0))),lim (toL d1.num.natAbs),lim (toL d1.den),.v (.bool (decide (d2.num < 0))),lim (toL d2.num.natAbs),lim (toL d2.den)],.agg [.sl 3 vs,.sl 1 (.v (.bool l) :: bs),iv n]] (.tup [ptQ x y,iv 0,.agg [.sl 3 vs,.sl 1 bs,iv n]]):=by
 refine pI func30 rfl ntmps30 results30 call30 ?_
 (repeat' (first|(with_reducible first|refine stp ?_|apply gx1|apply gx2|apply gx3|apply gx4|apply gx5|apply gx6|apply gx7|apply gy8|apply gz2|apply gz3|refine gw0 (c) ?_ ?_|refine gw3 (c) ?_ ?_ ?_)|(with_reducible refine Zck ?_;intro _)|((with_reducible refine gE ?_);(try simp (disch:=omega) only [go_sem,ZAe,Zzf,Zzd,Zzc,Zzb,Int.reduceAdd,Int.reduceSub,Int.reduceToNat,Zzh])<;>first|rfl|omega)|with_reducible refine Zaf zd ?_|((with_reducible apply gy1);iterate 3 focus rfl)|((with_reducible apply gy2);iterate 3 focus rfl)|((with_reducible apply gy3);iterate 2 focus rfl)|((with_reducible apply gy4);iterate 1 focus rfl)|((with_reducible apply gy5);iterate 4 focus rfl)|((with_reducible apply gy5c);iterate 4 focus rfl)|((with_reducible apply gy6);iterate 4 focus rfl)|((with_reducible apply Zfk);iterate 3 focus rfl)|((with_reducible apply Zfi);iterate 1 focus rfl)|((with_reducible apply gy7);iterate 1 focus rfl)|((with_reducible apply gy9);(focus ((with_reducible refine gE ?_);(try simp (disch:=omega) only [go_sem,ZAe,Zzf,Zzd,Zzc,Zzb,Int.reduceAdd,Int.reduceSub,Int.reduceToNat,Zzh])<;>rfl)))|((with_reducible apply gz1);(focus first|rfl|(simp (disch:=omega) only [go_sem,ZAe,Zzf,Zzd,Zzc,Zzb,Int.reduceAdd,Int.reduceSub,Int.reduceToNat,Zzh];done)))|((with_reducible apply Za6 (id:=19) (Zcz []) [] [6,8]);(focus kernel_rfl);(focus rfl);(focus kernel_rfl);(focus (simp only [Zzq,Zzs,Nat.reduceAdd];rfl)))|((with_reducible first|apply Zca|apply Zcp|apply Zcb);all_goals (intro hc;(try simp only [bool_to_prop] at hc);try (exfalso;omega)))))
 all_goals exact gL
theorem r22C13n (a1 a2 b1 b2 c1 c2 d1 d2:Rat) (e:Int) (l:Bool) (vs bs:List AV) (n:Int) (lv:vs.length≤1000) (lb:bs.length≤1000) (c:Pure prog 77 [ptQ a1 a2,ptQ b1 b2,ptQ c1 c2,ptQ d1 d2,.v (.bool l)] (.tup [pt0,iv e])):Pure prog 30 [iv 13,.agg [.v (.bool (decide (a1.num < 0))),lim (toL a1.num.natAbs),lim (toL a1.den),.v (.bool (decide (a2.num < 0))),lim (toL a2.num.natAbs),lim (toL a2.den),.v (.bool (decide (b1.num < 0))),lim (toL b1.num.natAbs),lim (toL b1.den),.v (.bool (decide (b2.num < 0))),lim (toL b2.num.natAbs),lim (toL b2.den),.v (.bool (decide (c1.num < 0))),lim (toL c1.num.natAbs),lim (toL c1.den),.v (.bool (decide (c2.num < 0))),lim (toL c2.num.natAbs),lim (toL c2.den),.v (.bool (decide (d1.num < 0))),lim (toL d1.num.natAbs),lim (toL d1.den),.v (.bool (decide (d2.num < 0))),lim (toL d2.num.natAbs),lim (toL d2.den)],.agg [.sl 3 vs,.sl 1 (.v (.bool l) :: bs),iv n]] (.tup [pt0,iv e,.agg [.sl 3 vs,.sl 1 bs,iv n]]):=by
 refine pI func30 rfl ntmps30 results30 call30 ?_
 (repeat' (first|(with_reducible first|refine stp ?_|apply gx1|apply gx2|apply gx3|apply gx4|apply gx5|apply gx6|apply gx7|apply gy8|apply gz2|apply gz3|refine gw0 (c) ?_ ?_|refine gw3 (c) ?_ ?_ ?_)|(with_reducible refine Zck ?_;intro _)|((with_reducible refine gE ?_);(try simp (disch:=omega) only [go_sem,ZAe,Zzf,Zzd,Zzc,Zzb,Int.reduceAdd,Int.reduceSub,Int.reduceToNat,Zzh])<;>first|rfl|omega)|with_reducible refine Zaf zd ?_|((with_reducible apply gy1);iterate 3 focus rfl)|((with_reducible apply gy2);iterate 3 focus rfl)|((with_reducible apply gy3);iterate 2 focus rfl)|((with_reducible apply gy4);iterate 1 focus rfl)|((with_reducible apply gy5);iterate 4 focus rfl)|((with_reducible apply gy5c);iterate 4 focus rfl)|((with_reducible apply gy6);iterate 4 focus rfl)|((with_reducible apply Zfk);iterate 3 focus rfl)|((with_reducible apply Zfi);iterate 1 focus rfl)|((with_reducible apply gy7);iterate 1 focus rfl)|((with_reducible apply gy9);(focus ((with_reducible refine gE ?_);(try simp (disch:=omega) only [go_sem,ZAe,Zzf,Zzd,Zzc,Zzb,Int.reduceAdd,Int.reduceSub,Int.reduceToNat,Zzh])<;>rfl)))|((with_reducible apply gz1);(focus first|rfl|(simp (disch:=omega) only [go_sem,ZAe,Zzf,Zzd,Zzc,Zzb,Int.reduceAdd,Int.reduceSub,Int.reduceToNat,Zzh];done)))|((with_reducible apply Za6 (id:=19) (Zcz []) [] [6,8]);(focus kernel_rfl);(focus rfl);(focus kernel_rfl);(focus (simp only [Zzq,Zzs,Nat.reduceAdd];rfl)))|((with_reducible first|apply Zca|apply Zcp|apply Zcb);all_goals (intro hc;(try simp only [bool_to_prop] at hc);try (exfalso;omega)))))
 all_goals exact gL
theorem r22C14n (a1 a2 b1 b2:Rat) (e:Int) (l:Bool) (vs bs:List AV) (n:Int) (lv:vs.length≤1000) (lb:bs.length≤1000) (c:Pure prog 78 [ptQ a1 a2,ptQ b1 b2,.v (.bool l)] (.tup [pt0,iv e])):Pure prog 30 [iv 14,.agg [.v (.bool (decide (a1.num < 0))),lim (toL a1.num.natAbs),lim (toL a1.den),.v (.bool (decide (a2.num < 0))),lim (toL a2.num.natAbs),lim (toL a2.den),.v (.bool (decide (b1.num < 0))),lim (toL b1.num.natAbs),lim (toL b1.den),.v (.bool (decide (b2.num < 0))),lim (toL b2.num.natAbs),lim (toL b2.den),.v (.bool false),.v (.slice none 0 0),.v (.slice none 0 0),.v (.bool false),.v (.slice none 0 0),.v (.slice none 0 0),.v (.bool false),.v (.slice none 0 0),.v (.slice none 0 0),.v (.bool false),.v (.slice none 0 0),.v (.slice none 0 0)],.agg [.sl 3 vs,.sl 1 (.v (.bool l) :: bs),iv n]] (.tup [pt0,iv e,.agg [.sl 3 vs,.sl 1 bs,iv n]]):=by
 refine pI func30 rfl ntmps30 results30 call30 ?_
 (repeat' (first|(with_reducible first|refine stp ?_|apply gx1|apply gx2|apply gx3|apply gx4|apply gx5|apply gx6|apply gx7|apply gy8|apply gz2|apply gz3|refine gw0 (c) ?_ ?_|refine gw3 (c) ?_ ?_ ?_)|(with_reducible refine Zck ?_;intro _)|((with_reducible refine gE ?_);(try simp (disch:=omega) only [go_sem,ZAe,Zzf,Zzd,Zzc,Zzb,Int.reduceAdd,Int.reduceSub,Int.reduceToNat,Zzh])<;>first|rfl|omega)|with_reducible refine Zaf zd ?_|((with_reducible apply gy1);iterate 3 focus rfl)|((with_reducible apply gy2);iterate 3 focus rfl)|((with_reducible apply gy3);iterate 2 focus rfl)|((with_reducible apply gy4);iterate 1 focus rfl)|((with_reducible apply gy5);iterate 4 focus rfl)|((with_reducible apply gy5c);iterate 4 focus rfl)|((with_reducible apply gy6);iterate 4 focus rfl)|((with_reducible apply Zfk);iterate 3 focus rfl)|((with_reducible apply Zfi);iterate 1 focus rfl)|((with_reducible apply gy7);iterate 1 focus rfl)|((with_reducible apply gy9);(focus ((with_reducible refine gE ?_);(try simp (disch:=omega) only [go_sem,ZAe,Zzf,Zzd,Zzc,Zzb,Int.reduceAdd,Int.reduceSub,Int.reduceToNat,Zzh])<;>rfl)))|((with_reducible apply gz1);(focus first|rfl|(simp (disch:=omega) only [go_sem,ZAe,Zzf,Zzd,Zzc,Zzb,Int.reduceAdd,Int.reduceSub,Int.reduceToNat,Zzh];done)))|((with_reducible apply Za6 (id:=19) (Zcz []) [] [6,8]);(focus kernel_rfl);(focus rfl);(focus kernel_rfl);(focus (simp only [Zzq,Zzs,Nat.reduceAdd];rfl)))|((with_reducible first|apply Zca|apply Zcp|apply Zcb);all_goals (intro hc;(try simp only [bool_to_prop] at hc);try (exfalso;omega)))))
 all_goals exact gL
attribute [local go_sem] Zdn Zdm Zog Zqg Zvg Zl1 Zqe Zt4
abbrev stV (W C:List AV) (n:Int):AV:=.agg [.sl 3 W,.sl 1 C,iv n]
def arrA:List PQ→AV
 | []=>.agg [.v (.bool false),.v (.slice none 0 0),.v (.slice none 0 0),.v (.bool false),.v (.slice none 0 0),.v (.slice none 0 0),.v (.bool false),.v (.slice none 0 0),.v (.slice none 0 0),.v (.bool false),.v (.slice none 0 0),.v (.slice none 0 0),.v (.bool false),.v (.slice none 0 0),.v (.slice none 0 0),.v (.bool false),.v (.slice none 0 0),.v (.slice none 0 0),.v (.bool false),.v (.slice none 0 0),.v (.slice none 0 0),.v (.bool false),.v (.slice none 0 0),.v (.slice none 0 0)]
 | [a,b]=>.agg [.v (.bool (decide (a.1.num < 0))),lim (toL a.1.num.natAbs),lim (toL a.1.den),.v (.bool (decide (a.2.num < 0))),lim (toL a.2.num.natAbs),lim (toL a.2.den),.v (.bool (decide (b.1.num < 0))),lim (toL b.1.num.natAbs),lim (toL b.1.den),.v (.bool (decide (b.2.num < 0))),lim (toL b.2.num.natAbs),lim (toL b.2.den),.v (.bool false),.v (.slice none 0 0),.v (.slice none 0 0),.v (.bool false),.v (.slice none 0 0),.v (.slice none 0 0),.v (.bool false),.v (.slice none 0 0),.v (.slice none 0 0),.v (.bool false),.v (.slice none 0 0),.v (.slice none 0 0)]
 | [a,b,c]=>.agg [.v (.bool (decide (a.1.num < 0))),lim (toL a.1.num.natAbs),lim (toL a.1.den),.v (.bool (decide (a.2.num < 0))),lim (toL a.2.num.natAbs),lim (toL a.2.den),.v (.bool (decide (b.1.num < 0))),lim (toL b.1.num.natAbs),lim (toL b.1.den),.v (.bool (decide (b.2.num < 0))),lim (toL b.2.num.natAbs),lim (toL b.2.den),.v (.bool (decide (c.1.num < 0))),lim (toL c.1.num.natAbs),lim (toL c.1.den),.v (.bool (decide (c.2.num < 0))),lim (toL c.2.num.natAbs),lim (toL c.2.den),.v (.bool false),.v (.slice none 0 0),.v (.slice none 0 0),.v (.bool false),.v (.slice none 0 0),.v (.slice none 0 0)]
 | [a,b,c,d]=>.agg [.v (.bool (decide (a.1.num < 0))),lim (toL a.1.num.natAbs),lim (toL a.1.den),.v (.bool (decide (a.2.num < 0))),lim (toL a.2.num.natAbs),lim (toL a.2.den),.v (.bool (decide (b.1.num < 0))),lim (toL b.1.num.natAbs),lim (toL b.1.den),.v (.bool (decide (b.2.num < 0))),lim (toL b.2.num.natAbs),lim (toL b.2.den),.v (.bool (decide (c.1.num < 0))),lim (toL c.1.num.natAbs),lim (toL c.1.den),.v (.bool (decide (c.2.num < 0))),lim (toL c.2.num.natAbs),lim (toL c.2.den),.v (.bool (decide (d.1.num < 0))),lim (toL d.1.num.natAbs),lim (toL d.1.den),.v (.bool (decide (d.2.num < 0))),lim (toL d.2.num.natAbs),lim (toL d.2.den)]
 | _=>.u
abbrev Zry:AV:=.agg [.v (.slice none 0 0),.v (.slice none 0 0),.v (.slice none 0 0)]
abbrev twoB (k:Int):Bool:=decide (k=12∨k=13∨k=14)
theorem Zkv (k:Int):Pure prog 29 [iv k] (.v (.bool (twoB k))):=by
 by_cases h:k=12∨k=13∨k=14
 ·rw [show twoB k=true from Zzf h];rcases h with rfl | rfl | rfl
  ·refine pI func29 rfl ntmps29 results29 call29 ?_;(focus (refine wkap w_t w_t (w_r 0) ?_;(repeat' first|exact w_t|apply w_l);all_goals intros));all_goals exact gL
  ·refine pI func29 rfl ntmps29 results29 call29 ?_;(focus (refine wkap w_t w_t (w_r 0) ?_;(repeat' first|exact w_t|apply w_l);all_goals intros));all_goals exact gL
  ·refine pI func29 rfl ntmps29 results29 call29 ?_;(focus (refine wkap w_t w_t (w_r 0) ?_;(repeat' first|exact w_t|apply w_l);all_goals intros));all_goals exact gL
 ·rw [show twoB k=false from Zzd h];have h1:¬k=12:=λe=>h (.inl e);have h2:¬k=13:=λe=>h (.inr (.inl e));have h3:¬k=14:=λe=>h (.inr (.inr e));refine pI func29 rfl ntmps29 results29 call29 ?_;(focus (refine wkap (w_3 h1 h2 h3) w_t (w_r 0) ?_;(repeat' first|exact w_t|apply w_l);all_goals intros));all_goals exact gL
def Zlw (s:RS) (A:List PQ) (W C:List AV) (n:Int) (pt:AV) (e:Int) (W' C':List AV) (n':Int):Prop :=
 if s.k=1∨s.k=5∨s.k=6∨twoB s.k=true then Pure prog 30 [iv s.k,arrA A,stV W C n] (.tup [pt,iv e,stV W' C' n'])
 else Pure prog 31 [s.av,arrA A] (.tup [pt,iv e])∧W'=W∧C'=C∧n'=n
abbrev ptE (b:Bool) (l1 l2:List Nat) (c:Bool) (l3 l4:List Nat):AV:=.agg [.v (.bool b),lim l1,lim l2,.v (.bool c),lim l3,lim l4]
theorem pt0_vk:Vk pt0 (ptE false [] [] false [] []):=Vk.aggL (.cons (.refl _) (.cons (.nil 1) (.cons (.nil 1) (.cons (.refl _) (.cons (.nil 1) (.cons (.nil 1) .nil))))))
theorem Zwy {s:RS} {A:List PQ} {W C:List AV} {n:Int} {e:Int} {W' C':List AV} {n':Int} (h:Zlw s A W C n pt0 e W' C' n'):Zlw s A W C n (ptE false [] [] false [] []) e W' C' n':=by
 unfold Zlw at h ⊢;split
 ·rename_i hc;rw [Zzc hc] at h;exact Zdh h (Vk.tupL (.cons pt0_vk (.cons (.refl _) (.cons (.refl _) .nil))))
 ·rename_i hc;rw [Zzb hc] at h;exact⟨Zdh h.1 (Vk.tupL (.cons pt0_vk (.cons (.refl _) .nil))),h.2⟩
def argP (P:List PQ) (s:RS):List PQ:=s.ar.map λa=>P.getD a.toNat (0,0)
theorem ar_nat {l:List Int} {i:Nat} (h:∀j,j < l.length→0≤gI l j∧gI l j < (i:Int)):∃js:List Nat,l=js.map (λj:Nat=>(j:Int))∧∀j∈js,j < i:=by
 have h':∀a∈l,0≤a∧a < (i:Int):=λa ha=>by
  obtain⟨j,hj,rfl⟩:=List.mem_iff_getElem.1 ha;have:=h j hj
  rwa [show gI l j=l[j] from by unfold gI;rw [Zzo,Zzn hj];rfl] at this
 refine⟨l.map Int.toNat,?_,λj hj=>?_⟩
 ·rw [List.map_map]
  conv=>lhs;rw [←List.map_id l]
  exact ZBn λa ha=>by show a=((a.toNat:Nat):Int);have:=h' a ha;omega
 ·obtain⟨a,ha,rfl⟩:=List.mem_map.1 hj;have:=h' a ha;omega
theorem Zn3 {k:Int} {n:Nat} (h:(n:Int)=arS k):(k=1∧n=0)∨((k=2∨k=5∨k=6∨k=14)∧n=2)∨((k=3∨k=4∨k=7∨k=8∨k=10∨k=11)∧n=3)∨((k=9∨k=12∨k=13)∧n=4):=by
 unfold arS at h
 repeat' split at h
 all_goals omega
theorem r22At1 (ss:List RS) (gs:List RG) (V B:List AV) (n m:Nat) (hl:V.length≠n∨(V.length=n∧B.length≠m)) (cc:Pure prog 28 [figA ss gs] (.tup [iv n,iv m,iv 0])):Pure prog 8 [figA ss gs,.sl 3 V,.sl 1 B] (.tup [Zry,iv 0,iv 16]):=by
 show Pure _ _ [.agg [.sl 6 (ss.map RS.av),.sl 5 (gs.map RG.av)],_,_] _;have cc:Pure prog 28 [.agg [.sl 6 (ss.map RS.av),.sl 5 (gs.map RG.av)]] _:=cc;generalize ss.map RS.av=M at *;generalize gs.map RG.av=N at *;rcases hl with h | ⟨h,h'⟩
 ·have h1:¬(V.length:Int)=(n:Int):=zo;refine pI func8 rfl ntmps8 results8 call8 ?_;(focus (refine wkap (w_1 h1) (w_1 cc) (w_r 0) ?_;(repeat' first|exact w_t|apply w_l);all_goals intros));all_goals exact gL
 ·have h1:(V.length:Int)=(n:Int):=zo;have h2:¬(B.length:Int)=(m:Int):=zo;refine pI func8 rfl ntmps8 results8 call8 ?_;(focus (refine wkap (w_2 h1 h2) (w_1 cc) (w_r 0) ?_;(repeat' first|exact w_t|apply w_l);all_goals intros));all_goals exact gL
theorem r22AtV (ss:List RS) (gs:List RG) (V B:List AV) (hl:ss.length≤8) (lV:V.length≤1000) (lB:B.length≤1000) (cc:Pure prog 28 [figA ss gs] (.tup [iv V.length,iv B.length,iv 0]))
 (K:Nat) (hK:K≤ss.length) (P:Nat→List PQ) (W C:Nat→List AV) (n:Nat→Int) (lW:∀i,(W i).length≤1000) (lC:∀i,(C i).length≤1000) (hP:∀i,i≤K→(P i).length=i) (p0:P 0=[]) (w0:W 0=V) (c0:C 0=B) (n0:n 0=0)
 (har:∀i (h:i < ss.length),(ss[i].ar.length:Int)=arS ss[i].k∧0≤arS ss[i].k∧∀j,j < ss[i].ar.length→0≤gI ss[i].ar j∧gI ss[i].ar j < (i:Int))
 (hst:∀i (h:i < ss.length),i < K→∃x:PQ,P (i+1)=P i++[x]∧Zlw ss[i] (argP (P i) ss[i]) (W i) (C i) (n i) x.av 0 (W (i+1)) (C (i+1)) (n (i+1)))
 (r:AV) (hr:(K=ss.length∧r=.tup [.agg [.sl 3 V,.sl 1 B,.sl 6 ((P K).map PQ.av)],iv 0,iv 0])∨∃(h:K < ss.length) (e:Int) (W' C':List AV) (n':Int),(0 < e∧e < 100)∧Zlw ss[K] (argP (P K) ss[K]) (W K) (C K) (n K) pt0 e W' C' n'∧r=.tup [Zry,iv K,iv e]) :
 Pure prog 8 [figA ss gs,.sl 3 V,.sl 1 B] (r):=by
 have hg:∀i (h:i < ss.length),(ss.map RS.av).getD i .u=ss[i].av:=λi h=>Zaj RS.av h;have hls:(ss.map RS.av).length=ss.length:=Zzg ..;show Pure _ _ [.agg [.sl 6 (ss.map RS.av),.sl 5 (gs.map RG.av)],_,_] _;have c1:Pure prog 28 [.agg [.sl 6 (ss.map RS.av),.sl 5 (gs.map RG.av)]] _:=cc;clear cc;generalize ss.map RS.av=M at *;generalize gs.map RG.av=N at *;refine pI func8 rfl ntmps8 results8 call8 ?_;(focus (refine wkap (w_1 hls) (w_1 c1) (w_r 0) ?_;(repeat' first|exact w_t|apply w_l);all_goals intros));rename_i g1 g2 g3;refine Zf5 (Frz.nilOwn (d:=13) 37 6 90 (gC)) ?_
 refine Zab (ι:=Nat) (λi e m=>i≤K∧e 1=.sl 3 V∧e 2=.sl 1 B∧e 3=.pbox 3 g1 0∧e 6=.pbox 6 g2 0∧e 12=.pbox 12 g3 0∧e 14=iv i∧m 3=some (.box g1 25 [.sl 6 M,.sl 5 N] false)∧m 6=some (.box g2 33 [.v (.slice none 0 0),.v (.slice none 0 0),.v (.slice none 0 0)] false)∧m 12=some (.box g3 88 [.sl 3 (W i),.sl 1 (C i),iv (n i)] false)∧∃sv,e 13=.own 37 sv∧m 37=some (.row sv 90 6 ((P i).map PQ.av) 0)) (λi=>ss.length - i) 0 zr ?_ ?_
 ·rintro i e m ⟨hi,e1,e2,e3,e6,e12,e14,m3,m6,m12,sv,e13,m13⟩
  by_cases hlt:i < ss.length
  ·have hgi:=hg i hlt;obtain⟨ha1,ha2,ha3⟩:=har i hlt;have hPi:=hP i hi;have hlw:=lW i;have hlc:=lC i;have hlw':=lW (i+1);have hlc':=lC (i+1)
   have ho:∃(b1 b2:Bool) (l1 l2 l3 l4:List Nat) (e':Int) (W' C':List AV) (n':Int),Zlw ss[i] (argP (P i) ss[i]) (W i) (C i) (n i) (ptE b1 l1 l2 b2 l3 l4) e' W' C' n'∧(e'=0→i < K∧W'=W (i+1)∧C'=C (i+1)∧n'=n (i+1)∧∃x:PQ,x.av=ptE b1 l1 l2 b2 l3 l4∧P (i+1)=P i++[x])∧(e'≠0→r=.tup [Zry,iv i,iv e']):=by
    rcases Zzy i K with h | h
    ·obtain⟨x,h1,h2⟩:=hst i hlt h;exact⟨_,_,_,_,_,_,0,_,_,_,h2,λ_=>⟨h,rfl,rfl,rfl,x,rfl,h1⟩,λh0=>absurd rfl h0⟩
    ·have hik:i=K:=zo;subst hik;rcases hr with⟨h,-⟩ | ⟨_,e',W',C',n',h1,h2,h3⟩
     ·omega
     ·exact⟨false,false,[],[],[],[],e',W',C',n',Zwy h2,λh0=>zo,λ_=>h3⟩
   have hlP:(P i).length≤8:=zo;have hgL:∀j,j < (P i).length→((P i).map PQ.av).getD j .u=((P i).getD j (0,0)).av:=λj hj=>by rw [Zaj PQ.av hj,Zzo,Zzn hj];rfl
   have hlm:((P i).map PQ.av).length=(P i).length:=Zzg ..;have hmp:∀x:PQ,(P i++[x]).map PQ.av=(P i).map PQ.av++[x.av]:=λx=>Zzw ..;clear hst hr hg har hP lW lC p0 w0 c0 n0;generalize ss[i]=s at *;obtain⟨k,nm,ar,⟨rs,rl,rd⟩⟩:=s;obtain⟨js,hjs,hjl⟩:∃js:List Nat,ar=js.map (λj:Nat=>(j:Int))∧∀j∈js,j < i:=ar_nat ha3;have hjn:ar.length=js.length:=by rw [hjs,Zzg]
   have hag:argP (P i) ⟨k,nm,ar,⟨rs,rl,rd⟩⟩=js.map λj=>(P i).getD j (0,0):=by
    unfold argP;rw [hjs,List.map_map];exact ZBn λj _=>rfl
   rw [hag] at ho;simp only at ho ha1 ha2;rw [hjn] at ha1;subst hjs;clear hag hjn ha3;have hk:=Zn3 ha1;have hlt':(i:Int) < (ss.length:Int):=zo;have hlm':((P i).map PQ.av).length=i:=by rw [hlm,hPi]
   clear hlm ha1 ha2;obtain _ | ⟨a,_ | ⟨b,_ | ⟨c,_ | ⟨d,_ | ⟨x,js⟩⟩⟩⟩⟩:=js
   ·simp only [Zzq,Zzs] at hk;simp only [Zz3,Zz1] at ho hgi;clear hgL hjl;generalize (P i).map PQ.av=L at *;obtain rfl:k=1:=by clear ho;omega
    obtain⟨b1,b2,l1,l2,l3,l4,e',W',C',n',hp,hq1,hq2⟩:=ho;have hp:=(if_pos (show _ from by first|exact .inl rfl|exact .inr (.inl rfl)|exact .inr (.inr (.inl rfl))|exact .inr (.inr (.inr rfl)))).mp hp;dsimp only [arrA] at hp;(focus (refine wkap (w_17 e1 e2 e3 e6 e12 e14 m3 m6 m12 e13 m13 hls hlt' hlm' hlw hlc hgi) (w_1 hp) (w_r 6) ?_;(repeat' first|exact w_t|apply w_l);all_goals intros))
    ·rename_i hc;have hr:=hq2 hc;subst hr
     (all_goals (try simp (disch:=omega) only [go_sem,e6,m6,Zzf,Zzd,Zzc,Zzb,Int.reduceAdd,Int.reduceSub,Int.reduceToNat,Zzh]));(all_goals first|done|rfl|(congr 2;first|done|omega|(rw [Zzz];simp only [bool_to_prop,Zzr,ZAa,ZAb,ZAc,ZAd];omega))|skip)
    ·rename_i hc;obtain⟨hiK,w1,w2,w3,x,hxa,hx⟩:=hq1 zo;exact⟨i+1,⟨zo,gW e1,gW e2,gW e3,gW e6,gW e12,gS,gW m3,gW m6,by rw [←w1,←w2,←w3];exact gC,_,gC,by rw [hx,hmp,hxa];exact gC⟩,zo⟩
   ·exact absurd hk (by simp only [Zzq,Zzs];omega)
   ·simp only [Zzq,Zzs] at hk;simp only [Zz3,Zz1] at ho hgi;have ga:=hgL a (by have:=hjl a zs;clear ho;omega);have gb:=hgL b (by have:=hjl b zs;clear ho;omega);generalize (P i).getD a (0,0)=xa at *;obtain⟨xa1,xa2⟩:=xa;generalize (P i).getD b (0,0)=xb at *;obtain⟨xb1,xb2⟩:=xb;have lt_all:a < i∧b < i:=⟨hjl a zs,hjl b zs⟩;clear hgL hjl;generalize (P i).map PQ.av=L at *;by_cases h5:k=5
    ·subst h5;obtain⟨b1,b2,l1,l2,l3,l4,e',W',C',n',hp,hq1,hq2⟩:=ho;have hp:=(if_pos (show _ from by first|exact .inl rfl|exact .inr (.inl rfl)|exact .inr (.inr (.inl rfl))|exact .inr (.inr (.inr rfl)))).mp hp;dsimp only [arrA] at hp;(focus (refine wkap (w_19 e1 e2 e3 e6 e12 e14 m3 m6 m12 e13 m13 hls hlt' hlm' hlw hlc hgi ga gb) (w_1 hp) (w_r 6) ?_;(repeat' first|exact w_t|apply w_l);all_goals intros))
     ·rename_i hc;have hr:=hq2 hc;subst hr
      (all_goals (try simp (disch:=omega) only [go_sem,e6,m6,Zzf,Zzd,Zzc,Zzb,Int.reduceAdd,Int.reduceSub,Int.reduceToNat,Zzh]));(all_goals first|done|rfl|(congr 2;first|done|omega|(rw [Zzz];simp only [bool_to_prop,Zzr,ZAa,ZAb,ZAc,ZAd];omega))|skip)
     ·rename_i hc;obtain⟨hiK,w1,w2,w3,x,hxa,hx⟩:=hq1 zo;exact⟨i+1,⟨zo,gW e1,gW e2,gW e3,gW e6,gW e12,gS,gW m3,gW m6,by rw [←w1,←w2,←w3];exact gC,_,gC,by rw [hx,hmp,hxa];exact gC⟩,zo⟩
    by_cases h6:k=6
    ·subst h6;obtain⟨b1,b2,l1,l2,l3,l4,e',W',C',n',hp,hq1,hq2⟩:=ho;have hp:=(if_pos (show _ from by first|exact .inl rfl|exact .inr (.inl rfl)|exact .inr (.inr (.inl rfl))|exact .inr (.inr (.inr rfl)))).mp hp;dsimp only [arrA] at hp;(focus (refine wkap (w_19 e1 e2 e3 e6 e12 e14 m3 m6 m12 e13 m13 hls hlt' hlm' hlw hlc hgi ga gb) (w_1 hp) (w_r 6) ?_;(repeat' first|exact w_t|apply w_l);all_goals intros))
     ·rename_i hc;have hr:=hq2 hc;subst hr
      (all_goals (try simp (disch:=omega) only [go_sem,e6,m6,Zzf,Zzd,Zzc,Zzb,Int.reduceAdd,Int.reduceSub,Int.reduceToNat,Zzh]));(all_goals first|done|rfl|(congr 2;first|done|omega|(rw [Zzz];simp only [bool_to_prop,Zzr,ZAa,ZAb,ZAc,ZAd];omega))|skip)
     ·rename_i hc;obtain⟨hiK,w1,w2,w3,x,hxa,hx⟩:=hq1 zo;exact⟨i+1,⟨zo,gW e1,gW e2,gW e3,gW e6,gW e12,gS,gW m3,gW m6,by rw [←w1,←w2,←w3];exact gC,_,gC,by rw [hx,hmp,hxa];exact gC⟩,zo⟩
    by_cases h14:k=14
    ·subst h14;have c2:Pure prog 29 [iv 14] (.v (.bool true)):=Zkv 14;obtain⟨b1,b2,l1,l2,l3,l4,e',W',C',n',hp,hq1,hq2⟩:=ho;have hp:=(if_pos (show _ from by first|exact .inl rfl|exact .inr (.inl rfl)|exact .inr (.inr (.inl rfl))|exact .inr (.inr (.inr rfl)))).mp hp;dsimp only [arrA] at hp;(focus (refine wkap (w_19 e1 e2 e3 e6 e12 e14 m3 m6 m12 e13 m13 hls hlt' hlm' hlw hlc hgi ga gb) (w_2 c2 hp) (w_r 6) ?_;(repeat' first|exact w_t|apply w_l);all_goals intros))
     ·rename_i hc;have hr:=hq2 hc;subst hr
      (all_goals (try simp (disch:=omega) only [go_sem,e6,m6,Zzf,Zzd,Zzc,Zzb,Int.reduceAdd,Int.reduceSub,Int.reduceToNat,Zzh]));(all_goals first|done|rfl|(congr 2;first|done|omega|(rw [Zzz];simp only [bool_to_prop,Zzr,ZAa,ZAb,ZAc,ZAd];omega))|skip)
     ·rename_i hc;obtain⟨hiK,w1,w2,w3,x,hxa,hx⟩:=hq1 zo;exact⟨i+1,⟨zo,gW e1,gW e2,gW e3,gW e6,gW e12,gS,gW m3,gW m6,by rw [←w1,←w2,←w3];exact gC,_,gC,by rw [hx,hmp,hxa];exact gC⟩,zo⟩
    have hf:twoB k=false:=Zzd (by clear ho;omega);have h1':¬k=1:=by clear ho;omega
    have h5':¬k=5:=by clear ho;omega
    have h6':¬k=6:=by clear ho;omega
    have c2:Pure prog 29 [iv k] (.v (.bool false)):=by rw [←hf];exact Zkv k
    have hnf:¬(k=1∨k=5∨k=6∨twoB k=true):=by clear ho;rw [hf];simp;omega
    obtain⟨b1,b2,l1,l2,l3,l4,e',W',C',n',hp,hq1,hq2⟩:=ho;obtain⟨hp,q1,q2,q3⟩:=(if_neg hnf).mp hp;dsimp only [arrA] at hp;(focus (refine wkap (w_22 e1 e2 e3 e6 e12 e14 m3 m6 m12 e13 m13 hls hlt' hlm' hlw hlc hgi ga gb h1' h5' h6') (w_2 c2 hp) (w_r 6) ?_;(repeat' first|exact w_t|apply w_l);all_goals intros))
    ·rename_i hc;have hr:=hq2 hc;subst hr
     (all_goals (try simp (disch:=omega) only [go_sem,e6,m6,Zzf,Zzd,Zzc,Zzb,Int.reduceAdd,Int.reduceSub,Int.reduceToNat,Zzh]));(all_goals first|done|rfl|(congr 2;first|done|omega|(rw [Zzz];simp only [bool_to_prop,Zzr,ZAa,ZAb,ZAc,ZAd];omega))|skip)
    ·rename_i hc;obtain⟨hiK,w1,w2,w3,x,hxa,hx⟩:=hq1 zo;exact⟨i+1,⟨zo,gW e1,gW e2,gW e3,gW e6,gW e12,gS,gW m3,gW m6,by rw [←w1,←w2,←w3,q1,q2,q3];exact gW m12,_,gC,by rw [hx,hmp,hxa];exact gC⟩,zo⟩
   ·simp only [Zzq,Zzs] at hk;simp only [Zz3,Zz1] at ho hgi;have ga:=hgL a (by have:=hjl a zs;clear ho;omega);have gb:=hgL b (by have:=hjl b zs;clear ho;omega);have gc:=hgL c (by have:=hjl c zs;clear ho;omega);generalize (P i).getD a (0,0)=xa at *;obtain⟨xa1,xa2⟩:=xa;generalize (P i).getD b (0,0)=xb at *;obtain⟨xb1,xb2⟩:=xb;generalize (P i).getD c (0,0)=xc at *;obtain⟨xc1,xc2⟩:=xc;have lt_all:a < i∧b < i∧c < i:=⟨hjl a zs,hjl b zs,hjl c zs⟩;clear hgL hjl;generalize (P i).map PQ.av=L at *;have hf:twoB k=false:=Zzd (by clear ho;omega);have h1':¬k=1:=by clear ho;omega
    have h5':¬k=5:=by clear ho;omega
    have h6':¬k=6:=by clear ho;omega
    have c2:Pure prog 29 [iv k] (.v (.bool false)):=by rw [←hf];exact Zkv k
    have hnf:¬(k=1∨k=5∨k=6∨twoB k=true):=by clear ho;rw [hf];simp;omega
    obtain⟨b1,b2,l1,l2,l3,l4,e',W',C',n',hp,hq1,hq2⟩:=ho;obtain⟨hp,q1,q2,q3⟩:=(if_neg hnf).mp hp;dsimp only [arrA] at hp;(focus (refine wkap (w_23 e1 e2 e3 e6 e12 e14 m3 m6 m12 e13 m13 hls hlt' hlm' hlw hlc hgi ga gb gc h1' h5' h6') (w_2 c2 hp) (w_r 6) ?_;(repeat' first|exact w_t|apply w_l);all_goals intros))
    ·rename_i hc;have hr:=hq2 hc;subst hr
     (all_goals (try simp (disch:=omega) only [go_sem,e6,m6,Zzf,Zzd,Zzc,Zzb,Int.reduceAdd,Int.reduceSub,Int.reduceToNat,Zzh]));(all_goals first|done|rfl|(congr 2;first|done|omega|(rw [Zzz];simp only [bool_to_prop,Zzr,ZAa,ZAb,ZAc,ZAd];omega))|skip)
    ·rename_i hc;obtain⟨hiK,w1,w2,w3,x,hxa,hx⟩:=hq1 zo;exact⟨i+1,⟨zo,gW e1,gW e2,gW e3,gW e6,gW e12,gS,gW m3,gW m6,by rw [←w1,←w2,←w3,q1,q2,q3];exact gW m12,_,gC,by rw [hx,hmp,hxa];exact gC⟩,zo⟩
   ·simp only [Zzq,Zzs] at hk;simp only [Zz3,Zz1] at ho hgi;have ga:=hgL a (by have:=hjl a zs;clear ho;omega);have gb:=hgL b (by have:=hjl b zs;clear ho;omega);have gc:=hgL c (by have:=hjl c zs;clear ho;omega);have gd:=hgL d (by have:=hjl d zs;clear ho;omega);generalize (P i).getD a (0,0)=xa at *;obtain⟨xa1,xa2⟩:=xa;generalize (P i).getD b (0,0)=xb at *;obtain⟨xb1,xb2⟩:=xb;generalize (P i).getD c (0,0)=xc at *;obtain⟨xc1,xc2⟩:=xc;generalize (P i).getD d (0,0)=xd at *;obtain⟨xd1,xd2⟩:=xd;have lt_all:a < i∧b < i∧c < i∧d < i:=⟨hjl a zs,hjl b zs,hjl c zs,hjl d zs⟩
    clear hgL hjl;generalize (P i).map PQ.av=L at *;by_cases h12:k=12
    ·subst h12;have c2:Pure prog 29 [iv 12] (.v (.bool true)):=Zkv 12;obtain⟨b1,b2,l1,l2,l3,l4,e',W',C',n',hp,hq1,hq2⟩:=ho;have hp:=(if_pos (show _ from by first|exact .inl rfl|exact .inr (.inl rfl)|exact .inr (.inr (.inl rfl))|exact .inr (.inr (.inr rfl)))).mp hp;dsimp only [arrA] at hp;(focus (refine wkap (w_21 e1 e2 e3 e6 e12 e14 m3 m6 m12 e13 m13 hls hlt' hlm' hlw hlc hgi ga gb gc gd) (w_2 c2 hp) (w_r 6) ?_;(repeat' first|exact w_t|apply w_l);all_goals intros))
     ·rename_i hc;have hr:=hq2 hc;subst hr
      (all_goals (try simp (disch:=omega) only [go_sem,e6,m6,Zzf,Zzd,Zzc,Zzb,Int.reduceAdd,Int.reduceSub,Int.reduceToNat,Zzh]));(all_goals first|done|rfl|(congr 2;first|done|omega|(rw [Zzz];simp only [bool_to_prop,Zzr,ZAa,ZAb,ZAc,ZAd];omega))|skip)
     ·rename_i hc;obtain⟨hiK,w1,w2,w3,x,hxa,hx⟩:=hq1 zo;exact⟨i+1,⟨zo,gW e1,gW e2,gW e3,gW e6,gW e12,gS,gW m3,gW m6,by rw [←w1,←w2,←w3];exact gC,_,gC,by rw [hx,hmp,hxa];exact gC⟩,zo⟩
    by_cases h13:k=13
    ·subst h13;have c2:Pure prog 29 [iv 13] (.v (.bool true)):=Zkv 13;obtain⟨b1,b2,l1,l2,l3,l4,e',W',C',n',hp,hq1,hq2⟩:=ho;have hp:=(if_pos (show _ from by first|exact .inl rfl|exact .inr (.inl rfl)|exact .inr (.inr (.inl rfl))|exact .inr (.inr (.inr rfl)))).mp hp;dsimp only [arrA] at hp;(focus (refine wkap (w_21 e1 e2 e3 e6 e12 e14 m3 m6 m12 e13 m13 hls hlt' hlm' hlw hlc hgi ga gb gc gd) (w_2 c2 hp) (w_r 6) ?_;(repeat' first|exact w_t|apply w_l);all_goals intros))
     ·rename_i hc;have hr:=hq2 hc;subst hr
      (all_goals (try simp (disch:=omega) only [go_sem,e6,m6,Zzf,Zzd,Zzc,Zzb,Int.reduceAdd,Int.reduceSub,Int.reduceToNat,Zzh]));(all_goals first|done|rfl|(congr 2;first|done|omega|(rw [Zzz];simp only [bool_to_prop,Zzr,ZAa,ZAb,ZAc,ZAd];omega))|skip)
     ·rename_i hc;obtain⟨hiK,w1,w2,w3,x,hxa,hx⟩:=hq1 zo;exact⟨i+1,⟨zo,gW e1,gW e2,gW e3,gW e6,gW e12,gS,gW m3,gW m6,by rw [←w1,←w2,←w3];exact gC,_,gC,by rw [hx,hmp,hxa];exact gC⟩,zo⟩
    have hf:twoB k=false:=Zzd (by clear ho;omega);have h1':¬k=1:=by clear ho;omega
    have h5':¬k=5:=by clear ho;omega
    have h6':¬k=6:=by clear ho;omega
    have c2:Pure prog 29 [iv k] (.v (.bool false)):=by rw [←hf];exact Zkv k
    have hnf:¬(k=1∨k=5∨k=6∨twoB k=true):=by clear ho;rw [hf];simp;omega
    obtain⟨b1,b2,l1,l2,l3,l4,e',W',C',n',hp,hq1,hq2⟩:=ho;obtain⟨hp,q1,q2,q3⟩:=(if_neg hnf).mp hp;dsimp only [arrA] at hp;(focus (refine wkap (w_24 e1 e2 e3 e6 e12 e14 m3 m6 m12 e13 m13 hls hlt' hlm' hlw hlc hgi ga gb gc gd h1' h5' h6') (w_2 c2 hp) (w_r 6) ?_;(repeat' first|exact w_t|apply w_l);all_goals intros))
    ·rename_i hc;have hr:=hq2 hc;subst hr
     (all_goals (try simp (disch:=omega) only [go_sem,e6,m6,Zzf,Zzd,Zzc,Zzb,Int.reduceAdd,Int.reduceSub,Int.reduceToNat,Zzh]));(all_goals first|done|rfl|(congr 2;first|done|omega|(rw [Zzz];simp only [bool_to_prop,Zzr,ZAa,ZAb,ZAc,ZAd];omega))|skip)
    ·rename_i hc;obtain⟨hiK,w1,w2,w3,x,hxa,hx⟩:=hq1 zo;exact⟨i+1,⟨zo,gW e1,gW e2,gW e3,gW e6,gW e12,gS,gW m3,gW m6,by rw [←w1,←w2,←w3,q1,q2,q3];exact gW m12,_,gC,by rw [hx,hmp,hxa];exact gC⟩,zo⟩
   ·exact absurd hk (by simp only [Zzq,Zzs];omega)
  ·have hik:i=ss.length:=zo;have hiK:i=K:=zo;rcases hr with⟨-,hr⟩ | ⟨h,-⟩
   ·subst hr;subst hiK;have hlt':¬(i:Int) < (ss.length:Int):=zo;clear hst hg har hP lW lC p0 w0 c0 n0;generalize (P i).map PQ.av=L at *;(focus (refine wklp (w_13 e1 e2 e3 e6 e12 e14 m3 m6 m12 e13 m13 hls hlt') w_t (w_3 e6 m6 m13) (w_r 0) ?_;(repeat' first|exact w_t|apply w_l);all_goals intros))
   ·omega
 ·exact⟨Zzp _,gC,gC,gC,gC,gC,gC,gC,gC,by rw [w0,c0,n0];exact gC,_,gC,by rw [p0];(simp (disch:=omega) only [go_sem,Zz1]<;>repeat' first|rfl|refine⟨?_,?_⟩)⟩
def Zlx (k:Int) (a b c d x:PQ):Prop :=
 if k=7 then eqP b c=false∧x=Zf0 a b c
 else if k=8 then eqP b c=false∧x=mirP a b c
 else if k=9 then Zbs a b c d≠0∧x=Zxt a b c d
 else if k=10 then eqP a b=false∧x=othP a b c
 else if k=11 then Zbs a b a c≠0∧x=cenP a b c
 else True
theorem Zk6 {k:Int} {a b c d x:PQ} (h7:7≤k) (h11:k≤11) (h:Zlx k a b c d x):StR k a b c d 0 x:=by
 unfold Zlx at h;unfold StR;rw [Zzb zo,Zzb zo,Zzb zo,Zzb zo];by_cases k7:k=7
 ·rw [Zzc k7] at h;rw [Zzc (.inl k7)];obtain⟨h0,rfl⟩:=h;have hn:(c.1 - b.1)*(c.1 - b.1)+(c.2 - b.2)*(c.2 - b.2)≠0:=Znt h0;refine⟨dotP b c b a/dotP b c b c,hn,?_,by rw [Zzc k7];rfl⟩;rw [ZBf];exact Rat.div_mul_cancel hn
 rw [Zzb k7] at h;by_cases k8:k=8
 ·rw [Zzc k8] at h;rw [Zzc (.inr k8)];obtain⟨h0,rfl⟩:=h;have hn:(c.1 - b.1)*(c.1 - b.1)+(c.2 - b.2)*(c.2 - b.2)≠0:=Znt h0;refine⟨dotP b c b a/dotP b c b c,hn,?_,?_⟩
  ·rw [ZBf];exact Rat.div_mul_cancel hn
  ·rw [Zzb k7];unfold mirP Zf0 Zgf;generalize dotP b c b a/dotP b c b c=s;exact Prod.ext (by simp only;grind) (by simp only;grind)
 rw [Zzb k8] at h;rw [Zzb zo];by_cases k9:k=9
 ·rw [Zzc k9] at h;rw [Zzc k9];obtain⟨h0,rfl⟩:=h;exact⟨Zbs a c c d/Zbs a b c d,h0,Rat.div_mul_cancel h0,rfl⟩
 rw [Zzb k9] at h;rw [Zzb k9];by_cases k10:k=10
 ·rw [Zzc k10] at h;rw [Zzc k10];obtain⟨h0,rfl⟩:=h;have hn:(b.1 - a.1)*(b.1 - a.1)+(b.2 - a.2)*(b.2 - a.2)≠0:=Znt h0;refine⟨2*dotP a c a b/dotP a b a b,hn,?_,rfl⟩;rw [show 2*dotP a c a b/dotP a b a b*((b.1 - a.1)*(b.1 - a.1)+(b.2 - a.2)*(b.2 - a.2))=2*dotP a c a b from Rat.div_mul_cancel hn];unfold dotP
  grind
 rw [Zzb k10] at h;rw [Zzb k10];have k11:k=11:=zo;rw [Zzc k11] at h;rw [Zzc k11];obtain⟨h0,rfl⟩:=h;have hn:2*((b.1 - a.1)*(c.2 - a.2) - (b.2 - a.2)*(c.1 - a.1))≠0:=nz2 zd h0;exact⟨1/(2*Zbs a b a c),hn,Rat.div_mul_cancel hn,rfl⟩
theorem Zx8 (k:Nat) (hk:1≤k):Hv k ((0,0):PQ):=by
 have z:IB k (0*1:Rat):=⟨0,by rw [Rat.zero_mul];rfl,ZCy k⟩;exact⟨1,by decide,IB.one.mono hk,z,z⟩
theorem one_sq0 (t:Rat):1+t*t≠0:=λh=>absurd (sqs0 (x:=1) (y:=t) (by rw [ZBf];exact h)).1 zd
theorem st_hv {k:Int} {a b c d x:PQ} {q:Rat} {K:Nat} (h:StR k a b c d q x) (ha:Hv K a) (hb:Hv K b) (hc:Hv K c) (hd:Hv K d) (hq:Hq 64 q) (hK:70≤K):Hv (11*K) x:=by
 unfold StR at h;by_cases k2:k=2∨k=5
 ·rw [Zzc k2] at h;subst h;exact(hv_along ha hb hq zo).mono zo
 rw [Zzb k2] at h;by_cases k3:k=3
 ·rw [Zzc k3] at h;subst h;exact(hv_shift ha hb hc).mono zo
 rw [Zzb k3] at h;by_cases k4:k=4
 ·rw [Zzc k4] at h;subst h;exact(hv_turn ha hb hc).mono zo
 rw [Zzb k4] at h;by_cases k6:k=6
 ·rw [Zzc k6] at h;obtain⟨s,hs,rfl⟩:=h;exact(hv_onc ha hb hq zo hs (one_sq0 q)).mono zo
 rw [Zzb k6] at h;by_cases k7:k=7∨k=8
 ·rw [Zzc k7] at h;obtain⟨s,h0,hs,rfl⟩:=h;split
  ·exact(Ztr ha hb hc (IB.one.mono zd) h0 hs).mono zo
  ·exact(Zx9 ha hb hc h0 hs).mono zo
 rw [Zzb k7] at h;by_cases k9:k=9
 ·rw [Zzc k9] at h;obtain⟨s,h0,hs,rfl⟩:=h;exact(hv_meet ha hb hc hd h0 hs).mono zo
 rw [Zzb k9] at h;by_cases k10:k=10
 ·rw [Zzc k10] at h;obtain⟨s,h0,hs,rfl⟩:=h;exact(Ztr hc ha hb IB.two h0 hs).mono zo
 rw [Zzb k10] at h;by_cases k11:k=11
 ·rw [Zzc k11] at h;obtain⟨s,h0,hs,rfl⟩:=h;exact(Zyb ha hb hc h0 hs).mono zo
 rw [Zzb k11] at h;by_cases k12:k=12
 ·rw [Zzc k12] at h;obtain⟨m,u,t,h0,hm,hu,ht,rfl⟩:=h;exact(hv_cut ha hb hc hd h0 hm hu ht).mono zo
 rw [Zzb k12] at h;by_cases k13:k=13
 ·rw [Zzc k13] at h;obtain⟨m,t,s,h0,hm,ht,hs,rfl⟩:=h;exact(hv_inter ha hb hc hd h0 hm ht hs).mono zo
 rw [Zzb k13] at h;exact h.elim
end Go.Proofs.YtenfejhaohihoaaGreat
