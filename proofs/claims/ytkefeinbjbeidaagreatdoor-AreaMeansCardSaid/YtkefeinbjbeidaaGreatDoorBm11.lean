/- Contracts of the functions that the law reaches, and the rules by which they are walked. They say what a call hands back for every input within the bounds that each names; no other condition. -/
import Derived.Test.YtkefeinbjbeidaaGreatDoorBm10
set_option linter.unusedSimpArgs false
set_option linter.unusedVariables false
set_option maxRecDepth 20000
set_option maxHeartbeats 16000000
namespace Go.Proofs.YtkefeinbjbeidaaGreatDoor
open Go Go.RowKit Go.Pg Go.Pol Go.Proofs.Tryz
attribute [-bool_to_prop] Bool.and_eq_decide Bool.or_eq_decide Bool.decide_beq_decide decide_eq_decide
attribute [local go_sem] Zbp Zaq Zau Zat Za5 Zbv Zkq Zog Za8 Zba Zb8 Zbm Zbn Zct Zcb Zca Zb9 Zcu Za7 Zsx ivkBL
theorem mlFig:figE mlS mlGo=0:=by decide +kernel
theorem mlOk:FigOk mlS:=by
 exact⟨by decide,ml_e,ml_r,by decide +kernel⟩
theorem mlBig:(List.range mlS.length).any (bigN mlS)=false:=by
 decide +kernel
theorem ml_k:∀i (h:i < mlS.length),mlS[i].k=1∨mlS[i].k=2:=by decide
theorem mlFrm:Pure prog 57 [figA mlS mlGo] (.tup [frmA (frN mlS mlS.length).cs (frN mlS mlS.length).vs,iv 0]):=by
 have sm:∀s∈mlS,s.sm:=λs hs=>by
  have h2:∀s∈mlS,s.nm.size≤1∧s.ar.length≤3:=by decide
  obtain⟨a,b⟩:=h2 s hs;exact⟨lm_mono (ml_r s hs) zd,ZBs a zd,ZBs b zd⟩
 have sg:∀g∈mlGo,g.sm:=λg hg=>by
  rw [List.mem_singleton.1 hg];exact⟨⟨λx hx=>(by cases hx),λx hx=>(by cases hx),ZBw _,ZBw _⟩,by decide⟩
 have cr:=lwRight mlS mlGo zd zd sm sg;rw [mlFig] at cr;have:=coFrameG mlS mlGo cr mlOk λi h σ KB KC KV g svC svV cs vs fr hB hV hC a b c hl hf hok hco=>by
  rcases ml_k i h with k | k
  ·exact cbStep1 σ KB KC KV g svC svV cs vs fr i mlS[i] hB hV hC a b c hl hf k
  ·exact cbStep2 σ KB KC KV g svC svV cs vs fr i mlS[i] hB hV hC a b c hl hf hok hco k
 rwa [ZBl (by rw [mlBig];decide)] at this
abbrev mlP:Nat→Int
 | 0=>4
 | 1=>3
 | _=>-1
abbrev mlA:Nat→List AV
 | 0=>ml0.map qtA
 | 1=>ml2.map qtA
 | _=>[]
theorem ml_g:Pure prog 8 [.agg [iv 2,.sl 1 [iv 3,iv 4,iv 0,iv 1],.v (.bool false),lim [],lim []]] (.tup [.sl 4 (mlA 0),iv 0]):=by
 have c:=ZA5 ⟨2,[3,4,0,1],⟨false,[],[]⟩⟩ ⟨⟨λx hx=>(by cases hx),λx hx=>(by cases hx),ZBw _,ZBw _⟩,by decide⟩ ⟨λx hx=>(by cases hx),λx hx=>(by cases hx),ZBw _,ZBw _⟩;unfold goR at c;rw [ZBm (by decide +kernel),ml_goal] at c;exact c
theorem Zvw:∀{p:QTs},p=ml0∨p=ml2∨p=[]→p.length≤1000000∧∀t∈p,t.2.length≤1000000:=by
 rintro p (rfl | rfl | rfl)<;>exact⟨by decide,by decide⟩
theorem ml_lst:∀i,i≤2→Pure prog 101 [.agg [.sl 6 (mlS.map RS.av),.sl 5 (mlGo.map RG.av)],.sl 4 (mlA i)] (iv (mlP i)):=by
 intro i hi;rcases (show i=0∨i=1∨i=2 by omega) with rfl | rfl | rfl
 ·have c:=ZA4 mlS mlGo ml0 zd (Zvw (.inl rfl)).1 (Zvw (.inl rfl)).2
  rwa [show laF mlS ml0 mlS.length=4 from by decide +kernel] at c
 ·have c:=ZA4 mlS mlGo ml2 zd (Zvw (.inr (.inl rfl))).1 (Zvw (.inr (.inl rfl))).2
  rwa [show laF mlS ml2 mlS.length=3 from by decide +kernel] at c
 ·have c:=ZA4 mlS mlGo [] zd (Zvw (.inr (.inr rfl))).1 (Zvw (.inr (.inr rfl))).2
  rwa [show laF mlS [] mlS.length=-1 from by decide +kernel] at c
theorem ml_lem (i:Nat) (hi:i < mlS.length) (h2:mlS[i].k=2) (k a b c:Int):Pure prog 333 [figA mlS mlGo,iv i,.agg [iv k,iv a,iv b,iv c]] (lmA ⟨k,a,b,c⟩ mlS.length (lmS mlS i hi ⟨k,a,b,c⟩) (.v (.slice none 0 0))) :=
 elLemmaG mlS mlGo i hi zd (ml_e i hi) (ml_r _ (ZBy _)) (elComb2 mlS mlGo i hi zd (ml_e i hi) (ml_r _ (ZBy _)) h2) (λh4=>by rw [h2] at h4;exact absurd h4 zd) k a b c
theorem ml_el4:Pure prog 331 [.agg [.sl 6 (mlS.map RS.av),.sl 5 (mlGo.map RG.av)],iv 4,.agg [.sl 4 (ml0.map qtA),.sl 4 (onX.map qtA)]] (.tup [.agg [.sl 4 (ml2.map qtA),.sl 4 (onX.map qtA)],iv 0]):=by
 have c:=Zz8 mlS mlGo 4 zd zd (ml_e 4 zd) (ml_r _ (ZBy _)) (ml_lem 4 zd zd) (ml0,onX) zd zd zd zd zd ml_a4;rw [ml_z4] at c;unfold elR at c
 rwa [ZBm rfl,ZBl zd] at c
theorem ml_el3:Pure prog 331 [.agg [.sl 6 (mlS.map RS.av),.sl 5 (mlGo.map RG.av)],iv 3,.agg [.sl 4 (ml2.map qtA),.sl 4 (onX.map qtA)]] (.tup [.agg [.sl 4 [],.sl 4 (onX.map qtA)],iv 0]):=by
 have c:=Zz8 mlS mlGo 3 zd zd (ml_e 3 zd) (ml_r _ (ZBy _)) (ml_lem 3 zd zd) (ml2,onX) zd zd zd zd zd ml_a3;rw [ml_z3] at c;unfold elR at c;rw [ZBm rfl,ZBm rfl] at c;exact Zhj c (Vk.tupL (.cons (Vk.aggL (.cons (.nil 4) (.cons (.refl _) .nil))) (.cons (.refl _) .nil)))
theorem ml_stp (σ:Mem) (K:Nat):ACall prog 56 [.agg [.sl 6 (mlS.map RS.av),.sl 5 (mlGo.map RG.av)],.agg [.sl 4 (mlA 0),.sl 4 (onX.map qtA)],.ifc 101 (.agg [.sl 6 (mlS.map RS.av),.sl 5 (mlGo.map RG.av)])] σ λr σ'=>∃sv,r=.tup [.own K sv,.agg [.sl 4 [],.sl 4 (onX.map qtA)],iv 0]∧σ'=upd σ K (some (.row sv 49 3 (roS mlP mlA (λ_=>onX.map qtA) 2) 0)) :=
 arSteps σ K _ _ 2 zd mlP mlA (λ_=>onX.map qtA) (λi hi=>by rcases (show i=0∨i=1 by omega) with rfl | rfl<;>decide) zd ml_lst λi hi=>by
  rcases (show i=0∨i=1 by omega) with rfl | rfl
  ·exact arByL _ _ _ _ _ _ _ ml_el4
  ·exact arByL _ _ _ _ _ _ _ ml_el3
theorem ml_prv:Pure prog 19 [.agg [.sl 6 (mlS.map RS.av),.sl 5 (mlGo.map RG.av)],iv 0] (.tup [.sl 3 [.agg [iv 4,.sl 4 (ml2.map qtA),.sl 4 (onX.map qtA)],.agg [iv 3,.sl 4 [],.sl 4 (onX.map qtA)],.agg [iv (-1),.v (.slice none 0 0),.sl 4 (onX.map qtA)]],iv 0]):=by
 have co:Pure prog 27 [iv 1] (ratQ 1):=Zk6 1 zo;have cc:Pure prog 55 [ratQ 1] (qpA (nX 1)):=Zmu (Zil.mono zd);rw [nx1] at cc;rw [Znf] at co cc;exact arProveV _ _ _ _ _ _ _ _ (roS mlP mlA (λ_=>onX.map qtA) 2) 2 false [] [] (by rw [Zxn];decide) ml_g co cc ml_stp mlFrm (exPoly0 _ _)
theorem ml_nm:nmK mlS mlS.length=[⟨#[65]⟩,⟨#[66]⟩,⟨#[67]⟩,⟨#[77]⟩,⟨#[78]⟩]:=by decide +kernel
theorem on_ok:OkT onX 1:=λt ht=>by rw [List.mem_singleton.1 ht];exact⟨by decide,Zil⟩
theorem ml_txt:Pure prog 13 [.agg [.sl 6 (mlS.map RS.av),.sl 5 (mlGo.map RG.av)],.sl 3 [.agg [iv (-1),.v (.slice none 0 0),.sl 4 (onX.map qtA)]]] (.tup [strA ⟨#[119,105,116,104,111,117,116,32,97,108,108,58,32,48,32,111,118,101,114,32,49,10]⟩,iv 0]):=by
 have hs:∀s∈nmK mlS mlS.length,s.size≤1000:=by rw [ml_nm];decide
 have hl:(nmK mlS mlS.length).length=5:=by rw [ml_nm];rfl
 have c:=arText mlS mlGo (nmK mlS mlS.length) [(-1,[],onX)] hl zd hs zd (lnNames mlS mlGo zd zd) λt ht=>by
  rw [List.mem_singleton.1 ht];exact⟨Zzv [] _ (by rw [hl];decide) hs zd (k:=1) zd (λt ht=>by cases ht),Zzv onX _ (by rw [hl];decide) hs zd (k:=1) zd on_ok,
   λh=>ZAc hs zd (k:=1) zd (λt ht=>by cases ht) h,λh=>ZAc hs zd (k:=1) zd on_ok h⟩
 rw [ml_nm,show atR [⟨#[65]⟩,⟨#[66]⟩,⟨#[67]⟩,⟨#[77]⟩,⟨#[78]⟩] [(-1,[],onX)]=.tup [strA ⟨#[119,105,116,104,111,117,116,32,97,108,108,58,32,48,32,111,118,101,114,32,49,10]⟩,iv 0] from by
  unfold atR;rw [ZBm (by decide +kernel)];exact ZDv (λs=>AV.tup [strA s,iv 0]) (by decide +kernel)] at c
 refine Zf8 c (.cons (.refl _) (.cons (Vk.slL rfl zd zd ?_) .nil))
 repeat first|exact .nil|refine .cons (.refl _) ?_|refine .cons (.nil 4) ?_
abbrev mdP:QTs:=[((1:Rat),[⟨2,0,1,0⟩]),((1:Rat),[⟨2,0,2,0⟩]),((2:Rat),[⟨2,1,0,2⟩])]
theorem ml_md:Pure prog 8 [.agg [iv 5,.sl 1 [iv 0,iv 1,iv 2],.v (.bool false),.v (.slice none 0 0),.v (.slice none 0 0)]] (.tup [.sl 4 (mdP.map qtA),iv 0]):=by
 have c:=ZA5 ⟨5,[0,1,2],⟨false,[],[]⟩⟩ ⟨⟨λx hx=>(by cases hx),λx hx=>(by cases hx),ZBw _,ZBw _⟩,by decide⟩ ⟨λx hx=>(by cases hx),λx hx=>(by cases hx),ZBw _,ZBw _⟩;unfold goR at c;rw [ZBm (by decide +kernel),show goX 5 [0,1,2] (RQ.q ⟨false,[],[]⟩)=mdP from by
  show Za9 (Za9 (pyX 0 1 0) (pyX 0 2 0)) (mulX (cstT 2) (pyX 1 0 2))=_;rw [mu_K,ad_X,ad_X];decide +kernel] at c
 refine Zf8 c (.cons (Vk.aggL ?_) .nil)
 repeat first|exact .nil|refine .cons (.refl _) ?_|refine .cons (.nil 1) ?_
theorem ml_mt:Pure prog 21 [.sl 4 (mdP.map qtA),.sl 1 [strA ⟨#[77]⟩,strA ⟨#[65]⟩,strA ⟨#[66]⟩]] (.tup [strA ⟨#[80,40,77,44,32,65,44,32,77,41,32,43,32,80,40,77,44,32,66,44,32,77,41,32,43,32,50,42,80,40,65,44,32,77,44,32,66,41]⟩,iv 0]):=by
 have c:=Zzv mdP [⟨#[77]⟩,⟨#[65]⟩,⟨#[66]⟩] zd zd zd (k:=1) zo (λt ht=>by
  have h:∀t∈mdP,t.2.length≤1000∧(toL t.1.num.natAbs).length≤1∧(toL t.1.den).length≤1:=by decide +kernel
  obtain⟨a,b,d⟩:=h t ht;exact⟨a,b,d⟩)
 rw [ZBm (by decide +kernel),show eTxt [⟨#[77]⟩,⟨#[65]⟩,⟨#[66]⟩] mdP=⟨#[80,40,77,44,32,65,44,32,77,41,32,43,32,80,40,77,44,32,66,44,32,77,41,32,43,32,50,42,80,40,65,44,32,77,44,32,66,41]⟩from by decide +kernel] at c;exact c
theorem awake35V (M G A1 D1 A2 D2 D3 P:List AV) (cm:Pure prog 20 [] (.agg [.sl 6 M,.sl 5 G]))
 (cp:Pure prog 19 [.agg [.sl 6 M,.sl 5 G],iv 0] (.tup [.sl 3 [.agg [iv 4,.sl 4 A1,.sl 4 D1],.agg [iv 3,.sl 4 A2,.sl 4 D2],.agg [iv (-1),.v (.slice none 0 0),.sl 4 D3]],iv 0]))
 (ct:Pure prog 13 [.agg [.sl 6 M,.sl 5 G],.sl 3 [.agg [iv (-1),.v (.slice none 0 0),.sl 4 D3]]] (.tup [strA ⟨#[119,105,116,104,111,117,116,32,97,108,108,58,32,48,32,111,118,101,114,32,49,10]⟩,iv 0]))
 (cg:Pure prog 8 [.agg [iv 5,.sl 1 [iv 0,iv 1,iv 2],.v (.bool false),.v (.slice none 0 0),.v (.slice none 0 0)]] (.tup [.sl 4 P,iv 0]))
 (cx:Pure prog 21 [.sl 4 P,.sl 1 [strA ⟨#[77]⟩,strA ⟨#[65]⟩,strA ⟨#[66]⟩]] (.tup [strA ⟨#[80,40,77,44,32,65,44,32,77,41,32,43,32,80,40,77,44,32,66,44,32,77,41,32,43,32,50,42,80,40,65,44,32,77,44,32,66,41]⟩,iv 0])) :
 Pure prog 7 [] (.v (.bool true)):=by
 refine pI func7 rfl ntmps7 results7 call7 ?_;(focus (refine wkax w_t (w_3 cm cp ct) (w_1 (w_d 4 [(0,.agg [.sl 6 M,.sl 5 G]),(3,.tup [strA ⟨#[119,105,116,104,111,117,116,32,97,108,108,58,32,48,32,111,118,101,114,32,49,10]⟩,iv 0])] [] [])) (w_2 cg cx) w_t w_t w_y (w_r 0) ?_;(repeat' first|exact w_t|apply w_l);all_goals intros));all_goals exact gL
theorem awake35:Pure prog 7 [] (.v (.bool true)):=awake35V _ _ _ _ _ _ _ _ lwMl ml_prv ml_txt ml_md ml_mt
end Go.Proofs.YtkefeinbjbeidaaGreatDoor
