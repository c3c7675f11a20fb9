/- Contracts of the functions that the law reaches, and the rules by which they are walked. They say what a call hands back for every input within the bounds that each names; no other condition. -/
import Derived.Test.YtpkcophcldjboaaGreatDoorBg4
import Derived.Test.YtpkcophcldjboaaGreatDoorRows
set_option linter.unusedSimpArgs false
set_option linter.unusedVariables false
set_option maxRecDepth 20000
set_option maxHeartbeats 16000000
namespace Go.Pg
open Go Go.RowKit
theorem Zp8 {κ:MKey} {y z:AV}:∀{es:List (MKey × AV)},Zcb κ es=none→Zcb κ (es++[(κ,z)])=some z∧Zck κ y (es++[(κ,z)])=es++[(κ,y)]
 | [],_=>by simp [Zcb,Zck]
 | a :: r,h=>by
   simp only [Zcb] at h;split at h
   ·cases h
   ·rename_i hne;obtain⟨h1,h2⟩:=Zp8 (κ:=κ) (y:=y) (z:=z) h;simp only [ZGy,Zcb,Zck,ZCg hne,h1,h2,and_self]
def Zij (w:World) (h:Nat) (arr:Array MapEntry) (clock:Nat):World:={ w with heap:=w.heap.setIfInBounds h (.map arr clock) }
theorem Zqd {w:World} {h:Nat} (hlt:h < w.heap.size) (arr:Array MapEntry) (clock:Nat):(Zij w h arr clock).heap[h]?=some (.map arr clock):=by simp [Zij,hlt]
theorem mapAt_at (w:World) (h:Nat) (x y:Array MapEntry) (i j:Nat):Zij (Zij w h x i) h y j=Zij w h y j:=by simp [Zij]
section
variable {P:Program} {w:World} {imm:Imm} {MT kt et:TypeId} {κ:MKey} {h clock:Nat} {arr:Array MapEntry} {es:List (MKey × AV)} {k:Int}
theorem Zun (hu:P.underlying MT=some (.map kt et)) (hk:ZCe P kt κ) (hz:Za0 P et=some (.int .i64 0)) (hh:w.heap[h]?=some (.map arr clock)) (hl:es.length=arr.size) (ha:Ze4 κ es=true)
 (hr:∀(j:Nat) (a:MKey × AV) (x:MapEntry),es[j]?=some a→arr[j]?=some x→x.key=a.1.val∧Rd w imm a.2 x.val) (hg:Zr8 false (.v (.int .i64 0)) (Zcb κ es)=.v (.int .i64 k)) :
 (Instr.lookup MT (.map (some h)) κ.val false).run P w=.ok (.int .i64 k) w:=by
 have hzr:(zeroValue et).run P w=.ok (.int .i64 0) w:=Zab hz;have hck:=Zi3 (P:=P) (w:=w) hk arr.isEmpty;rcases Zi8 (w:=w) (imm:=imm) κ hk arr.toList es (by simpa using hl) ha (λj b x h1 h2=>hr j b x h1 (by simpa using h2)) with⟨f1,f2,-⟩ | ⟨j,x,v,f1,-,-,f4,f5,-⟩
 ·rw [f2] at hg
  have:k=0:=by
   injection hg with hg
   injection hg with _ hg
   exact hg.symm
  subst this;simp only [Instr.lookup,ZC1,ZC4 hu,ZC0,ZFs hh,ZC7,hck,f1,hzr,ZCy,ZDc]
 ·rw [f4] at hg;have hv:v=.v (.int .i64 k):=hg;subst hv;have:=(show Rs w imm (.v (.int .i64 k)) x.val from .pure f5).v_inv;simp only [Instr.lookup,ZC1,ZC4 hu,ZC0,ZFs hh,ZC7,hck,f1,this,ZCy,ZDc]
theorem ZA4 (hu:P.underlying MT=some (.map kt et)) (hk:ZCe P kt κ) (hz:Za0 P et=some (.int .i64 0)) (hh:w.heap[h]?=some (.map arr clock)) (hl:es.length=arr.size) (ha:Ze4 κ es=true) (hbo:Born arr clock)
 (hr:∀(j:Nat) (a:MKey × AV) (x:MapEntry),es[j]?=some a→arr[j]?=some x→x.key=a.1.val∧Rd w imm a.2 x.val) (hg:Zr8 false (.v (.int .i64 0)) (Zcb κ es)=.v (.int .i64 k)) :
 ∃(arr1:Array MapEntry) (clock1 j b:Nat) (es1:List (MKey × AV)) (e:MapEntry),(Instr.mapEntry MT (.map (some h)) κ.val).run P w=.ok (.tuple #[.int .i64 k,goInt b]) (Zij w h arr1 clock1)∧Born arr1 clock1∧es1.length=arr1.size∧Ze4 κ es1=true ∧
  (∀(j:Nat) (a:MKey × AV) (x:MapEntry),es1[j]?=some a→arr1[j]?=some x→x.key=a.1.val∧Rd w imm a.2 x.val)∧Zr8 false (.v (.int .i64 0)) (Zcb κ es1)=.v (.int .i64 k) ∧
  arr1[j]?=some e∧e.key=κ.val∧e.born=b∧(∀y,Zck κ y es=es1.set j (κ,y))∧j < es1.length:=by
 have hzr:(zeroValue et).run P w=.ok (.int .i64 0) w:=Zab hz;have hck:=Zi3 (P:=P) (w:=w) hk false;have hset:∀o':Obj,(setObj h o').run P w=.ok () { w with heap:=w.heap.setIfInBounds h o' }:=λo'=>ZH8 o' hh;rcases Zi8 (w:=w) (imm:=imm) κ hk arr.toList es (by simpa using hl) ha (λj b x h1 h2=>hr j b x h1 (by simpa using h2)) with⟨f1,f2,f3⟩ | ⟨j,x,v,f1,f2,fk,f4,f5,f6,f7⟩
 ·have hg':=hg;rw [f2] at hg'
  have:k=0:=by
   injection hg' with hg'
   injection hg' with _ hg'
   exact hg'.symm
  subst this;obtain⟨g1,-⟩:=Zp8 (κ:=κ) (y:=.u) (z:=.v (.int .i64 0)) f2;refine⟨arr.push { key:=κ.val,val:=.int .i64 0,born:=clock },clock+1,es.length,clock,es++[(κ,.v (.int .i64 0))],{ key:=κ.val,val:=.int .i64 0,born:=clock },?_,hbo.push _ _,by simp [hl],?_,λj b y k1 k2=>?_,by rw [g1];rfl,?_,rfl,rfl,λy=>?_,by simp⟩
  ·simp only [Instr.mapEntry,ZC1,ZC4 hu,ZC0,ZFs hh,hck,f1,hzr,hset,ZC7];rfl
  ·have hlk:κ.like κ=true:=by cases κ<;>simp [MKey.like]
   unfold Ze4 at ha ⊢;rw [List.all_append,ha];simp [hlk]
  ·by_cases hj:j < es.length
   ·rw [ZD9 hj] at k1;rw [ZHw,ZCg zo] at k2;exact hr j b y k1 k2
   ·rw [ZEa zo] at k1
    have hje:j=es.length:=by
     rcases ZC5 (j - es.length) 1 with h9 | h9
     ·omega
     ·rw [ZD6 (by simpa using h9)] at k1;cases k1
    subst hje;rw [ZFz] at k1;simp only [ZGc,Option.some.injEq] at k1;rw [ZHw,ZCh hl] at k2;simp only [Option.some.injEq] at k2;subst k1;subst k2;exact⟨rfl,.v _⟩
  ·rw [ZHw,ZCh hl]
  ·rw [f3 y,List.set_append_right _ _ (ZCi _),ZFz];rfl
 ·have hg':=hg;rw [f4] at hg';have hv:v=.v (.int .i64 k):=hg';subst hv;have hxv:=(show Rs w imm (.v (.int .i64 k)) x.val from .pure f5).v_inv;have f2':arr[j]?=some x:=by simpa using f2
  have hst:=Zqg (P:=P) (w:=w) κ;refine⟨arr.modify j λe=>{ e with key:=κ.val },clock,j,x.born,es,{ x with key:=κ.val },?_,hbo.modify _ _ λ_=>rfl,by simp [hl],ha,λj' b y k1 k2=>?_,hg,?_,rfl,rfl,f7,f6⟩
  ·simp only [Instr.mapEntry,ZC1,ZC4 hu,ZC0,ZFs hh,hck,f1,f2',ZD4,ZEn,fk,hst,hset,ZC7,hxv];rfl
  ·rw [ZGb] at k2;by_cases hj:j=j'
   ·subst hj;rw [ZCh rfl,f2'] at k2;simp only [ZD4,Option.some.injEq] at k2;subst k2;have:=hr j b x k1 f2';exact⟨fk ▸ this.1,this.2⟩
   ·rw [ZCg hj] at k2;exact hr j' b y k1 k2
  ·rw [ZGb,ZCh rfl,f2'];rfl
theorem Zxq {j b:Nat} {e:MapEntry} {x:Value} (hh:w.heap[h]?=some (.map arr clock)) (hbo:Born arr clock) (hj:arr[j]?=some e) (hb:e.born=b) :
 (Instr.entryStore MT (.map (some h)) (goInt b) x).run P w=.ok () (Zij w h (arr.modify j λe=>{ e with val:=x }) clock):=by
 have hset:∀o':Obj,(setObj h o').run P w=.ok () { w with heap:=w.heap.setIfInBounds h o' }:=λo'=>ZH8 o' hh;obtain⟨hjl,hje⟩:=Array.getElem?_eq_some_iff.1 hj
 have hf:arr.findIdx? (λe=>(e.born:Int) == (b:Int))=some j:=by
  rw [Array.findIdx?_eq_some_iff_getElem];refine⟨hjl,by rw [hje,hb];simp,λi hi=>?_⟩;have hn:=List.pairwise_iff_getElem.1 hbo.2 i j (by simp;omega) (by simp;omega) hi;simp only [ZG6,Array.getElem_toList,hje,hb] at hn;simp only [Bool.not_eq_true,ZG2,ne_eq];omega
 simp only [Instr.entryStore,ZC1,ZFs hh,ZC0,goInt,asInt,asIntOf,ZC7,hf,hset];rfl
end
theorem Zt0 {a:Act} {d:Nat} {v:Value} (hd:d < a.tmps.size) (t:Nat):(a.put (some d) v).tmps.getD t undef=if t=d then v else a.tmps.getD t undef:=by
 show(a.tmps.setIfInBounds d v).getD t undef=_;rw [ZEd,ZH4,ZEd];by_cases h:t=d
 ·rw [ZCh h.symm,ZCh h,ZCh hd];rfl
 ·rw [ZCg (ZEi h),ZCg h]
def opAt (l:List Oper) (i:Nat) (d:Option Nat) (op:Op):Prop:=∃(ty:TypeId) (pos:String) (af:Array Edge),l[i]?=some ⟨d,op,ty,pos,af,none⟩
def before (l:List Oper) (i j:Nat):Bool:=Zis l.toArray 7 i j
def edgesLow (l:List Oper):Bool:=(List.range l.length).all λi=>match l[i]? with
 | some o=>o.after.all λe=>decide (e.on < i)
 | none=>true
structure TkI (n:Nat) (a0:Act) (W0 W1 W2:World) (D:Nat→Nat) (V:Nat→Value) (L:Array Bool) (a:Act) (w:World):Prop where
 sz:a.tmps.size=n
 df:a.defers=[]
 ls:L.size=7
 oth:∀t,(∀j,j < 6→t≠D j)→a.tmps.getD t undef=a0.tmps.getD t undef
 tv:∀j,j < 6→L.getD j true=true→a.tmps.getD (D j) undef=V j
 wd:w=if L.getD 6 true=true then W2 else if L.getD 4 true=true then W1 else W0
theorem Zf5 (L:Array Bool) (i j:Nat):(L.setIfInBounds i true).getD j true=if j=i then true else L.getD j true:=by
 rw [ZEd,ZH4,ZEd];by_cases h:j=i
 ·subst h;rw [ZCh rfl,ZCh rfl];split<;>rfl
 ·rw [ZCg (ZEi h),ZCg h]
theorem TkI.step {n:Nat} {a0:Act} {W0 W1 W2:World} {D:Nat→Nat} {V:Nat→Value} {L:Array Bool} {a:Act} {w w':World} (I:TkI n a0 W0 W1 W2 D V L a w) {i:Nat} (hi:i < 6) (hD:∀i j,i < 6→j < 6→D i=D j→i=j) (hn:D i < n)
 (hw:w'=if L.getD 6 true=true then W2 else if i=4∨L.getD 4 true=true then W1 else W0):TkI n a0 W0 W1 W2 D V (L.setIfInBounds i true) (a.put (some (D i)) (V i)) w':=by
 have hdn:D i < a.tmps.size:=by rw [I.sz];exact hn
 refine⟨by rw [Act.put_size];exact I.sz,by rw [Act.put_defers'];exact I.df,by rw [Array.size_setIfInBounds];exact I.ls,λt ht=>?_,λj hj h=>?_,?_⟩
 ·rw [Zt0 hdn,ZCg (ht i hi)];exact I.oth t ht
 ·rw [Zt0 hdn];by_cases hji:j=i
  ·subst hji;rw [ZCh rfl]
  ·rw [ZCg λe=>hji (hD _ _ hj hi e)];rw [Zf5,ZCg hji] at h;exact I.tv j hj h
 ·have e6:(L.setIfInBounds i true).getD 6 true=L.getD 6 true:=by rw [Zf5,ZCg zo]
  rw [e6,Zf5,hw];by_cases h4:i=4
  ·rw [ZCh (c:=i=4∨_) (.inl h4),ZCh (c:=4=i) h4.symm,ZCh rfl]
  ·rw [ZCg (c:=4=i) (ZEi h4)];by_cases h5:L.getD 4 true=true
   ·rw [ZCh (c:=i=4∨_) (.inr h5),ZCh h5]
   ·rw [ZCg (c:=i=4∨_) (by rintro (h | h);exact h4 h;exact h5 h),ZCg h5]
def unl (L:Array Bool):Nat:=(List.range 7).countP λi=>!L.getD i true
theorem Zw9 {L:Array Bool} {i:Nat} (hs:L.size=7) (hi:L.getD i true=false):unl (L.setIfInBounds i true)+1=unl L∧i < 7:=by
 have h7:i < 7:=by
  rcases ZC5 i 7 with h | h
  ·exact h
  ·rw [ZEd,ZGv zo] at hi;cases hi
 refine⟨?_,h7⟩;have e:=Zf5 L i;unfold unl;simp only [e,show List.range 7=[0,1,2,3,4,5,6] from rfl,List.countP_cons,List.countP_nil]
 match i,h7 with
 | 0,_=>simp [hi];try omega
 | 1,_=>simp [hi];try omega
 | 2,_=>simp [hi];try omega
 | 3,_=>simp [hi];try omega
 | 4,_=>simp [hi];try omega
 | 5,_=>simp [hi];try omega
 | 6,_=>simp [hi];try omega
theorem Zy0 {P:Program} {tok n id tk h:Nat} {Q:AE→St→Prop} {st:St} {l:List Oper} {MT kt et T:TypeId} {κ:MKey} {kv:AV} {k:Int} {es:List (MKey × AV)} {s0 s1 d0 d1 d2 d3 d4 d5:Nat} {it jt:TypeId}
 (hm:P.follows .mixedOrders=true) (h7:l.length=7) (hlow:edgesLow l=true)
 (o0:opAt l 0 (some d0) (.move (.tmp s0))) (o1:opAt l 1 (some d1) (.load T (.tmp s1))) (o2:opAt l 2 (some d2) (.lookup MT (.tmp d0) (.tmp d1) false)) (o3:opAt l 3 (some d3) (.binOp .add it (.tmp d2) (.const (.int .i64 1)) jt))
 (o4:opAt l 4 (some d4) (.mapEntry MT (.tmp d0) (.tmp d1))) (o5:opAt l 5 (some d5) (.extract (.tmp d4) 1)) (o6:opAt l 6 none (.entryStore MT (.tmp d0) (.tmp d5) (.tmp d3)))
 (hb:(before l 0 2 && before l 1 2 && before l 2 3 && before l 0 4 && before l 1 4 && before l 4 5 && before l 3 6 && before l 5 6 && before l 0 6 && before l 1 6 && before l 2 6 && before l 4 6)=true)
 (hn:[s0,s1,d0,d1,d2,d3,d4,d5].Nodup) (hlt:[d0,d1,d2,d3,d4,d5].all (· < n)=true)
 (hu:P.underlying MT=some (.map kt et)) (hz:Za0 P et=some (.int .i64 0)) (e0:st.env s0=.mp tk h) (hmem:st.mem tk=some (.map h es)) (hld:resK (Zcw P st T (st.env s1)) (λb=>b=kv)) (hkv:mkOf P kt kv=some κ) (ha:Ze4 κ es=true)
 (hg:Zr8 false (.v (.int .i64 0)) (Zcb κ es)=.v (.int .i64 k)) (hk0:0≤k) (hk1:k < 9223372036854775807)
 (hQ:Q .normal ⟨upd (upd (upd (upd (upd (upd st.env d0 .u) d1 .u) d2 .u) d3 .u) d4 .u) d5 .u,upd st.mem tk (some (.map h (Zck κ (.v (.int .i64 (k+1))) es)))⟩):Za5 P tok n (.region id l.toArray true) Q st:=by
 intro c a0 w imm hr;refine wp_region_any hm ?_;have hgd:w.grownBy w.drew none:=⟨rfl,rfl,rfl,ZCi _,λ_ _ _=>rfl⟩;have kd:Keeps w imm w.drew imm:=λad h=>⟨h,rfl⟩;have hdr:Rel c n st a0 w.drew imm:=⟨λt=>kd.rs (hr.env t),hr.size,hr.defers,⟨⟨λk e hk=>(hr.mem.ok.ent k e hk).keep hgd (by cases e.blk<;>simp) (λ_ h=>h) (λ_ _=>rfl) (λ_ h=>.inl h),hr.mem.ok.apart,hr.mem.ok.lt,hr.mem.ok.spot⟩,hr.mem.below.drew,hr.mem.lt,hr.mem.old,hr.mem.new,hr.mem.cells⟩⟩;show wpAny P .any l.toArray (post c n Q) l.toArray.size (Array.replicate l.toArray.size false) a0 w.drew;generalize w.drew=W0 at hdr;clear hgd kd hr
 obtain⟨arr,clock,hh,hB,hl,hrr,hbo,hp⟩:=hdr.mem.ok.ent tk _ hmem;have hhl:h < W0.heap.size:=(Array.getElem?_eq_some_iff.1 hh).1;obtain⟨kx,kb,hkrun,rfl,hkrs⟩:=Zuo hdr.mem (hdr.env s1) hld;obtain⟨rfl,hko⟩:=mk_of hkv hkrs;obtain⟨arr1,clock1,j,b,es1,e,r1,q1,q2,q3,q4,q5,q6,q7,q8,q9,q10⟩:=ZA4 hu hko hz hh hl ha hbo hrr hg;have h1:=Zqd hhl arr1 clock1;have r2:=Zxq (P:=P) (MT:=MT) (x:=.int .i64 (k+1)) h1 q1 q6 q8;rw [mapAt_at] at r2;have rl0:=Zun hu hko hz hh hl ha hrr hg;have hgrow:∀(x:Array MapEntry) (i:Nat),W0.grownBy (Zij W0 h x i) (some h):=λx i=>by
  refine⟨rfl,rfl,rfl,by simp [Zij],λk hk hne=>?_⟩;simp only [Zij];rw [ZH9 (λh9=>hne (by rw [h9]))]
 have hcell:∀(x:Array MapEntry) (i:Nat) (ad:Addr),imm ad→(Zij W0 h x i).cell? ad=W0.cell? ad:=λx i ad g=>Zc9 (hgrow x i) (hdr.mem.ok.lt ad g) (λe=>hp ad g (by injection e));have rl1:=Zun (w:=Zij W0 h arr1 clock1) hu hko hz h1 q2 q3 (imm:=imm) (λj a x g1 g2=>⟨(q4 j a x g1 g2).1,(q4 j a x g1 g2).2.keep (λ_ g=>g) (hcell arr1 clock1)⟩) q5;obtain⟨W1,hW1⟩:∃W1,W1=Zij W0 h arr1 clock1:=⟨_,rfl⟩;obtain⟨arr2,harr2⟩:∃arr2,arr2=arr1.modify j λe=>{ e with val:=.int .i64 (k+1) }:=⟨_,rfl⟩;obtain⟨W2,hW2⟩:∃W2,W2=Zij W0 h arr2 clock1:=⟨_,rfl⟩;rw [←harr2,←hW2,←hW1] at r2;rw [←hW1] at r1 rl1;obtain⟨D,hDdef⟩:∃D:Nat→Nat,D=λj=>[d0,d1,d2,d3,d4,d5].getD j 0:=⟨_,rfl⟩
 obtain⟨V,hVdef⟩:∃V:Nat→Value,V=λj=>[.map (some h),κ.val,.int .i64 k,.int .i64 (k+1),.tuple #[.int .i64 k,goInt b],goInt b].getD j undef:=⟨_,rfl⟩;simp only [List.nodup_cons,ZF7,List.not_mem_nil,or_false,not_or] at hn;simp only [ZF9,List.all_nil,ZG1,ZC2,ZDb] at hlt;obtain⟨l0,l1,l2,l3,l4,l5⟩:=hlt;obtain⟨⟨-,n1,n2,n3,n4,n5,n6⟩,⟨m1,m2,m3,m4,m5,m6⟩,⟨a1,a2,a3,a4,a5⟩,⟨b1,b2,b3,b4⟩,⟨c1,c2,c3⟩,⟨f1,f2⟩,f3,-⟩:=hn
 have hD:∀i j,i < 6→j < 6→D i=D j→i=j:=by
  subst hDdef;intro i j hi hj
  match i,j,hi,hj with
  | 0,0,_,_ | 1,1,_,_ | 2,2,_,_ | 3,3,_,_ | 4,4,_,_ | 5,5,_,_=>intro _;rfl
  | 0,1,_,_=>exact λe=>absurd e a1
  | 0,2,_,_=>exact λe=>absurd e a2
  | 0,3,_,_=>exact λe=>absurd e a3
  | 0,4,_,_=>exact λe=>absurd e a4
  | 0,5,_,_=>exact λe=>absurd e a5
  | 1,2,_,_=>exact λe=>absurd e b1
  | 1,3,_,_=>exact λe=>absurd e b2
  | 1,4,_,_=>exact λe=>absurd e b3
  | 1,5,_,_=>exact λe=>absurd e b4
  | 2,3,_,_=>exact λe=>absurd e c1
  | 2,4,_,_=>exact λe=>absurd e c2
  | 2,5,_,_=>exact λe=>absurd e c3
  | 3,4,_,_=>exact λe=>absurd e f1
  | 3,5,_,_=>exact λe=>absurd e f2
  | 4,5,_,_=>exact λe=>absurd e f3
  | 1,0,_,_=>exact λe=>absurd e.symm a1
  | 2,0,_,_=>exact λe=>absurd e.symm a2
  | 3,0,_,_=>exact λe=>absurd e.symm a3
  | 4,0,_,_=>exact λe=>absurd e.symm a4
  | 5,0,_,_=>exact λe=>absurd e.symm a5
  | 2,1,_,_=>exact λe=>absurd e.symm b1
  | 3,1,_,_=>exact λe=>absurd e.symm b2
  | 4,1,_,_=>exact λe=>absurd e.symm b3
  | 5,1,_,_=>exact λe=>absurd e.symm b4
  | 3,2,_,_=>exact λe=>absurd e.symm c1
  | 4,2,_,_=>exact λe=>absurd e.symm c2
  | 5,2,_,_=>exact λe=>absurd e.symm c3
  | 4,3,_,_=>exact λe=>absurd e.symm f1
  | 5,3,_,_=>exact λe=>absurd e.symm f2
  | 5,4,_,_=>exact λe=>absurd e.symm f3
 have fin:∀(L:Array Bool) (a:Act) (w:World),TkI n a0 W0 W1 W2 D V L a w→Region.ready .any l.toArray L=[]→post c n Q .normal a w:=by
  intro L a w I hrd
  have all:∀i,i < 7→L.getD i true=true:=by
   intro i
   induction i using Nat.strongRecOn with
   | ind i ih =>
     intro hi
     cases hc:L.getD i true with
     | true=>rfl
     | false =>
       exfalso;have hil:i < l.length:=zo;have:i∈Region.ready .any l.toArray L:=mem_ready.2 ⟨hc,l[i],by simp [hil],λe he _=>by
        have h9:=List.all_eq_true.1 hlow i (List.mem_range.2 hil);rw [ZCs hil] at h9;have h8:=ZH1 (Array.all_eq_true'.1 h9 e he);have:=ih e.on h8 zo;rw [ZEd] at this ⊢
        rwa [ZDs (by rw [I.ls];omega)] at this ⊢⟩
       rw [hrd] at this;cases this
  have hw:w=W2:=by rw [I.wd,ZCh (all 6 zo)]
  subst hw;obtain⟨mx,kp⟩:=Zdr hdr.mem (hgrow arr2 clock1) (ZCi _) (λg' hg'=>by cases hg';exact hB) (hcell arr2 clock1) tk (.map h (Zck κ (.v (.int .i64 (k+1))) es))
   ⟨arr2,clock1,Zqd hhl _ _,hB,by rw [harr2,q9];simp [q2],λi x y g1 g2=>by
    rw [q9,List.getElem?_set] at g1;rw [harr2,ZGb] at g2;by_cases hij:j=i
    ·subst hij;rw [ZCh rfl,ZCh q10] at g1;rw [ZCh rfl,q6] at g2;simp only [ZD4,Option.some.injEq] at g1 g2;subst g1;subst g2;exact⟨q7,.v _⟩
    ·rw [ZCg hij] at g1 g2;exact⟨(q4 i x y g1 g2).1,(q4 i x y g1 g2).2.keep (λ_ g=>g) (hcell arr2 clock1)⟩,by rw [harr2];exact q1.modify _ _ λ_=>rfl,hp⟩
   (λj e2 b hj hje hb=>⟨λe=>hj (hdr.mem.ok.apart j tk e2 _ b hje hmem hb (by rw [Ent.blk,e])),λe=>hj (hdr.mem.ok.apart j tk e2 _ b hje hmem hb (by simpa [Ent.blk] using e))⟩)
  rw [←hW2] at mx kp;refine⟨.normal,_,imm,rfl,hQ,λt=>?_,I.sz,I.df,mx⟩;simp only [Zaq];by_cases g5:t=d5
  ·rw [ZCh g5];exact .pure (.u _)
  rw [ZCg g5];by_cases g4:t=d4
  ·rw [ZCh g4];exact .pure (.u _)
  rw [ZCg g4];by_cases g3:t=d3
  ·rw [ZCh g3];exact .pure (.u _)
  rw [ZCg g3];by_cases g2:t=d2
  ·rw [ZCh g2];exact .pure (.u _)
  rw [ZCg g2];by_cases g1:t=d1
  ·rw [ZCh g1];exact .pure (.u _)
  rw [ZCg g1];by_cases g0:t=d0
  ·rw [ZCh g0];exact .pure (.u _)
  rw [ZCg g0,I.oth t λj hj=>by
   subst hDdef
   match j,hj with
   | 0,_=>exact g0
   | 1,_=>exact g1
   | 2,_=>exact g2
   | 3,_=>exact g3
   | 4,_=>exact g4
   | 5,_=>exact g5]
  exact kp.rs (hdr.env t)
 have D0:D 0=d0:=by rw [hDdef];rfl
 have D1:D 1=d1:=by rw [hDdef];rfl
 have D2:D 2=d2:=by rw [hDdef];rfl
 have D3:D 3=d3:=by rw [hDdef];rfl
 have D4:D 4=d4:=by rw [hDdef];rfl
 have D5:D 5=d5:=by rw [hDdef];rfl
 have V0:V 0=.map (some h):=by rw [hVdef];rfl
 have V1:V 1=κ.val:=by rw [hVdef];rfl
 have V2:V 2=.int .i64 k:=by rw [hVdef];rfl
 have V3:V 3=.int .i64 (k+1):=by rw [hVdef];rfl
 have V4:V 4=.tuple #[.int .i64 k,goInt b]:=by rw [hVdef];rfl
 have V5:V 5=goInt b:=by rw [hVdef];rfl
 clear hDdef hVdef;have hsl:∀s,s≠d0→s≠d1→s≠d2→s≠d3→s≠d4→s≠d5→∀j,j < 6→s≠D j:=λs g0 g1 g2 g3 g4 g5 j hj=>by
  match j,hj with
  | 0,_=>rw [D0];exact g0
  | 1,_=>rw [D1];exact g1
  | 2,_=>rw [D2];exact g2
  | 3,_=>rw [D3];exact g3
  | 4,_=>rw [D4];exact g4
  | 5,_=>rw [D5];exact g5
 have x0:a0.tmps.getD s0 undef=.map (some h):=by
  have:=hdr.env s0;rw [e0] at this;exact this.mp_inv
 simp only [ZC2,before] at hb;obtain⟨⟨⟨⟨⟨⟨⟨⟨⟨⟨⟨p02,p12⟩,p23⟩,p04⟩,p14⟩,p45⟩,p36⟩,p56⟩,p06⟩,p16⟩,p26⟩,p46⟩:=hb
 have main:∀(f:Nat) (L:Array Bool) (a:Act) (w:World),TkI n a0 W0 W1 W2 D V L a w→Closed l.toArray L→unl L≤f→wpAny P .any l.toArray (post c n Q) f L a w:=by
  intro f
  induction f with
  | zero =>
    intro L a w I hC hu0
    have hrd:Region.ready .any l.toArray L=[]:=by
     rcases hx:Region.ready .any l.toArray L with _ | ⟨i,r⟩
     ·rfl
     ·exfalso;have hi:i∈Region.ready .any l.toArray L:=by rw [hx];exact .head _
      have:=(Zw9 I.ls (mem_ready.1 hi).1).1;omega
    exact⟨hrd,fin L a w I hrd⟩
  | succ f ih =>
    intro L a w I hC hu0;refine⟨fin L a w I,λi hi=>?_⟩;obtain⟨hi0,o,hoi,haf⟩:=mem_ready.1 hi;obtain⟨hu1,hi7⟩:=Zw9 I.ls hi0;have pre:∀p,p < 7→Zis l.toArray 7 p i=true→L.getD p true=true:=λp hp7 hre=>by
     have:=Zc7 hC 7 i o hoi haf hre;rw [ZEd] at this ⊢
     rwa [ZDs (by rw [I.ls];exact hp7)] at this ⊢
    have hC':=hC.set hi
    have go:∀(d:Option Nat) (op:Op) (ty:TypeId) (pos:String) (af:Array Edge) (K:Act→World→Prop),l[i]?=some ⟨d,op,ty,pos,af,none⟩→Oper.wp P ⟨d,op,ty,pos,af,none⟩ a w K (post c n Q)→wpOp P l.toArray (post c n Q) i K a w:=by
     intro d op ty pos af K ho hw;unfold wpOp;rw [ZEr,ho];simp only [Region.wanted];exact .inl hw
    have val:∀(d:Nat) (op:Op) (ty:TypeId) (pos:String) (af:Array Edge) (w':World),i < 6→D i=d→D i < n→l[i]?=some ⟨some d,op,ty,pos,af,none⟩→(execOp a.eval ⟨some d,op,ty,pos,af,none⟩).run P w=.ok (.value (V i)) w' →
     (w'=if L.getD 6 true=true then W2 else if i=4∨L.getD 4 true=true then W1 else W0)→wpOp P l.toArray (post c n Q) i (wpAny P .any l.toArray (post c n Q) f (L.setIfInBounds i true)) a w:=by
     intro d op ty pos af w' h6 hd hdn ho hrun hw;subst hd;refine go _ op ty pos af _ ho ?_;unfold Oper.wp;rw [hrun,Oper.upon_value];exact ih _ _ _ (I.step h6 hD hdn hw) hC' zo
    have same:i≠4→w=if L.getD 6 true=true then W2 else if i=4∨L.getD 4 true=true then W1 else W0:=λh4=>by
     rw [I.wd];simp only [h4,false_or]
    have hev:∀j,j < 6→L.getD j true=true→a.eval (.tmp (D j))=V j:=λj hj hL=>I.tv j hj hL;have notl:∀j,j < 7→Zis l.toArray 7 i j=true→L.getD j true=false:=λj hj hre=>by
     cases hc:L.getD j true with
     | false=>rfl
     | true =>
       exfalso
       have hc':L.getD j false=true:=by
        rw [ZEd,ZDs (by rw [I.ls];exact hj)] at hc ⊢;exact hc
       have hjl:l.toArray[j]?=some l[j]:=by simp [show j < l.length by omega]
       have:=Zc7 hC 7 j _ hjl (hC j _ hjl hc') hre;rw [ZEd,ZDs (by rw [I.ls];exact hi7)] at this hi0;simp only [ZEn] at this hi0;rw [this] at hi0;cases hi0
    have w6:Zis l.toArray 7 i 6=true→w=if L.getD 4 true=true then W1 else W0:=λhre=>by
     rw [I.wd,ZCg (by rw [notl 6 zo hre];exact ZH3)]
    match i,hi7 with
    | 0,_ =>
      obtain⟨ty,pos,af,ho⟩:=o0;refine val d0 _ _ _ _ w zo D0 (by rw [D0];exact l0) ho ?_ (same zo);have:a.eval (.tmp s0)=V 0:=by rw [V0,←x0];exact I.oth s0 (hsl s0 n1 n2 n3 n4 n5 n6)
      simp only [execOp,this,ZC7]
    | 1,_ =>
      obtain⟨ty,pos,af,ho⟩:=o1;have hw0:w=W0:=by rw [w6 p16,ZCg (by rw [notl 4 zo p14];exact ZH3)]
      refine val d1 _ _ _ _ w zo D1 (by rw [D1];exact l1) ho ?_ (same zo);have:a.eval (.tmp s1)=a0.tmps.getD s1 undef:=I.oth s1 (hsl s1 m1 m2 m3 m4 m5 m6);rw [hw0,V1];simp only [execOp,this,ZC1,hkrun,ZC0,ZC7]
    | 2,_ =>
      obtain⟨ty,pos,af,ho⟩:=o2;refine val d2 _ _ _ _ w zo D2 (by rw [D2];exact l2) ho ?_ (same zo);have e1:a.eval (.tmp d0)=.map (some h):=by rw [←D0,hev 0 zo (pre 0 zo p02),V0]
      have e2:a.eval (.tmp d1)=κ.val:=by rw [←D1,hev 1 zo (pre 1 zo p12),V1]
      have hrun:(Instr.lookup MT (.map (some h)) κ.val false).run P w=.ok (.int .i64 k) w:=by
       rw [w6 p26];split
       ·exact rl1
       ·exact rl0
      rw [V2];simp only [execOp,e1,e2,ZC1,hrun,ZC0,ZC7]
    | 3,_ =>
      obtain⟨ty,pos,af,ho⟩:=o3;refine val d3 _ _ _ _ w zo D3 (by rw [D3];exact l3) ho ?_ (same zo);have e1:a.eval (.tmp d2)=.int .i64 k:=by rw [←D2,hev 2 zo (pre 2 zo p23),V2]
      have e2:a.eval (.const (.int .i64 1))=.int .i64 1:=rfl;have hwr:IntKind.i64.wrap (k+1)=k+1:=by simp [IntKind.wrap,IntKind.bits,IntKind.signed];omega
      rw [V3];simp [execOp,e1,e2,eqGuard,binOp,Op.intArith,hwr]
    | 4,_ =>
      obtain⟨ty,pos,af,ho⟩:=o4;have hw0:w=W0:=by rw [w6 p46,ZCg (by rw [hi0];exact ZH3)]
      refine val d4 _ _ _ _ W1 zo D4 (by rw [D4];exact l4) ho ?_ (by rw [ZCg (by rw [notl 6 zo p46];exact ZH3),ZCh (.inl rfl)]);have e1:a.eval (.tmp d0)=.map (some h):=by rw [←D0,hev 0 zo (pre 0 zo p04),V0]
      have e2:a.eval (.tmp d1)=κ.val:=by rw [←D1,hev 1 zo (pre 1 zo p14),V1]
      rw [hw0,V4];simp only [execOp,e1,e2,ZC1,r1,ZC0,ZC7]
    | 5,_ =>
      obtain⟨ty,pos,af,ho⟩:=o5;refine val d5 _ _ _ _ w zo D5 (by rw [D5];exact l5) ho ?_ (same zo);have e1:a.eval (.tmp d4)=.tuple #[.int .i64 k,goInt b]:=by rw [←D4,hev 4 zo (pre 4 zo p45),V4]
      rw [V5];simp [execOp,e1,Instr.extract]
    | 6,_ =>
      obtain⟨ty,pos,af,ho⟩:=o6;have hw1:w=W1:=by rw [I.wd,ZCg (by rw [hi0];exact ZH3),ZCh (pre 4 zo p46)]
      have e1:a.eval (.tmp d0)=.map (some h):=by rw [←D0,hev 0 zo (pre 0 zo p06),V0]
      have e2:a.eval (.tmp d5)=goInt b:=by rw [←D5,hev 5 zo (pre 5 zo p56),V5]
      have e3:a.eval (.tmp d3)=.int .i64 (k+1):=by rw [←D3,hev 3 zo (pre 3 zo p36),V3]
      refine go _ _ _ _ _ _ ho ?_
      have hrun:(execOp a.eval ⟨none,.entryStore MT (.tmp d0) (.tmp d5) (.tmp d3),ty,pos,af,none⟩).run P w=.ok .skip W2:=by
       rw [hw1];simp only [execOp,e1,e2,e3,ZC1,r2,ZC0,ZC7]
      unfold Oper.wp;rw [hrun,Oper.upon_skip];refine ih _ _ _ ⟨I.sz,I.df,by rw [Array.size_setIfInBounds];exact I.ls,I.oth,λj hj hL=>I.tv j hj (by rwa [Zf5,ZCg zo] at hL),by rw [Zf5,ZCh rfl,ZCh rfl]⟩ hC' zo
 have e7:l.toArray.size=7:=by simp [h7]
 rw [e7];refine main 7 _ a0 W0 ⟨hdr.size,hdr.defers,by simp,λ_ _=>rfl,λj hj hL=>?_,?_⟩ (λj o ho hj=>?_) ?_
 ·exfalso;rw [ZEd] at hL;simp [show j < 7 by omega] at hL
 ·simp
 ·exfalso;rw [ZEd] at hj;by_cases hjl:j < 7<;>simp [hjl,Array.getElem?_replicate] at hj
 ·unfold unl;exact ZCk List.countP_le_length zs
end Go.Pg
namespace Go.Proofs.YtpkcophcldjboaaGreatDoor
open Go Go.RowKit Go.Pg Go.Proofs.Tryz
attribute [-bool_to_prop] Bool.and_eq_decide Bool.or_eq_decide Bool.decide_beq_decide decide_eq_decide
theorem sz3:szOf prog 3=some 1:=by kernel_rfl
theorem by3:Zh5 prog 3=some 8:=by kernel_rfl
theorem z3:Za0 prog 3=some (.int .i64 0):=by kernel_rfl
theorem szL:szOf prog 128=some 1:=by kernel_rfl
theorem byL:Zh5 prog 128=some 2:=by kernel_rfl
theorem zL:Za0 prog 128=some (.int .u16 0):=by kernel_rfl
theorem szQ:szOf prog 160=some 1:=by kernel_rfl
theorem zQ:Za0 prog 160=some (.int .u64 0):=by kernel_rfl
abbrev iv (n:Int):AV:=.v (.int .i64 n)
abbrev strA (s:ByteArray):AV:=.v (.string s)
abbrev ivs (l:List Int):AV:=.sl 1 (l.map iv)
abbrev Vt:=Int × Int × Int
abbrev Vt.av (v:Vt):AV:=.agg [iv v.1,iv v.2.1,iv v.2.2]
theorem ZAm {α:Type} {f:α→AV} {l:List α} {j:Nat} {d:α} (h:j < l.length):(l.map f).getD j .u=f (l.getD j d):=by
 rw [ZCx,ZDn,ZCs h,ZCx,ZCs h];rfl
theorem getD_mem {α:Type} {l:List α} {j:Nat} {d:α} (h:j < l.length):l.getD j d∈l:=by
 rw [ZCx,ZCs h];exact ZCt h
theorem Zak {α:Type} (f:α→AV) {l:List α} {k:Nat} (h:k < l.length):(l.map f).getD k .u=f l[k]:=by
 rw [ZCx,ZDn,ZCs h];rfl
theorem Zah:szOf prog 39=some 4:=by kernel_rfl
theorem Zap:Za0 prog 39=some (.agg #[.int .i64 0,.int .i64 0,.int .i64 0,.int .i64 0]):=by kernel_rfl
theorem Zai:eqTy prog 39=true:=by kernel_rfl
theorem Zxo:szOf prog 111=some 3:=by kernel_rfl
theorem zCor:Za0 prog 111=some (.agg #[.int .i64 0,.int .i64 0,.int .i64 0]):=by kernel_rfl
theorem szC3:szOf prog 110=some 3:=by kernel_rfl
theorem zC3:Za0 prog 110=some (.agg #[.int .i64 0,.int .i64 0,.int .i64 0]):=by kernel_rfl
theorem Zca:szOf prog 33=some 1:=by kernel_rfl
theorem zErr:Za0 prog 33=some (.int .i64 0):=by kernel_rfl
theorem Zbg:szOf prog 9=some 1:=by kernel_rfl
theorem Zcg:Zh5 prog 9=some 16:=by kernel_rfl
theorem zStr:Za0 prog 9=some (.string ByteArray.empty):=by kernel_rfl
theorem szU8:szOf prog 5=some 1:=by kernel_rfl
theorem byU8:Zh5 prog 5=some 1:=by kernel_rfl
theorem zU8:Za0 prog 5=some (.int .u8 0):=by kernel_rfl
theorem Zdf:szOf prog 25=some 2:=by kernel_rfl
theorem zFig:Za0 prog 25=some (.agg #[.slice none 0 0,.slice none 0 0]):=by kernel_rfl
theorem Zb0:szOf prog 76=some 6:=by kernel_rfl
theorem Zb2:Zh5 prog 76=some 104:=by kernel_rfl
theorem Zdc:Za0 prog 76=some (.agg #[.int .i64 0,.string ByteArray.empty,.slice none 0 0,.bool false,.slice none 0 0,.slice none 0 0]):=by kernel_rfl
theorem Zb8:szOf prog 93=some 5:=by kernel_rfl
theorem Zb9:Zh5 prog 93=some 88:=by kernel_rfl
theorem Zdt:Za0 prog 93=some (.agg #[.int .i64 0,.slice none 0 0,.bool false,.slice none 0 0,.slice none 0 0]):=by kernel_rfl
theorem Zde:szOf prog 69=some 1:=by kernel_rfl
theorem zSlI:Za0 prog 69=some (.slice none 0 0):=by kernel_rfl
theorem Zdd:szOf prog 22=some 1:=by kernel_rfl
theorem zSlS:Za0 prog 22=some (.slice none 0 0):=by kernel_rfl
theorem Zdu:szOf prog 23=some 1:=by kernel_rfl
theorem zSlF:Za0 prog 23=some (.slice none 0 0):=by kernel_rfl
theorem szSlStr:szOf prog 45=some 1:=by kernel_rfl
theorem zSlStr:Za0 prog 45=some (.slice none 0 0):=by kernel_rfl
attribute [go_sem] underlying3 underlying4 underlying33 underlying39 underlying111 underlying110 underlying69 underlying9 sz3 by3 z3 zCor szC3 zC3 zErr
attribute [local go_sem] Zah Zap Zxo Zca Zai Bool.and_self
structure Qt where
 k:Int
 a:Int
 b:Int
 c:Int
 deriving DecidableEq
abbrev Qt.av (q:Qt):AV:=.agg [iv q.k,iv q.a,iv q.b,iv q.c]
abbrev Qt.zero:Qt:=⟨0,0,0,0⟩
def Qt.ok (q:Qt):Bool:=decide ((q.k=3∧0≤q.a∧q.a < 64∧q.b=0∧q.c=0)∨((q.k=1∨q.k=2)∧(0≤q.a∧q.a < 40)∧(0≤q.b∧q.b < 40)∧(0≤q.c∧q.c < 40)))
theorem quOf (k a b c:Int):Pure prog 74 [Qt.av ⟨k,a,b,c⟩] (.agg [iv a,iv b,iv c]):=by
 refine pI func74 rfl ntmps74 results74 call74 ?_
 (refine wkvp w_t w_t (w_s ?_);intros)
 simp (disch:=omega) only [go_sem]
theorem Zlb (k a b c:Int):Pure prog 31 [Qt.av ⟨k,a,b,c⟩] (.v (.bool (Qt.ok ⟨k,a,b,c⟩))):=by
 have cf:=quOf k a b c;refine pI func31 rfl ntmps31 results31 call31 ?_
 (repeat' (first|(with_reducible first|refine stp ?_|apply gx1|apply gx2|apply gx3|apply gx4|apply gx5|apply gx6|apply gx7|refine gw0 ((id (α:=_) cf)) ?_ ?_)|(with_reducible refine Zcn ?_;intro _)|((with_reducible refine gE ?_);(try simp (disch:=omega) only [go_sem,ZCp,ZCq,ZCh,ZCg,Int.reduceAdd,Int.reduceSub,Int.reduceToNat,ZC3])<;>first|rfl|omega)|with_reducible refine Zam zd ?_|((with_reducible first|apply Zfh|apply Zfn);all_goals (intro hc;(try simp only [bool_to_prop] at hc);try (exfalso;omega)))|((with_reducible apply Ztx 4);(focus rfl))))
 (all_goals (try simp (disch:=omega) only [go_sem,Qt.ok,ZCp,ZCq,ZCh,ZCg,Int.reduceAdd,Int.reduceSub,Int.reduceToNat,ZC3]));(all_goals first|done|rfl|(congr 2;first|done|omega|(rw [ZDg];simp only [bool_to_prop,ZCy,ZDy,ZDz,ZD0,ZD1];omega))|skip)
theorem Znj (a:Int):Pure prog 192 [iv a] (.v (.bool (decide (0≤a∧a < 40)))):=by
 refine pI func192 rfl ntmps192 results192 call192 ?_;exact wklp w_t w_t w_t (w_r 0) w_z
theorem Zk4 (k a b c:Int):Pure prog 121 [Qt.av ⟨k,a,b,c⟩] (.v (.bool (Qt.ok ⟨k,a,b,c⟩))):=by
 have ca:=Znj a;have cb:=Znj b;have cc:=Znj c;refine pI func121 rfl ntmps121 results121 call121 ?_;(focus (refine wkap w_t (w_3 ca cb cc) (w_r 0) ?_;(repeat' first|exact w_t|apply w_l);all_goals intros))
 (all_goals (try simp (disch:=omega) only [go_sem,Qt.ok,ZCp,ZCq,ZCh,ZCg,Int.reduceAdd,Int.reduceSub,Int.reduceToNat,ZC3]));(all_goals first|done|rfl|(congr 2;first|done|omega|(rw [ZDg];simp only [bool_to_prop,ZCy,ZDy,ZDz,ZD0,ZD1];omega))|skip)
def Zea (a b c:Int):Qt × Int :=
 if a=b∨b=c∨a=c then (Qt.zero,0)
 else if a < b then (if b < c then (⟨1,a,b,c⟩,1) else if a < c then (⟨1,a,c,b⟩,-1) else (⟨1,c,a,b⟩,1))
 else (if a < c then (⟨1,b,a,c⟩,-1) else if b < c then (⟨1,b,c,a⟩,1) else (⟨1,c,b,a⟩,-1))
def Ze9 (a b c:Int):Qt × Int :=
 if a=b∨b=c then (Qt.zero,0)
 else if a=c∧b < a then (⟨2,b,a,b⟩,1)
 else if c < a then (⟨2,c,b,a⟩,1) else (⟨2,a,b,c⟩,1)
def Qt.norm (q:Qt):Qt × Int:=if q.ok=true then (if q.k=1 then Zea q.a q.b q.c else if q.k=2 then Ze9 q.a q.b q.c else (q,1)) else (Qt.zero,0)
theorem Zv0 (a b c:Int):Pure prog 75 [.agg [iv a,iv b,iv c]] (.tup [(Zea a b c).1.av,iv (Zea a b c).2]):=by
 refine pI func75 rfl ntmps75 results75 call75 ?_;(focus (refine wkax w_t w_t (w_1 (w_d 8 [] [11,13,2011,2013] [])) w_t w_t w_t w_y (w_r 4) ?_;(repeat' first|exact w_t|apply w_l);all_goals intros))
 (all_goals (try simp (disch:=omega) only [go_sem,Zea,Qt.av,Qt.zero,ZCp,ZCq,ZCh,ZCg,Int.reduceAdd,Int.reduceSub,Int.reduceToNat,ZC3]));(all_goals first|done|rfl|(congr 2;first|done|omega|(rw [ZDg];simp only [bool_to_prop,ZCy,ZDy,ZDz,ZD0,ZD1];omega))|skip)
theorem Zvz (a b c:Int):Pure prog 76 [.agg [iv a,iv b,iv c]] (.tup [(Ze9 a b c).1.av,iv (Ze9 a b c).2]):=by
 refine pI func76 rfl ntmps76 results76 call76 ?_;(focus (refine wkap w_t w_t (w_r 0) ?_;(repeat' first|exact w_t|apply w_l);all_goals intros))
 (all_goals (try simp (disch:=omega) only [go_sem,Ze9,Qt.av,Qt.zero,ZCp,ZCq,ZCh,ZCg,Int.reduceAdd,Int.reduceSub,Int.reduceToNat,ZC3]));(all_goals first|done|rfl|(congr 2;first|done|omega|(rw [ZDg];simp only [bool_to_prop,ZCy,ZDy,ZDz,ZD0,ZD1];omega))|skip)
theorem rqArea (a b c:Int):Pure prog 122 [iv a,iv b,iv c] (.tup [(Zea a b c).1.av,iv (Zea a b c).2]):=by
 refine pI func122 rfl ntmps122 results122 call122 ?_;(focus (refine wkap w_t w_t (w_r 0) ?_;(repeat' first|exact w_t|apply w_l);all_goals intros))
 (all_goals (try simp (disch:=omega) only [go_sem,Zea,Qt.av,Qt.zero,ZCp,ZCq,ZCh,ZCg,Int.reduceAdd,Int.reduceSub,Int.reduceToNat,ZC3]));(all_goals first|done|rfl|(congr 2;first|done|omega|(rw [ZDg];simp only [bool_to_prop,ZCy,ZDy,ZDz,ZD0,ZD1];omega))|skip)
theorem rqPyth (a b c:Int):Pure prog 123 [iv a,iv b,iv c] (.tup [(Ze9 a b c).1.av,iv (Ze9 a b c).2]):=by
 refine pI func123 rfl ntmps123 results123 call123 ?_;(focus (refine wkap w_t w_t (w_r 0) ?_;(repeat' first|exact w_t|apply w_l);all_goals intros))
 (all_goals (try simp (disch:=omega) only [go_sem,Ze9,Qt.av,Qt.zero,ZCp,ZCq,ZCh,ZCg,Int.reduceAdd,Int.reduceSub,Int.reduceToNat,ZC3]));(all_goals first|done|rfl|(congr 2;first|done|omega|(rw [ZDg];simp only [bool_to_prop,ZCy,ZDy,ZDz,ZD0,ZD1];omega))|skip)
theorem Zy3 (k a b c:Int):Pure prog 33 [Qt.av ⟨k,a,b,c⟩] (.tup [(Qt.norm ⟨k,a,b,c⟩).1.av,iv (Qt.norm ⟨k,a,b,c⟩).2]):=by
 have c1:=Zlb k a b c;have c2:=quOf k a b c;have c3:=Zv0 a b c;have c4:=Zvz a b c;unfold Qt.norm;generalize Qt.ok ⟨k,a,b,c⟩=v at *;generalize Zea a b c=r1 at *;generalize Ze9 a b c=r2 at *;obtain⟨⟨k1,a1,b1,d1⟩,s1⟩:=r1;obtain⟨⟨k2,a2,b2,d2⟩,s2⟩:=r2;cases v
 ·refine pI func33 rfl ntmps33 results33 call33 ?_
  (refine wkap w_t (w_1 c1) (w_r 0) (w_s ?_);intros)
  (all_goals (try simp (disch:=omega) only [go_sem,Qt.av,Qt.zero,ZCp,ZCq,ZCh,ZCg,Int.reduceAdd,Int.reduceSub,Int.reduceToNat,ZC3]));(all_goals first|done|rfl|(congr 2;first|done|omega|(rw [ZDg];simp only [bool_to_prop,ZCy,ZDy,ZDz,ZD0,ZD1];omega))|skip)
 ·refine pI func33 rfl ntmps33 results33 call33 ?_;(focus (refine wkap w_t (w_4 c1 c2 c3 c4) (w_r 0) ?_;(repeat' first|exact w_t|apply w_l);all_goals intros))
  (all_goals (try simp (disch:=omega) only [go_sem,Qt.av,Qt.zero,ZCp,ZCq,ZCh,ZCg,Int.reduceAdd,Int.reduceSub,Int.reduceToNat,ZC3]));(all_goals first|done|rfl|(congr 2;first|done|omega|(rw [ZDg];simp only [bool_to_prop,ZCy,ZDy,ZDz,ZD0,ZD1];omega))|skip)
theorem Ztm (k a b c:Int):Pure prog 62 [Qt.av ⟨k,a,b,c⟩] (.tup [(Qt.norm ⟨k,a,b,c⟩).1.av,iv (Qt.norm ⟨k,a,b,c⟩).2]):=by
 have c1:=Zk4 k a b c;have c3:=rqArea a b c;have c4:=rqPyth a b c;unfold Qt.norm;generalize Qt.ok ⟨k,a,b,c⟩=v at *;generalize Zea a b c=r1 at *;generalize Ze9 a b c=r2 at *;obtain⟨⟨k1,a1,b1,d1⟩,s1⟩:=r1;obtain⟨⟨k2,a2,b2,d2⟩,s2⟩:=r2;cases v
 ·refine pI func62 rfl ntmps62 results62 call62 ?_
  (refine wkap w_t (w_1 c1) (w_r 0) (w_s ?_);intros)
  (all_goals (try simp (disch:=omega) only [go_sem,Qt.av,Qt.zero,ZCp,ZCq,ZCh,ZCg,Int.reduceAdd,Int.reduceSub,Int.reduceToNat,ZC3]));(all_goals first|done|rfl|(congr 2;first|done|omega|(rw [ZDg];simp only [bool_to_prop,ZCy,ZDy,ZDz,ZD0,ZD1];omega))|skip)
 ·refine pI func62 rfl ntmps62 results62 call62 ?_;(focus (refine wkap w_t (w_3 c1 c3 c4) (w_r 0) ?_;(repeat' first|exact w_t|apply w_l);all_goals intros))
  (all_goals (try simp (disch:=omega) only [go_sem,Qt.av,Qt.zero,ZCp,ZCq,ZCh,ZCg,Int.reduceAdd,Int.reduceSub,Int.reduceToNat,ZC3]));(all_goals first|done|rfl|(congr 2;first|done|omega|(rw [ZDg];simp only [bool_to_prop,ZCy,ZDy,ZDz,ZD0,ZD1];omega))|skip)
def ordI (x y:Int):Int:=if x < y then -1 else if y < x then 1 else 0
def or4 (w x y z:Int):Int:=if w=0 then (if x=0 then (if y=0 then z else y) else x) else w
def Qt.cmp (p q:Qt):Int:=or4 (ordI p.k q.k) (ordI p.a q.a) (ordI p.b q.b) (ordI p.c q.c)
theorem isNaN (x:Int):Pure prog 160 [iv x] (.v (.bool false)):=by
 refine pI func160 rfl ntmps160 results160 call160 ?_
 (refine wkap w_t w_t (w_r 0) (w_s ?_);intros)
 (all_goals (try simp (disch:=omega) only [go_sem,bne_self_eq_false,ZCp,ZCq,ZCh,ZCg,Int.reduceAdd,Int.reduceSub,Int.reduceToNat,ZC3]));(all_goals first|done|rfl|(congr 2;first|done|omega|(rw [ZDg];simp only [bool_to_prop,ZCy,ZDy,ZDz,ZD0,ZD1];omega))|skip)
theorem Zu8 (x y:Int):Pure prog 99 [iv x,iv y] (iv (ordI x y)):=by
 have c1:=isNaN x;have c2:=isNaN y;refine pI func99 rfl ntmps99 results99 call99 ?_;(focus (refine wkap w_t (w_2 c1 c2) (w_r 0) ?_;(repeat' first|exact w_t|apply w_l);all_goals intros))
 (all_goals (try simp (disch:=omega) only [go_sem,ordI,ZCp,ZCq,ZCh,ZCg,Int.reduceAdd,Int.reduceSub,Int.reduceToNat,ZC3]));(all_goals first|done|rfl|(congr 2;first|done|omega|(rw [ZDg];simp only [bool_to_prop,ZCy,ZDy,ZDz,ZD0,ZD1];omega))|skip)
theorem Zni (x y:Int):Pure prog 120 [iv x,iv y] (iv (ordI x y)):=by
 refine pI func120 rfl ntmps120 results120 call120 ?_;(focus (refine wkap w_t w_t (w_r 0) ?_;(repeat' first|exact w_t|apply w_l);all_goals intros))
 (all_goals (try simp (disch:=omega) only [go_sem,ordI,ZCp,ZCq,ZCh,ZCg,Int.reduceAdd,Int.reduceSub,Int.reduceToNat,ZC3]));(all_goals first|done|rfl|(congr 2;first|done|omega|(rw [ZDg];simp only [bool_to_prop,ZCy,ZDy,ZDz,ZD0,ZD1];omega))|skip)
theorem cmpOr (w x y z:Int):Pure prog 98 [.sl 1 [iv w,iv x,iv y,iv z]] (iv (or4 w x y z)):=by
 refine pI func98 rfl ntmps98 results98 call98 ?_;(focus (refine wkap w_t w_t (w_r 6) ?_;(repeat' first|exact w_t|apply w_l);all_goals intros))
 (all_goals (try simp (disch:=omega) only [go_sem,or4,ZCp,ZCq,ZCh,ZCg,Int.reduceAdd,Int.reduceSub,Int.reduceToNat,ZC3]));(all_goals first|done|rfl|(congr 2;first|done|omega|(rw [ZDg];simp only [bool_to_prop,ZCy,ZDy,ZDz,ZD0,ZD1];omega))|skip)
theorem Zns (x:Int):ordI x x=0:=by unfold ordI;simp
theorem Zzj {x y:Int} (h:x≠y):ordI x y≠0:=by unfold ordI;split<;>(try split)<;>omega
theorem quCmp (k a b c k' a' b' c':Int):Pure prog 43 [Qt.av ⟨k,a,b,c⟩,Qt.av ⟨k',a',b',c'⟩] (iv (Qt.cmp ⟨k,a,b,c⟩ ⟨k',a',b',c'⟩)):=by
 have h1:=Zu8 k k';have h2:=Zu8 a a';have h3:=Zu8 b b';have h4:=Zu8 c c';have h5:=cmpOr (ordI k k') (ordI a a') (ordI b b') (ordI c c');refine pI func43 rfl ntmps43 results43 call43 ?_;(focus (refine wkad w_t (w_5 h1 h2 h3 h4 h5) (w_1 (w_d 3 [(4,iv (ordI k k')),(9,iv (ordI a a')),(14,iv (ordI b b')),(19,iv (ordI c c')),(20,.sl 1 [iv (ordI k k'),iv (ordI a a'),iv (ordI b b'),iv (ordI c c')]),(21,iv (or4 (ordI k k') (ordI a a') (ordI b b') (ordI c c')))] [] [])) ?_;(repeat' first|exact w_t|apply w_l);all_goals intros))
 (all_goals (try simp (disch:=omega) only [go_sem,Qt.cmp,ZCp,ZCq,ZCh,ZCg,Int.reduceAdd,Int.reduceSub,Int.reduceToNat,ZC3]));(all_goals first|done|rfl|(congr 2;first|done|omega|(rw [ZDg];simp only [bool_to_prop,ZCy,ZDy,ZDz,ZD0,ZD1];omega))|skip)
 all_goals (rename_i hc;obtain⟨rfl,rfl,rfl,rfl⟩:=hc;simp only [Zns,or4,ZDf])
theorem Zpg (k a b c k' a' b' c':Int):Pure prog 60 [Qt.av ⟨k,a,b,c⟩,Qt.av ⟨k',a',b',c'⟩] (iv (Qt.cmp ⟨k,a,b,c⟩ ⟨k',a',b',c'⟩)):=by
 have h1:=Zni k k';have h2:=Zni a a';have h3:=Zni b b';have h4:=Zni c c';refine pI func60 rfl ntmps60 results60 call60 ?_;(focus (refine wkap w_t (w_4 h1 h2 h3 h4) (w_r 0) ?_;(repeat' first|exact w_t|apply w_l);all_goals intros));all_goals (try simp (disch:=omega) only [go_sem,Qt.cmp,or4])
 all_goals (try subst_vars)
 all_goals first|rfl|(simp only [Zns,ZDf];done)|((try simp only [Zns,ZDf]);have hn:=Zzj (by assumption);rw [ZCg hn])|simp [*,Zns,Zzj]
def Qt.chk (q:Qt) (n m:Int):Int:=if q.ok=true then (if q.k=3 then (if m≤q.a then 2 else 0) else if n≤q.a∨n≤q.b∨n≤q.c then 2 else 0) else 1
theorem quCheck (k a b c n m:Int):Pure prog 178 [Qt.av ⟨k,a,b,c⟩,iv n,iv m] (iv (Qt.chk ⟨k,a,b,c⟩ n m)):=by
 have c1:=Zlb k a b c;have c2:=quOf k a b c;unfold Qt.chk;generalize Qt.ok ⟨k,a,b,c⟩=v at *;cases v
 ·refine pI func178 rfl ntmps178 results178 call178 ?_;exact wklp w_t (w_1 c1) w_t (w_r 0) w_z
 ·refine pI func178 rfl ntmps178 results178 call178 ?_;exact wklp w_t (w_2 c1 c2) w_t (w_r 5) w_z
theorem rqCheck (k a b c n m:Int):Pure prog 61 [Qt.av ⟨k,a,b,c⟩,iv n,iv m] (iv (Qt.chk ⟨k,a,b,c⟩ n m)):=by
 have c1:=Zk4 k a b c;unfold Qt.chk;generalize Qt.ok ⟨k,a,b,c⟩=v at *;cases v
 ·refine pI func61 rfl ntmps61 results61 call61 ?_;exact wklp w_t (w_1 c1) w_t (w_r 0) w_z
 ·refine pI func61 rfl ntmps61 results61 call61 ?_;exact wklp w_t (w_1 c1) w_t (w_r 0) w_z
attribute [go_sem] underlying50 underlying128 underlying198 underlying160 underlying21 szL byL zL
theorem Za4 (l:List Nat) (hs:l.length≤1000000000) (hl:Lm l):Pure prog 209 [lim l] (lim (toL (nv l))):=by
 refine Zaa (tok:=0) (rs:=[.tmp 2]) func209 rfl ntmps209 results209 call209 zr zs ?_
 (refine wkvp w_t w_t (w_s ?_);intros)
 refine Zad (ι:=Nat) (λk e m=>k≤l.length∧e 0=lim l∧e 3=.v (.int .i64 (k:Int))∧∀j,k≤j→gN l j=0) (λk=>k) l.length zr ?_ ?_
 ·rintro k e m ⟨hk,e0,e3,hz⟩
  have gl:=Zbr hl (k - 1);by_cases h0:k=0
  ·subst h0
   (refine wkvp (w_2 e0 e3) w_t (w_s ?_);intros)
   have:=Zlg hl hk hz (.inl rfl);simp (disch:=omega) only [go_sem];rw [←this];rfl
  ·by_cases h1:gN l (k - 1)=0
   ·(refine wkvp (w_2 e0 e3) w_t (w_s ?_);intros)
    exact⟨k - 1,⟨zo,gW e0,by simp (disch:=omega) only [go_sem,e3];congr 2;omega,λj hj=>by
     rcases ZC5 j k with h2 | h2
     ·rw [show j=k - 1 by omega];exact h1
     ·exact hz j h2⟩,zo⟩
   ·(refine wkvp (w_2 e0 e3) w_t (w_s ?_);intros)
    have:=Zlg hl hk hz (.inr zo);simp (disch:=omega) only [go_sem,this]
 ·exact⟨ZCi _,gC,gC,λj hj=>Zek hj⟩
theorem slN {l:List Nat} (h:l=[]):lim l=.sl 1 []:=by subst h;rfl
theorem Znx (l:List Nat) (hs:l.length≤1000000000) (hl:Lm l):Pure prog 155 [lim l] (lim (toL (nv l))):=by
 have h1:=Zat hl;by_cases h0:toL (nv l)=[]
 ·rw [slN h0];refine Pure.wk (r:=.v (.slice none 0 0)) ?_ (.nil 1);have h2:(toL (nv l)).length=0:=by rw [h0];rfl
  refine Zaa (tok:=0) (rs:=[.tmp 2]) func155 rfl ntmps155 results155 call155 zr zs ?_
  (refine wkvp (w_1 h2) (w_1 (Za4 l hs hl)) (w_s ?_);intros)
  simp (disch:=omega) only [go_sem]
 ·have h2:0 < (toL (nv l)).length:=List.length_pos_iff.2 h0;refine Zaa (tok:=0) (rs:=[.tmp 2]) func155 rfl ntmps155 results155 call155 zr zs ?_
  (refine wkvp w_t (w_1 (Za4 l hs hl)) (w_s ?_);intros)
  simp (disch:=omega) only [go_sem,ZEb,List.drop_replicate,ZFz,ZCi]
theorem natOf (n:Nat) (hn:n < 18446744073709551616):Pure prog 157 [.v (.int .u64 (n:Int))] (lim (toL n)):=by
 by_cases h0:n=0
 ·subst h0;rw [slN Zaz];refine Pure.wk (r:=.v (.slice none 0 0)) ?_ (.nil 1);refine Zaa (tok:=0) (rs:=[.tmp 2]) func157 rfl ntmps157 results157 call157 zr zs ?_
  (refine wkvp w_t w_t (w_s ?_);intros)
  refine Zad (ι:=Nat) (λk e m=>e 0=.v (.int .u64 0)∧e 3=.v (.slice none 0 0)) (λk=>k) 0 zr ?_ ?_
  ·rintro k e m ⟨e0,e3⟩
   (refine wkvp (w_2 e0 e3) w_t (w_s ?_);intros)
   simp (disch:=omega) only [go_sem]
  ·exact⟨by simp (disch:=omega) only [go_sem];rfl,gC⟩
 ·refine Zaa (tok:=0) (rs:=[.tmp 2]) func157 rfl ntmps157 results157 call157 zr zs ?_
  (refine wkvp w_t w_t (w_s ?_);intros)
  refine Zad (ι:=Nat) (λk e m=>k≤n∧e 0=.v (.int .u64 (k:Int))∧((k=n∧e 3=.v (.slice none 0 0))∨(k < n∧∃sv l,e 3=.own 12 sv∧m 12=some (.row sv 128 1 (u16s l) 0)∧l++toL k=toL n))) (λk=>k) n zr ?_ ?_
  ·rintro k e m ⟨hk,e0,hor⟩
   by_cases hk0:k=0
   ·subst hk0;rcases hor with⟨h1,_⟩ | ⟨_,sv,l,e3,em,hl⟩
    ·omega
    ·(refine wkvp (w_2 e0 e3) w_t (w_s ?_);intros)
     simp (disch:=omega) only [go_sem,em];rw [Zaz,ZDo] at hl;rw [hl]
   ·rcases hor with⟨rfl,e3⟩ | ⟨_,sv,l,e3,em,hl⟩
    ·(refine wkvp (w_3 e0 e3 @Zbk) w_t (w_s ?_);intros)
     refine⟨k/65536,⟨zo,gW e0,.inr ⟨zo,_,[k%65536],gC,gC,?_⟩⟩,zo⟩;rw [Zex hk0];rfl
    ·have b1:=(Zaf (n:=n) (k:=4)).2 hn;have b2:l.length≤(toL n).length:=by rw [←hl];simp
     (refine wkvp (w_4 e0 e3 em @Zbk) w_t (w_s ?_);intros)
     refine⟨k/65536,⟨zo,gW e0,.inr ⟨zo,_,l++[k%65536],gC,gC,?_⟩⟩,zo⟩;rw [←hl,Zex hk0];simp
  ·exact⟨ZCi _,gC,.inl ⟨rfl,gC⟩⟩
def cmpN (a b:Nat):Int:=if a < b then -1 else if b < a then 1 else 0
theorem Zud (a b:List Nat) (ha:a.length≤1000000000) (hb:b.length≤1000000000) (la:Lm a) (lb:Lm b):Pure prog 212 [lim a,lim b] (.v (.int .i64 (cmpN (nv a) (nv b)))):=by
 have h1:=Zat la;have h2:=Zat lb;have va:=Zao (nv a);have vb:=Zao (nv b);have ma:=Zar (nv a);have mb:=Zar (nv b);refine Zaa (tok:=0) (rs:=[.tmp 4]) func212 rfl ntmps212 results212 call212 zr zs ?_;by_cases hlt:(toL (nv a)).length < (toL (nv b)).length
 ·have:nv a < nv b:=by
   rcases ZC5 (nv a) (nv b) with h | h
   ·exact h
   ·have:=Za6 h;omega
  (refine wkvp w_t (w_2 (Za4 a ha la) (Za4 b hb lb)) (w_s ?_);intros)
  simp (disch:=omega) only [go_sem,cmpN,ZCh this]
 ·by_cases hgt:(toL (nv b)).length < (toL (nv a)).length
  ·have:nv b < nv a:=by
    rcases ZC5 (nv b) (nv a) with h | h
    ·exact h
    ·have:=Za6 h;omega
   have this2:¬nv a < nv b:=zo
   (refine wkvp w_t (w_2 (Za4 a ha la) (Za4 b hb lb)) (w_s ?_);intros)
   simp (disch:=omega) only [go_sem,cmpN,ZCh this,ZCg this2]
  ·(refine wkvp w_t (w_2 (Za4 a ha la) (Za4 b hb lb)) (w_s ?_);intros)
   refine Zad (ι:=Nat) (λk e m=>k≤(toL (nv a)).length∧e 0=lim (toL (nv a))∧e 1=lim (toL (nv b))∧e 5=.v (.int .i64 ((k:Int) - 1))∧nv ((toL (nv a)).drop k)=nv ((toL (nv b)).drop k)) (λk=>k) (toL (nv a)).length zr ?_ ?_
   ·rintro k e m ⟨hk,e0,e1,e5,hz⟩
    by_cases h0:k=0
    ·subst h0;rw [ZEl,ZEl,va,vb] at hz
     (refine wkvp (w_3 e0 e1 e5) w_t (w_s ?_);intros)
     simp (disch:=omega) only [go_sem,cmpN,hz,Nat.lt_irrefl,ZDc]
    ·have hk1:k - 1+1=k:=zo;have ga:=Zbr ma (k - 1);have gb:=Zbr mb (k - 1);by_cases p1:gN (toL (nv a)) (k - 1) < gN (toL (nv b)) (k - 1)
     ·have:=Zua (k:=k - 1) ma mb (by rw [hk1];exact hz) p1;rw [va,vb] at this
      (refine wkad (w_3 e0 e1 e5) w_t w_t (w_s ?_);intros)
      simp (disch:=omega) only [go_sem,cmpN,ZCh this]
     ·by_cases p2:gN (toL (nv b)) (k - 1) < gN (toL (nv a)) (k - 1)
      ·have:=Zua (k:=k - 1) mb ma (by rw [hk1];exact hz.symm) p2;rw [va,vb] at this;have this2:¬nv a < nv b:=zo
       (refine wkad (w_3 e0 e1 e5) w_t w_t (w_s ?_);intros)
       simp (disch:=omega) only [go_sem,cmpN,ZCh this,ZCg this2]
      ·(refine wkad (w_3 e0 e1 e5) w_t w_t (w_s ?_);intros)
       refine⟨k - 1,⟨zo,gW e0,gW e1,by simp (disch:=omega) only [go_sem,e5];congr 2;omega,?_⟩,zo⟩;rw [Zbx,Zbx (toL (nv b)),hk1,hz];omega
   ·refine⟨ZCi _,gC,gC,gC,?_⟩;rw [ZD7 (ZCi _),ZD7 zo]
theorem natAdd (a b:List Nat) (ha:a.length≤1000000000) (hb:b.length≤1000000000) (la:Lm a) (lb:Lm b):Pure prog 254 [lim a,lim b] (lim (toL (nv a+nv b))):=by
 have h1:=Zat la;have h2:=Zat lb;have va:=Zao (nv a);have vb:=Zao (nv b);have ma:=Zar (nv a);have mb:=Zar (nv b)
 obtain⟨A,B,hA,hB,hle,hAl,hLA,hLB,hAB,hm⟩:∃A B,A=(if (toL (nv a)).length < (toL (nv b)).length then toL (nv b) else toL (nv a))∧B=(if (toL (nv a)).length < (toL (nv b)).length then toL (nv a) else toL (nv b))∧B.length≤A.length∧A.length≤1000000000∧Lm A∧Lm B∧nv A+nv B=nv a+nv b∧A.length≤(toL (nv a+nv b)).length:=by
  by_cases hlt:(toL (nv a)).length < (toL (nv b)).length
  ·exact⟨_,_,(ZCh hlt).symm,(ZCh hlt).symm,zo,zo,mb,ma,zo,Za6 zo⟩
  ·exact⟨_,_,(ZCg hlt).symm,(ZCg hlt).symm,zo,zo,ma,mb,zo,Za6 zo⟩
 refine Zaa (tok:=0) (rs:=[.tmp 4]) func254 rfl ntmps254 results254 call254 zr zs ?_;rcases ZC5 (toL (nv a)).length (toL (nv b)).length with hlt | hge
 rotate_left
 have hlt:¬(toL (nv a)).length < (toL (nv b)).length:=zo;all_goals
  (first|rw [ZCh hlt] at hA hB|rw [ZCg hlt] at hA hB)
  (refine wkvp w_t (w_2 (Za4 a ha la) (Za4 b hb lb)) (w_s ?_);intros)
  rw [←hA]
  try rw [←hB]
  refine Zad (ι:=Nat) (λk e m=>k≤A.length∧e 0=lim A∧e 1=lim B∧e 26=lim A∧e 27=.v (.int .i64 A.length)∧e 28=.v (.int .i64 k)∧∃sv o c,e 5=.own 25 sv∧e 6=.v (.int .u32 (c:Nat))∧m 25=some (.row sv 128 1 (u16s o) 0)∧o.length=A.length∧Lm o∧c≤1∧nv (o.take k)+65536 ^ k*c=nv (A.take k)+nv (B.take k)) (λk=>A.length - k) 0 zr ?_ ?_
  ·rintro k e m ⟨hk,e0,e1,e26,e27,e28,sv,o,c,e5,e6,em,hol,hLo,hc,hv⟩
   have ga:=Zbr hLA k;have gb:=Zbr hLB k;have hs:=Zou (x:=gN A k) (y:=gN B k) hv;have w1:(c+gN A k+gN B k)/65536≤1:=zo;have w2:(c+gN A k+gN B k)%65536 < 65536:=zo;by_cases hlt2:k < A.length
   ·rw [←Zc3 (o:=o) zo,←ZDk,←Zau,←Zau] at hs;by_cases hkb:k < B.length
    ·(refine wkvp (w_11 e0 e1 e26 e27 e28 e5 e6 em hol @Za2 @Zbk) w_t (w_s ?_);intros)
     exact⟨k+1,⟨zo,gW e0,gW e1,gW e26,gW e27,gV e28,_,_,_,gW e5,gC,gC,by simpa using hol,hLo.set k w2,w1,hs⟩,zo⟩
    ·have g0:gN B k=0:=Zek zo;simp only [g0,ZDx] at hs w1 w2
     (refine wkvp (w_11 e0 e1 e26 e27 e28 e5 e6 em hol @Za2 @Zbk) w_t (w_s ?_);intros)
     exact⟨k+1,⟨zo,gW e0,gW e1,gW e26,gW e27,gV e28,_,_,_,gW e5,gC,gC,by simpa using hol,hLo.set k w2,w1,hs⟩,zo⟩
   ·have hkA:k=A.length:=zo;subst hkA;rw [Zbm (ZCi _),Zbm hle,Zbm zo,hAB] at hv;by_cases hc0:c=0
    ·subst hc0;rw [ZE7,ZDx] at hv
     (refine wkvp (w_9 e0 e1 e26 e27 e28 e5 e6 em hol) w_t (w_s ?_);intros)
     simp (disch:=omega) only [go_sem,em];rw [canon' hLo (by rw [hv];omega),hv]
    ·have hc1:c=1:=zo;subst hc1
     (refine wkvp (w_10 e0 e1 e26 e27 e28 e5 e6 em hol @Zbk) w_t (w_s ?_);intros)
     simp (disch:=omega) only [go_sem];have h3:nv (o++[1])=nv a+nv b:=by rw [Zdq,hol];simpa [nv] using hv
     rw [←h3,←canon (hLo.append (Lm.one zo)) (.inr (by simp [gN]))]
  ·refine⟨ZCr _,gC,gC,gC,gC,gC,_,List.replicate A.length 0,0,gC,gC,gC,by simp,Lm.zeros _,zo,by simp [nv]⟩
theorem okTup {a:AV} {n:Int} (h:a=.v (.slice none 0 0)):Wk (.tup [a,.v (.int .i64 n)]) (.tup [lim [],.v (.int .i64 n)]):=by
 subst h;exact Wk.pair (.nil 1)
theorem natSub (a b:List Nat) (ha:a.length≤1000000000) (hb:b.length≤1000000000) (la:Lm a) (lb:Lm b) :
 Pure prog 255 [lim a,lim b] (.tup [lim (if nv a < nv b then [] else toL (nv a - nv b)),.v (.int .i64 (if nv a < nv b then 2 else 0))]):=by
 by_cases hlt:nv a < nv b
 ·rw [ZCh hlt,ZCh hlt];refine Pure.wk ?_ (okTup rfl);refine Zaa (tok:=0) (rs:=[.tmp 4,.tmp 5]) func255 rfl ntmps255 results255 call255 zr zs ?_;have hc:cmpN (nv a) (nv b)=-1:=by unfold cmpN;rw [ZCh hlt]
  (refine wkvp (w_1 hc) (w_1 (Zud a b ha hb la lb)) (w_s ?_);intros)
  simp (disch:=omega) only [go_sem]
 ·rw [ZCg hlt,ZCg hlt];have h1:=Zat la;have va:=Zao (nv a);have vb:=Zao (nv b);have ma:=Zar (nv a);have mb:=Zar (nv b);have h2:(toL (nv b)).length≤(toL (nv a)).length:=Za6 zo;have hc:0≤cmpN (nv a) (nv b):=by unfold cmpN;rw [ZCg hlt];split<;>omega
  generalize hA:toL (nv a)=A at *;generalize hB:toL (nv b)=B at *;refine Zaa (tok:=0) (rs:=[.tmp 4,.tmp 5]) func255 rfl ntmps255 results255 call255 zr zs ?_
  (refine wkvp (w_2 hA hB) (w_3 (Zud a b ha hb la lb) (Za4 a ha la) (Za4 b hb lb)) (w_s ?_);intros)
  rw [hA,hB];refine Zad (ι:=Nat) (λk e m=>k≤A.length∧(e 1=lim B∧e 22=lim A∧e 23=.v (.int .i64 A.length)∧e 24=.v (.int .i64 k))∧∃sv o r,(e 6=.own 21 sv∧e 7=.v (.int .i32 (r:Nat))∧m 21=some (.row sv 128 1 (u16s o) 0))∧o.length=A.length∧Lm o∧r≤1∧nv (o.take k)+nv (B.take k)=nv (A.take k)+65536 ^ k*r) (λk=>A.length - k) 0 zr ?_ ?_
  ·rintro k e m ⟨hk,⟨e1,e22,e23,e24⟩,sv,o,r,⟨e6,e7,em⟩,hol,hLo,hr,hv⟩
   have ga:=Zbr ma k;have gb:=Zbr mb k;by_cases hlt2:k < A.length
   ·have step:∀(d r':Nat),d+r+gN B k=gN A k+65536*r'→d < 65536→r'≤1→(o.set k d).length=A.length∧Lm (o.set k d)∧r'≤1∧nv ((o.set k d).take (k+1))+nv (B.take (k+1))=nv (A.take (k+1))+65536 ^ (k+1)*r':=by
     intro d r' hd h3 h4;have:=Ztd hv hd;rw [Zc3 zo,Zau,Zau,ZDk];exact⟨by simpa using hol,hLo.set k h3,h4,this⟩
    by_cases hneg:gN A k < r+gN B k
    ·have hs:=step (gN A k+65536 - r - gN B k) 1 zo zo zo;have w:(gN A k:Int) - r - gN B k+65536=((gN A k+65536 - r - gN B k:Nat):Int):=zo;by_cases hkb:k < B.length
     ·(refine wkvp (w_9 e1 e22 e23 e24 e6 e7 em hol w) w_t (w_s ?_);intros)
      exact⟨k+1,⟨zo,gV (And.intro e1 (And.intro e22 (And.intro e23 e24))),sv,_,1,gW e6,hs⟩,zo⟩
     ·have g0:gN B k=0:=Zek zo;simp only [g0,ZFi,ZDx] at hs w hneg;have w:(gN A k:Int) - r+65536=((gN A k+65536 - r:Nat):Int):=zo
      (refine wkvp (w_9 e1 e22 e23 e24 e6 e7 em hol w) w_t (w_s ?_);intros)
      exact⟨k+1,⟨zo,gV (And.intro e1 (And.intro e22 (And.intro e23 e24))),sv,_,1,gW e6,hs⟩,zo⟩
    ·have hs:=step (gN A k - r - gN B k) 0 zo zo zo;have w:(gN A k:Int) - r - gN B k=((gN A k - r - gN B k:Nat):Int):=zo;by_cases hkb:k < B.length
     ·(refine wkvp (w_9 e1 e22 e23 e24 e6 e7 em hol w) w_t (w_s ?_);intros)
      exact⟨k+1,⟨zo,gV (And.intro e1 (And.intro e22 (And.intro e23 e24))),sv,_,0,by(simp (disch:=omega) only [go_sem,e6,ZEo]<;>repeat' first|rfl|refine⟨?_,?_⟩),hs⟩,zo⟩
     ·have g0:gN B k=0:=Zek zo;simp only [g0,ZFi,ZDx] at hs hneg;have w:(gN A k:Int) - r=((gN A k - r:Nat):Int):=zo
      (refine wkvp (w_9 e1 e22 e23 e24 e6 e7 em hol w) w_t (w_s ?_);intros)
      exact⟨k+1,⟨zo,gV (And.intro e1 (And.intro e22 (And.intro e23 e24))),sv,_,0,by(simp (disch:=omega) only [go_sem,e6,ZEo]<;>repeat' first|rfl|refine⟨?_,?_⟩),hs⟩,zo⟩
   ·have hkA:k=A.length:=zo;subst hkA;rw [Zbm zo,Zbm (ZCi _),Zbm h2,va,vb] at hv;have hno:=Zh4 hLo;rw [hol] at hno
    have hr0:r=0:=by
     rcases ZDr r with h3 | h3
     ·exact h3
     ·have:r=1:=zo;subst this;omega
    subst hr0;have hno2:nv o=nv a - nv b:=zo
    (refine wkax (w_8 e1 e22 e23 e24 e6 e7 em hol) w_t w_t (w_1 (Za4 o zo hLo)) w_t w_t w_y (w_r 0) (w_s ?_);intros)
    simp (disch:=omega) only [go_sem,hno2]
  ·exact⟨ZCr _,gC,_,List.replicate A.length 0,0,⟨gC,gC,gC⟩,by simp,Lm.zeros _,zo,by simp [nv]⟩
theorem natMul (a b:List Nat) (ha:a.length≤400000000) (hb:b.length≤400000000) (la:Lm a) (lb:Lm b):Pure prog 151 [lim a,lim b] (lim (toL (nv a*nv b))):=by
 have h1:=Zat la;have h2:=Zat lb;have va:=Zao (nv a);have vb:=Zao (nv b);have ma:=Zar (nv a);have mb:=Zar (nv b);by_cases h0:nv a=0∨nv b=0
 ·have hz:nv a*nv b=0:=Nat.mul_eq_zero.2 h0;rw [slN (show toL (nv a*nv b)=[] by rw [hz,Zaz])];refine Pure.wk (r:=.v (.slice none 0 0)) ?_ (.nil 1);refine Zaa (tok:=0) (rs:=[.tmp 4]) func151 rfl ntmps151 results151 call151 zr zs ?_;by_cases h3:nv a=0
  ·have h4:=Zbn.2 h3
   (refine wkvp (w_1 h4) (w_2 (Za4 a zo la) (Za4 b zo lb)) (w_s ?_);intros)
   simp (disch:=omega) only [go_sem]
  ·have h4:(toL (nv a)).length≠0:=λh=>h3 (Zbn.1 h);have h5:=Zbn.2 (h0.resolve_left h3)
   (refine wkvp (w_1 h5) (w_2 (Za4 a zo la) (Za4 b zo lb)) (w_s ?_);intros)
   simp (disch:=omega) only [go_sem]
 ·have h3:(toL (nv a)).length≠0:=λh=>h0 (.inl (Zbn.1 h));have h4:(toL (nv b)).length≠0:=λh=>h0 (.inr (Zbn.1 h));generalize hA:toL (nv a)=A at *;generalize hB:toL (nv b)=B at *;refine Zaa (tok:=0) (rs:=[.tmp 4]) func151 rfl ntmps151 results151 call151 zr zs ?_
  (refine wkvp (w_3 hA hB @Za2) (w_2 (Za4 a zo la) (Za4 b zo lb)) (w_s ?_);intros)
  rw [hA,hB];refine Zad (ι:=Nat) (λi e m=>i≤A.length∧(e 1=lim B∧e 29=lim A∧e 30=.v (.int .i64 A.length)∧e 31=.v (.int .i64 i))∧∃sv o,(e 5=.own 28 sv∧m 28=some (.row sv 128 1 (u16s o) 0))∧o.length=A.length+B.length∧Lm o∧(∀j,i+B.length≤j→gN o j=0)∧nv o=nv (A.take i)*nv B) (λi=>A.length - i) 0 zr ?_ ?_
  ·rintro i e m ⟨hi,⟨e1,e29,e30,e31⟩,sv,o,⟨e5,em⟩,hol,hLo,hz,hv⟩
   by_cases hlt:i < A.length
   ·have gx:=Zbr ma i
    (refine wkvp (w_8 e1 e29 e30 e31 e5 em hol @Za2) w_t (w_s ?_);intros)
    refine Zad (ι:=Nat) (λk e' m'=>k≤B.length∧(e' 1=lim B∧e' 29=lim A∧e' 30=.v (.int .i64 A.length)∧e' 31=.v (.int .i64 i)∧e' 36=lim B∧e' 37=.v (.int .i64 B.length)∧e' 38=.v (.int .i64 k)∧e' 6=.v (.int .i64 i)∧e' 7=.v (.int .u16 (gN A i:Nat))∧e' 5=.own 28 sv)∧∃o' c,(e' 8=.v (.int .u32 (c:Nat))∧m' 28=some (.row sv 128 1 (u16s o') 0))∧o'.length=A.length+B.length∧Lm o'∧c < 65536∧(∀j,i+B.length≤j→gN o' j=0)∧nv o'+65536 ^ (i+k)*c=nv o+65536 ^ i*nv (B.take k)*gN A i) (λk=>B.length - k) 0 zr ?_ ?_
    ·rintro k e m ⟨hk,⟨e1,e29,e30,e31,e36,e37,e38,e6,e7,e5⟩,o',c,⟨e8,em⟩,hol',hLo',hc,hz',hv'⟩
     have gy:=Zbr mb k;have go:=Zbr hLo' (i+k);have bd:=Zp6 gx gy;by_cases hkb:k < B.length
     ·have hs:=Zuf (x:=gN A i) (y:=gN B k) rfl (Zpz (o:=o') (j:=i+k) zo _) hv';rw [←Zug,←Zau,←ZDk,Nat.succ_eq_add_one,ZHa i] at hs;have w1:(c+(gN o' (i+k)+gN A i*gN B k))/65536 < 65536:=zo;have w2:(c+(gN o' (i+k)+gN A i*gN B k))%65536 < 65536:=zo;generalize hxy:gN A i*gN B k=xy at *
      (refine wkvp (w_17 e1 e29 e30 e31 e36 e37 e38 e6 e7 e5 e8 em hol' @Za2 @Zih @Zbk hxy) w_t (w_s ?_);intros)
      refine⟨k+1,⟨zo,gV (And.intro e1 (And.intro e29 (And.intro e30 (And.intro e31 (And.intro e36 (And.intro e37 (And.intro e38 (And.intro e6 (And.intro e7 e5))))))))),_,_,⟨gC,gC⟩,by simpa using hol',hLo'.set _ w2,w1,λj hj=>?_,hs⟩,zo⟩;rw [Zf6 zo,ZCg zo];exact hz' j hj
     ·have hkB:k=B.length:=zo;subst hkB;rw [Zbm (ZCi _)] at hv';have g0:=hz' (i+B.length) (ZCi _);have h5:=Zpz (o:=o') (j:=i+B.length) zo c;rw [g0,ZE7,ZDx] at h5;have hcc:c%65536=c:=ZE0 hc
      (refine wkvp (w_16 e1 e29 e30 e31 e36 e37 e38 e6 e7 e5 e8 em hol' @Za2 @Zbk hcc) w_t (w_s ?_);intros)
      refine⟨i+1,⟨zo,gV (And.intro e1 (And.intro e29 (And.intro e30 e31))),sv,_,⟨gW e5,gC⟩,by simpa using hol',hLo'.set _ hc,λj hj=>?_,?_⟩,zo⟩
      ·rw [Zf6 zo,ZCg zo];exact hz' j zo
      ·rw [h5,hv',hv,Zau,ZC8];congr 1;simp only [ZDm,ZDh,ZGe]
    ·exact⟨ZCr _,gW (And.intro e1 (And.intro e29 (And.intro e30 (And.intro e31 e5)))),_,0,⟨gC,gW em⟩,hol,hLo,zo,hz,by simp [nv]⟩
   ·have hiA:i=A.length:=zo;subst hiA;rw [Zbm (ZCi _),va,vb] at hv
    (refine wkax (w_7 e1 e29 e30 e31 e5 em hol) w_t w_t (w_1 (Za4 o zo hLo)) w_t w_t w_y (w_r 0) (w_s ?_);intros)
    simp (disch:=omega) only [go_sem,hv]
  ·exact⟨ZCr _,gC,_,List.replicate (A.length+B.length) 0,⟨gC,gC⟩,by simp,Lm.zeros _,λj hj=>Zhw _ _,by simp [nv,Znu]⟩
attribute [go_sem] underlying5 underlying149
theorem Zqx (x:Nat) (hx:x < 65536):Pure prog 217 [.v (.int .u16 (x:Int))] (.v (.int .i64 (Zfa x:Nat))):=by
 refine Zaa (tok:=0) (rs:=[.tmp 2]) func217 rfl ntmps217 results217 call217 zr zs ?_;by_cases h:256≤x
 ·have b:=Zgj (i:=x/256) zo;have e:Zfa x=8+len8 (x/256):=ZCh h
  (repeat' (first|(apply Zrz (g:=len8) (n:=256) zk zk zo)|(with_reducible first|refine stp ?_|apply gx1|apply gx2|apply gx3|apply gx4|apply gx5|apply gx6|apply gx7)|(with_reducible refine Zcn ?_;intro _)|((with_reducible refine gE ?_);(try simp (disch:=omega) only [go_sem])<;>first|rfl|omega)|with_reducible refine Zam zd ?_))
  simp (disch:=omega) only [go_sem,e,Int.natCast_add,Int.cast_ofNat_Int]
 ·have b:=Zgj (i:=x) zo;have e:Zfa x=len8 x:=ZCg h
  (repeat' (first|(apply Zrz (g:=len8) (n:=256) zk zk zo)|(with_reducible first|refine stp ?_|apply gx1|apply gx2|apply gx3|apply gx4|apply gx5|apply gx6|apply gx7)|(with_reducible refine Zcn ?_;intro _)|((with_reducible refine gE ?_);(try simp (disch:=omega) only [go_sem])<;>first|rfl|omega)|with_reducible refine Zam zd ?_))
  simp (disch:=omega) only [go_sem,e,ZC3]
theorem bitsLz16 (x:Nat) (hx:x < 65536):Pure prog 214 [.v (.int .u16 (x:Int))] (.v (.int .i64 ((16 - Zfa x:Nat):Int))):=by
 refine Zaa (tok:=0) (rs:=[.tmp 2]) func214 rfl ntmps214 results214 call214 zr zs ?_;have b:=Zi2 hx;have w:(16:Int) - (Zfa x:Int)=((16 - Zfa x:Nat):Int):=zo
 (refine wkvp (w_1 w) (w_1 (Zqx x hx)) (w_s ?_);intros)
 simp (disch:=omega) only [go_sem]
def Zoq (n:Nat):Nat:=if n=0 then 0 else 16*((toL n).length - 1)+Zfa (gN (toL n) ((toL n).length - 1))
theorem Zhz {n:Nat}:Zoq n=0↔n=0:=by
 constructor
 ·intro h;unfold Zoq at h;split at h
  ·assumption
  ·rename_i h0;have h1:=Zec h0;have:=(Zi2 (Zbr (Zar n) ((toL n).length - 1))).2 h1.2;omega
 ·rintro rfl;rfl
theorem natBits (l:List Nat) (hs:l.length≤1000000000) (hl:Lm l):Pure prog 159 [lim l] (.v (.int .i64 (Zoq (nv l):Nat))):=by
 have h1:=Zat hl;refine Zaa (tok:=0) (rs:=[.tmp 2]) func159 rfl ntmps159 results159 call159 zr zs ?_;by_cases h0:nv l=0
 ·have h2:=Zbn.2 h0;have h3:=Zhz.2 h0
  (refine wkvp (w_1 h2) (w_1 (Za4 l hs hl)) (w_s ?_);intros)
  simp (disch:=omega) only [go_sem,h3];rfl
 ·obtain⟨h2,h3⟩:=Zec h0;have hb:Zoq (nv l)=16*((toL (nv l)).length - 1)+Zfa (gN (toL (nv l)) ((toL (nv l)).length - 1)):=ZCg h0;have b:=Zi2 (Zbr (Zar (nv l)) ((toL (nv l)).length - 1));have w:(16:Int)*(((toL (nv l)).length:Int) - 1)+(Zfa (gN (toL (nv l)) ((toL (nv l)).length - 1)):Nat)=(Zoq (nv l):Nat):=zo
  (repeat' (first|(with_reducible first|refine stp ?_|apply gx1|apply gx2|apply gx3|apply gx4|apply gx5|apply gx6|apply gx7|refine gw0 (Za4 l hs hl) ?_ ?_|refine gw0 (Zqx (gN (toL (nv l)) ((toL (nv l)).length - 1)) (Zbr (Zar (nv l)) _)) ?_ ?_)|(with_reducible refine Zcn ?_;intro _)|((with_reducible refine gE ?_);(try simp (disch:=omega) only [go_sem,w])<;>first|rfl|omega)|with_reducible refine Zam zd ?_))
  simp (disch:=omega) only [go_sem,w]
theorem Zp3 (a:List Nat) (d:Nat) (ha:a.length≤1000000000) (la:Lm a) (hd0:0 < d) (hd:d < 65536):Pure prog 213 [lim a,.v (.int .u16 (d:Int))] (.tup [lim (toL (nv a/d)),.v (.int .u16 ((nv a%d:Nat):Int))]):=by
 refine Zaa (tok:=0) (rs:=[.tmp 4,.tmp 5]) func213 rfl ntmps213 results213 call213 zr zs ?_
 (refine wkvp w_t w_t (w_s ?_);intros)
 refine Zad (ι:=Nat) (λk e m=>k≤a.length∧(e 0=lim a∧e 1=.v (.int .u16 (d:Int))∧e 8=.v (.int .i64 ((k:Int) - 1)))∧∃sv q r,(e 6=.own 11 sv∧e 7=.v (.int .u32 (r:Nat))∧m 11=some (.row sv 128 1 (u16s q) 0))∧q.length=a.length∧Lm q∧r < d∧(∀j,j < k→gN q j=0)∧nv (a.drop k)=d*nv (q.drop k)+r) (λk=>k) a.length zr ?_ ?_
 ·rintro k e m ⟨hk,⟨e0,e1,e8⟩,sv,q,r,⟨e6,e7,em⟩,hql,hLq,hr,hz,hv⟩
  by_cases h0:k=0
  ·subst h0;rw [ZEl,ZEl] at hv;have h2:nv a/d=nv q:=by rw [hv,Nat.mul_add_div hd0,ZHk hr,ZDx]
   have h3:nv a%d=r:=by rw [hv,Nat.mul_add_mod,ZE0 hr]
   (refine wkax (w_7 e0 e1 e8 e6 e7 em hql) w_t w_t (w_1 (Za4 q zo hLq)) w_t w_t w_y (w_r 0) (w_s ?_);intros)
   simp (disch:=omega) only [go_sem,h2,h3]
  ·have ga:=Zbr la (k - 1);have hd1:=div_step (x:=gN a (k - 1)) rfl hv
   have w1:(r*65536+gN a (k - 1))/d < 65536:=by
    rw [ZFr hd0];have:(r+1)*65536≤d*65536:=ZCw _ hr;rw [ZDh 65536 d];omega
   have w2:(r*65536+gN a (k - 1))%d < d:=ZD3 _ hd0;have hk1:k - 1+1=k:=zo;have hrr:r < 65536:=zo;have w3:((r*65536+gN a (k - 1))/d)%65536=(r*65536+gN a (k - 1))/d:=ZE0 w1
   (refine wkvp (w_11 e0 e1 e8 e6 e7 em hql @Zdk @Ze0 @Zbk w3) w_t (w_s ?_);intros)
   refine⟨k - 1,⟨zo,⟨gW e0,gW e1,by(simp (disch:=omega) only [go_sem,e8];congr 2;omega)⟩,sv,_,_,⟨gW e6,gC,gC⟩,by simpa using hql,hLq.set _ w1,w2,λj hj=>?_,?_⟩,zo⟩
   ·rw [Zf6 zo,ZCg zo];exact hz j zo
   ·rw [Zbx,hk1,hd1,Zbx (q.set _ _),hk1,Zf6 zo,ZCh rfl,List.drop_set_of_lt zo]
 ·exact⟨ZCi _,gC,_,List.replicate a.length 0,0,⟨gC,gC,gC⟩,by simp,Lm.zeros _,hd0,λj hj=>Zhw _ _,by rw [ZD7 (ZCi _),ZD7 zs];simp [nv]⟩
theorem natUint (l:List Nat) (hs:l.length≤1000000000) (hl:Lm l):Pure prog 156 [lim l] (.tup [.v (.int .u64 (if nv l < 18446744073709551616 then (nv l:Int) else 0)),.v (.bool (decide (nv l < 18446744073709551616)))]):=by
 have h1:=Zat hl;have hk:=Zaf (n:=nv l) (k:=4);have va:=Zao (nv l);have ma:=Zar (nv l);refine Zaa (tok:=0) (rs:=[.tmp 2,.tmp 3]) func156 rfl ntmps156 results156 call156 zr zs ?_;by_cases hb:nv l < 18446744073709551616
 ·have h4:=hk.2 hb;generalize hA:toL (nv l)=A at *
  (refine wkvp (w_1 hA) (w_1 (Za4 l hs hl)) (w_s ?_);intros)
  rw [hA];refine Zad (ι:=Nat) (λk e m=>k≤A.length∧(e 12=lim A∧e 13=.v (.int .i64 A.length)∧e 14=.v (.int .i64 k)∧e 4=.v (.int .u64 (nv (A.take k):Nat)))) (λk=>A.length - k) 0 zr ?_ ?_
  ·rintro k e m ⟨hk,⟨e12,e13,e14,e4⟩⟩
   have ga:=Zbr ma k;by_cases hlt:k < A.length
   ·have b1:nv (A.take k) < 65536 ^ k:=ZEh (Zh4 (ma.take k)) (ZDl zo (by rw [ZCz];omega));rw [Zpp] at b1;have w:=orS_64 (n:=nv (A.take k)) (x:=gN A k) (s:=16*k) b1 zo ga;rw [←Zpp,←Zau,Zpp] at w
    have w2:shlI .u64 (gN A k:Int) ((16:Int)*(k:Int))=((gN A k*2 ^ (16*k):Nat):Int):=by
     have e:(16:Int)*(k:Int)=((16*k:Nat):Int):=zo;rw [e];refine shl_64 zo ?_;have:(2:Nat) ^ (16*k)≤2 ^ 48:=ZDl zo zo;have h5:gN A k*2 ^ (16*k)≤65535*2 ^ 48:=ZDe zo this;omega
    (refine wkvp (w_6 e12 e13 e14 e4 w2 w) w_t (w_s ?_);intros)
    exact⟨k+1,⟨zo,gV (And.intro e12 (And.intro e13 (And.intro e14 e4)))⟩,zo⟩
   ·rw [Zbm zo,va] at e4
    (refine wkvp (w_4 e12 e13 e14 e4) w_t (w_s ?_);intros)
    simp (disch:=omega) only [go_sem,ZCh hb,ZCp hb]
  ·exact⟨ZCr _,gC⟩
 ·have h4:4 < (toL (nv l)).length:=by
   rcases ZC5 4 (toL (nv l)).length with h | h
   ·exact h
   ·exact absurd (hk.1 h) hb
  (refine wkvp w_t (w_1 (Za4 l hs hl)) (w_s ?_);intros)
  simp (disch:=omega) only [go_sem,ZCg hb,ZCq hb]
theorem natRight (a:List Nat) (n:Nat) (ha:a.length≤1000000000) (la:Lm a) (hn:n≤1048576):Pure prog 246 [lim a,.v (.int .i64 (n:Int))] (lim (toL (nv a/2 ^ n))):=by
 have hns:n=16*(n/16)+n%16:=zo;have q1:(n:Int).tdiv 16=((n/16:Nat):Int):=Zdk n 16;have q2:(n:Int).tmod 16=((n%16:Nat):Int):=Ze0 n 16;have hs:n%16 < 16:=ZD3 _ zo;rw [hns,Zv7,Zzt la,←hns];generalize n/16=l at *;generalize n%16=s at *;by_cases hl:a.length≤l
 ·have hz:toL (nv (a.drop l)/2 ^ s)=[]:=by rw [ZD7 hl];simp [nv,Zaz]
  rw [slN hz];refine Pure.wk (r:=.v (.slice none 0 0)) ?_ (.nil 1);refine Zaa (tok:=0) (rs:=[.tmp 4]) func246 rfl ntmps246 results246 call246 zr zs ?_
  (refine wkvp (w_2 q1 q2) w_t (w_s ?_);intros)
  simp (disch:=omega) only [go_sem]
 ·have hc:(a.length:Int) - (l:Int)=((a.length - l:Nat):Int):=zo;refine Zaa (tok:=0) (rs:=[.tmp 4]) func246 rfl ntmps246 results246 call246 zr zs ?_
  (refine wkvp (w_3 q1 q2 hc) w_t (w_s ?_);intros)
  refine Zad (ι:=Nat) (λk e m=>k≤a.length - l∧(e 0=lim a∧e 5=.v (.int .i64 (l:Int))∧e 6=.v (.int .i64 (s:Int))∧e 24=.v (.int .i64 (a.length - l:Nat))∧e 25=.v (.int .i64 (k:Int)))∧∃sv o,(e 7=.own 22 sv∧m 22=some (.row sv 128 1 (u16s o) 0))∧o.length=a.length - l∧Lm o∧nv (o.take k)=(nv (a.drop l)/2 ^ s)%65536 ^ k) (λk=>a.length - l - k) 0 zr ?_ ?_
  ·rintro k e m ⟨hk,⟨e0,e5,e6,e24,e25⟩,sv,o,⟨e7,em⟩,hol,hLo,hv⟩
   by_cases hlt:k < a.length - l
   ·have ga:=Zbr la (k+l);have gb:=Zbr la (k+l+1)
    have hd:((gN a (k+l)+65536*gN a (k+l+1))/2 ^ s)%65536=(nv (a.drop l)/65536 ^ k/2 ^ s)%65536:=by
     rw [Zzt (la.drop l),ZG4,Zbx,Zbx a (l+k+1),shr_dig zo,ZFq l k]
    have hst:=shr_step hv hd;have w0:((gN a (k+l)+65536*gN a (k+l+1))/2 ^ s)%65536 < 65536:=ZD3 _ zo;have sh:=λx=>shr_32 (x:=x) (s:=s) zo;by_cases hmore:k+l+1 < a.length
    ·(repeat' (first|(with_reducible first|refine stp ?_|apply gx1|apply gx2|apply gx3|apply gx4|apply gx5|apply gx6|apply gx7)|(with_reducible refine Zcn ?_;intro _)|((with_reducible refine gE ?_);(try simp (disch:=omega) only [go_sem,e0,e5,e6,e24,e25,e7,em,hol,Za2,Zbs,Zbk,or16_32',sh])<;>first|rfl|omega)|with_reducible refine Zam zd ?_))
     exact⟨k+1,⟨zo,gV (And.intro e0 (And.intro e5 (And.intro e6 (And.intro e24 e25)))),sv,_,⟨gW e7,gC⟩,by simpa using hol,hLo.set _ w0,by rw [Zc3 zo];exact hst⟩,zo⟩
    ·have g0:gN a (k+l+1)=0:=Zek zo;simp only [g0,ZE7,ZDx] at hst w0
     (refine wkvp (w_12 e0 e5 e6 e24 e25 e7 em hol @Za2 @Zbs @Zbk sh) w_t (w_s ?_);intros)
     exact⟨k+1,⟨zo,gV (And.intro e0 (And.intro e5 (And.intro e6 (And.intro e24 e25)))),sv,_,⟨gW e7,gC⟩,by simpa using hol,hLo.set _ w0,by rw [Zc3 zo];exact hst⟩,zo⟩
   ·rw [Zbm zo] at hv;have h5:=Zh4 (la.drop l);rw [ZEj] at h5;have hk2:k=a.length - l:=zo;rw [ZE0 (ZG3 (ZGp _ _) (by rw [hk2];exact h5))] at hv
    (refine wkax (w_8 e0 e5 e6 e24 e25 e7 em hol) w_t w_t (w_1 (Za4 o zo hLo)) w_t w_t w_y (w_r 0) (w_s ?_);intros)
    simp (disch:=omega) only [go_sem,hv]
  ·exact⟨ZCr _,gC,_,List.replicate (a.length - l) 0,⟨gC,gC⟩,by simp,Lm.zeros _,by simp [nv,Nat.mod_one]⟩
theorem Zwb (σ:Mem) (K:Nat) (sv:Value) (l:List Nat) (hs:l.length≤1000000000) (hl:Lm l) (hσ:σ K=some (.row sv 128 1 (u16s l) 0)) :
 ACall prog 209 [.own K sv] σ λr σ'=>r=.view K sv 1 0 (toL (nv l)).length∧σ'=σ:=by
 refine Zbw (tok:=0) (rs:=[.tmp 2]) func209 rfl ntmps209 results209 call209 zr zs ?_
 (refine wkvp (w_1 hσ) w_t (w_s ?_);intros)
 refine Zad (ι:=Nat) (λk e m=>k≤l.length∧e 0=.own K sv∧e 3=.v (.int .i64 (k:Int))∧m=σ∧∀j,k≤j→gN l j=0) (λk=>k) l.length zr ?_ ?_
 ·rintro k e m ⟨hk,e0,e3,rfl,hz⟩
  have gl:=Zbr hl (k - 1);have fin:(k=0∨0 < gN l (k - 1))→k=(toL (nv l)).length:=λh=>by
   rw [←Zlg hl hk hz h,ZCz,ZE1 hk]
  by_cases h0:k=0
  ·subst h0;have f:=fin (.inl rfl)
   (refine wkvp (w_3 e0 e3 hσ) w_t (w_s ?_);intros)
   simp (disch:=omega) only [go_sem,←f]
  ·by_cases h1:gN l (k - 1)=0
   ·(refine wkvp (w_3 e0 e3 hσ) w_t (w_s ?_);intros)
    exact⟨k - 1,⟨zo,gW e0,by(simp (disch:=omega) only [go_sem,e3];congr 2;omega),rfl,λj hj=>by
     rcases ZC5 j k with h2 | h2
     ·rw [show j=k - 1 by omega];exact h1
     ·exact hz j h2⟩,zo⟩
   ·have f:=fin (.inr zo)
    (refine wkvp (w_3 e0 e3 hσ) w_t (w_s ?_);intros)
    simp (disch:=omega) only [go_sem,←f,ZFi]
 ·exact⟨ZCi _,gC,gC,rfl,λj hj=>Zek hj⟩
theorem Zp1 (σ:Mem) (a:List Nat) (n:Nat) (ha:a.length≤400000000) (la:Lm a) (hn:n≤1048576) (h0:nv a≠0) :
 ACall prog 215 [lim a,.v (.int .i64 (n:Int))] σ λr σ'=>∃sv o,r=.view 44 sv 1 0 (toL (nv a*2 ^ n)).length∧σ'=upd σ 44 (some (.row sv 128 1 (u16s o) 0))∧o.length=(toL (nv a)).length+n/16+1∧Lm o∧nv o=nv a*2 ^ n:=by
 have hns:n=16*(n/16)+n%16:=zo;have q1:(n:Int).tdiv 16=((n/16:Nat):Int):=Zdk n 16;have q2:(n:Int).tmod 16=((n%16:Nat):Int):=Ze0 n 16;have hs:n%16 < 16:=ZD3 _ zo
 have hnv:nv a*2 ^ n=nv a*2 ^ (n%16)*65536 ^ (n/16):=by
  have:=Zv6 (a:=nv a) (l:=n/16) (s:=n%16)
  rwa [←hns] at this
 have h1:=Zat la;have h2:=(Zec h0).1;have va:=Zao (nv a);have ma:=Zar (nv a);have h16:n/16≤65536:=zo;clear hns;generalize hl:n/16=l at *;generalize hss:n%16=s at *;generalize hA:toL (nv a)=A at *;refine Zbw (tok:=0) (rs:=[.tmp 4]) func215 rfl ntmps215 results215 call215 zr zs ?_
 (refine wkvp (w_5 q1 q2 hA @Za2 @Zbs) (w_1 (Za4 a zo la)) (w_s ?_);intros)
 rw [hA];have e1:((A.length+l:Nat):Int)+3=((A.length+l+3:Nat):Int):=zo
 (refine wkvp (w_4 hA @Za2 @Zbs e1) w_t (w_s ?_);intros)
 refine Zad (ι:=Nat) (λk e m=>k≤A.length∧(e 5=.v (.int .i64 (l:Int))∧e 6=.v (.int .i64 (s:Int))∧e 45=lim A∧e 46=.v (.int .i64 A.length)∧e 47=.v (.int .i64 (k:Int)))∧∃sv o,(e 7=.own 44 sv∧m=upd σ 44 (some (.row sv 128 1 (u16s o) 0)))∧o.length=A.length+l+1∧Lm o∧gN o (k+l) < 2 ^ s∧(∀j,k+l < j→gN o j=0)∧nv o=nv (A.take k)*2 ^ s*65536 ^ l) (λk=>A.length - k) 0 zr ?_ ?_
 ·rintro k e m ⟨hk,⟨e5,e6,e45,e46,e47⟩,sv,o,⟨e7,rfl⟩,hol,hLo,hg,hz,hv⟩
  by_cases hlt:k < A.length
  ·have gx:=Zbr ma k
   have p16:(2:Nat) ^ s≤32768:=by
    have:(2:Nat) ^ s≤2 ^ 15:=ZDl zo zo;omega
   have bx:gN A k*2 ^ s≤65535*32768:=ZDe zo p16;have sh:=shl_32 (x:=gN A k) (s:=s) zo zo;have lo:=low_mul (x:=gN A k) (s:=s) zo;have hlo:(gN A k*2 ^ s)%65536 < 65536:=ZD3 _ zo;rw [lo] at hlo;have hor:=or_16 (b:=gN o (k+l)) zo hg hlo;rw [←lo] at hor
   have hhi:gN A k*2 ^ s/65536 < 2 ^ s:=by
    rw [ZFr zo,ZDh];exact Nat.mul_lt_mul_of_pos_left gx (ZHi s)
   have hsum:gN o (k+l)+(gN A k*2 ^ s)%65536 < 65536:=by
    rw [lo];have h5:(gN A k%2 ^ (16 - s)+1)*2 ^ s≤2 ^ (16 - s)*2 ^ s:=ZCw _ (ZD3 _ (ZHi _));rw [←ZDj,ZHy zo,ZC8,ZEp] at h5;omega
   have hcut:gN A k*2 ^ s/65536%65536=gN A k*2 ^ s/65536:=ZE0 zo
   (refine wkvp (w_14 e5 e6 e45 e46 e47 e7 hol @Za2 @Zbs @Zbk sh hor hcut @l_set) w_t (w_s ?_);intros)
   refine⟨k+1,⟨zo,gV (And.intro e5 (And.intro e6 (And.intro e45 (And.intro e46 e47)))),sv,_,⟨gW e7,by(simp (disch:=omega) only [go_sem,Zid]<;>repeat' first|rfl|refine⟨?_,?_⟩)⟩,by simpa using hol,(hLo.set _ hsum).set _ zo,?_,λj hj=>?_,?_⟩,zo⟩
   ·rw [Zf6 (by simp;omega),ZCh zo];exact hhi
   ·rw [Zf6 (by simp;omega),ZCg zo,Zf6 zo,ZCg zo];exact hz j zo
   ·have h3:=Zpz (o:=o) (j:=k+l) zo (gN o (k+l)+(gN A k*2 ^ s)%65536);have h4:=Zpz (o:=o.set (k+l) (gN o (k+l)+(gN A k*2 ^ s)%65536)) (j:=k+l+1) (by simp;omega) (gN A k*2 ^ s/65536);rw [Zf6 zo,ZCg zo,hz (k+l+1) zo,ZE7,ZDx] at h4;rw [h4,Zau,ZC8,ZC8,←hv]
    have h5:65536 ^ (k+l)*(gN A k*2 ^ s%65536)+65536 ^ (k+l+1)*(gN A k*2 ^ s/65536)=65536 ^ k*gN A k*2 ^ s*65536 ^ l:=by
     rw [ZDk,ZDm (65536 ^ (k+l)),←ZDp,Nat.mod_add_div,ZDj];simp only [ZDm,ZGe,ZDh]
    rw [ZDp] at h3;omega
  ·have hkA:k=A.length:=zo;subst hkA;rw [Zbm (ZCi _),va,←hnv] at hv;have ct:=Zwb (upd σ 44 (some (.row sv 128 1 (u16s o) 0))) 44 sv o zo hLo (by simp only [Zaq,ZDf]);rw [hv] at ct
   (repeat' (first|(with_reducible first|refine stp ?_|apply gx1|apply gx2|apply gx3|apply gx4|apply gx5|apply gx6|apply gx7|refine Zg6 (ct) ?_)|(with_reducible refine Zcn ?_;intro _)|((with_reducible refine gE ?_);(try simp (disch:=omega) only [go_sem,e5,e6,e45,e46,e47,e7])<;>first|rfl|omega)|with_reducible refine Zam zd ?_))
   simp (disch:=omega) only [go_sem];exact⟨sv,o,rfl,rfl,hol,hLo,hv⟩
 ·refine⟨ZCr _,gC,_,List.replicate (A.length+l+1) 0,⟨gC,gC⟩,by simp,Lm.zeros _,?_,λj _=>Zhw _ _,by simp [nv,Znu]⟩;rw [Zhw];exact ZHi s
theorem natShl (a:List Nat) (n:Nat) (ha:a.length≤400000000) (la:Lm a) (hn:n≤1048576):Pure prog 215 [lim a,.v (.int .i64 (n:Int))] (lim (toL (nv a*2 ^ n))):=by
 by_cases h0:nv a=0
 ·have h2:=Zbn.2 h0;rw [slN (show toL (nv a*2 ^ n)=[] by rw [h0,ZE6,Zaz])];refine Pure.wk (r:=.v (.slice none 0 0)) ?_ (.nil 1);refine Zaa (tok:=0) (rs:=[.tmp 4]) func215 rfl ntmps215 results215 call215 zr zs ?_
  (refine wkvp (w_1 h2) (w_1 (Za4 a zo la)) (w_s ?_);intros)
  simp (disch:=omega) only [go_sem]
 ·refine Zno (Zp1 Zag a n ha la hn h0) λr σ' ⟨sv,o,hr,hσ,hol,hLo,hv⟩=>?_;subst hr;subst hσ;have hlen:=Zat hLo;rw [hv] at hlen;refine⟨by simp (disch:=omega) only [go_sem],?_⟩;simp (disch:=omega) only [go_sem,ZC9];obtain⟨k,h1,h2⟩:=Zm9 hLo;rw [hv] at h2;have h3:k=(toL (nv a*2 ^ n)).length:=by rw [←h2,ZCz];omega
  rw [←h3,h2]
theorem natShr (a:List Nat) (n:Nat) (ha:a.length≤400000000) (la:Lm a) (h0:0 < n) (hn:n≤1048576):Pure prog 215 [lim a,.v (.int .i64 (-(n:Int)))] (lim (toL (nv a/2 ^ n))):=by
 by_cases hz:nv a=0
 ·have h2:=Zbn.2 hz;rw [slN (show toL (nv a/2 ^ n)=[] by rw [hz,Nat.zero_div,Zaz])];refine Pure.wk (r:=.v (.slice none 0 0)) ?_ (.nil 1);refine Zaa (tok:=0) (rs:=[.tmp 4]) func215 rfl ntmps215 results215 call215 zr zs ?_
  (refine wkvp (w_1 h2) (w_1 (Za4 a zo la)) (w_s ?_);intros)
  simp (disch:=omega) only [go_sem]
 ·have h2:=(Zec hz).1;have h1:=Zat la;have hr:=natRight (toL (nv a)) n zo (Zar _) hn;rw [Zao] at hr;have w:(0:Int) - -(n:Int)=(n:Int):=zo;refine Zaa (tok:=0) (rs:=[.tmp 4]) func215 rfl ntmps215 results215 call215 zr zs ?_
  (refine wkvp (w_1 w) (w_2 (Za4 a zo la) hr) (w_s ?_);intros)
  simp (disch:=omega) only [go_sem]
theorem Zr5 (σ:Mem) (K:Nat) (sv:Value) (pre w post v:List Nat) (d:Nat) (hσ:σ K=some (.row sv 128 1 (u16s (pre++(w++post))) 0)) (hwv:w.length=v.length+1) (hsz:(pre++(w++post)).length≤1000000000) (lw:Lm w) (lv:Lm v) (hd:d < 65536) :
 ACall prog 248 [.view K sv 1 pre.length w.length,lim v,.v (.int .u32 (d:Int))] σ λr σ'=>∃(w':List Nat) (b:Nat),r=.v (.bool (decide (0 < (b:Int))))∧σ'=upd σ K (some (.row sv 128 1 (u16s (pre++(w'++post))) 0))∧w'.length=w.length∧Lm w'∧b≤1∧nv w'+d*nv v=nv w+65536 ^ w.length*b:=by
 have hsz2:pre.length+(w.length+post.length)≤1000000000:=by simpa using hsz
 refine Zbw (tok:=0) (rs:=[.tmp 6]) func248 rfl ntmps248 results248 call248 zr zs ?_
 (refine wkvp w_t w_t (w_s ?_);intros)
 refine Zad (ι:=Nat) (λk e m=>k≤w.length∧(e 0=.view K sv 1 pre.length w.length∧e 1=lim v∧e 2=.v (.int .u32 (d:Int))∧e 12=.v (.int .i64 w.length)∧e 13=.v (.int .i64 (k:Int)))∧∃w' c r,(e 7=.v (.int .u32 (c:Nat))∧e 8=.v (.int .i32 (r:Nat))∧m=upd σ K (some (.row sv 128 1 (u16s (pre++(w'++post))) 0)))∧w'.length=w.length∧Lm w'∧c < 65536∧(v.length < k→c=0)∧r≤1∧(∀j,k≤j→gN w' j=gN w j)∧nv (w'.take k)+d*nv (v.take k)=nv (w.take k)+65536 ^ k*(c+r)) (λk=>w.length - k) 0 zr ?_ ?_
 ·rintro k e m ⟨hk,⟨e0,e1,e2,e12,e13⟩,w',c,r,⟨e7,e8,rfl⟩,hwl,hLw,hc,hcz,hr,hsame,hv⟩
  by_cases hlt:k < w.length
  ·have gw:=Zbr lw k;have gv:=Zbr lv k;have hgw:=hsame k (ZCi _);have mid:=gN_mid (pre:=pre) (post:=post) (show k < w'.length by omega);have smid:=λx=>Zxy (pre:=pre) (post:=post) (show k < w'.length by omega) x;have hln:(pre++(w'++post)).length=pre.length+(w'.length+post.length):=by simp
   have bd:=Zp6 hd gv;have step:∀(x r' c1:Nat),c1=c+d*gN v k→x+c1%65536+r=gN w k+65536*r'→x < 65536→r'≤1 →
    (w'.set k x).length=w.length∧Lm (w'.set k x)∧c1/65536 < 65536∧(v.length < k+1→c1/65536=0)∧r'≤1∧(∀j,k+1≤j→gN (w'.set k x) j=gN w j)∧nv ((w'.set k x).take (k+1))+d*nv (v.take (k+1))=nv (w.take (k+1))+65536 ^ (k+1)*(c1/65536+r'):=by
    intro x r' c1 h1 h2 h3 h4;have h5:=Zq9 hv h1 h2;refine⟨by simpa using hwl,hLw.set k h3,zo,λh6=>?_,h4,λj hj=>?_,?_⟩
    ·have:gN v k=0:=Zek zo;rw [this,ZE7] at h1;omega
    ·rw [Zf6 zo,ZCg zo];exact hsame j zo
    ·rw [Zc3 zo,Zau,Zau,ZDk];exact h5
   by_cases hkv:k < v.length
   ·generalize hxy:d*gN v k=xy at *;by_cases hneg:gN w k < (c+xy)%65536+r
    ·have hs:=step (gN w k+65536 - (c+xy)%65536 - r) 1 (c+xy) rfl zo zo zo;have wv:(gN w k:Int) - ((c+xy)%65536:Nat) - r+65536=((gN w k+65536 - (c+xy)%65536 - r:Nat):Int):=zo;have wm:(gN w k+65536 - (c+xy)%65536 - r)%65536=gN w k+65536 - (c+xy)%65536 - r:=ZE0 zo
     (refine wkvp (w_18 e0 e1 e2 e12 e13 e7 e8 hln hwl mid smid hgw @Za2 @Zih @Zbk hxy wv wm) w_t (w_s ?_);intros)
     exact⟨k+1,⟨zo,gV (And.intro e0 (And.intro e1 (And.intro e2 (And.intro e12 e13)))),_,_,1,⟨gC,gC,by(simp (disch:=omega) only [go_sem,Zid]<;>repeat' first|rfl|refine⟨?_,?_⟩)⟩,hs⟩,zo⟩
    ·have hs:=step (gN w k - (c+xy)%65536 - r) 0 (c+xy) rfl zo zo zo;have wv:(gN w k:Int) - ((c+xy)%65536:Nat) - r=((gN w k - (c+xy)%65536 - r:Nat):Int):=zo;have wm:(gN w k - (c+xy)%65536 - r)%65536=gN w k - (c+xy)%65536 - r:=ZE0 zo
     (refine wkvp (w_18 e0 e1 e2 e12 e13 e7 e8 hln hwl mid smid hgw @Za2 @Zih @Zbk hxy wv wm) w_t (w_s ?_);intros)
     exact⟨k+1,⟨zo,gV (And.intro e0 (And.intro e1 (And.intro e2 (And.intro e12 e13)))),_,_,0,⟨gC,gC,by(simp (disch:=omega) only [go_sem,Zid]<;>repeat' first|rfl|refine⟨?_,?_⟩)⟩,hs⟩,zo⟩
   ·have g0:gN v k=0:=Zek zo;have hcm:c%65536=c:=ZE0 hc;simp only [g0,ZE7,ZDx] at step;by_cases hneg:gN w k < c+r
    ·have hs:=step (gN w k+65536 - c - r) 1 c rfl zo zo zo;have wv:(gN w k:Int) - (c:Nat) - r+65536=((gN w k+65536 - c - r:Nat):Int):=zo;have wm:(gN w k+65536 - c - r)%65536=gN w k+65536 - c - r:=ZE0 zo
     (refine wkvp (w_16 e0 e1 e2 e12 e13 e7 e8 hln hwl mid smid hgw @Zbk hcm wv wm) w_t (w_s ?_);intros)
     exact⟨k+1,⟨zo,gV (And.intro e0 (And.intro e1 (And.intro e2 (And.intro e12 e13)))),_,_,1,⟨gC,gC,by(simp (disch:=omega) only [go_sem,Zid]<;>repeat' first|rfl|refine⟨?_,?_⟩)⟩,hs⟩,zo⟩
    ·have hs:=step (gN w k - c - r) 0 c rfl zo zo zo;have wv:(gN w k:Int) - (c:Nat) - r=((gN w k - c - r:Nat):Int):=zo;have wm:(gN w k - c - r)%65536=gN w k - c - r:=ZE0 zo
     (refine wkvp (w_16 e0 e1 e2 e12 e13 e7 e8 hln hwl mid smid hgw @Zbk hcm wv wm) w_t (w_s ?_);intros)
     exact⟨k+1,⟨zo,gV (And.intro e0 (And.intro e1 (And.intro e2 (And.intro e12 e13)))),_,_,0,⟨gC,gC,by(simp (disch:=omega) only [go_sem,Zid]<;>repeat' first|rfl|refine⟨?_,?_⟩)⟩,hs⟩,zo⟩
  ·have hkw:k=w.length:=zo;subst hkw;have hc0:=hcz zo;subst hc0;rw [Zbm zo,Zbm zo,Zbm (ZCi _),ZC9] at hv
   (refine wkvp (w_7 e0 e1 e2 e12 e13 e7 e8) w_t (w_s ?_);intros)
   simp (disch:=omega) only [go_sem];refine⟨w',r,?_,?_,hwl,hLw,hr,hv⟩<;>rfl
 ·exact⟨ZCr _,gC,w,0,0,⟨gC,gC,by rw [Zs7 hσ]⟩,rfl,lw,zo,λ_=>rfl,zo,λ_ _=>rfl,by simp [nv]⟩
theorem Zwc (σ:Mem) (K:Nat) (sv:Value) (pre w post v:List Nat) (hσ:σ K=some (.row sv 128 1 (u16s (pre++(w++post))) 0)) (hwv:v.length≤w.length) (hsz:(pre++(w++post)).length≤1000000000) (lw:Lm w) (lv:Lm v) :
 ACall prog 249 [.view K sv 1 pre.length w.length,lim v] σ λr σ'=>∃(w':List Nat) (c:Nat),r=.tup []∧σ'=upd σ K (some (.row sv 128 1 (u16s (pre++(w'++post))) 0))∧w'.length=w.length∧Lm w'∧c≤1∧nv w'+65536 ^ w.length*c=nv w+nv v:=by
 have hsz2:pre.length+(w.length+post.length)≤1000000000:=by simpa using hsz
 refine Zbw (tok:=0) (rs:=[]) func249 rfl ntmps249 results249 call249 zr zs ?_
 (refine wkvp w_t w_t (w_s ?_);intros)
 refine Zad (ι:=Nat) (λk e m=>k≤w.length∧(e 0=.view K sv 1 pre.length w.length∧e 1=lim v∧e 7=.v (.int .i64 w.length)∧e 8=.v (.int .i64 (k:Int)))∧∃w' c,(e 4=.v (.int .u32 (c:Nat))∧m=upd σ K (some (.row sv 128 1 (u16s (pre++(w'++post))) 0)))∧w'.length=w.length∧Lm w'∧c≤1∧(∀j,k≤j→gN w' j=gN w j)∧nv (w'.take k)+65536 ^ k*c=nv (w.take k)+nv (v.take k)) (λk=>w.length - k) 0 zr ?_ ?_
 ·rintro k e m ⟨hk,⟨e0,e1,e7,e8⟩,w',c,⟨e4,rfl⟩,hwl,hLw,hc,hsame,hv⟩
  by_cases hlt:k < w.length
  ·have gw:=Zbr lw k;have gv:=Zbr lv k;have hgw:=hsame k (ZCi _);have mid:=gN_mid (pre:=pre) (post:=post) (show k < w'.length by omega);have smid:=λx=>Zxy (pre:=pre) (post:=post) (show k < w'.length by omega) x;have hln:(pre++(w'++post)).length=pre.length+(w'.length+post.length):=by simp
   have hs:=Zou (x:=gN w k) (y:=gN v k) hv;have w1:(c+gN w k+gN v k)/65536≤1:=zo;have w2:(c+gN w k+gN v k)%65536 < 65536:=zo;have hsm:∀x j,k+1≤j→gN (w'.set k x) j=gN w j:=λx j hj=>by
    rw [Zf6 zo,ZCg zo];exact hsame j zo
   rw [←Zc3 (o:=w') zo,←ZDk,←Zau,←Zau] at hs;by_cases hkv:k < v.length
   ·(refine wkvp (w_12 e0 e1 e7 e8 e4 hln hwl mid smid hgw @Za2 @Zbk) w_t (w_s ?_);intros)
    exact⟨k+1,⟨zo,gV (And.intro e0 (And.intro e1 (And.intro e7 e8))),_,_,⟨gC,by(simp (disch:=omega) only [go_sem,Zid]<;>repeat' first|rfl|refine⟨?_,?_⟩)⟩,by simpa using hwl,hLw.set k w2,w1,hsm _,hs⟩,zo⟩
   ·have g0:gN v k=0:=Zek zo;simp only [g0,ZDx] at hs w1 w2
    (refine wkvp (w_12 e0 e1 e7 e8 e4 hln hwl mid smid hgw @Za2 @Zbk) w_t (w_s ?_);intros)
    exact⟨k+1,⟨zo,gV (And.intro e0 (And.intro e1 (And.intro e7 e8))),_,_,⟨gC,by(simp (disch:=omega) only [go_sem,Zid]<;>repeat' first|rfl|refine⟨?_,?_⟩)⟩,by simpa using hwl,hLw.set k w2,w1,hsm _,hs⟩,zo⟩
  ·have hkw:k=w.length:=zo;subst hkw;rw [Zbm zo,Zbm (ZCi _),Zbm hwv] at hv
   (refine wkvp (w_5 e0 e1 e7 e8 e4) w_t (w_s ?_);intros)
   simp (disch:=omega) only [go_sem];refine⟨w',c,?_,hwl,hLw,hc,hv⟩<;>rfl
 ·exact⟨ZCr _,gC,w,0,⟨gC,by rw [Zs7 hσ]⟩,rfl,lw,zo,λ_ _=>rfl,by simp [nv]⟩
theorem Zr4 (σ:Mem) (sv:Value) (g2 g3 g5 g7 g9 g10:Nat) (U post v:List Nat) (d r j:Nat) (h2:σ 2=some (.box g2 50 [.view 44 sv 1 0 U.length] false)) (h3:σ 3=some (.box g3 50 [lim v] false)) (h5:σ 5=some (.box g5 3 [.v (.int .i64 v.length)] false))
 (h7:σ 7=some (.box g7 3 [.v (.int .i64 (j:Int))] false)) (h9:σ 9=some (.box g9 160 [.v (.int .u64 (d:Int))] false)) (h10:σ 10=some (.box g10 160 [.v (.int .u64 (r:Int))] false)) (h44:σ 44=some (.row sv 128 1 (u16s (U++post)) 0))
 (hn:2≤v.length) (hj:j+v.length < U.length) (hsz:U.length+post.length≤1000000000) (lv:Lm v) (lU:Lm U) (hr:r < 65536) :
 ACall prog 247 [.pbox 9 g9 0,.pbox 3 g3 0,.pbox 5 g5 0,.pbox 10 g10 0,.pbox 2 g2 0,.pbox 7 g7 0] σ λx σ'=>x=.v (.bool (decide (65536≤d) || decide (r*65536+gN U (j+v.length - 2) < d*gN v (v.length - 2))))∧σ'=σ:=by
 refine Zbw (tok:=0) (rs:=[.tmp 6]) func247 rfl ntmps247 results247 call247 zr zs ?_;by_cases hd:65536≤d
 ·(refine wkad (w_7 h2 h3 h5 h7 h9 h10 h44) w_t w_t (w_s ?_);intros)
  simp (disch:=omega) only [go_sem,ZCp hd]
 ·have gv:=Zbr lv (v.length - 2);have gu:=Zbr lU (j+v.length - 2);have bd:=Zp6 (x:=d) zo gv;have e1:(v.length:Int) - 2=((v.length - 2:Nat):Int):=zo;have e2:((j+v.length:Nat):Int) - 2=((j+v.length - 2:Nat):Int):=zo;have hg:gN (U++post) (j+v.length - 2)=gN U (j+v.length - 2):=Zso zo;have hl:(U++post).length=U.length+post.length:=ZDa;generalize hxy:d*gN v (v.length - 2)=xy at *;by_cases ht:r*65536+gN U (j+v.length - 2) < xy
  ·(refine wkad (w_15 h2 h3 h5 h7 h9 h10 h44 e1 e2 hg hl @Za2 @Zih hxy @ZC9) w_t w_t (w_s ?_);intros)
   simp (disch:=omega) only [go_sem,ZCp ht]
  ·(refine wkad (w_15 h2 h3 h5 h7 h9 h10 h44 e1 e2 hg hl @Za2 @Zih hxy @ZC9) w_t w_t (w_s ?_);intros)
   simp (disch:=omega) only [go_sem,ZCq hd,ZCq ht]
attribute [go_sem] szQ zQ
theorem Zdp {P:Program} {t d f:Nat} {args:List AV} {K:St→Prop} {e:Nat→AV} {m:Mem} {R:AV→Mem→Prop} (c:ACall P f args m R) (h:∀r σ',R r σ'→K ⟨upd e d r,σ'⟩):aRes P t (some d) (.call f args) K ⟨e,m⟩:=c.mono h
theorem Zp0 {σ:Mem} {K:Nat} {sv:Value} {pre w post v:List Nat} {d i len:Nat} (hi:pre.length=i) (hw:w.length=len) (hσ:σ K=some (.row sv 128 1 (u16s (pre++(w++post))) 0)) (hwv:len=v.length+1) (hsz:(pre++(w++post)).length≤1000000000) (lw:Lm w) (lv:Lm v) (hd:d < 65536) :
 ACall prog 248 [.view K sv 1 i len,lim v,.v (.int .u32 (d:Int))] σ λr σ'=>∃(w':List Nat) (b:Nat),r=.v (.bool (decide (0 < (b:Int))))∧σ'=upd σ K (some (.row sv 128 1 (u16s (pre++(w'++post))) 0))∧w'.length=len∧Lm w'∧b≤1∧nv w'+d*nv v=nv w+65536 ^ len*b:=by
 subst hi;subst hw;exact Zr5 σ K sv pre w post v d hσ hwv hsz lw lv hd
theorem Zr6 {σ:Mem} {K:Nat} {sv:Value} {pre w post v:List Nat} {i len:Nat} (hi:pre.length=i) (hw:w.length=len) (hσ:σ K=some (.row sv 128 1 (u16s (pre++(w++post))) 0)) (hwv:v.length≤len) (hsz:(pre++(w++post)).length≤1000000000) (lw:Lm w) (lv:Lm v) :
 ACall prog 249 [.view K sv 1 i len,lim v] σ λr σ'=>∃(w':List Nat) (c:Nat),r=.tup []∧σ'=upd σ K (some (.row sv 128 1 (u16s (pre++(w'++post))) 0))∧w'.length=len∧Lm w'∧c≤1∧nv w'+65536 ^ len*c=nv w+nv v:=by
 subst hi;subst hw;exact Zwc σ K sv pre w post v hσ hwv hsz lw lv
structure LongInv (U v q U':List Nat) (k:Nat):Prop where
 ql:q.length=U.length - v.length
 qL:Lm q
 qz:∀j,j < k→gN q j=0
 ul:U'.length=U.length
 uL:Lm U'
 eq:nv U'+nv v*nv (q.drop k)*65536 ^ k=nv U
 lt:nv (U'.drop k) < nv v
theorem LongInv.step {U v q U' w'':List Nat} {j n:Nat} (h:LongInv U v q U' (j+1)) (hn:v.length=n) (lv:Lm v) (hj:j+n < U.length) (hw:w''.length=n+1) (hwL:Lm w'')
 (hwv:nv w''=nv ((U'.drop j).take (n+1))%nv v) (hd:nv ((U'.drop j).take (n+1))/nv v < 65536) :
 LongInv U v (q.set j (nv ((U'.drop j).take (n+1))/nv v)) (U'.take j++(w''++U'.drop (j+n+1))) j:=by
 have hV:0 < nv v:=ZG3 (ZCr _) h.lt;have hz:=drop_zero lv hn h.lt;rw [ZG4,show j+1+n=j+n+1 by omega] at hz;have hql:=h.ql;have hul:=h.ul;have hlj:(U'.take j).length=j:=by rw [ZCz];omega
 have hj1:nv (U'.drop j)=nv ((U'.drop j).take (n+1)):=by
  have:=Zbu (U'.drop j) (n+1);rw [ZG4,show j+(n+1)=j+n+1 by omega,hz] at this;omega
 have hw2:nv (w''++U'.drop (j+n+1))=nv w'':=by rw [Zdq,hz];omega
 have hdr:nv ((U'.take j++(w''++U'.drop (j+n+1))).drop j)=nv w'':=by
  rw [List.drop_append_of_le_length zo,ZD7 zo,ZFu,hw2]
 refine⟨by simpa using hql,h.qL.set j hd,λi hi=>?_,by simp;omega,(h.uL.take j).append (hwL.append (h.uL.drop _)),?_,by rw [hdr,hwv];exact ZD3 _ hV⟩
 ·rw [Zf6 zo,ZCg zo];exact h.qz i zo
 ·have h1:=h.eq;have h2:=Zbu U' j;have h3:=ZFj (nv ((U'.drop j).take (n+1))) (nv v);rw [Zdq,hlj,hw2,hwv,Zbx (q.set j _),Zf6 zo,ZCh rfl,List.drop_set_of_lt zo];rw [←h1,h2,hj1,ZDp,ZC8,ZDk];generalize nv ((U'.drop j).take (n+1))=W at *;generalize nv (q.drop (j+1))=Q at *
  have e1:nv v*(W/nv v)*65536 ^ j+65536 ^ j*(W%nv v)=65536 ^ j*W:=by
   rw [ZDh (nv v*(W/nv v)),←ZDp,h3]
  have e2:nv v*(65536*Q)*65536 ^ j=nv v*Q*(65536 ^ j*65536):=by
   simp only [ZDm,ZGe,ZDh]
  omega
theorem natLong (σ:Mem) (sv:Value) (U post v:List Nat) (n:Nat) (hvn:v.length=n) (h44:σ 44=some (.row sv 128 1 (u16s (U++post)) 0)) (hn:2≤n) (hlen:n < U.length) (hsz:U.length+post.length≤1000000000) (lU:Lm U) (lp:Lm post) (lv:Lm v)
 (hvt:0 < gN v (n - 1)) (hlt:nv (U.drop (U.length - n)) < nv v) :
 ACall prog 216 [.view 44 sv 1 0 U.length,lim v] σ λr σ'=>∃U':List Nat,r=lim (toL (nv U/nv v))∧σ' 44=some (.row sv 128 1 (u16s (U'++post)) 0)∧U'.length=U.length∧Lm U'∧nv U'=nv U%nv v:=by
 have hc:(U.length:Int) - (n:Int)=((U.length - n:Nat):Int):=zo;refine Zbw (tok:=0) (rs:=[.tmp 4]) func216 rfl ntmps216 results216 call216 zr zs ?_
 (refine wkvp (w_2 hvn hc) w_t (w_s ?_);intros)
 refine Zad (ι:=Nat) (λk e m=>k≤U.length - n∧∃g2 g3 g5 g7 svo q U',(e 2=.pbox 2 g2 0∧e 3=.pbox 3 g3 0∧e 5=.pbox 5 g5 0∧e 6=.own 18 svo∧e 7=.pbox 7 g7 0)∧m 2=some (.box g2 50 [.view 44 sv 1 0 U.length] false)∧m 3=some (.box g3 50 [lim v] false)∧m 5=some (.box g5 3 [.v (.int .i64 n)] false)∧m 7=some (.box g7 3 [.v (.int .i64 ((k:Int) - 1))] false) ∧
  m 18=some (.row svo 128 1 (u16s q) 0)∧m 44=some (.row sv 128 1 (u16s (U'++post)) 0)∧LongInv U v q U' k) (λk=>k) (U.length - n) zr ?_ ?_
 ·rintro k e m ⟨hk,g2,g3,g5,g7,svo,q,U',⟨e2,e3,e5,e6,e7⟩,m2,m3,m5,m7,m18,m44,inv⟩
  have hql:=inv.ql;rw [hvn] at hql;have hul:=inv.ul;rcases ZDr k with h0 | h0
  ·subst h0;have h1:=inv.eq;have h2:=inv.lt;rw [ZEl] at h1 h2;rw [ZGg,ZFa] at h1;have hq:nv U/nv v=nv q:=by rw [←h1,ZFq,Nat.mul_add_div zo,ZHk h2,ZDx]
   have hr:nv U'=nv U%nv v:=by rw [←h1,ZFq,Nat.mul_add_mod,ZE0 h2]
   (repeat' (first|(with_reducible first|refine stp ?_|apply gx1|apply gx2|apply gx3|apply gx4|apply gx5|apply gx6|apply gx7|apply gw1 (Za4 q zo inv.qL))|(with_reducible refine Zcn ?_;intro _)|((with_reducible refine gE ?_);(try simp (disch:=omega) only [go_sem,e2,e3,e5,e6,e7,m2,m3,m5,m7,m18,m44])<;>first|rfl|omega)|with_reducible refine Zam zd ?_))
   simp (disch:=omega) only [go_sem,hq];refine⟨U',?_,hul,inv.uL,hr⟩;simp (disch:=omega) only [go_sem,m44]
  ·obtain⟨j,rfl⟩:∃j,k=j+1:=⟨k - 1,zo⟩;have ej:((j+1:Nat):Int) - 1=(j:Int):=zo;rw [ej] at m7;have g0:=Zbr inv.uL (j+n);have g1:=Zbr inv.uL (j+n - 1);have g2':=Zbr inv.uL (j+n - 2);have gv1:=Zbr lv (n - 1);have gv2:=Zbr lv (n - 2);have hl:(U'++post).length=U'.length+post.length:=ZDa;have x0:gN (U'++post) (j+n)=gN U' (j+n):=Zso zo;have x1:gN (U'++post) (j+n - 1)=gN U' (j+n - 1):=Zso zo;have ex1:((j+n:Nat):Int) - 1=((j+n - 1:Nat):Int):=zo;have ex2:(n:Int) - 1=((n - 1:Nat):Int):=zo;have hwl:((U'.drop j).take (n+1)).length=n+1:=by rw [ZCz,ZEj];omega
   have hwL:Lm ((U'.drop j).take (n+1)):=(inv.uL.drop j).take _;have wg:∀i,i≤n→gN ((U'.drop j).take (n+1)) i=gN U' (j+i):=λi hi=>by rw [gN_take zo,ZAp]
   have hW:=nv_top3 hwl hn;rw [wg n (ZCi _),wg (n - 1) zo,wg (n - 2) zo,show j+(n - 1)=j+n - 1 by omega,show j+(n - 2)=j+n - 2 by omega] at hW;have hwl2:=Zht hwL (n - 2);have hVt:=nv_top2 hvn hn;have hvl2:=Zht lv (n - 2);have hV:0 < nv v:=ZG3 (ZCr _) inv.lt
   have htop:gN U' (j+n)≤gN v (n - 1):=by
    have:=top_le (inv.uL.drop (j+1)) lv hvn hn inv.lt
    rwa [ZAp,show j+1+(n - 1)=j+n by omega] at this
   have hWV:nv ((U'.drop j).take (n+1))/nv v < 65536:=by
    rw [ZFr hV];have h1:=Zbu (U'.drop j) (n+1);have h2:=Zbx U' j;have h3:=inv.lt;have h4:=Zbr inv.uL j;omega
   obtain⟨high,hhigh⟩:∃h,gN U' (j+n)*65536+gN U' (j+n - 1)=h:=⟨_,rfl⟩;rw [hhigh] at hW;have hinit:=kn_init (ZGf zo) hVt hW hwl2 g2' hvt (Nat.div_mul_le_self (nv ((U'.drop j).take (n+1))) (nv v));have hhd:=ZFj high (gN v (n - 1));have hhr:=ZD3 high hvt;have hhq:=ZGp high (gN v (n - 1));rw [ZDh] at hhd;have hv1i:(gN v (n - 1):Int)≠0:=zo
   have hq1:(high:Int)/(gN v (n - 1):Int)≤4294967296:=by
    have:((high/gN v (n - 1):Nat):Int)≤4294967296:=zo;exact this
   have wq:IntKind.u64.wrap ((high/gN v (n - 1):Nat):Int)=((high/gN v (n - 1):Nat):Int):=Zgc (ZGd _) zo
   (repeat' (first|(with_reducible first|refine stp ?_|apply gx1|apply gx2|apply gx3|apply gx4|apply gx5|apply gx6|apply gx7|apply gy8|apply gz2|apply gz3)|(with_reducible refine Zcn ?_;intro _)|((with_reducible refine gE ?_);(try simp (disch:=omega) only [go_sem,e2,e3,e5,e6,e7,m2,m3,m5,m7,m18,m44,hl,hul,hvn,x0,x1,ex1,ex2,hhigh,hv1i,Za2,Zdk,Ze0,ZC9,wq])<;>first|rfl|omega)|with_reducible refine Zam zd ?_|((with_reducible apply gy1);iterate 3 focus rfl)|((with_reducible apply gy2);iterate 3 focus rfl)|((with_reducible apply gy3);iterate 2 focus rfl)|((with_reducible apply gy4);iterate 1 focus rfl)|((with_reducible apply gy5);iterate 4 focus rfl)|((with_reducible apply gy5c);iterate 4 focus rfl)|((with_reducible apply gy6);iterate 4 focus rfl)|((with_reducible apply Zlv);iterate 3 focus rfl)|((with_reducible apply Zlc);iterate 1 focus rfl)|((with_reducible apply gy7);iterate 1 focus rfl)|((with_reducible apply gy9);(focus ((with_reducible refine gE ?_);(try simp (disch:=omega) only [go_sem,e2,e3,e5,e6,e7,m2,m3,m5,m7,m18,m44,hl,hul,hvn,x0,x1,ex1,ex2,hhigh,hv1i,Za2,Zdk,Ze0,ZC9,wq])<;>rfl)))|((with_reducible apply gz1);(focus first|rfl|(simp (disch:=omega) only [go_sem,e2,e3,e5,e6,e7,m2,m3,m5,m7,m18,m44,hl,hul,hvn,x0,x1,ex1,ex2,hhigh,hv1i,Za2,Zdk,Ze0,ZC9,wq];done)))|((with_reducible apply Zcf (Zdv []) [] [9,10]);(focus kernel_rfl);(focus rfl);(focus kernel_rfl);(focus (simp only [ZCu,ZC6,Nat.reduceAdd];rfl)))))
   rename_i g9 g10;have hlj:(U'.take j).length=j:=by rw [ZCz];omega
   have hsplit:U'++post=U'.take j++((U'.drop j).take (n+1)++(U'.drop (j+n+1)++post)):=by
    have e1:U'=U'.take j++((U'.drop j).take (n+1)++U'.drop (j+n+1)):=by
     rw [show j+n+1=j+(n+1) by omega,←ZG4,ZEq,ZEq]
    rw [←ZDv ((U'.drop j).take (n+1)),←ZDv,←e1]
   have esub:j+n+1 - j=n+1:=zo;obtain⟨W,hWd⟩:∃W,nv ((U'.drop j).take (n+1))=W:=⟨_,rfl⟩;have hstep:=fun(w'':List Nat) hw hwL2 hwv=>inv.step (w'':=w'') hvn lv zo hw hwL2 hwv hWV;rw [hWd] at hinit hWV hW hstep
   have hzz:∀d r,high=d*gN v (n - 1)+r→65536≤r→d < 65536∧d*gN v (n - 2)≤r*65536+gN U' (j+n - 2):=by
    intro d r h1 h2
    have hd:d < 65536:=by
     rcases ZC5 d 65536 with h3 | h3
     ·exact h3
     ·exfalso;have h4:65536*gN v (n - 1)≤d*gN v (n - 1):=ZCw _ h3;omega
    have:=Zp6 hd gv2;omega
   refine Zad (ι:=Nat) (λd e' m'=>(e' 2=.pbox 2 g2 0∧e' 3=.pbox 3 g3 0∧e' 5=.pbox 5 g5 0∧e' 6=.own 18 svo∧e' 7=.pbox 7 g7 0∧e' 9=.pbox 9 g9 0∧e' 10=.pbox 10 g10 0∧e' 11=.fn 247 [.pbox 9 g9 0,.pbox 3 g3 0,.pbox 5 g5 0,.pbox 10 g10 0,.pbox 2 g2 0,.pbox 7 g7 0]) ∧
    m' 2=some (.box g2 50 [.view 44 sv 1 0 U.length] false)∧m' 3=some (.box g3 50 [lim v] false)∧m' 5=some (.box g5 3 [.v (.int .i64 n)] false)∧m' 7=some (.box g7 3 [.v (.int .i64 (j:Int))] false)∧m' 18=some (.row svo 128 1 (u16s q) 0)∧m' 44=some (.row sv 128 1 (u16s (U'++post)) 0) ∧
    m' 9=some (.box g9 160 [.v (.int .u64 (d:Int))] false)∧∃r:Nat,m' 10=some (.box g10 160 [.v (.int .u64 (r:Int))] false)∧high=d*gN v (n - 1)+r∧W/nv v≤d∧d≤high∧r < 131072) (λd=>d) (high/gN v (n - 1)) zr ?_ ?_
   ·rintro d e m ⟨⟨e2,e3,e5,e6,e7,e9,e10,e11⟩,m2,m3,m5,m7,m18,m44,m9,r,m10,hhi,hqd,hdh,hr2⟩
    have ct:=λhr=>Zr4 m sv g2 g3 g5 g7 g9 g10 U' post v d r j (by rw [hul];exact m2) m3 (by rw [hvn];exact m5) m7 m9 m10 m44 zo zo zo lv inv.uL hr;rw [hvn] at ct;by_cases hgo:r < 65536∧(65536≤d∨r*65536+gN U' (j+n - 2) < d*gN v (n - 2))
    ·obtain⟨hr,ht⟩:=hgo;have hb:(decide (65536≤d) || decide (r*65536+gN U' (j+n - 2) < d*gN v (n - 2)))=true:=by simpa using ht
     have hd1:1≤d:=by
      rcases ZDr d with h | h
      ·subst h;omega
      ·exact h
     have ed:(d:Int) - 1=((d - 1:Nat):Int):=zo
     have hq2:W/nv v≤d - 1:=by
      rcases ht with h | h
      ·omega
      ·have h1:=kn_step hVt hW hwl2 hhi h;rw [←ZFr hV] at h1;omega
     have hh2:high=(d - 1)*gN v (n - 1)+(r+gN v (n - 1)):=by
      obtain⟨d',rfl⟩:∃d',d=d'+1:=⟨d - 1,zo⟩;rw [ZFb,hhi,ZC8,ZEp];omega
     (repeat' (first|(with_reducible first|refine stp ?_|apply gx1|apply gx2|apply gx3|apply gx4|apply gx5|apply gx6|apply gx7|apply gy8|apply gz2|apply gz3|refine Zg6 (ct hr) ?_)|(with_reducible refine Zcn ?_;intro _)|((with_reducible refine gE ?_);(try simp (disch:=omega) only [go_sem,e2,e3,e5,e6,e7,e9,e10,e11,m2,m3,m5,m7,m18,m44,m9,m10,hb,ed,ex2,hvn,Za2])<;>first|rfl|omega)|with_reducible refine Zam zd ?_|((with_reducible apply gy1);iterate 3 focus rfl)|((with_reducible apply gy2);iterate 3 focus rfl)|((with_reducible apply gy3);iterate 2 focus rfl)|((with_reducible apply gy4);iterate 1 focus rfl)|((with_reducible apply gy5);iterate 4 focus rfl)|((with_reducible apply gy5c);iterate 4 focus rfl)|((with_reducible apply gy6);iterate 4 focus rfl)|((with_reducible apply Zlv);iterate 3 focus rfl)|((with_reducible apply Zlc);iterate 1 focus rfl)|((with_reducible apply gy7);iterate 1 focus rfl)|((with_reducible apply gy9);(focus ((with_reducible refine gE ?_);(try simp (disch:=omega) only [go_sem,e2,e3,e5,e6,e7,e9,e10,e11,m2,m3,m5,m7,m18,m44,m9,m10,hb,ed,ex2,hvn,Za2])<;>rfl)))|((with_reducible apply gz1);(focus first|rfl|(simp (disch:=omega) only [go_sem,e2,e3,e5,e6,e7,e9,e10,e11,m2,m3,m5,m7,m18,m44,m9,m10,hb,ed,ex2,hvn,Za2];done)))|((with_reducible apply Zcf (Zdv []) [8] []);(focus kernel_rfl);(focus rfl);(focus kernel_rfl);(focus (simp only [ZCu,ZC6,Nat.reduceAdd];rfl)))))
     exact⟨d - 1,⟨⟨gW e2,gW e3,gW e5,gW e6,gW e7,gW e9,gW e10,gW e11⟩,gW m2,gW m3,gW m5,gW m7,gW m18,gW m44,gC,_,gC,hh2,hq2,zo,zo⟩,zo⟩
    ·obtain⟨hd,hdv⟩:d < 65536∧d*gN v (n - 2)≤r*65536+gN U' (j+n - 2):=by
      rcases ZC5 r 65536 with h | h
      ·have h2:¬(65536≤d∨r*65536+gN U' (j+n - 2) < d*gN v (n - 2)):=λh2=>hgo ⟨h,h2⟩;omega
      ·exact hzz d r hhi h
     have hb:(decide (65536≤d) || decide (r*65536+gN U' (j+n - 2) < d*gN v (n - 2)))=false:=by
      rw [ZHh,ZFm,ZFm];omega
     have hnear:=kn_near hV hqd (kn_exit hVt hvl2 hW hhi hvt hd hdv);have csub:=Zp0 (K:=44) (sv:=sv) (σ:=m) (post:=U'.drop (j+n+1)++post) (v:=v) (d:=d) hlj hwl (by rw [←hsplit];exact m44) zo (by rw [←hsplit];omega) hwL lv hd;rcases ZC5 r 65536 with hr | hr
     all_goals
      (repeat' (first|(with_reducible first|refine stp ?_|apply gx1|apply gx2|apply gx3|apply gx4|apply gx5|apply gx6|apply gx7|apply gy8|apply gz2|apply gz3|refine Zg6 (ct hr) ?_)|(with_reducible refine Zcn ?_;intro _)|((with_reducible refine gE ?_);(try simp (disch:=omega) only [go_sem,e2,e3,e5,e6,e7,e9,e10,e11,m2,m3,m5,m7,m18,m44,m9,m10,hb,ex2,hvn,Za2,Zbs,esub,ZC9])<;>first|rfl|omega)|with_reducible refine Zam zd ?_|((with_reducible apply gy1);iterate 3 focus rfl)|((with_reducible apply gy2);iterate 3 focus rfl)|((with_reducible apply gy3);iterate 2 focus rfl)|((with_reducible apply gy4);iterate 1 focus rfl)|((with_reducible apply gy5);iterate 4 focus rfl)|((with_reducible apply gy5c);iterate 4 focus rfl)|((with_reducible apply gy6);iterate 4 focus rfl)|((with_reducible apply Zlv);iterate 3 focus rfl)|((with_reducible apply Zlc);iterate 1 focus rfl)|((with_reducible apply gy7);iterate 1 focus rfl)|((with_reducible apply gy9);(focus ((with_reducible refine gE ?_);(try simp (disch:=omega) only [go_sem,e2,e3,e5,e6,e7,e9,e10,e11,m2,m3,m5,m7,m18,m44,m9,m10,hb,ex2,hvn,Za2,Zbs,esub,ZC9])<;>rfl)))|((with_reducible apply gz1);(focus first|rfl|(simp (disch:=omega) only [go_sem,e2,e3,e5,e6,e7,e9,e10,e11,m2,m3,m5,m7,m18,m44,m9,m10,hb,ex2,hvn,Za2,Zbs,esub,ZC9];done)))|((with_reducible apply Zcf (Zdv []) [10] []);(focus kernel_rfl);(focus rfl);(focus kernel_rfl);(focus (simp only [ZCu,ZC6,Nat.reduceAdd];rfl)))))
      refine Zdp csub ?_
      rintro _ _ ⟨w',b,rfl,rfl,hwl',hwL',hb1,heq⟩
      rw [hWd] at heq;have hw'p:nv w' < 65536 ^ (n+1):=by have:=Zh4 hwL';rwa [hwl'] at this
      have hcase:=subDone hV hw'p hb1 heq hnear;have ej2:(j:Int) - 1=(j:Int) - 1:=rfl;rcases hcase with⟨rfl,hdq,hwm⟩ | ⟨rfl,hdq⟩
      ·have inv':=hstep w' hwl' hwL' hwm;rw [←hdq] at inv';have hdm:d%65536=d:=ZE0 hd
       (repeat' (first|(with_reducible first|refine stp ?_|apply gx1|apply gx2|apply gx3|apply gx4|apply gx5|apply gx6|apply gx7|apply gy8|apply gz2|apply gz3)|(with_reducible refine Zcn ?_;intro _)|((with_reducible refine gE ?_);(try simp (disch:=omega) only [go_sem,e2,e3,e5,e6,e7,e9,e10,e11,m2,m3,m5,m7,m18,m44,m9,m10,hql,Zbk,hdm,ZEo,Int.lt_irrefl])<;>first|rfl|omega)|with_reducible refine Zam zd ?_|((with_reducible apply gy1);iterate 3 focus rfl)|((with_reducible apply gy2);iterate 3 focus rfl)|((with_reducible apply gy3);iterate 2 focus rfl)|((with_reducible apply gy4);iterate 1 focus rfl)|((with_reducible apply gy5);iterate 4 focus rfl)|((with_reducible apply gy5c);iterate 4 focus rfl)|((with_reducible apply gy6);iterate 4 focus rfl)|((with_reducible apply Zlv);iterate 3 focus rfl)|((with_reducible apply Zlc);iterate 1 focus rfl)|((with_reducible apply gy7);iterate 1 focus rfl)|((with_reducible apply gy9);(focus ((with_reducible refine gE ?_);(try simp (disch:=omega) only [go_sem,e2,e3,e5,e6,e7,e9,e10,e11,m2,m3,m5,m7,m18,m44,m9,m10,hql,Zbk,hdm,ZEo,Int.lt_irrefl])<;>rfl)))|((with_reducible apply gz1);(focus first|rfl|(simp (disch:=omega) only [go_sem,e2,e3,e5,e6,e7,e9,e10,e11,m2,m3,m5,m7,m18,m44,m9,m10,hql,Zbk,hdm,ZEo,Int.lt_irrefl];done)))|((with_reducible apply Zcf (Zdv []) [10] []);(focus kernel_rfl);(focus rfl);(focus kernel_rfl);(focus (simp only [ZCu,ZC6,Nat.reduceAdd];rfl)))))
       exact⟨j,⟨zo,g2,g3,g5,_,svo,q.set j d,U'.take j++(w'++U'.drop (j+n+1)),⟨gW e2,gW e3,gW e5,gW e6,gC⟩,gW m2,gW m3,gW m5,gC,gC,by(simp (disch:=omega) only [go_sem,ZDv]<;>repeat' first|rfl|refine⟨?_,?_⟩),inv'⟩,zo⟩
      ·have crest:=fun(σ:Mem) h=>Zr6 (σ:=σ) (K:=44) (sv:=sv) (post:=U'.drop (j+n+1)++post) (v:=v) hlj hwl' h zo (by rw [hsplit] at hl;simp only [ZDa] at hl ⊢;omega) hwL' lv;have hd1:1≤d:=by rw [hdq];exact Nat.le_add_left 1 _
       have ed:(d:Int) - 1=((d - 1:Nat):Int):=zo;have one:(0:Int) < ((1:Nat):Int):=zo
       (repeat' (first|(with_reducible first|refine stp ?_|apply gx1|apply gx2|apply gx3|apply gx4|apply gx5|apply gx6|apply gx7|apply gy8|apply gz2|apply gz3)|(with_reducible refine Zcn ?_;intro _)|((with_reducible refine gE ?_);(try simp (disch:=omega) only [go_sem,e2,e3,e5,e6,e7,e9,e10,e11,m2,m3,m5,m7,m18,m44,m9,m10,ed,one,Za2,Zbs,esub,ZC9])<;>first|rfl|omega)|with_reducible refine Zam zd ?_|((with_reducible apply gy1);iterate 3 focus rfl)|((with_reducible apply gy2);iterate 3 focus rfl)|((with_reducible apply gy3);iterate 2 focus rfl)|((with_reducible apply gy4);iterate 1 focus rfl)|((with_reducible apply gy5);iterate 4 focus rfl)|((with_reducible apply gy5c);iterate 4 focus rfl)|((with_reducible apply gy6);iterate 4 focus rfl)|((with_reducible apply Zlv);iterate 3 focus rfl)|((with_reducible apply Zlc);iterate 1 focus rfl)|((with_reducible apply gy7);iterate 1 focus rfl)|((with_reducible apply gy9);(focus ((with_reducible refine gE ?_);(try simp (disch:=omega) only [go_sem,e2,e3,e5,e6,e7,e9,e10,e11,m2,m3,m5,m7,m18,m44,m9,m10,ed,one,Za2,Zbs,esub,ZC9])<;>rfl)))|((with_reducible apply gz1);(focus first|rfl|(simp (disch:=omega) only [go_sem,e2,e3,e5,e6,e7,e9,e10,e11,m2,m3,m5,m7,m18,m44,m9,m10,ed,one,Za2,Zbs,esub,ZC9];done)))|((with_reducible apply Zcf (Zdv []) [8] []);(focus kernel_rfl);(focus rfl);(focus kernel_rfl);(focus (simp only [ZCu,ZC6,Nat.reduceAdd];rfl)))))
       refine Zdp (crest _ (gC)) ?_
       rintro _ _ ⟨w'',c,rfl,rfl,hwl'',hwL'',hc1,heq2⟩
       have hw''p:nv w'' < 65536 ^ (n+1):=by have:=Zh4 hwL'';rwa [hwl''] at this
       have hVp:nv v≤65536 ^ (n+1):=by
        have h1:=Zh4 lv;rw [hvn] at h1;have h2:65536 ^ n≤65536 ^ (n+1):=ZDl zo zo;omega
       have hwm:=resDone hV hVp hw''p hc1 (by rw [←hdq];exact heq) heq2;have inv':=hstep w'' hwl'' hwL'' hwm;have hdq2:d - 1=W/nv v:=by rw [hdq,ZFb]
       rw [←hdq2] at inv';have hdm:(d - 1)%65536=d - 1:=ZE0 zo
       (refine wkad (w_19 e2 e3 e5 e6 e7 e9 e10 e11 m2 m3 m5 m7 m18 m44 m9 m10 hql @Zbk hdm) w_t w_t (w_s ?_);intros)
       exact⟨j,⟨zo,g2,g3,g5,_,svo,q.set j (d - 1),U'.take j++(w''++U'.drop (j+n+1)),⟨gW e2,gW e3,gW e5,gW e6,gC⟩,gW m2,gW m3,gW m5,gC,gC,by(simp (disch:=omega) only [go_sem,ZDv]<;>repeat' first|rfl|refine⟨?_,?_⟩),inv'⟩,zo⟩
   ·exact⟨⟨gW e2,gW e3,gW e5,gW e6,gW e7,gC,gC,gC⟩,gW m2,gW m3,gW m5,gW m7,gW m18,gW m44,gC,_,gC,zo,hinit,zo,zo⟩
 ·refine⟨ZCi _,_,_,_,_,_,List.replicate (U.length - n) 0,U,⟨gC,gC,gC,gC,gC⟩,gC,gC,gC,gC,gC,gW h44,⟨by rw [hvn];simp,Lm.zeros _,λ_ _=>Zhw _ _,rfl,lU,?_,hlt⟩⟩;rw [ZD7 zs];simp [nv]
theorem Zz9 (i:Nat):i < 2 ^ len8 i:=by
 unfold len8;split
 ·rename_i h;subst h;decide
 ·exact Nat.lt_log2_self
theorem len16_lt (x:Nat):x < 2 ^ Zfa x:=by
 unfold Zfa;split
 ·have:=Zz9 (x/256);rw [ZDj];have e:(2:Nat) ^ 8=256:=rfl;omega
 ·exact Zz9 x
theorem Zs8 (a:List Nat):u16s a++[.v (.int .u16 0),.v (.int .u16 0)]=u16s (a++[0,0]):=by simp [u16s]
theorem Wk.three {a a' b b' c:AV} (h1:Wk a a') (h2:Wk b b'):Wk (.tup [a,b,c]) (.tup [a',b',c]):=by
 refine .tup _ _ rfl λj x y h3 h4=>?_
 match j with
 | 0=>simp at h3 h4;subst h3;subst h4;exact h1
 | 1=>simp at h3 h4;subst h3;subst h4;exact h2
 | 2=>simp at h3 h4;subst h3;subst h4;exact .refl _
 | j+3=>simp at h3
theorem Zrd {b s n:Nat} (h0:b≠0) (hn:(toL b).length=n) (hs:s=16 - Zfa (gN (toL b) (n - 1))):(toL (b*2 ^ s)).length=n:=by
 have h1:=(Zec h0).1;have ht:=Zbr (Zar b) (n - 1);have hbd:=Zi2 ht;have hlt:=len16_lt (gN (toL b) (n - 1));have hp:=ZHi s;have h3:(toL b).length≤(toL (b*2 ^ s)).length:=Za6 (ZFn _ hp)
 have h4:(toL (b*2 ^ s)).length≤n:=by
  rw [Zaf];have h5:=Zbu (toL b) (n - 1);rw [Zao,Zbx,show n - 1+1=n by omega,ZD7 zo] at h5;simp only [nv,ZE7,ZDx] at h5;have h6:=Zht (Zar b) (n - 1);generalize gN (toL b) (n - 1)=t at *
  have h7:b < 65536 ^ (n - 1)*2 ^ Zfa t:=by
   have h10:65536 ^ (n - 1)*(t+1)≤65536 ^ (n - 1)*2 ^ Zfa t:=ZEc _ hlt;rw [ZDp,ZFa] at h10;omega
  have h8:b*2 ^ s < 65536 ^ (n - 1)*2 ^ Zfa t*2 ^ s:=ZHl h7 hp
  have h9:2 ^ Zfa t*2 ^ s=65536:=by
   rw [←ZDj,hs,show Zfa t+(16 - Zfa t)=16 by omega]
  rw [ZDm,h9,←ZDk,Nat.succ_eq_add_one,show n - 1+1=n by omega] at h8;exact h8
 omega
theorem Zp2 (a b:List Nat) (ha:a.length≤200000000) (hb:b.length≤200000000) (la:Lm a) (lb:Lm b) (h0:nv b≠0):Pure prog 158 [lim a,lim b] (.tup [lim (toL (nv a/nv b)),lim (toL (nv a%nv b)),.v (.int .i64 0)]):=by
 have h1:=Zat la;have h2:=Zat lb;have va:=Zao (nv a);have vb:=Zao (nv b);have ma:=Zar (nv a);have mb:=Zar (nv b);obtain⟨hb1,hb2⟩:=Zec h0;have cc:=Zud (toL (nv a)) (toL (nv b)) zo zo ma mb;rw [va,vb] at cc;by_cases hlt:nv a < nv b
 ·rw [show toL (nv a/nv b)=[] by rw [ZHk hlt,Zaz],ZE0 hlt];refine Pure.wk ?_ (Wk.three (.nil 1) (.refl _));have hcm:cmpN (nv a) (nv b)=-1:=ZCh hlt;have cn:=Znx (toL (nv a)) zo ma;rw [va] at cn;refine Zaa (tok:=0) (rs:=[.tmp 4,.tmp 5,.tmp 6]) func158 rfl ntmps158 results158 call158 zr zs ?_
  (refine wkvp (w_1 hcm) (w_4 (Za4 a zo la) (Za4 b zo lb) cc cn) (w_s ?_);intros)
  simp (disch:=omega) only [go_sem]
 ·have hcm:0≤cmpN (nv a) (nv b):=by unfold cmpN;rw [ZCg hlt];split<;>omega
  by_cases hone:(toL (nv b)).length=1
  ·have e0:nv b=gN (toL (nv b)) 0:=by
    have:=Zbu (toL (nv b)) 0;rw [Zbx,ZD7 zo,vb] at this
    simpa [nv] using this
   have gb:=Zbr mb 0;have cb:=Zp3 (toL (nv a)) (gN (toL (nv b)) 0) zo ma zo gb;rw [va,←e0] at cb;have hr:=ZD3 (nv a) (ZEe h0);have co:=natOf (nv a%nv b) zo;refine Zaa (tok:=0) (rs:=[.tmp 4,.tmp 5,.tmp 6]) func158 rfl ntmps158 results158 call158 zr zs ?_;have wr:IntKind.u64.wrap ((nv a%nv b:Nat):Int)=((nv a%nv b:Nat):Int):=Zgc (ZGd _) zo
   (refine wkvp (w_3 hone (Eq.symm e0) wr) (w_5 (Za4 a zo la) (Za4 b zo lb) cc cb co) (w_s ?_);intros)
   simp (disch:=omega) only [go_sem]
  ·
   obtain⟨n,hn⟩:∃n,(toL (nv b)).length=n:=⟨_,rfl⟩;rw [hn] at hb1 hb2 hone h2;have ht:=Zbr mb (n - 1);have hbd:=Zi2 ht;obtain⟨s,hs⟩:∃s,16 - Zfa (gN (toL (nv b)) (n - 1))=s:=⟨_,rfl⟩;have hs15:s≤15:=zo;have hvl:=Zrd h0 hn hs.symm;have ha0:nv a≠0:=zo;have hab:n≤(toL (nv a)).length:=by rw [←hn];exact Za6 zo
   have clz:=bitsLz16 (gN (toL (nv b)) (n - 1)) ht;rw [hs] at clz;have en:(n:Int) - 1=((n - 1:Nat):Int):=zo;have hp:=ZHi s;obtain⟨A,hA⟩:∃A,toL (nv a)=A:=⟨_,rfl⟩;rw [hA] at va ma h1 hab cc;have hVlen:A.length≤(toL (nv a*2 ^ s)).length:=by rw [←hA];exact Za6 (ZFn _ hp)
   have hV2:nv a*2 ^ s < 65536 ^ (A.length+1):=by
    have h3:=Zh4 ma;rw [va] at h3;have h4:(2:Nat) ^ s≤2 ^ 16:=ZDl zo zo;rw [ZDk];exact ZEh (ZHl h3 hp) (ZEc _ h4)
   have hVlen2:(toL (nv a*2 ^ s)).length≤A.length+1:=Zaf.2 hV2
   have hdl:nv a*2 ^ s/65536 ^ (A.length+1 - n) < nv b*2 ^ s:=by
    rw [ZFr (ZGf zo)];have h3:=Zh4 ma;rw [va] at h3
    have h5:65536 ^ (n - 1)≤nv b:=by
     rcases ZC5 (nv b) (65536 ^ (n - 1)) with h | h
     ·have:=Zaf.2 h;omega
     ·exact h
    have h6:65536 ^ A.length=65536 ^ (n - 1)*65536 ^ (A.length+1 - n):=by rw [←ZDj];congr 1;omega
    have h7:65536 ^ (n - 1)*65536 ^ (A.length+1 - n)≤nv b*65536 ^ (A.length+1 - n):=ZCw _ h5;have h8:nv a < nv b*65536 ^ (A.length+1 - n):=zo;have h9:=ZHl h8 hp
    rwa [Nat.mul_right_comm] at h9
   have qe:nv a*2 ^ s/(nv b*2 ^ s)=nv a/nv b:=Nat.mul_div_mul_right _ _ hp;have re:nv a*2 ^ s%(nv b*2 ^ s)=(nv a%nv b)*2 ^ s:=Nat.mul_mod_mul_right _ _ _;have cv:=natShl (toL (nv b)) s zo mb zo;rw [vb] at cv;refine Zaa (tok:=0) (rs:=[.tmp 4,.tmp 5,.tmp 6]) func158 rfl ntmps158 results158 call158 zr zs ?_
   (refine wkvp (w_3 hn hA en) (w_4 (Za4 a zo la) (Za4 b zo lb) cc clz) (w_s ?_);intros)
   refine Zdp (Zp1 _ A s zo ma zo (by rw [va];exact ha0)) ?_
   rintro _ _ ⟨sv,o,rfl,rfl,hol,hLo,hov⟩
   rw [va] at hov;rw [va];have hlen:=Zat hLo;rw [hov] at hlen;obtain⟨L,hL⟩:∃L,o.take (toL (nv a*2 ^ s)).length++[0,0]=L:=⟨_,rfl⟩;have hLl:L.length=(toL (nv a*2 ^ s)).length+2:=by rw [←hL,ZDa,ZCz];simp;omega
   have hot:o.take (toL (nv a*2 ^ s)).length=toL (nv a*2 ^ s):=by
    obtain⟨k,h3,h4⟩:=Zm9 hLo;rw [hov] at h4;have h5:k=(toL (nv a*2 ^ s)).length:=by rw [←h4,ZCz];omega
    rw [←h5,h4]
   have hLn:nv L=nv a*2 ^ s:=by rw [←hL,hot,Zdq,Zao];simp [nv]
   have hLL:Lm L:=by rw [←hL,hot];exact(Zar _).append λy hy=>by simp at hy;omega
   have hes:u16s o=u16s o:=rfl;have e3:((A.length:Nat):Int)+1=((A.length+1:Nat):Int):=zo
   (refine wkvp (w_6 hol @Zs8 hL hLl e3 (Eq.symm hvl)) (w_1 cv) (w_s ?_);intros)
   have hUl:(L.take (A.length+1)).length=A.length+1:=by rw [ZCz];omega
   have hUn:nv (L.take (A.length+1))=nv a*2 ^ s:=by
    have h3:=Zbu L (A.length+1);rw [hLn] at h3;rcases ZDr (nv (L.drop (A.length+1))) with h4 | h4
    ·rw [h4,ZE7,ZDx] at h3;exact h3.symm
    ·have:=ZFn (65536 ^ (A.length+1)) h4;omega
   rename_i sv2 sv';have vn:nv (toL (nv b*2 ^ s))=nv b*2 ^ s:=Zao _
   have hb20:nv b*2 ^ s≠0:=by
    have:=Nat.mul_pos (ZEe h0) hp;omega
   have htop:=(Zec hb20).2;rw [hvl] at htop;have hTD:(L.take (A.length+1))++(L.drop (A.length+1))=L:=ZEq _ _;have clong:=fun(σ:Mem) h44=>natLong σ sv' (L.take (A.length+1)) (L.drop (A.length+1)) (toL (nv b*2 ^ s)) n hvl h44 zo (by rw [hUl];omega) (by rw [hUl,ZEj];omega) (hLL.take _) (hLL.drop _) (Zar _) htop
    (by rw [hUl,←Zzt (hLL.take _),hUn,vn];exact hdl)
   rw [hUl,hUn,vn,qe,re] at clong;refine Zdp (clong _ (by rw [hTD];(simp (disch:=omega) only [go_sem,Zs8,hL]<;>repeat' first|rfl|refine⟨?_,?_⟩))) ?_
   rintro _ σ' ⟨U',rfl,h44',hUl',hUL',hUn'⟩
   have ct:=Za4 U' zo hUL';rw [hUn'] at ct;have htk:(U'++L.drop (A.length+1)).take (A.length+1)=U':=by rw [←hUl'];exact List.take_left
   rcases ZDr s with hs0 | hs0
   ·subst hs0;have cr:=natShl (toL ((nv a%nv b)*2 ^ 0)) 0 (by have:=Zat hUL';rw [hUn'] at this;omega) (Zar _) zo;rw [Zao,ZGg,ZFa,ZFa] at cr;rw [ZGg,ZFa] at ct;have ez:(0:Int) - ((0:Nat):Int)=((0:Nat):Int):=zo
    (repeat' (first|(with_reducible first|refine stp ?_|apply gx1|apply gx2|apply gx3|apply gx4|apply gx5|apply gx6|apply gx7|apply gw1 (ct)|refine gw0 (cr) ?_ ?_)|(with_reducible refine Zcn ?_;intro _)|((with_reducible refine gE ?_);(try simp (disch:=omega) only [go_sem,h44',htk,ZC9,ZFi,ZEl,ez])<;>first|rfl|omega)|with_reducible refine Zam zd ?_))
    simp (disch:=omega) only [go_sem]
   ·have cr:=natShr (toL ((nv a%nv b)*2 ^ s)) s (by have:=Zat hUL';rw [hUn'] at this;omega) (Zar _) hs0 zo;rw [Zao,Nat.mul_div_cancel _ hp] at cr;have ez:(0:Int) - (s:Int)=-(s:Int):=zo
    (repeat' (first|(with_reducible first|refine stp ?_|apply gx1|apply gx2|apply gx3|apply gx4|apply gx5|apply gx6|apply gx7|apply gw1 (ct)|refine gw0 (cr) ?_ ?_)|(with_reducible refine Zcn ?_;intro _)|((with_reducible refine gE ?_);(try simp (disch:=omega) only [go_sem,h44',htk,ZC9,ZFi,ZEl,ez])<;>first|rfl|omega)|with_reducible refine Zam zd ?_))
    simp (disch:=omega) only [go_sem]
theorem natGcd (a b:List Nat) (ha:a.length≤200000000) (hb:b.length≤200000000) (la:Lm a) (lb:Lm b):Pure prog 95 [lim a,lim b] (lim (toL (Nat.gcd (nv a) (nv b)))):=by
 have h1:=Zat la;have h2:=Zat lb
 have cu:∀x:Nat,(toL x).length≤200000000→Pure prog 156 [lim (toL x)] (.tup [.v (.int .u64 (if x < 18446744073709551616 then (x:Int) else 0)),.v (.bool (decide (x < 18446744073709551616)))]):=by
  intro x hx;have:=natUint (toL x) zo (Zar x)
  rwa [Zao] at this
 have cd:∀x y:Nat,(toL x).length≤200000000→(toL y).length≤200000000→y≠0→Pure prog 158 [lim (toL x),lim (toL y)] (.tup [lim (toL (x/y)),lim (toL (x%y)),.v (.int .i64 0)]):=by
  intro x y hx hy h0;have:=Zp2 (toL x) (toL y) hx hy (Zar x) (Zar y) (by rw [Zao];exact h0)
  rwa [Zao,Zao] at this
 refine Zaa (tok:=0) (rs:=[.tmp 4]) func95 rfl ntmps95 results95 call95 zr zs ?_
 (refine wkvp w_t (w_2 (Znx a zo la) (Znx b zo lb)) (w_s ?_);intros)
 refine Zad (ι:=Nat) (λy e m=>∃x,(e 0=lim (toL x)∧e 1=lim (toL y))∧(toL x).length≤200000000∧(toL y).length≤200000000∧Nat.gcd x y=Nat.gcd (nv a) (nv b)) (λy=>y) (nv b) zr ?_ ?_
 ·rintro y e m ⟨x,⟨e0,e1⟩,hx,hy,hg⟩
  rcases ZDr y with h0 | h0
  ·subst h0;have hl:=Zbn.2 (rfl:(0:Nat)=0);rw [Nat.gcd_zero_right] at hg
   (refine wkvp (w_3 e0 e1 hl) w_t (w_s ?_);intros)
   simp (disch:=omega) only [go_sem,hg]
  ·have hl:0 < (toL y).length:=by
    have:=(Zec (show y≠0 by omega)).1;omega
   by_cases hs:x < 18446744073709551616∧y < 18446744073709551616
   ·obtain⟨hsx,hsy⟩:=hs;have dx:decide (x < 18446744073709551616)=true:=ZCp hsx;have dy:decide (y < 18446744073709551616)=true:=ZCp hsy
    (repeat' (first|(with_reducible first|refine stp ?_|apply gx1|apply gx2|apply gx3|apply gx4|apply gx5|apply gx6|apply gx7|refine gw0 (cu x hx) ?_ ?_|refine gw0 (cu y hy) ?_ ?_)|(with_reducible refine Zcn ?_;intro _)|((with_reducible refine gE ?_);(try simp (disch:=omega) only [go_sem,e0,e1,ZCh hsx,ZCh hsy,dx,dy])<;>first|rfl|omega)|with_reducible refine Zam zd ?_))
    refine Zad (ι:=Nat) (λY e m=>∃X:Nat,(e 5=.v (.int .u64 (X:Int))∧e 7=.v (.int .u64 (Y:Int)))∧X < 18446744073709551616∧Y < 18446744073709551616∧Nat.gcd X Y=Nat.gcd (nv a) (nv b)) (λY=>Y) y zr ?_ ?_
    ·rintro Y e m ⟨X,⟨e5,e7⟩,hX,hY,hg2⟩
     rcases ZDr Y with h3 | h3
     ·subst h3;rw [Nat.gcd_zero_right] at hg2;have co:=natOf X hX;rw [hg2] at co;rw [hg2] at e5
      (refine wkvp (w_3 e5 e7 @ZEo) (w_1 co) (w_s ?_);intros)
      simp (disch:=omega) only [go_sem]
     ·have hn:(Y:Int)≠0:=zo;have hm:=ZD3 X h3
      (refine wkad (w_4 e5 e7 @Ze0 hn) w_t w_t (w_s ?_);intros)
      exact⟨X%Y,⟨Y,⟨gC,gC⟩,hY,zo,by rw [←hg2,ZGq X Y,Nat.gcd_rec Y X,ZGq]⟩,hm⟩
    ·exact⟨x,⟨gC,gC⟩,hsx,hsy,hg⟩
   ·have hm:=ZD3 x h0;have hml:(toL (x%y)).length≤200000000:=ZCk (Za6 (Nat.le_of_lt hm)) hy
    have hdd:(decide (x < 18446744073709551616) && decide (y < 18446744073709551616))=false:=by
     rw [Bool.and_eq_false_iff,ZFm,ZFm];omega
    have hgg:Nat.gcd y (x%y)=Nat.gcd (nv a) (nv b):=by rw [←hg,ZGq x y,Nat.gcd_rec y x,ZGq]
    by_cases hsx:x < 18446744073709551616
    ·have hsy:¬y < 18446744073709551616:=λh=>hs ⟨hsx,h⟩;have dx:decide (x < 18446744073709551616)=true:=ZCp hsx;have dy:decide (y < 18446744073709551616)=false:=ZCq hsy
     (repeat' (first|(with_reducible first|refine stp ?_|apply gx1|apply gx2|apply gx3|apply gx4|apply gx5|apply gx6|apply gx7|refine gw0 (cu x hx) ?_ ?_|refine gw0 (cu y hy) ?_ ?_|refine gw0 (cd x y hx hy zo) ?_ ?_)|(with_reducible refine Zcn ?_;intro _)|((with_reducible refine gE ?_);(try simp (disch:=omega) only [go_sem,e0,e1,ZCh hsx,ZCg hsy,dx,dy])<;>first|rfl|omega)|with_reducible refine Zam zd ?_))
     exact⟨x%y,⟨y,⟨gW e1,gC⟩,hy,hml,hgg⟩,hm⟩
    ·have dx:decide (x < 18446744073709551616)=false:=ZCq hsx;by_cases hsy:y < 18446744073709551616
     ·have dy:decide (y < 18446744073709551616)=true:=ZCp hsy
      (repeat' (first|(with_reducible first|refine stp ?_|apply gx1|apply gx2|apply gx3|apply gx4|apply gx5|apply gx6|apply gx7|refine gw0 (cu x hx) ?_ ?_|refine gw0 (cu y hy) ?_ ?_|refine gw0 (cd x y hx hy zo) ?_ ?_)|(with_reducible refine Zcn ?_;intro _)|((with_reducible refine gE ?_);(try simp (disch:=omega) only [go_sem,e0,e1,ZCg hsx,ZCh hsy,dx,dy])<;>first|rfl|omega)|with_reducible refine Zam zd ?_))
      exact⟨x%y,⟨y,⟨gW e1,gC⟩,hy,hml,hgg⟩,hm⟩
     ·have dy:decide (y < 18446744073709551616)=false:=ZCq hsy
      (repeat' (first|(with_reducible first|refine stp ?_|apply gx1|apply gx2|apply gx3|apply gx4|apply gx5|apply gx6|apply gx7|refine gw0 (cu x hx) ?_ ?_|refine gw0 (cu y hy) ?_ ?_|refine gw0 (cd x y hx hy zo) ?_ ?_)|(with_reducible refine Zcn ?_;intro _)|((with_reducible refine gE ?_);(try simp (disch:=omega) only [go_sem,e0,e1,ZCg hsx,ZCg hsy,dx,dy])<;>first|rfl|omega)|with_reducible refine Zam zd ?_))
      exact⟨x%y,⟨y,⟨gW e1,gC⟩,hy,hml,hgg⟩,hm⟩
 ·exact⟨nv a,⟨gC,gC⟩,zo,zo,rfl⟩
theorem Zef (l:List Nat) (hs:l.length≤1000000000) (hl:Lm l):Pure prog 196 [lim l] (lim (toL (nv l))):=by
 refine Zaa (tok:=0) (rs:=[.tmp 2]) func196 rfl ntmps196 results196 call196 zr zs ?_
 (refine wkvp w_t w_t (w_s ?_);intros)
 refine Zad (ι:=Nat) (λk e m=>k≤l.length∧e 0=lim l∧e 3=.v (.int .i64 (k:Int))∧∀j,k≤j→gN l j=0) (λk=>k) l.length zr ?_ ?_
 ·rintro k e m ⟨hk,e0,e3,hz⟩
  have gl:=Zbr hl (k - 1);have hln:(l.take k).length=k:=by rw [ZCz];omega
  by_cases h0:k=0
  ·subst h0;have:=Zlg hl hk hz (.inl rfl)
   (refine wkvp (w_3 e0 e3 @Zn8) w_t (w_s ?_);intros)
   simp (disch:=omega) only [go_sem];rw [←this];rfl
  ·by_cases h1:gN l (k - 1)=0
   ·(refine wkvp (w_2 e0 e3) w_t (w_s ?_);intros)
    exact⟨k - 1,⟨zo,gW e0,by(simp (disch:=omega) only [go_sem,e3];congr 2;omega),λj hj=>by
     rcases ZC5 j k with h2 | h2
     ·rw [show j=k - 1 by omega];exact h1
     ·exact hz j h2⟩,zo⟩
   ·have:=Zlg hl hk hz (.inr zo)
    (refine wkvp (w_4 e0 e3 @Zn8 hln) w_t (w_s ?_);intros)
    simp (disch:=omega) only [go_sem,this]
 ·exact⟨ZCi _,gC,gC,λj hj=>Zek hj⟩
theorem Zkb (n:Nat) (hn:n < 18446744073709551616):Pure prog 131 [.v (.int .u64 (n:Int))] (lim (toL n)):=by
 have b1:=(Zaf (n:=n) (k:=4)).2 hn;refine Zaa (tok:=0) (rs:=[.tmp 2]) func131 rfl ntmps131 results131 call131 zr zs ?_
 (refine wkvp w_t w_t (w_s ?_);intros)
 refine Zdj (Frz.nilOwn (d:=3) 11 1 128 (gC)) ?_;refine Zad (ι:=Nat) (λk e m=>k≤n∧e 0=.v (.int .u64 (k:Int))∧∃sv l,e 3=.own 11 sv∧m 11=some (.row sv 128 1 (u16s l) 0)∧l++toL k=toL n) (λk=>k) n zr ?_ ?_
 ·rintro k e m ⟨hk,e0,sv,l,e3,em,hl⟩
  by_cases hk0:k=0
  ·subst hk0;rw [Zaz,ZDo] at hl
   (refine wkvp (w_3 e0 e3 @ZEo) w_t (w_s ?_);intros)
   simp (disch:=omega) only [go_sem,em,hl]
  ·have b2:l.length≤(toL n).length:=by rw [←hl];simp
   have hne:k≠0:=hk0;have r1:(k:Int).tmod 65536=((k%65536:Nat):Int):=Ze0 k 65536;have r2:(k:Int).tdiv 65536=((k/65536:Nat):Int):=Zdk k 65536;have r3:k%65536%65536=k%65536:=Nat.mod_mod _ _
   (refine wkvp (w_7 e0 e3 em r1 r2 @Zbk r3) w_t (w_s ?_);intros)
   refine⟨k/65536,⟨zo,gW e0,_,l++[k%65536],gC,gC,?_⟩,zo⟩;rw [←hl,Zex hk0];simp
 ·exact⟨ZCi _,gC,_,[],gC,gC,by simp⟩
theorem Ztv (l:List Nat) (hs:l.length≤4) (hl:Lm l):Pure prog 231 [lim l] (.v (.int .u64 (nv l:Nat))):=by
 refine Zaa (tok:=0) (rs:=[.tmp 2]) func231 rfl ntmps231 results231 call231 zr zs ?_
 (refine wkvp w_t w_t (w_s ?_);intros)
 refine Zad (ι:=Nat) (λk e m=>k≤l.length∧e 0=lim l∧e 4=.v (.int .i64 ((k:Int) - 1))∧e 3=.v (.int .u64 (nv (l.drop k):Nat))) (λk=>k) l.length zr ?_ ?_
 ·rintro k e m ⟨hk,e0,e4,e3⟩
  by_cases h0:k=0
  ·subst h0;rw [ZEl] at e3
   (refine wkvp (w_3 e0 e4 e3) w_t (w_s ?_);intros)
   simp (disch:=omega) only [go_sem]
  ·have gl:=Zbr hl (k - 1);have b1:=Zh4 (hl.drop k);have b2:65536 ^ (l.drop k).length≤65536 ^ 3:=ZDl zo (by rw [ZEj];omega);have e1:(nv (l.drop k):Int)*65536=((nv (l.drop k)*65536:Nat):Int):=zo
   (refine wkvp (w_5 e0 e4 e3 e1 @Za2) w_t (w_s ?_);intros)
   refine⟨k - 1,⟨zo,gW e0,by(simp (disch:=omega) only [go_sem,e4];congr 2;omega),?_⟩,zo⟩;simp (disch:=omega) only [go_sem];rw [Zbx l (k - 1),show k - 1+1=k by omega];congr 3;omega
 ·exact⟨ZCi _,gC,gC,by(simp (disch:=omega) only [go_sem,ZHz]<;>repeat' first|rfl|refine⟨?_,?_⟩)⟩
theorem Zif (l:List Nat) (i:Nat) (hs:l.length≤1000000000) (hl:Lm l):Pure prog 200 [lim l,.v (.int .i64 (i:Int))] (.v (.int .i64 (gN l i:Nat))):=by
 have gl:=Zbr hl i;refine Zaa (tok:=0) (rs:=[.tmp 4]) func200 rfl ntmps200 results200 call200 zr zs ?_;by_cases h:i < l.length
 ·(refine wkvp w_t w_t (w_s ?_);intros)
  simp (disch:=omega) only [go_sem]
 ·have g0:gN l i=0:=Zek zo
  (refine wkvp w_t w_t (w_s ?_);intros)
  simp (disch:=omega) only [go_sem,g0];rfl
theorem Zys (a b:List Nat) (ha:a.length≤1000000000) (hb:b.length≤1000000000) (la:Lm a) (lb:Lm b):Pure prog 235 [lim a,lim b] (.v (.int .i64 (cmpN (nv a) (nv b)))):=by
 have cl:=λi=>Zif a i ha la;have cr:=λi=>Zif b i hb lb;refine Zaa (tok:=0) (rs:=[.tmp 4]) func235 rfl ntmps235 results235 call235 zr zs ?_;have hmx:max (a.length:Int) (b.length:Int)=((max a.length b.length:Nat):Int):=zo;obtain⟨M,hM⟩:∃M,max a.length b.length=M:=⟨_,rfl⟩
 (refine wkvp (w_2 hmx hM) w_t (w_s ?_);intros)
 refine Zad (ι:=Nat) (λk e m=>k≤M∧e 0=lim a∧e 1=lim b∧e 5=.v (.int .i64 ((k:Int) - 1))∧nv (a.drop k)=nv (b.drop k)) (λk=>k) M zr ?_ ?_
 ·rintro k e m ⟨hk,e0,e1,e5,hz⟩
  by_cases h0:k=0
  ·subst h0;rw [ZEl,ZEl] at hz
   (refine wkvp (w_3 e0 e1 e5) w_t (w_s ?_);intros)
   simp (disch:=omega) only [go_sem,cmpN,hz,Nat.lt_irrefl,ZDc]
  ·obtain⟨j,rfl⟩:∃j,k=j+1:=⟨k - 1,zo⟩;have ej:((j+1:Nat):Int) - 1=(j:Int):=zo;rw [ej] at e5;have ga:=Zbr la j;have gb:=Zbr lb j;by_cases p1:gN a j < gN b j
   ·have:=Zua la lb hz p1
    (refine wkvp (w_3 e0 e1 e5) (w_2 (cl j) (cr j)) (w_s ?_);intros)
    simp (disch:=omega) only [go_sem,cmpN,ZCh this]
   ·by_cases p2:gN b j < gN a j
    ·have:=Zua lb la hz.symm p2;have this2:¬nv a < nv b:=zo
     (refine wkvp (w_3 e0 e1 e5) (w_2 (cl j) (cr j)) (w_s ?_);intros)
     simp (disch:=omega) only [go_sem,cmpN,ZCh this,ZCg this2]
    ·(refine wkvp (w_3 e0 e1 e5) (w_2 (cl j) (cr j)) (w_s ?_);intros)
     refine⟨j,⟨zo,gW e0,gW e1,gW e5,?_⟩,zo⟩;rw [Zbx,Zbx b,hz];omega
 ·refine⟨ZCi _,gC,gC,gC,?_⟩;rw [ZD7 zo,ZD7 zo]
theorem refAdd (a b:List Nat) (ha:a.length≤400000000) (hb:b.length≤400000000) (la:Lm a) (lb:Lm b):Pure prog 174 [lim a,lim b] (lim (toL (nv a+nv b))):=by
 have cl:=λi=>Zif a i zo la;have cr:=λi=>Zif b i zo lb;refine Zaa (tok:=0) (rs:=[.tmp 4]) func174 rfl ntmps174 results174 call174 zr zs ?_
 (refine wkvp w_t w_t (w_s ?_);intros)
 refine Zdj (Frz.nilOwn (d:=5) 39 1 128 (gC)) ?_;refine Zad (ι:=Nat) (λk e m=>k≤max a.length b.length+1∧(e 0=lim a∧e 1=lim b∧e 7=.v (.int .i64 (k:Int)))∧∃sv o c,(e 5=.own 39 sv∧e 6=.v (.int .i64 (c:Nat))∧m 39=some (.row sv 128 1 (u16s o) 0))∧o.length=k∧Lm o∧c≤1∧(max a.length b.length < k→c=0)∧nv o+65536 ^ k*c=nv (a.take k)+nv (b.take k)) (λk=>max a.length b.length+1 - k) 0 zr ?_ ?_
 ·rintro k e m ⟨hk,⟨e0,e1,e7⟩,sv,o,c,⟨e5,e6,em⟩,hol,hLo,hc,hcz,hv⟩
  by_cases hgo:k < a.length∨k < b.length∨0 < c
  ·have ga:=Zbr la k;have gb:=Zbr lb k;have hs:=Zou (x:=gN a k) (y:=gN b k) hv;rw [←Zau,←Zau,←ZDk] at hs;have ecomm:gN a k+gN b k+c=c+gN a k+gN b k:=zo;have w1:(c+gN a k+gN b k)/65536≤1:=zo;have w2:(c+gN a k+gN b k)%65536 < 65536:=ZD3 _ zo;have r1:((c+gN a k+gN b k:Nat):Int).tmod 65536=(((c+gN a k+gN b k)%65536:Nat):Int):=Ze0 _ 65536;have r2:((c+gN a k+gN b k:Nat):Int).tdiv 65536=(((c+gN a k+gN b k)/65536:Nat):Int):=Zdk _ 65536;have r3:(c+gN a k+gN b k)%65536%65536=(c+gN a k+gN b k)%65536:=Nat.mod_mod _ _;have nvs:nv (o++[(c+gN a k+gN b k)%65536])=nv o+65536 ^ k*((c+gN a k+gN b k)%65536):=by rw [Zdq,hol];simp [nv]
   rw [←nvs] at hs
   have hz2:max a.length b.length < k+1→(c+gN a k+gN b k)/65536=0:=by
    intro h;have g1:gN a k=0:=Zek zo;have g2:gN b k=0:=Zek zo;omega
   have hkm:k≤max a.length b.length:=zo
   have fin:=fun(sv:Value) (e:Nat→AV) (m:Mem) (h1:e 0=lim a∧e 1=lim b∧e 7=.v (.int .i64 ((k+1:Nat):Int))) (h2:e 5=.own 39 sv∧e 6=.v (.int .i64 ((c+gN a k+gN b k)/65536:Nat))∧m 39=some (.row sv 128 1 (u16s (o++[(c+gN a k+gN b k)%65536])) 0)) =>
    show ∃k',(k'≤max a.length b.length+1∧(e 0=lim a∧e 1=lim b∧e 7=.v (.int .i64 (k':Int)))∧∃sv o c,(e 5=.own 39 sv∧e 6=.v (.int .i64 (c:Nat))∧m 39=some (.row sv 128 1 (u16s o) 0))∧o.length=k'∧Lm o∧c≤1∧(max a.length b.length < k'→c=0)∧nv o+65536 ^ k'*c=nv (a.take k')+nv (b.take k'))∧max a.length b.length+1 - k' < max a.length b.length+1 - k from
    ⟨k+1,⟨zo,h1,sv,_,_,h2,by simp [hol],hLo.append (Lm.one w2),w1,hz2,hs⟩,zo⟩
   by_cases h3:k < a.length
   ·(refine wkvp (w_14 e0 e1 e7 e5 e6 em hol @Za7 @Za2 ecomm r1 r2 r3 @Zbk) (w_2 (cl k) (cr k)) (w_s ?_);intros)
    exact fin _ _ _ ⟨gW e0,gW e1,gS⟩ ⟨gC,gC,gC⟩
   ·by_cases h4:k < b.length
    ·(refine wkvp (w_14 e0 e1 e7 e5 e6 em hol @Za7 @Za2 ecomm r1 r2 r3 @Zbk) (w_2 (cl k) (cr k)) (w_s ?_);intros)
     exact fin _ _ _ ⟨gW e0,gW e1,gS⟩ ⟨gC,gC,gC⟩
    ·have hc1:0 < c:=zo
     (refine wkvp (w_14 e0 e1 e7 e5 e6 em hol @Za7 @Za2 ecomm r1 r2 r3 @Zbk) (w_2 (cl k) (cr k)) (w_s ?_);intros)
     exact fin _ _ _ ⟨gW e0,gW e1,gS⟩ ⟨gC,gC,gC⟩
  ·have hc0:c=0:=zo;subst hc0;rw [Zbm zo,Zbm zo,ZE7,ZDx] at hv
   (repeat' (first|(with_reducible first|refine stp ?_|apply gx1|apply gx2|apply gx3|apply gx4|apply gx5|apply gx6|apply gx7|apply gw1 (Zef o zo hLo))|(with_reducible refine Zcn ?_;intro _)|((with_reducible refine gE ?_);(try simp (disch:=omega) only [go_sem,e0,e1,e7,e5,e6,em])<;>first|rfl|omega)|with_reducible refine Zam zd ?_))
   simp (disch:=omega) only [go_sem,hv]
 ·exact⟨zo,⟨gC,gC,gC⟩,_,[],0,⟨gC,gC,gC⟩,rfl,Lm.nil,zo,λ_=>rfl,by simp [nv]⟩
end Go.Proofs.YtpkcophcldjboaaGreatDoor
