/- Contracts of the functions that the law reaches, and the rules by which they are walked. They say what a call hands back for every input within the bounds that each names; no other condition. -/
import Derived.Test.YtkefeinbjbeidaaGreatDoorBt4
import Derived.Test.YtkefeinbjbeidaaGreatDoorRows
set_option linter.unusedSimpArgs false
set_option linter.unusedVariables false
set_option maxRecDepth 20000
set_option maxHeartbeats 16000000
namespace Go.Pg
open Go Go.RowKit
theorem Zpz {κ:MKey} {y z:AV}:∀{es:List (MKey × AV)},Zci κ es=none→Zci κ (es++[(κ,z)])=some z∧Zcq κ y (es++[(κ,z)])=es++[(κ,y)]
 | [],_=>by simp [Zci,Zcq]
 | a :: r,h=>by
   simp only [Zci] at h;split at h
   ·cases h
   ·rename_i hne;obtain⟨h1,h2⟩:=Zpz (κ:=κ) (y:=y) (z:=z) h;simp only [ZF1,Zci,Zcq,ZBu hne,h1,h2,and_self]
def Zid (w:World) (h:Nat) (arr:Array MapEntry) (clock:Nat):World:={ w with heap:=w.heap.setIfInBounds h (.map arr clock) }
theorem Zp5 {w:World} {h:Nat} (hlt:h < w.heap.size) (arr:Array MapEntry) (clock:Nat):(Zid w h arr clock).heap[h]?=some (.map arr clock):=by simp [Zid,hlt]
theorem mapAt_at (w:World) (h:Nat) (x y:Array MapEntry) (i j:Nat):Zid (Zid w h x i) h y j=Zid w h y j:=by simp [Zid]
section
variable {P:Program} {w:World} {imm:Imm} {MT kt et:TypeId} {κ:MKey} {h clock:Nat} {arr:Array MapEntry} {es:List (MKey × AV)} {k:Int}
theorem Zug (hu:P.underlying MT=some (.map kt et)) (hk:ZBs P kt κ) (hz:Zao P et=some (.int .i64 0)) (hh:w.heap[h]?=some (.map arr clock)) (hl:es.length=arr.size) (ha:Ze8 κ es=true)
 (hr:∀(j:Nat) (a:MKey × AV) (x:MapEntry),es[j]?=some a→arr[j]?=some x→x.key=a.1.val∧Rd w imm a.2 x.val) (hg:Zr9 false (.v (.int .i64 0)) (Zci κ es)=.v (.int .i64 k)) :
 (Instr.lookup MT (.map (some h)) κ.val false).run P w=.ok (.int .i64 k) w:=by
 have hzr:(zeroValue et).run P w=.ok (.int .i64 0) w:=Zab hz;have hck:=Ziz (P:=P) (w:=w) hk arr.isEmpty;rcases Zi3 (w:=w) (imm:=imm) κ hk arr.toList es (by simpa using hl) ha (λj b x h1 h2=>hr j b x h1 (by simpa using h2)) with⟨f1,f2,-⟩ | ⟨j,x,v,f1,-,-,f4,f5,-⟩
 ·rw [f2] at hg
  have:k=0:=by
   injection hg with hg
   injection hg with _ hg
   exact hg.symm
  subst this;simp only [Instr.lookup,ZCe,ZCi hu,ZCc,ZE1 hh,ZCj,hck,f1,hzr,ZB8,ZCx]
 ·rw [f4] at hg;have hv:v=.v (.int .i64 k):=hg;subst hv;have:=(show Rs w imm (.v (.int .i64 k)) x.val from .pure f5).v_inv;simp only [Instr.lookup,ZCe,ZCi hu,ZCc,ZE1 hh,ZCj,hck,f1,this,ZB8,ZCx]
theorem ZAn (hu:P.underlying MT=some (.map kt et)) (hk:ZBs P kt κ) (hz:Zao P et=some (.int .i64 0)) (hh:w.heap[h]?=some (.map arr clock)) (hl:es.length=arr.size) (ha:Ze8 κ es=true) (hbo:Born arr clock)
 (hr:∀(j:Nat) (a:MKey × AV) (x:MapEntry),es[j]?=some a→arr[j]?=some x→x.key=a.1.val∧Rd w imm a.2 x.val) (hg:Zr9 false (.v (.int .i64 0)) (Zci κ es)=.v (.int .i64 k)) :
 ∃(arr1:Array MapEntry) (clock1 j b:Nat) (es1:List (MKey × AV)) (e:MapEntry),(Instr.mapEntry MT (.map (some h)) κ.val).run P w=.ok (.tuple #[.int .i64 k,goInt b]) (Zid w h arr1 clock1)∧Born arr1 clock1∧es1.length=arr1.size∧Ze8 κ es1=true ∧
  (∀(j:Nat) (a:MKey × AV) (x:MapEntry),es1[j]?=some a→arr1[j]?=some x→x.key=a.1.val∧Rd w imm a.2 x.val)∧Zr9 false (.v (.int .i64 0)) (Zci κ es1)=.v (.int .i64 k) ∧
  arr1[j]?=some e∧e.key=κ.val∧e.born=b∧(∀y,Zcq κ y es=es1.set j (κ,y))∧j < es1.length:=by
 have hzr:(zeroValue et).run P w=.ok (.int .i64 0) w:=Zab hz;have hck:=Ziz (P:=P) (w:=w) hk false;have hset:∀o':Obj,(setObj h o').run P w=.ok () { w with heap:=w.heap.setIfInBounds h o' }:=λo'=>ZHh o' hh;rcases Zi3 (w:=w) (imm:=imm) κ hk arr.toList es (by simpa using hl) ha (λj b x h1 h2=>hr j b x h1 (by simpa using h2)) with⟨f1,f2,f3⟩ | ⟨j,x,v,f1,f2,fk,f4,f5,f6,f7⟩
 ·have hg':=hg;rw [f2] at hg'
  have:k=0:=by
   injection hg' with hg'
   injection hg' with _ hg'
   exact hg'.symm
  subst this;obtain⟨g1,-⟩:=Zpz (κ:=κ) (y:=.u) (z:=.v (.int .i64 0)) f2;refine⟨arr.push { key:=κ.val,val:=.int .i64 0,born:=clock },clock+1,es.length,clock,es++[(κ,.v (.int .i64 0))],{ key:=κ.val,val:=.int .i64 0,born:=clock },?_,hbo.push _ _,by simp [hl],?_,λj b y k1 k2=>?_,by rw [g1];rfl,?_,rfl,rfl,λy=>?_,by simp⟩
  ·simp only [Instr.mapEntry,ZCe,ZCi hu,ZCc,ZE1 hh,hck,f1,hzr,hset,ZCj];rfl
  ·have hlk:κ.like κ=true:=by cases κ<;>simp [MKey.like]
   unfold Ze8 at ha ⊢;rw [List.all_append,ha];simp [hlk]
  ·by_cases hj:j < es.length
   ·rw [ZDq hj] at k1;rw [ZG7,ZBu zo] at k2;exact hr j b y k1 k2
   ·rw [ZDr zo] at k1
    have hje:j=es.length:=by
     rcases ZCg (j - es.length) 1 with h9 | h9
     ·omega
     ·rw [ZDh (by simpa using h9)] at k1;cases k1
    subst hje;rw [ZE8] at k1;simp only [ZEv,Option.some.injEq] at k1;rw [ZG7,ZBv hl] at k2;simp only [Option.some.injEq] at k2;subst k1;subst k2;exact⟨rfl,.v _⟩
  ·rw [ZG7,ZBv hl]
  ·rw [f3 y,List.set_append_right _ _ (ZBw _),ZE8];rfl
 ·have hg':=hg;rw [f4] at hg';have hv:v=.v (.int .i64 k):=hg';subst hv;have hxv:=(show Rs w imm (.v (.int .i64 k)) x.val from .pure f5).v_inv;have f2':arr[j]?=some x:=by simpa using f2
  have hst:=Zp7 (P:=P) (w:=w) κ;refine⟨arr.modify j λe=>{ e with key:=κ.val },clock,j,x.born,es,{ x with key:=κ.val },?_,hbo.modify _ _ λ_=>rfl,by simp [hl],ha,λj' b y k1 k2=>?_,hg,?_,rfl,rfl,f7,f6⟩
  ·simp only [Instr.mapEntry,ZCe,ZCi hu,ZCc,ZE1 hh,hck,f1,f2',ZC9,ZDz,fk,hst,hset,ZCj,hxv];rfl
  ·rw [ZFn] at k2;by_cases hj:j=j'
   ·subst hj;rw [ZBv rfl,f2'] at k2;simp only [ZC9,Option.some.injEq] at k2;subst k2;have:=hr j b x k1 f2';exact⟨fk ▸ this.1,this.2⟩
   ·rw [ZBu hj] at k2;exact hr j' b y k1 k2
  ·rw [ZFn,ZBv rfl,f2'];rfl
theorem Zxi {j b:Nat} {e:MapEntry} {x:Value} (hh:w.heap[h]?=some (.map arr clock)) (hbo:Born arr clock) (hj:arr[j]?=some e) (hb:e.born=b) :
 (Instr.entryStore MT (.map (some h)) (goInt b) x).run P w=.ok () (Zid w h (arr.modify j λe=>{ e with val:=x }) clock):=by
 have hset:∀o':Obj,(setObj h o').run P w=.ok () { w with heap:=w.heap.setIfInBounds h o' }:=λo'=>ZHh o' hh;obtain⟨hjl,hje⟩:=Array.getElem?_eq_some_iff.1 hj
 have hf:arr.findIdx? (λe=>(e.born:Int) == (b:Int))=some j:=by
  rw [Array.findIdx?_eq_some_iff_getElem];refine⟨hjl,by rw [hje,hb];simp,λi hi=>?_⟩;have hn:=List.pairwise_iff_getElem.1 hbo.2 i j (by simp;omega) (by simp;omega) hi;simp only [ZF9,Array.getElem_toList,hje,hb] at hn;simp only [Bool.not_eq_true,ZGk,ne_eq];omega
 simp only [Instr.entryStore,ZCe,ZE1 hh,ZCc,goInt,asInt,asIntOf,ZCj,hf,hset];rfl
end
theorem put_at {a:Act} {d:Nat} {v:Value} (hd:d < a.tmps.size) (t:Nat):(a.put (some d) v).tmps.getD t undef=if t=d then v else a.tmps.getD t undef:=by
 show(a.tmps.setIfInBounds d v).getD t undef=_;rw [ZDs,ZHe,ZDs];by_cases h:t=d
 ·rw [ZBv h.symm,ZBv h,ZBv hd];rfl
 ·rw [ZBu (ZDu h),ZBu h]
def opAt (l:List Oper) (i:Nat) (d:Option Nat) (op:Op):Prop:=∃(ty:TypeId) (pos:String) (af:Array Edge),l[i]?=some ⟨d,op,ty,pos,af,none⟩
def before (l:List Oper) (i j:Nat):Bool:=Ziq l.toArray 7 i j
def edgesLow (l:List Oper):Bool:=(List.range l.length).all λi=>match l[i]? with
 | some o=>o.after.all λe=>decide (e.on < i)
 | none=>true
structure TkI (n:Nat) (a0:Act) (W0 W1 W2:World) (D:Nat→Nat) (V:Nat→Value) (L:Array Bool) (a:Act) (w:World):Prop where
 sz:a.tmps.size=n
 df:a.defers=[]
 ls:L.size=7
 oth:∀t,(∀j,j < 6→t≠D j)→a.tmps.getD t undef=a0.tmps.getD t undef
 tv:∀j,j < 6→L.getD j true=true→a.tmps.getD (D j) undef=V j
 wd:w=if L.getD 6 true=true then W2 else if L.getD 4 true=true then W1 else W0
theorem Zf3 (L:Array Bool) (i j:Nat):(L.setIfInBounds i true).getD j true=if j=i then true else L.getD j true:=by
 rw [ZDs,ZHe,ZDs];by_cases h:j=i
 ·subst h;rw [ZBv rfl,ZBv rfl];split<;>rfl
 ·rw [ZBu (ZDu h),ZBu h]
theorem TkI.step {n:Nat} {a0:Act} {W0 W1 W2:World} {D:Nat→Nat} {V:Nat→Value} {L:Array Bool} {a:Act} {w w':World} (I:TkI n a0 W0 W1 W2 D V L a w) {i:Nat} (hi:i < 6) (hD:∀i j,i < 6→j < 6→D i=D j→i=j) (hn:D i < n)
 (hw:w'=if L.getD 6 true=true then W2 else if i=4∨L.getD 4 true=true then W1 else W0):TkI n a0 W0 W1 W2 D V (L.setIfInBounds i true) (a.put (some (D i)) (V i)) w':=by
 have hdn:D i < a.tmps.size:=by rw [I.sz];exact hn
 refine⟨by rw [Act.put_size];exact I.sz,by rw [Act.put_defers'];exact I.df,by rw [Array.size_setIfInBounds];exact I.ls,λt ht=>?_,λj hj h=>?_,?_⟩
 ·rw [put_at hdn,ZBu (ht i hi)];exact I.oth t ht
 ·rw [put_at hdn];by_cases hji:j=i
  ·subst hji;rw [ZBv rfl]
  ·rw [ZBu λe=>hji (hD _ _ hj hi e)];rw [Zf3,ZBu hji] at h;exact I.tv j hj h
 ·have e6:(L.setIfInBounds i true).getD 6 true=L.getD 6 true:=by rw [Zf3,ZBu zo]
  rw [e6,Zf3,hw];by_cases h4:i=4
  ·rw [ZBv (c:=i=4∨_) (.inl h4),ZBv (c:=4=i) h4.symm,ZBv rfl]
  ·rw [ZBu (c:=4=i) (ZDu h4)];by_cases h5:L.getD 4 true=true
   ·rw [ZBv (c:=i=4∨_) (.inr h5),ZBv h5]
   ·rw [ZBu (c:=i=4∨_) (by rintro (h | h);exact h4 h;exact h5 h),ZBu h5]
def unl (L:Array Bool):Nat:=(List.range 7).countP λi=>!L.getD i true
theorem Zwy {L:Array Bool} {i:Nat} (hs:L.size=7) (hi:L.getD i true=false):unl (L.setIfInBounds i true)+1=unl L∧i < 7:=by
 have h7:i < 7:=by
  rcases ZCg i 7 with h | h
  ·exact h
  ·rw [ZDs,ZGf zo] at hi;cases hi
 refine⟨?_,h7⟩;have e:=Zf3 L i;unfold unl;simp only [e,show List.range 7=[0,1,2,3,4,5,6] from rfl,List.countP_cons,List.countP_nil]
 match i,h7 with
 | 0,_=>simp [hi];try omega
 | 1,_=>simp [hi];try omega
 | 2,_=>simp [hi];try omega
 | 3,_=>simp [hi];try omega
 | 4,_=>simp [hi];try omega
 | 5,_=>simp [hi];try omega
 | 6,_=>simp [hi];try omega
theorem Zye {P:Program} {tok n id tk h:Nat} {Q:AE→St→Prop} {st:St} {l:List Oper} {MT kt et T:TypeId} {κ:MKey} {kv:AV} {k:Int} {es:List (MKey × AV)} {s0 s1 d0 d1 d2 d3 d4 d5:Nat} {it jt:TypeId}
 (hm:P.follows .mixedOrders=true) (h7:l.length=7) (hlow:edgesLow l=true)
 (o0:opAt l 0 (some d0) (.move (.tmp s0))) (o1:opAt l 1 (some d1) (.load T (.tmp s1))) (o2:opAt l 2 (some d2) (.lookup MT (.tmp d0) (.tmp d1) false)) (o3:opAt l 3 (some d3) (.binOp .add it (.tmp d2) (.const (.int .i64 1)) jt))
 (o4:opAt l 4 (some d4) (.mapEntry MT (.tmp d0) (.tmp d1))) (o5:opAt l 5 (some d5) (.extract (.tmp d4) 1)) (o6:opAt l 6 none (.entryStore MT (.tmp d0) (.tmp d5) (.tmp d3)))
 (hb:(before l 0 2 && before l 1 2 && before l 2 3 && before l 0 4 && before l 1 4 && before l 4 5 && before l 3 6 && before l 5 6 && before l 0 6 && before l 1 6 && before l 2 6 && before l 4 6)=true)
 (hn:[s0,s1,d0,d1,d2,d3,d4,d5].Nodup) (hlt:[d0,d1,d2,d3,d4,d5].all (· < n)=true)
 (hu:P.underlying MT=some (.map kt et)) (hz:Zao P et=some (.int .i64 0)) (e0:st.env s0=.mp tk h) (hmem:st.mem tk=some (.map h es)) (hld:resK (Zc5 P st T (st.env s1)) (λb=>b=kv)) (hkv:mkOf P kt kv=some κ) (ha:Ze8 κ es=true)
 (hg:Zr9 false (.v (.int .i64 0)) (Zci κ es)=.v (.int .i64 k)) (hk0:0≤k) (hk1:k < 9223372036854775807)
 (hQ:Q .normal ⟨upd (upd (upd (upd (upd (upd st.env d0 .u) d1 .u) d2 .u) d3 .u) d4 .u) d5 .u,upd st.mem tk (some (.map h (Zcq κ (.v (.int .i64 (k+1))) es)))⟩):Za4 P tok n (.region id l.toArray true) Q st:=by
 intro c a0 w imm hr;refine wp_region_any hm ?_;have hgd:w.grownBy w.drew none:=⟨rfl,rfl,rfl,ZBw _,λ_ _ _=>rfl⟩;have kd:Keeps w imm w.drew imm:=λad h=>⟨h,rfl⟩;have hdr:Rel c n st a0 w.drew imm:=⟨λt=>kd.rs (hr.env t),hr.size,hr.defers,⟨⟨λk e hk=>(hr.mem.ok.ent k e hk).keep hgd (by cases e.blk<;>simp) (λ_ h=>h) (λ_ _=>rfl) (λ_ h=>.inl h),hr.mem.ok.apart,hr.mem.ok.lt,hr.mem.ok.spot⟩,hr.mem.below.drew,hr.mem.lt,hr.mem.old,hr.mem.new,hr.mem.cells⟩⟩;show wpAny P .any l.toArray (post c n Q) l.toArray.size (Array.replicate l.toArray.size false) a0 w.drew;generalize w.drew=W0 at hdr;clear hgd kd hr
 obtain⟨arr,clock,hh,hB,hl,hrr,hbo,hp⟩:=hdr.mem.ok.ent tk _ hmem;have hhl:h < W0.heap.size:=(Array.getElem?_eq_some_iff.1 hh).1;obtain⟨kx,kb,hkrun,rfl,hkrs⟩:=Zuh hdr.mem (hdr.env s1) hld;obtain⟨rfl,hko⟩:=mk_of hkv hkrs;obtain⟨arr1,clock1,j,b,es1,e,r1,q1,q2,q3,q4,q5,q6,q7,q8,q9,q10⟩:=ZAn hu hko hz hh hl ha hbo hrr hg;have h1:=Zp5 hhl arr1 clock1;have r2:=Zxi (P:=P) (MT:=MT) (x:=.int .i64 (k+1)) h1 q1 q6 q8;rw [mapAt_at] at r2;have rl0:=Zug hu hko hz hh hl ha hrr hg;have hgrow:∀(x:Array MapEntry) (i:Nat),W0.grownBy (Zid W0 h x i) (some h):=λx i=>by
  refine⟨rfl,rfl,rfl,by simp [Zid],λk hk hne=>?_⟩;simp only [Zid];rw [ZHi (λh9=>hne (by rw [h9]))]
 have hcell:∀(x:Array MapEntry) (i:Nat) (ad:Addr),imm ad→(Zid W0 h x i).cell? ad=W0.cell? ad:=λx i ad g=>Zdh (hgrow x i) (hdr.mem.ok.lt ad g) (λe=>hp ad g (by injection e));have rl1:=Zug (w:=Zid W0 h arr1 clock1) hu hko hz h1 q2 q3 (imm:=imm) (λj a x g1 g2=>⟨(q4 j a x g1 g2).1,(q4 j a x g1 g2).2.keep (λ_ g=>g) (hcell arr1 clock1)⟩) q5;obtain⟨W1,hW1⟩:∃W1,W1=Zid W0 h arr1 clock1:=⟨_,rfl⟩;obtain⟨arr2,harr2⟩:∃arr2,arr2=arr1.modify j λe=>{ e with val:=.int .i64 (k+1) }:=⟨_,rfl⟩;obtain⟨W2,hW2⟩:∃W2,W2=Zid W0 h arr2 clock1:=⟨_,rfl⟩;rw [←harr2,←hW2,←hW1] at r2;rw [←hW1] at r1 rl1;obtain⟨D,hDdef⟩:∃D:Nat→Nat,D=λj=>[d0,d1,d2,d3,d4,d5].getD j 0:=⟨_,rfl⟩
 obtain⟨V,hVdef⟩:∃V:Nat→Value,V=λj=>[.map (some h),κ.val,.int .i64 k,.int .i64 (k+1),.tuple #[.int .i64 k,goInt b],goInt b].getD j undef:=⟨_,rfl⟩;simp only [List.nodup_cons,ZFi,List.not_mem_nil,or_false,not_or] at hn;simp only [ZFl,List.all_nil,ZGj,ZCm,ZCs] at hlt;obtain⟨l0,l1,l2,l3,l4,l5⟩:=hlt;obtain⟨⟨-,n1,n2,n3,n4,n5,n6⟩,⟨m1,m2,m3,m4,m5,m6⟩,⟨a1,a2,a3,a4,a5⟩,⟨b1,b2,b3,b4⟩,⟨c1,c2,c3⟩,⟨f1,f2⟩,f3,-⟩:=hn
 have hD:∀i j,i < 6→j < 6→D i=D j→i=j:=by
  subst hDdef;intro i j hi hj
  match i,j,hi,hj with
  | 0,0,_,_ | 1,1,_,_ | 2,2,_,_ | 3,3,_,_ | 4,4,_,_ | 5,5,_,_=>intro _;rfl
  | 0,1,_,_=>exact λe=>absurd e a1
  | 0,2,_,_=>exact λe=>absurd e a2
  | 0,3,_,_=>exact λe=>absurd e a3
  | 0,4,_,_=>exact λe=>absurd e a4
  | 0,5,_,_=>exact λe=>absurd e a5
  | 1,2,_,_=>exact λe=>absurd e b1
  | 1,3,_,_=>exact λe=>absurd e b2
  | 1,4,_,_=>exact λe=>absurd e b3
  | 1,5,_,_=>exact λe=>absurd e b4
  | 2,3,_,_=>exact λe=>absurd e c1
  | 2,4,_,_=>exact λe=>absurd e c2
  | 2,5,_,_=>exact λe=>absurd e c3
  | 3,4,_,_=>exact λe=>absurd e f1
  | 3,5,_,_=>exact λe=>absurd e f2
  | 4,5,_,_=>exact λe=>absurd e f3
  | 1,0,_,_=>exact λe=>absurd e.symm a1
  | 2,0,_,_=>exact λe=>absurd e.symm a2
  | 3,0,_,_=>exact λe=>absurd e.symm a3
  | 4,0,_,_=>exact λe=>absurd e.symm a4
  | 5,0,_,_=>exact λe=>absurd e.symm a5
  | 2,1,_,_=>exact λe=>absurd e.symm b1
  | 3,1,_,_=>exact λe=>absurd e.symm b2
  | 4,1,_,_=>exact λe=>absurd e.symm b3
  | 5,1,_,_=>exact λe=>absurd e.symm b4
  | 3,2,_,_=>exact λe=>absurd e.symm c1
  | 4,2,_,_=>exact λe=>absurd e.symm c2
  | 5,2,_,_=>exact λe=>absurd e.symm c3
  | 4,3,_,_=>exact λe=>absurd e.symm f1
  | 5,3,_,_=>exact λe=>absurd e.symm f2
  | 5,4,_,_=>exact λe=>absurd e.symm f3
 have fin:∀(L:Array Bool) (a:Act) (w:World),TkI n a0 W0 W1 W2 D V L a w→Region.ready .any l.toArray L=[]→post c n Q .normal a w:=by
  intro L a w I hrd
  have all:∀i,i < 7→L.getD i true=true:=by
   intro i
   induction i using Nat.strongRecOn with
   | ind i ih =>
     intro hi
     cases hc:L.getD i true with
     | true=>rfl
     | false =>
       exfalso;have hil:i < l.length:=zo;have:i∈Region.ready .any l.toArray L:=mem_ready.2 ⟨hc,l[i],by simp [hil],λe he _=>by
        have h9:=List.all_eq_true.1 hlow i (List.mem_range.2 hil);rw [ZB6 hil] at h9;have h8:=ZHc (Array.all_eq_true'.1 h9 e he);have:=ih e.on h8 zo;rw [ZDs] at this ⊢
        rwa [ZDa (by rw [I.ls];omega)] at this ⊢⟩
       rw [hrd] at this;cases this
  have hw:w=W2:=by rw [I.wd,ZBv (all 6 zo)]
  subst hw;obtain⟨mx,kp⟩:=Zdt hdr.mem (hgrow arr2 clock1) (ZBw _) (λg' hg'=>by cases hg';exact hB) (hcell arr2 clock1) tk (.map h (Zcq κ (.v (.int .i64 (k+1))) es))
   ⟨arr2,clock1,Zp5 hhl _ _,hB,by rw [harr2,q9];simp [q2],λi x y g1 g2=>by
    rw [q9,List.getElem?_set] at g1;rw [harr2,ZFn] at g2;by_cases hij:j=i
    ·subst hij;rw [ZBv rfl,ZBv q10] at g1;rw [ZBv rfl,q6] at g2;simp only [ZC9,Option.some.injEq] at g1 g2;subst g1;subst g2;exact⟨q7,.v _⟩
    ·rw [ZBu hij] at g1 g2;exact⟨(q4 i x y g1 g2).1,(q4 i x y g1 g2).2.keep (λ_ g=>g) (hcell arr2 clock1)⟩,by rw [harr2];exact q1.modify _ _ λ_=>rfl,hp⟩
   (λj e2 b hj hje hb=>⟨λe=>hj (hdr.mem.ok.apart j tk e2 _ b hje hmem hb (by rw [Ent.blk,e])),λe=>hj (hdr.mem.ok.apart j tk e2 _ b hje hmem hb (by simpa [Ent.blk] using e))⟩)
  rw [←hW2] at mx kp;refine⟨.normal,_,imm,rfl,hQ,λt=>?_,I.sz,I.df,mx⟩;simp only [Zan];by_cases g5:t=d5
  ·rw [ZBv g5];exact .pure (.u _)
  rw [ZBu g5];by_cases g4:t=d4
  ·rw [ZBv g4];exact .pure (.u _)
  rw [ZBu g4];by_cases g3:t=d3
  ·rw [ZBv g3];exact .pure (.u _)
  rw [ZBu g3];by_cases g2:t=d2
  ·rw [ZBv g2];exact .pure (.u _)
  rw [ZBu g2];by_cases g1:t=d1
  ·rw [ZBv g1];exact .pure (.u _)
  rw [ZBu g1];by_cases g0:t=d0
  ·rw [ZBv g0];exact .pure (.u _)
  rw [ZBu g0,I.oth t λj hj=>by
   subst hDdef
   match j,hj with
   | 0,_=>exact g0
   | 1,_=>exact g1
   | 2,_=>exact g2
   | 3,_=>exact g3
   | 4,_=>exact g4
   | 5,_=>exact g5]
  exact kp.rs (hdr.env t)
 have D0:D 0=d0:=by rw [hDdef];rfl
 have D1:D 1=d1:=by rw [hDdef];rfl
 have D2:D 2=d2:=by rw [hDdef];rfl
 have D3:D 3=d3:=by rw [hDdef];rfl
 have D4:D 4=d4:=by rw [hDdef];rfl
 have D5:D 5=d5:=by rw [hDdef];rfl
 have V0:V 0=.map (some h):=by rw [hVdef];rfl
 have V1:V 1=κ.val:=by rw [hVdef];rfl
 have V2:V 2=.int .i64 k:=by rw [hVdef];rfl
 have V3:V 3=.int .i64 (k+1):=by rw [hVdef];rfl
 have V4:V 4=.tuple #[.int .i64 k,goInt b]:=by rw [hVdef];rfl
 have V5:V 5=goInt b:=by rw [hVdef];rfl
 clear hDdef hVdef;have hsl:∀s,s≠d0→s≠d1→s≠d2→s≠d3→s≠d4→s≠d5→∀j,j < 6→s≠D j:=λs g0 g1 g2 g3 g4 g5 j hj=>by
  match j,hj with
  | 0,_=>rw [D0];exact g0
  | 1,_=>rw [D1];exact g1
  | 2,_=>rw [D2];exact g2
  | 3,_=>rw [D3];exact g3
  | 4,_=>rw [D4];exact g4
  | 5,_=>rw [D5];exact g5
 have x0:a0.tmps.getD s0 undef=.map (some h):=by
  have:=hdr.env s0;rw [e0] at this;exact this.mp_inv
 simp only [ZCm,before] at hb;obtain⟨⟨⟨⟨⟨⟨⟨⟨⟨⟨⟨p02,p12⟩,p23⟩,p04⟩,p14⟩,p45⟩,p36⟩,p56⟩,p06⟩,p16⟩,p26⟩,p46⟩:=hb
 have main:∀(f:Nat) (L:Array Bool) (a:Act) (w:World),TkI n a0 W0 W1 W2 D V L a w→Closed l.toArray L→unl L≤f→wpAny P .any l.toArray (post c n Q) f L a w:=by
  intro f
  induction f with
  | zero =>
    intro L a w I hC hu0
    have hrd:Region.ready .any l.toArray L=[]:=by
     rcases hx:Region.ready .any l.toArray L with _ | ⟨i,r⟩
     ·rfl
     ·exfalso;have hi:i∈Region.ready .any l.toArray L:=by rw [hx];exact .head _
      have:=(Zwy I.ls (mem_ready.1 hi).1).1;omega
    exact⟨hrd,fin L a w I hrd⟩
  | succ f ih =>
    intro L a w I hC hu0;refine⟨fin L a w I,λi hi=>?_⟩;obtain⟨hi0,o,hoi,haf⟩:=mem_ready.1 hi;obtain⟨hu1,hi7⟩:=Zwy I.ls hi0;have pre:∀p,p < 7→Ziq l.toArray 7 p i=true→L.getD p true=true:=λp hp7 hre=>by
     have:=Zdg hC 7 i o hoi haf hre;rw [ZDs] at this ⊢
     rwa [ZDa (by rw [I.ls];exact hp7)] at this ⊢
    have hC':=hC.set hi
    have go:∀(d:Option Nat) (op:Op) (ty:TypeId) (pos:String) (af:Array Edge) (K:Act→World→Prop),l[i]?=some ⟨d,op,ty,pos,af,none⟩→Oper.wp P ⟨d,op,ty,pos,af,none⟩ a w K (post c n Q)→wpOp P l.toArray (post c n Q) i K a w:=by
     intro d op ty pos af K ho hw;unfold wpOp;rw [ZD4,ho];simp only [Region.wanted];exact .inl hw
    have val:∀(d:Nat) (op:Op) (ty:TypeId) (pos:String) (af:Array Edge) (w':World),i < 6→D i=d→D i < n→l[i]?=some ⟨some d,op,ty,pos,af,none⟩→(execOp a.eval ⟨some d,op,ty,pos,af,none⟩).run P w=.ok (.value (V i)) w' →
     (w'=if L.getD 6 true=true then W2 else if i=4∨L.getD 4 true=true then W1 else W0)→wpOp P l.toArray (post c n Q) i (wpAny P .any l.toArray (post c n Q) f (L.setIfInBounds i true)) a w:=by
     intro d op ty pos af w' h6 hd hdn ho hrun hw;subst hd;refine go _ op ty pos af _ ho ?_;unfold Oper.wp;rw [hrun,Oper.upon_value];exact ih _ _ _ (I.step h6 hD hdn hw) hC' zo
    have same:i≠4→w=if L.getD 6 true=true then W2 else if i=4∨L.getD 4 true=true then W1 else W0:=λh4=>by
     rw [I.wd];simp only [h4,false_or]
    have hev:∀j,j < 6→L.getD j true=true→a.eval (.tmp (D j))=V j:=λj hj hL=>I.tv j hj hL;have notl:∀j,j < 7→Ziq l.toArray 7 i j=true→L.getD j true=false:=λj hj hre=>by
     cases hc:L.getD j true with
     | false=>rfl
     | true =>
       exfalso
       have hc':L.getD j false=true:=by
        rw [ZDs,ZDa (by rw [I.ls];exact hj)] at hc ⊢;exact hc
       have hjl:l.toArray[j]?=some l[j]:=by simp [show j < l.length by omega]
       have:=Zdg hC 7 j _ hjl (hC j _ hjl hc') hre;rw [ZDs,ZDa (by rw [I.ls];exact hi7)] at this hi0;simp only [ZDz] at this hi0;rw [this] at hi0;cases hi0
    have w6:Ziq l.toArray 7 i 6=true→w=if L.getD 4 true=true then W1 else W0:=λhre=>by
     rw [I.wd,ZBu (by rw [notl 6 zo hre];exact ZHd)]
    match i,hi7 with
    | 0,_ =>
      obtain⟨ty,pos,af,ho⟩:=o0;refine val d0 _ _ _ _ w zo D0 (by rw [D0];exact l0) ho ?_ (same zo);have:a.eval (.tmp s0)=V 0:=by rw [V0,←x0];exact I.oth s0 (hsl s0 n1 n2 n3 n4 n5 n6)
      simp only [execOp,this,ZCj]
    | 1,_ =>
      obtain⟨ty,pos,af,ho⟩:=o1;have hw0:w=W0:=by rw [w6 p16,ZBu (by rw [notl 4 zo p14];exact ZHd)]
      refine val d1 _ _ _ _ w zo D1 (by rw [D1];exact l1) ho ?_ (same zo);have:a.eval (.tmp s1)=a0.tmps.getD s1 undef:=I.oth s1 (hsl s1 m1 m2 m3 m4 m5 m6);rw [hw0,V1];simp only [execOp,this,ZCe,hkrun,ZCc,ZCj]
    | 2,_ =>
      obtain⟨ty,pos,af,ho⟩:=o2;refine val d2 _ _ _ _ w zo D2 (by rw [D2];exact l2) ho ?_ (same zo);have e1:a.eval (.tmp d0)=.map (some h):=by rw [←D0,hev 0 zo (pre 0 zo p02),V0]
      have e2:a.eval (.tmp d1)=κ.val:=by rw [←D1,hev 1 zo (pre 1 zo p12),V1]
      have hrun:(Instr.lookup MT (.map (some h)) κ.val false).run P w=.ok (.int .i64 k) w:=by
       rw [w6 p26];split
       ·exact rl1
       ·exact rl0
      rw [V2];simp only [execOp,e1,e2,ZCe,hrun,ZCc,ZCj]
    | 3,_ =>
      obtain⟨ty,pos,af,ho⟩:=o3;refine val d3 _ _ _ _ w zo D3 (by rw [D3];exact l3) ho ?_ (same zo);have e1:a.eval (.tmp d2)=.int .i64 k:=by rw [←D2,hev 2 zo (pre 2 zo p23),V2]
      have e2:a.eval (.const (.int .i64 1))=.int .i64 1:=rfl;have hwr:IntKind.i64.wrap (k+1)=k+1:=by simp [IntKind.wrap,IntKind.bits,IntKind.signed];omega
      rw [V3];simp [execOp,e1,e2,eqGuard,binOp,Op.intArith,hwr]
    | 4,_ =>
      obtain⟨ty,pos,af,ho⟩:=o4;have hw0:w=W0:=by rw [w6 p46,ZBu (by rw [hi0];exact ZHd)]
      refine val d4 _ _ _ _ W1 zo D4 (by rw [D4];exact l4) ho ?_ (by rw [ZBu (by rw [notl 6 zo p46];exact ZHd),ZBv (.inl rfl)]);have e1:a.eval (.tmp d0)=.map (some h):=by rw [←D0,hev 0 zo (pre 0 zo p04),V0]
      have e2:a.eval (.tmp d1)=κ.val:=by rw [←D1,hev 1 zo (pre 1 zo p14),V1]
      rw [hw0,V4];simp only [execOp,e1,e2,ZCe,r1,ZCc,ZCj]
    | 5,_ =>
      obtain⟨ty,pos,af,ho⟩:=o5;refine val d5 _ _ _ _ w zo D5 (by rw [D5];exact l5) ho ?_ (same zo);have e1:a.eval (.tmp d4)=.tuple #[.int .i64 k,goInt b]:=by rw [←D4,hev 4 zo (pre 4 zo p45),V4]
      rw [V5];simp [execOp,e1,Instr.extract]
    | 6,_ =>
      obtain⟨ty,pos,af,ho⟩:=o6;have hw1:w=W1:=by rw [I.wd,ZBu (by rw [hi0];exact ZHd),ZBv (pre 4 zo p46)]
      have e1:a.eval (.tmp d0)=.map (some h):=by rw [←D0,hev 0 zo (pre 0 zo p06),V0]
      have e2:a.eval (.tmp d5)=goInt b:=by rw [←D5,hev 5 zo (pre 5 zo p56),V5]
      have e3:a.eval (.tmp d3)=.int .i64 (k+1):=by rw [←D3,hev 3 zo (pre 3 zo p36),V3]
      refine go _ _ _ _ _ _ ho ?_
      have hrun:(execOp a.eval ⟨none,.entryStore MT (.tmp d0) (.tmp d5) (.tmp d3),ty,pos,af,none⟩).run P w=.ok .skip W2:=by
       rw [hw1];simp only [execOp,e1,e2,e3,ZCe,r2,ZCc,ZCj]
      unfold Oper.wp;rw [hrun,Oper.upon_skip];refine ih _ _ _ ⟨I.sz,I.df,by rw [Array.size_setIfInBounds];exact I.ls,I.oth,λj hj hL=>I.tv j hj (by rwa [Zf3,ZBu zo] at hL),by rw [Zf3,ZBv rfl,ZBv rfl]⟩ hC' zo
 have e7:l.toArray.size=7:=by simp [h7]
 rw [e7];refine main 7 _ a0 W0 ⟨hdr.size,hdr.defers,by simp,λ_ _=>rfl,λj hj hL=>?_,?_⟩ (λj o ho hj=>?_) ?_
 ·exfalso;rw [ZDs] at hL;simp [show j < 7 by omega] at hL
 ·simp
 ·exfalso;rw [ZDs] at hj;by_cases hjl:j < 7<;>simp [hjl,Array.getElem?_replicate] at hj
 ·unfold unl;exact ZB1 List.countP_le_length zs
end Go.Pg
namespace Go.Proofs.YtkefeinbjbeidaaGreatDoor
open Go Go.RowKit Go.Pg Go.Proofs.Tryz
attribute [-bool_to_prop] Bool.and_eq_decide Bool.or_eq_decide Bool.decide_beq_decide decide_eq_decide
theorem sz3:szOf prog 3=some 1:=by kernel_rfl
theorem by3:Zem prog 3=some 8:=by kernel_rfl
theorem z3:Zao prog 3=some (.int .i64 0):=by kernel_rfl
theorem szL:szOf prog 161=some 1:=by kernel_rfl
theorem byL:Zem prog 161=some 2:=by kernel_rfl
theorem zL:Zao prog 161=some (.int .u16 0):=by kernel_rfl
theorem szQ:szOf prog 121=some 1:=by kernel_rfl
theorem zQ:Zao prog 121=some (.int .u64 0):=by kernel_rfl
attribute [go_sem] underlying24 underlying3 underlying161 underlying189 underlying121 underlying21 sz3 by3 z3 szL byL zL
theorem Za1 (l:List Nat) (hs:l.length≤1000000000) (hl:Lm l):Pure prog 159 [lim l] (lim (toL (nv l))):=by
 refine Zaa (tok:=0) (rs:=[.tmp 2]) func159 rfl ntmps159 results159 call159 zr zs ?_
 (refine wkvp w_t w_t (w_s ?_);intros)
 refine Zad (ι:=Nat) (λk e m=>k≤l.length∧e 0=lim l∧e 3=.v (.int .i64 (k:Int))∧∀j,k≤j→gN l j=0) (λk=>k) l.length zr ?_ ?_
 ·rintro k e m ⟨hk,e0,e3,hz⟩
  have gl:=Zb2 hl (k - 1);by_cases h0:k=0
  ·subst h0
   (refine wkvp (w_2 e0 e3) w_t (w_s ?_);intros)
   have:=Zlk hl hk hz (.inl rfl);simp (disch:=omega) only [go_sem];rw [←this];rfl
  ·by_cases h1:gN l (k - 1)=0
   ·(refine wkvp (w_2 e0 e3) w_t (w_s ?_);intros)
    exact⟨k - 1,⟨zo,gW e0,by simp (disch:=omega) only [go_sem,e3];congr 2;omega,λj hj=>by
     rcases ZCg j k with h2 | h2
     ·rw [show j=k - 1 by omega];exact h1
     ·exact hz j h2⟩,zo⟩
   ·(refine wkvp (w_2 e0 e3) w_t (w_s ?_);intros)
    have:=Zlk hl hk hz (.inr zo);simp (disch:=omega) only [go_sem,this]
 ·exact⟨ZBw _,gC,gC,λj hj=>Zfk hj⟩
theorem slN {l:List Nat} (h:l=[]):lim l=.sl 1 []:=by subst h;rfl
theorem Zny (l:List Nat) (hs:l.length≤1000000000) (hl:Lm l):Pure prog 156 [lim l] (lim (toL (nv l))):=by
 have h1:=Zau hl;by_cases h0:toL (nv l)=[]
 ·rw [slN h0];refine Pure.wk (r:=.v (.slice none 0 0)) ?_ (.nil 1);have h2:(toL (nv l)).length=0:=by rw [h0];rfl
  refine Zaa (tok:=0) (rs:=[.tmp 2]) func156 rfl ntmps156 results156 call156 zr zs ?_
  (refine wkvp (w_1 h2) (w_1 (Za1 l hs hl)) (w_s ?_);intros)
  simp (disch:=omega) only [go_sem]
 ·have h2:0 < (toL (nv l)).length:=List.length_pos_iff.2 h0;refine Zaa (tok:=0) (rs:=[.tmp 2]) func156 rfl ntmps156 results156 call156 zr zs ?_
  (refine wkvp w_t (w_1 (Za1 l hs hl)) (w_s ?_);intros)
  simp (disch:=omega) only [go_sem,ZD3,List.drop_replicate,ZE8,ZBw]
theorem natOf (n:Nat) (hn:n < 18446744073709551616):Pure prog 122 [.v (.int .u64 (n:Int))] (lim (toL n)):=by
 by_cases h0:n=0
 ·subst h0;rw [slN Zax];refine Pure.wk (r:=.v (.slice none 0 0)) ?_ (.nil 1);refine Zaa (tok:=0) (rs:=[.tmp 2]) func122 rfl ntmps122 results122 call122 zr zs ?_
  (refine wkvp w_t w_t (w_s ?_);intros)
  refine Zad (ι:=Nat) (λk e m=>e 0=.v (.int .u64 0)∧e 3=.v (.slice none 0 0)) (λk=>k) 0 zr ?_ ?_
  ·rintro k e m ⟨e0,e3⟩
   (refine wkvp (w_2 e0 e3) w_t (w_s ?_);intros)
   simp (disch:=omega) only [go_sem]
  ·exact⟨by simp (disch:=omega) only [go_sem];rfl,gC⟩
 ·refine Zaa (tok:=0) (rs:=[.tmp 2]) func122 rfl ntmps122 results122 call122 zr zs ?_
  (refine wkvp w_t w_t (w_s ?_);intros)
  refine Zad (ι:=Nat) (λk e m=>k≤n∧e 0=.v (.int .u64 (k:Int))∧((k=n∧e 3=.v (.slice none 0 0))∨(k < n∧∃sv l,e 3=.own 12 sv∧m 12=some (.row sv 161 1 (u16s l) 0)∧l++toL k=toL n))) (λk=>k) n zr ?_ ?_
  ·rintro k e m ⟨hk,e0,hor⟩
   by_cases hk0:k=0
   ·subst hk0;rcases hor with⟨h1,_⟩ | ⟨_,sv,l,e3,em,hl⟩
    ·omega
    ·(refine wkvp (w_2 e0 e3) w_t (w_s ?_);intros)
     simp (disch:=omega) only [go_sem,em];rw [Zax,ZDf] at hl;rw [hl]
   ·rcases hor with⟨rfl,e3⟩ | ⟨_,sv,l,e3,em,hl⟩
    ·(refine wkvp (w_3 e0 e3 @Zbv) w_t (w_s ?_);intros)
     refine⟨k/65536,⟨zo,gW e0,.inr ⟨zo,_,[k%65536],gC,gC,?_⟩⟩,zo⟩;rw [Ze3 hk0];rfl
    ·have b1:=(Zae (n:=n) (k:=4)).2 hn;have b2:l.length≤(toL n).length:=by rw [←hl];simp
     (refine wkvp (w_4 e0 e3 em @Zbv) w_t (w_s ?_);intros)
     refine⟨k/65536,⟨zo,gW e0,.inr ⟨zo,_,l++[k%65536],gC,gC,?_⟩⟩,zo⟩;rw [←hl,Ze3 hk0];simp
  ·exact⟨ZBw _,gC,.inl ⟨rfl,gC⟩⟩
def cmpN (a b:Nat):Int:=if a < b then -1 else if b < a then 1 else 0
theorem Zt8 (a b:List Nat) (ha:a.length≤1000000000) (hb:b.length≤1000000000) (la:Lm a) (lb:Lm b):Pure prog 217 [lim a,lim b] (.v (.int .i64 (cmpN (nv a) (nv b)))):=by
 have h1:=Zau la;have h2:=Zau lb;have va:=Zap (nv a);have vb:=Zap (nv b);have ma:=Zar (nv a);have mb:=Zar (nv b);refine Zaa (tok:=0) (rs:=[.tmp 4]) func217 rfl ntmps217 results217 call217 zr zs ?_;by_cases hlt:(toL (nv a)).length < (toL (nv b)).length
 ·have:nv a < nv b:=by
   rcases ZCg (nv a) (nv b) with h | h
   ·exact h
   ·have:=Za7 h;omega
  (refine wkvp w_t (w_2 (Za1 a ha la) (Za1 b hb lb)) (w_s ?_);intros)
  simp (disch:=omega) only [go_sem,cmpN,ZBv this]
 ·by_cases hgt:(toL (nv b)).length < (toL (nv a)).length
  ·have:nv b < nv a:=by
    rcases ZCg (nv b) (nv a) with h | h
    ·exact h
    ·have:=Za7 h;omega
   have this2:¬nv a < nv b:=zo
   (refine wkvp w_t (w_2 (Za1 a ha la) (Za1 b hb lb)) (w_s ?_);intros)
   simp (disch:=omega) only [go_sem,cmpN,ZBv this,ZBu this2]
  ·(refine wkvp w_t (w_2 (Za1 a ha la) (Za1 b hb lb)) (w_s ?_);intros)
   refine Zad (ι:=Nat) (λk e m=>k≤(toL (nv a)).length∧e 0=lim (toL (nv a))∧e 1=lim (toL (nv b))∧e 5=.v (.int .i64 ((k:Int) - 1))∧nv ((toL (nv a)).drop k)=nv ((toL (nv b)).drop k)) (λk=>k) (toL (nv a)).length zr ?_ ?_
   ·rintro k e m ⟨hk,e0,e1,e5,hz⟩
    by_cases h0:k=0
    ·subst h0;rw [ZD9,ZD9,va,vb] at hz
     (refine wkvp (w_3 e0 e1 e5) w_t (w_s ?_);intros)
     simp (disch:=omega) only [go_sem,cmpN,hz,Nat.lt_irrefl,ZCx]
    ·have hk1:k - 1+1=k:=zo;have ga:=Zb2 ma (k - 1);have gb:=Zb2 mb (k - 1);by_cases p1:gN (toL (nv a)) (k - 1) < gN (toL (nv b)) (k - 1)
     ·have:=Zt5 (k:=k - 1) ma mb (by rw [hk1];exact hz) p1;rw [va,vb] at this
      (refine wkad (w_3 e0 e1 e5) w_t w_t (w_s ?_);intros)
      simp (disch:=omega) only [go_sem,cmpN,ZBv this]
     ·by_cases p2:gN (toL (nv b)) (k - 1) < gN (toL (nv a)) (k - 1)
      ·have:=Zt5 (k:=k - 1) mb ma (by rw [hk1];exact hz.symm) p2;rw [va,vb] at this;have this2:¬nv a < nv b:=zo
       (refine wkad (w_3 e0 e1 e5) w_t w_t (w_s ?_);intros)
       simp (disch:=omega) only [go_sem,cmpN,ZBv this,ZBu this2]
      ·(refine wkad (w_3 e0 e1 e5) w_t w_t (w_s ?_);intros)
       refine⟨k - 1,⟨zo,gW e0,gW e1,by simp (disch:=omega) only [go_sem,e5];congr 2;omega,?_⟩,zo⟩;rw [Zb3,Zb3 (toL (nv b)),hk1,hz];omega
   ·refine⟨ZBw _,gC,gC,gC,?_⟩;rw [ZDo (ZBw _),ZDo zo]
theorem natAdd (a b:List Nat) (ha:a.length≤1000000000) (hb:b.length≤1000000000) (la:Lm a) (lb:Lm b):Pure prog 222 [lim a,lim b] (lim (toL (nv a+nv b))):=by
 have h1:=Zau la;have h2:=Zau lb;have va:=Zap (nv a);have vb:=Zap (nv b);have ma:=Zar (nv a);have mb:=Zar (nv b)
 obtain⟨A,B,hA,hB,hle,hAl,hLA,hLB,hAB,hm⟩:∃A B,A=(if (toL (nv a)).length < (toL (nv b)).length then toL (nv b) else toL (nv a))∧B=(if (toL (nv a)).length < (toL (nv b)).length then toL (nv a) else toL (nv b))∧B.length≤A.length∧A.length≤1000000000∧Lm A∧Lm B∧nv A+nv B=nv a+nv b∧A.length≤(toL (nv a+nv b)).length:=by
  by_cases hlt:(toL (nv a)).length < (toL (nv b)).length
  ·exact⟨_,_,(ZBv hlt).symm,(ZBv hlt).symm,zo,zo,mb,ma,zo,Za7 zo⟩
  ·exact⟨_,_,(ZBu hlt).symm,(ZBu hlt).symm,zo,zo,ma,mb,zo,Za7 zo⟩
 refine Zaa (tok:=0) (rs:=[.tmp 4]) func222 rfl ntmps222 results222 call222 zr zs ?_;rcases ZCg (toL (nv a)).length (toL (nv b)).length with hlt | hge
 rotate_left
 have hlt:¬(toL (nv a)).length < (toL (nv b)).length:=zo;all_goals
  (first|rw [ZBv hlt] at hA hB|rw [ZBu hlt] at hA hB)
  (refine wkvp w_t (w_2 (Za1 a ha la) (Za1 b hb lb)) (w_s ?_);intros)
  rw [←hA]
  try rw [←hB]
  refine Zad (ι:=Nat) (λk e m=>k≤A.length∧e 0=lim A∧e 1=lim B∧e 26=lim A∧e 27=.v (.int .i64 A.length)∧e 28=.v (.int .i64 k)∧∃sv o c,e 5=.own 25 sv∧e 6=.v (.int .u32 (c:Nat))∧m 25=some (.row sv 161 1 (u16s o) 0)∧o.length=A.length∧Lm o∧c≤1∧nv (o.take k)+65536 ^ k*c=nv (A.take k)+nv (B.take k)) (λk=>A.length - k) 0 zr ?_ ?_
  ·rintro k e m ⟨hk,e0,e1,e26,e27,e28,sv,o,c,e5,e6,em,hol,hLo,hc,hv⟩
   have ga:=Zb2 hLA k;have gb:=Zb2 hLB k;have hs:=Zvb (x:=gN A k) (y:=gN B k) hv;have w1:(c+gN A k+gN B k)/65536≤1:=zo;have w2:(c+gN A k+gN B k)%65536 < 65536:=zo;by_cases hlt2:k < A.length
   ·rw [←Zde (o:=o) zo,←ZC5,←Zaz,←Zaz] at hs;by_cases hkb:k < B.length
    ·(refine wkvp (w_11 e0 e1 e26 e27 e28 e5 e6 em hol @Za3 @Zbv) w_t (w_s ?_);intros)
     exact⟨k+1,⟨zo,gW e0,gW e1,gW e26,gW e27,gV e28,_,_,_,gW e5,gC,gC,by simpa using hol,hLo.set k w2,w1,hs⟩,zo⟩
    ·have g0:gN B k=0:=Zfk zo;simp only [g0,ZDe] at hs w1 w2
     (refine wkvp (w_11 e0 e1 e26 e27 e28 e5 e6 em hol @Za3 @Zbv) w_t (w_s ?_);intros)
     exact⟨k+1,⟨zo,gW e0,gW e1,gW e26,gW e27,gV e28,_,_,_,gW e5,gC,gC,by simpa using hol,hLo.set k w2,w1,hs⟩,zo⟩
   ·have hkA:k=A.length:=zo;subst hkA;rw [Zbr (ZBw _),Zbr hle,Zbr zo,hAB] at hv;by_cases hc0:c=0
    ·subst hc0;rw [ZEm,ZDe] at hv
     (refine wkvp (w_9 e0 e1 e26 e27 e28 e5 e6 em hol) w_t (w_s ?_);intros)
     simp (disch:=omega) only [go_sem,em];rw [canon' hLo (by rw [hv];omega),hv]
    ·have hc1:c=1:=zo;subst hc1
     (refine wkvp (w_10 e0 e1 e26 e27 e28 e5 e6 em hol @Zbv) w_t (w_s ?_);intros)
     simp (disch:=omega) only [go_sem];have h3:nv (o++[1])=nv a+nv b:=by rw [Zec,hol];simpa [nv] using hv
     rw [←h3,←canon (hLo.append (Lm.one zo)) (.inr (by simp [gN]))]
  ·refine⟨ZB5 _,gC,gC,gC,gC,gC,_,List.replicate A.length 0,0,gC,gC,gC,by simp,Lm.zeros _,zo,by simp [nv]⟩
theorem okTup {a:AV} {n:Int} (h:a=.v (.slice none 0 0)):Wk (.tup [a,.v (.int .i64 n)]) (.tup [lim [],.v (.int .i64 n)]):=by
 subst h;exact Wk.pair (.nil 1)
theorem natSub (a b:List Nat) (ha:a.length≤1000000000) (hb:b.length≤1000000000) (la:Lm a) (lb:Lm b) :
 Pure prog 223 [lim a,lim b] (.tup [lim (if nv a < nv b then [] else toL (nv a - nv b)),.v (.int .i64 (if nv a < nv b then 2 else 0))]):=by
 by_cases hlt:nv a < nv b
 ·rw [ZBv hlt,ZBv hlt];refine Pure.wk ?_ (okTup rfl);refine Zaa (tok:=0) (rs:=[.tmp 4,.tmp 5]) func223 rfl ntmps223 results223 call223 zr zs ?_;have hc:cmpN (nv a) (nv b)=-1:=by unfold cmpN;rw [ZBv hlt]
  (refine wkvp (w_1 hc) (w_1 (Zt8 a b ha hb la lb)) (w_s ?_);intros)
  simp (disch:=omega) only [go_sem]
 ·rw [ZBu hlt,ZBu hlt];have h1:=Zau la;have va:=Zap (nv a);have vb:=Zap (nv b);have ma:=Zar (nv a);have mb:=Zar (nv b);have h2:(toL (nv b)).length≤(toL (nv a)).length:=Za7 zo;have hc:0≤cmpN (nv a) (nv b):=by unfold cmpN;rw [ZBu hlt];split<;>omega
  generalize hA:toL (nv a)=A at *;generalize hB:toL (nv b)=B at *;refine Zaa (tok:=0) (rs:=[.tmp 4,.tmp 5]) func223 rfl ntmps223 results223 call223 zr zs ?_
  (refine wkvp (w_2 hA hB) (w_3 (Zt8 a b ha hb la lb) (Za1 a ha la) (Za1 b hb lb)) (w_s ?_);intros)
  rw [hA,hB];refine Zad (ι:=Nat) (λk e m=>k≤A.length∧(e 1=lim B∧e 22=lim A∧e 23=.v (.int .i64 A.length)∧e 24=.v (.int .i64 k))∧∃sv o r,(e 6=.own 21 sv∧e 7=.v (.int .i32 (r:Nat))∧m 21=some (.row sv 161 1 (u16s o) 0))∧o.length=A.length∧Lm o∧r≤1∧nv (o.take k)+nv (B.take k)=nv (A.take k)+65536 ^ k*r) (λk=>A.length - k) 0 zr ?_ ?_
  ·rintro k e m ⟨hk,⟨e1,e22,e23,e24⟩,sv,o,r,⟨e6,e7,em⟩,hol,hLo,hr,hv⟩
   have ga:=Zb2 ma k;have gb:=Zb2 mb k;by_cases hlt2:k < A.length
   ·have step:∀(d r':Nat),d+r+gN B k=gN A k+65536*r'→d < 65536→r'≤1→(o.set k d).length=A.length∧Lm (o.set k d)∧r'≤1∧nv ((o.set k d).take (k+1))+nv (B.take (k+1))=nv (A.take (k+1))+65536 ^ (k+1)*r':=by
     intro d r' hd h3 h4;have:=Ztj hv hd;rw [Zde zo,Zaz,Zaz,ZC5];exact⟨by simpa using hol,hLo.set k h3,h4,this⟩
    by_cases hneg:gN A k < r+gN B k
    ·have hs:=step (gN A k+65536 - r - gN B k) 1 zo zo zo;have w:(gN A k:Int) - r - gN B k+65536=((gN A k+65536 - r - gN B k:Nat):Int):=zo;by_cases hkb:k < B.length
     ·(refine wkvp (w_9 e1 e22 e23 e24 e6 e7 em hol w) w_t (w_s ?_);intros)
      exact⟨k+1,⟨zo,gV (And.intro e1 (And.intro e22 (And.intro e23 e24))),sv,_,1,gW e6,hs⟩,zo⟩
     ·have g0:gN B k=0:=Zfk zo;simp only [g0,ZEs,ZDe] at hs w hneg;have w:(gN A k:Int) - r+65536=((gN A k+65536 - r:Nat):Int):=zo
      (refine wkvp (w_9 e1 e22 e23 e24 e6 e7 em hol w) w_t (w_s ?_);intros)
      exact⟨k+1,⟨zo,gV (And.intro e1 (And.intro e22 (And.intro e23 e24))),sv,_,1,gW e6,hs⟩,zo⟩
    ·have hs:=step (gN A k - r - gN B k) 0 zo zo zo;have w:(gN A k:Int) - r - gN B k=((gN A k - r - gN B k:Nat):Int):=zo;by_cases hkb:k < B.length
     ·(refine wkvp (w_9 e1 e22 e23 e24 e6 e7 em hol w) w_t (w_s ?_);intros)
      exact⟨k+1,⟨zo,gV (And.intro e1 (And.intro e22 (And.intro e23 e24))),sv,_,0,by(simp (disch:=omega) only [go_sem,e6,ZDp]<;>repeat' first|rfl|refine⟨?_,?_⟩),hs⟩,zo⟩
     ·have g0:gN B k=0:=Zfk zo;simp only [g0,ZEs,ZDe] at hs hneg;have w:(gN A k:Int) - r=((gN A k - r:Nat):Int):=zo
      (refine wkvp (w_9 e1 e22 e23 e24 e6 e7 em hol w) w_t (w_s ?_);intros)
      exact⟨k+1,⟨zo,gV (And.intro e1 (And.intro e22 (And.intro e23 e24))),sv,_,0,by(simp (disch:=omega) only [go_sem,e6,ZDp]<;>repeat' first|rfl|refine⟨?_,?_⟩),hs⟩,zo⟩
   ·have hkA:k=A.length:=zo;subst hkA;rw [Zbr zo,Zbr (ZBw _),Zbr h2,va,vb] at hv;have hno:=Zh0 hLo;rw [hol] at hno
    have hr0:r=0:=by
     rcases ZC3 r with h3 | h3
     ·exact h3
     ·have:r=1:=zo;subst this;omega
    subst hr0;have hno2:nv o=nv a - nv b:=zo
    (refine wkax (w_8 e1 e22 e23 e24 e6 e7 em hol) w_t w_t (w_1 (Za1 o zo hLo)) w_t w_t w_y (w_r 0) (w_s ?_);intros)
    simp (disch:=omega) only [go_sem,hno2]
  ·exact⟨ZB5 _,gC,_,List.replicate A.length 0,0,⟨gC,gC,gC⟩,by simp,Lm.zeros _,zo,by simp [nv]⟩
theorem natMul (a b:List Nat) (ha:a.length≤400000000) (hb:b.length≤400000000) (la:Lm a) (lb:Lm b):Pure prog 95 [lim a,lim b] (lim (toL (nv a*nv b))):=by
 have h1:=Zau la;have h2:=Zau lb;have va:=Zap (nv a);have vb:=Zap (nv b);have ma:=Zar (nv a);have mb:=Zar (nv b);by_cases h0:nv a=0∨nv b=0
 ·have hz:nv a*nv b=0:=Nat.mul_eq_zero.2 h0;rw [slN (show toL (nv a*nv b)=[] by rw [hz,Zax])];refine Pure.wk (r:=.v (.slice none 0 0)) ?_ (.nil 1);refine Zaa (tok:=0) (rs:=[.tmp 4]) func95 rfl ntmps95 results95 call95 zr zs ?_;by_cases h3:nv a=0
  ·have h4:=Zbn.2 h3
   (refine wkvp (w_1 h4) (w_2 (Za1 a zo la) (Za1 b zo lb)) (w_s ?_);intros)
   simp (disch:=omega) only [go_sem]
  ·have h4:(toL (nv a)).length≠0:=λh=>h3 (Zbn.1 h);have h5:=Zbn.2 (h0.resolve_left h3)
   (refine wkvp (w_1 h5) (w_2 (Za1 a zo la) (Za1 b zo lb)) (w_s ?_);intros)
   simp (disch:=omega) only [go_sem]
 ·have h3:(toL (nv a)).length≠0:=λh=>h0 (.inl (Zbn.1 h));have h4:(toL (nv b)).length≠0:=λh=>h0 (.inr (Zbn.1 h));generalize hA:toL (nv a)=A at *;generalize hB:toL (nv b)=B at *;refine Zaa (tok:=0) (rs:=[.tmp 4]) func95 rfl ntmps95 results95 call95 zr zs ?_
  (refine wkvp (w_3 hA hB @Za3) (w_2 (Za1 a zo la) (Za1 b zo lb)) (w_s ?_);intros)
  rw [hA,hB];refine Zad (ι:=Nat) (λi e m=>i≤A.length∧(e 1=lim B∧e 29=lim A∧e 30=.v (.int .i64 A.length)∧e 31=.v (.int .i64 i))∧∃sv o,(e 5=.own 28 sv∧m 28=some (.row sv 161 1 (u16s o) 0))∧o.length=A.length+B.length∧Lm o∧(∀j,i+B.length≤j→gN o j=0)∧nv o=nv (A.take i)*nv B) (λi=>A.length - i) 0 zr ?_ ?_
  ·rintro i e m ⟨hi,⟨e1,e29,e30,e31⟩,sv,o,⟨e5,em⟩,hol,hLo,hz,hv⟩
   by_cases hlt:i < A.length
   ·have gx:=Zb2 ma i
    (refine wkvp (w_8 e1 e29 e30 e31 e5 em hol @Za3) w_t (w_s ?_);intros)
    refine Zad (ι:=Nat) (λk e' m'=>k≤B.length∧(e' 1=lim B∧e' 29=lim A∧e' 30=.v (.int .i64 A.length)∧e' 31=.v (.int .i64 i)∧e' 36=lim B∧e' 37=.v (.int .i64 B.length)∧e' 38=.v (.int .i64 k)∧e' 6=.v (.int .i64 i)∧e' 7=.v (.int .u16 (gN A i:Nat))∧e' 5=.own 28 sv)∧∃o' c,(e' 8=.v (.int .u32 (c:Nat))∧m' 28=some (.row sv 161 1 (u16s o') 0))∧o'.length=A.length+B.length∧Lm o'∧c < 65536∧(∀j,i+B.length≤j→gN o' j=0)∧nv o'+65536 ^ (i+k)*c=nv o+65536 ^ i*nv (B.take k)*gN A i) (λk=>B.length - k) 0 zr ?_ ?_
    ·rintro k e m ⟨hk,⟨e1,e29,e30,e31,e36,e37,e38,e6,e7,e5⟩,o',c,⟨e8,em⟩,hol',hLo',hc,hz',hv'⟩
     have gy:=Zb2 mb k;have go:=Zb2 hLo' (i+k);have bd:=Zpy gx gy;by_cases hkb:k < B.length
     ·have hs:=Zt9 (x:=gN A i) (y:=gN B k) rfl (Zps (o:=o') (j:=i+k) zo _) hv';rw [←Zua,←Zaz,←ZC5,Nat.succ_eq_add_one,ZGs i] at hs;have w1:(c+(gN o' (i+k)+gN A i*gN B k))/65536 < 65536:=zo;have w2:(c+(gN o' (i+k)+gN A i*gN B k))%65536 < 65536:=zo;generalize hxy:gN A i*gN B k=xy at *
      (refine wkvp (w_17 e1 e29 e30 e31 e36 e37 e38 e6 e7 e5 e8 em hol' @Za3 @Zic @Zbv hxy) w_t (w_s ?_);intros)
      refine⟨k+1,⟨zo,gV (And.intro e1 (And.intro e29 (And.intro e30 (And.intro e31 (And.intro e36 (And.intro e37 (And.intro e38 (And.intro e6 (And.intro e7 e5))))))))),_,_,⟨gC,gC⟩,by simpa using hol',hLo'.set _ w2,w1,λj hj=>?_,hs⟩,zo⟩;rw [Zf4 zo,ZBu zo];exact hz' j hj
     ·have hkB:k=B.length:=zo;subst hkB;rw [Zbr (ZBw _)] at hv';have g0:=hz' (i+B.length) (ZBw _);have h5:=Zps (o:=o') (j:=i+B.length) zo c;rw [g0,ZEm,ZDe] at h5;have hcc:c%65536=c:=ZEa hc
      (refine wkvp (w_16 e1 e29 e30 e31 e36 e37 e38 e6 e7 e5 e8 em hol' @Za3 @Zbv hcc) w_t (w_s ?_);intros)
      refine⟨i+1,⟨zo,gV (And.intro e1 (And.intro e29 (And.intro e30 e31))),sv,_,⟨gW e5,gC⟩,by simpa using hol',hLo'.set _ hc,λj hj=>?_,?_⟩,zo⟩
      ·rw [Zf4 zo,ZBu zo];exact hz' j zo
      ·rw [h5,hv',hv,Zaz,ZCo];congr 1;simp only [ZC6,ZCy,ZFp]
    ·exact⟨ZB5 _,gW (And.intro e1 (And.intro e29 (And.intro e30 (And.intro e31 e5)))),_,0,⟨gC,gW em⟩,hol,hLo,zo,hz,by simp [nv]⟩
   ·have hiA:i=A.length:=zo;subst hiA;rw [Zbr (ZBw _),va,vb] at hv
    (refine wkax (w_7 e1 e29 e30 e31 e5 em hol) w_t w_t (w_1 (Za1 o zo hLo)) w_t w_t w_y (w_r 0) (w_s ?_);intros)
    simp (disch:=omega) only [go_sem,hv]
  ·exact⟨ZB5 _,gC,_,List.replicate (A.length+B.length) 0,⟨gC,gC⟩,by simp,Lm.zeros _,λj hj=>Zhq _ _,by simp [nv,Znw]⟩
attribute [go_sem] underlying9 underlying5 underlying190
theorem Zqr (x:Nat) (hx:x < 65536):Pure prog 161 [.v (.int .u16 (x:Int))] (.v (.int .i64 (Zfd x:Nat))):=by
 refine Zaa (tok:=0) (rs:=[.tmp 2]) func161 rfl ntmps161 results161 call161 zr zs ?_;by_cases h:256≤x
 ·have b:=Zgg (i:=x/256) zo;have e:Zfd x=8+len8 (x/256):=ZBv h
  (repeat' (first|(apply Zrz (g:=len8) (n:=256) zk zk zo)|(with_reducible first|refine stp ?_|apply gx1|apply gx2|apply gx3|apply gx4|apply gx5|apply gx6|apply gx7)|(with_reducible refine Zcm ?_;intro _)|((with_reducible refine gE ?_);(try simp (disch:=omega) only [go_sem])<;>first|rfl|omega)|with_reducible refine Zak zd ?_))
  simp (disch:=omega) only [go_sem,e,Int.natCast_add,Int.cast_ofNat_Int]
 ·have b:=Zgg (i:=x) zo;have e:Zfd x=len8 x:=ZBu h
  (repeat' (first|(apply Zrz (g:=len8) (n:=256) zk zk zo)|(with_reducible first|refine stp ?_|apply gx1|apply gx2|apply gx3|apply gx4|apply gx5|apply gx6|apply gx7)|(with_reducible refine Zcm ?_;intro _)|((with_reducible refine gE ?_);(try simp (disch:=omega) only [go_sem])<;>first|rfl|omega)|with_reducible refine Zak zd ?_))
  simp (disch:=omega) only [go_sem,e,ZB9]
theorem bitsLz16 (x:Nat) (hx:x < 65536):Pure prog 219 [.v (.int .u16 (x:Int))] (.v (.int .i64 ((16 - Zfd x:Nat):Int))):=by
 refine Zaa (tok:=0) (rs:=[.tmp 2]) func219 rfl ntmps219 results219 call219 zr zs ?_;have b:=Ziy hx;have w:(16:Int) - (Zfd x:Int)=((16 - Zfd x:Nat):Int):=zo
 (refine wkvp (w_1 w) (w_1 (Zqr x hx)) (w_s ?_);intros)
 simp (disch:=omega) only [go_sem]
def Zoq (n:Nat):Nat:=if n=0 then 0 else 16*((toL n).length - 1)+Zfd (gN (toL n) ((toL n).length - 1))
theorem Zht {n:Nat}:Zoq n=0↔n=0:=by
 constructor
 ·intro h;unfold Zoq at h;split at h
  ·assumption
  ·rename_i h0;have h1:=Zef h0;have:=(Ziy (Zb2 (Zar n) ((toL n).length - 1))).2 h1.2;omega
 ·rintro rfl;rfl
theorem natBits (l:List Nat) (hs:l.length≤1000000000) (hl:Lm l):Pure prog 99 [lim l] (.v (.int .i64 (Zoq (nv l):Nat))):=by
 have h1:=Zau hl;refine Zaa (tok:=0) (rs:=[.tmp 2]) func99 rfl ntmps99 results99 call99 zr zs ?_;by_cases h0:nv l=0
 ·have h2:=Zbn.2 h0;have h3:=Zht.2 h0
  (refine wkvp (w_1 h2) (w_1 (Za1 l hs hl)) (w_s ?_);intros)
  simp (disch:=omega) only [go_sem,h3];rfl
 ·obtain⟨h2,h3⟩:=Zef h0;have hb:Zoq (nv l)=16*((toL (nv l)).length - 1)+Zfd (gN (toL (nv l)) ((toL (nv l)).length - 1)):=ZBu h0;have b:=Ziy (Zb2 (Zar (nv l)) ((toL (nv l)).length - 1));have w:(16:Int)*(((toL (nv l)).length:Int) - 1)+(Zfd (gN (toL (nv l)) ((toL (nv l)).length - 1)):Nat)=(Zoq (nv l):Nat):=zo
  (repeat' (first|(with_reducible first|refine stp ?_|apply gx1|apply gx2|apply gx3|apply gx4|apply gx5|apply gx6|apply gx7|refine gw0 (Za1 l hs hl) ?_ ?_|refine gw0 (Zqr (gN (toL (nv l)) ((toL (nv l)).length - 1)) (Zb2 (Zar (nv l)) _)) ?_ ?_)|(with_reducible refine Zcm ?_;intro _)|((with_reducible refine gE ?_);(try simp (disch:=omega) only [go_sem,w])<;>first|rfl|omega)|with_reducible refine Zak zd ?_))
  simp (disch:=omega) only [go_sem,w]
theorem Zpw (a:List Nat) (d:Nat) (ha:a.length≤1000000000) (la:Lm a) (hd0:0 < d) (hd:d < 65536):Pure prog 218 [lim a,.v (.int .u16 (d:Int))] (.tup [lim (toL (nv a/d)),.v (.int .u16 ((nv a%d:Nat):Int))]):=by
 refine Zaa (tok:=0) (rs:=[.tmp 4,.tmp 5]) func218 rfl ntmps218 results218 call218 zr zs ?_
 (refine wkvp w_t w_t (w_s ?_);intros)
 refine Zad (ι:=Nat) (λk e m=>k≤a.length∧(e 0=lim a∧e 1=.v (.int .u16 (d:Int))∧e 8=.v (.int .i64 ((k:Int) - 1)))∧∃sv q r,(e 6=.own 11 sv∧e 7=.v (.int .u32 (r:Nat))∧m 11=some (.row sv 161 1 (u16s q) 0))∧q.length=a.length∧Lm q∧r < d∧(∀j,j < k→gN q j=0)∧nv (a.drop k)=d*nv (q.drop k)+r) (λk=>k) a.length zr ?_ ?_
 ·rintro k e m ⟨hk,⟨e0,e1,e8⟩,sv,q,r,⟨e6,e7,em⟩,hql,hLq,hr,hz,hv⟩
  by_cases h0:k=0
  ·subst h0;rw [ZD9,ZD9] at hv;have h2:nv a/d=nv q:=by rw [hv,Nat.mul_add_div hd0,ZGy hr,ZDe]
   have h3:nv a%d=r:=by rw [hv,Nat.mul_add_mod,ZEa hr]
   (refine wkax (w_7 e0 e1 e8 e6 e7 em hql) w_t w_t (w_1 (Za1 q zo hLq)) w_t w_t w_y (w_r 0) (w_s ?_);intros)
   simp (disch:=omega) only [go_sem,h2,h3]
  ·have ga:=Zb2 la (k - 1);have hd1:=div_step (x:=gN a (k - 1)) rfl hv
   have w1:(r*65536+gN a (k - 1))/d < 65536:=by
    rw [ZE0 hd0];have:(r+1)*65536≤d*65536:=ZCf _ hr;rw [ZCy 65536 d];omega
   have w2:(r*65536+gN a (k - 1))%d < d:=ZDj _ hd0;have hk1:k - 1+1=k:=zo;have hrr:r < 65536:=zo;have w3:((r*65536+gN a (k - 1))/d)%65536=(r*65536+gN a (k - 1))/d:=ZEa w1
   (refine wkvp (w_11 e0 e1 e8 e6 e7 em hql @Zd0 @Zfn @Zbv w3) w_t (w_s ?_);intros)
   refine⟨k - 1,⟨zo,⟨gW e0,gW e1,by(simp (disch:=omega) only [go_sem,e8];congr 2;omega)⟩,sv,_,_,⟨gW e6,gC,gC⟩,by simpa using hql,hLq.set _ w1,w2,λj hj=>?_,?_⟩,zo⟩
   ·rw [Zf4 zo,ZBu zo];exact hz j zo
   ·rw [Zb3,hk1,hd1,Zb3 (q.set _ _),hk1,Zf4 zo,ZBv rfl,List.drop_set_of_lt zo]
 ·exact⟨ZBw _,gC,_,List.replicate a.length 0,0,⟨gC,gC,gC⟩,by simp,Lm.zeros _,hd0,λj hj=>Zhq _ _,by rw [ZDo (ZBw _),ZDo zs];simp [nv]⟩
theorem natUint (l:List Nat) (hs:l.length≤1000000000) (hl:Lm l):Pure prog 193 [lim l] (.tup [.v (.int .u64 (if nv l < 18446744073709551616 then (nv l:Int) else 0)),.v (.bool (decide (nv l < 18446744073709551616)))]):=by
 have h1:=Zau hl;have hk:=Zae (n:=nv l) (k:=4);have va:=Zap (nv l);have ma:=Zar (nv l);refine Zaa (tok:=0) (rs:=[.tmp 2,.tmp 3]) func193 rfl ntmps193 results193 call193 zr zs ?_;by_cases hb:nv l < 18446744073709551616
 ·have h4:=hk.2 hb;generalize hA:toL (nv l)=A at *
  (refine wkvp (w_1 hA) (w_1 (Za1 l hs hl)) (w_s ?_);intros)
  rw [hA];refine Zad (ι:=Nat) (λk e m=>k≤A.length∧(e 12=lim A∧e 13=.v (.int .i64 A.length)∧e 14=.v (.int .i64 k)∧e 4=.v (.int .u64 (nv (A.take k):Nat)))) (λk=>A.length - k) 0 zr ?_ ?_
  ·rintro k e m ⟨hk,⟨e12,e13,e14,e4⟩⟩
   have ga:=Zb2 ma k;by_cases hlt:k < A.length
   ·have b1:nv (A.take k) < 65536 ^ k:=ZDx (Zh0 (ma.take k)) (ZDk zo (by rw [ZCh];omega));rw [Zpk] at b1;have w:=orS_64 (n:=nv (A.take k)) (x:=gN A k) (s:=16*k) b1 zo ga;rw [←Zpk,←Zaz,Zpk] at w
    have w2:shlI .u64 (gN A k:Int) ((16:Int)*(k:Int))=((gN A k*2 ^ (16*k):Nat):Int):=by
     have e:(16:Int)*(k:Int)=((16*k:Nat):Int):=zo;rw [e];refine shl_64 zo ?_;have:(2:Nat) ^ (16*k)≤2 ^ 48:=ZDk zo zo;have h5:gN A k*2 ^ (16*k)≤65535*2 ^ 48:=ZC7 zo this;omega
    (refine wkvp (w_6 e12 e13 e14 e4 w2 w) w_t (w_s ?_);intros)
    exact⟨k+1,⟨zo,gV (And.intro e12 (And.intro e13 (And.intro e14 e4)))⟩,zo⟩
   ·rw [Zbr zo,va] at e4
    (refine wkvp (w_4 e12 e13 e14 e4) w_t (w_s ?_);intros)
    simp (disch:=omega) only [go_sem,ZBv hb,ZB4 hb]
  ·exact⟨ZB5 _,gC⟩
 ·have h4:4 < (toL (nv l)).length:=by
   rcases ZCg 4 (toL (nv l)).length with h | h
   ·exact h
   ·exact absurd (hk.1 h) hb
  (refine wkvp w_t (w_1 (Za1 l hs hl)) (w_s ?_);intros)
  simp (disch:=omega) only [go_sem,ZBu hb,ZB3 hb]
theorem natRight (a:List Nat) (n:Nat) (ha:a.length≤1000000000) (la:Lm a) (hn:n≤1048576):Pure prog 259 [lim a,.v (.int .i64 (n:Int))] (lim (toL (nv a/2 ^ n))):=by
 have hns:n=16*(n/16)+n%16:=zo;have q1:(n:Int).tdiv 16=((n/16:Nat):Int):=Zd0 n 16;have q2:(n:Int).tmod 16=((n%16:Nat):Int):=Zfn n 16;have hs:n%16 < 16:=ZDj _ zo;rw [hns,Zv4,Zy2 la,←hns];generalize n/16=l at *;generalize n%16=s at *;by_cases hl:a.length≤l
 ·have hz:toL (nv (a.drop l)/2 ^ s)=[]:=by rw [ZDo hl];simp [nv,Zax]
  rw [slN hz];refine Pure.wk (r:=.v (.slice none 0 0)) ?_ (.nil 1);refine Zaa (tok:=0) (rs:=[.tmp 4]) func259 rfl ntmps259 results259 call259 zr zs ?_
  (refine wkvp (w_2 q1 q2) w_t (w_s ?_);intros)
  simp (disch:=omega) only [go_sem]
 ·have hc:(a.length:Int) - (l:Int)=((a.length - l:Nat):Int):=zo;refine Zaa (tok:=0) (rs:=[.tmp 4]) func259 rfl ntmps259 results259 call259 zr zs ?_
  (refine wkvp (w_3 q1 q2 hc) w_t (w_s ?_);intros)
  refine Zad (ι:=Nat) (λk e m=>k≤a.length - l∧(e 0=lim a∧e 5=.v (.int .i64 (l:Int))∧e 6=.v (.int .i64 (s:Int))∧e 24=.v (.int .i64 (a.length - l:Nat))∧e 25=.v (.int .i64 (k:Int)))∧∃sv o,(e 7=.own 22 sv∧m 22=some (.row sv 161 1 (u16s o) 0))∧o.length=a.length - l∧Lm o∧nv (o.take k)=(nv (a.drop l)/2 ^ s)%65536 ^ k) (λk=>a.length - l - k) 0 zr ?_ ?_
  ·rintro k e m ⟨hk,⟨e0,e5,e6,e24,e25⟩,sv,o,⟨e7,em⟩,hol,hLo,hv⟩
   by_cases hlt:k < a.length - l
   ·have ga:=Zb2 la (k+l);have gb:=Zb2 la (k+l+1)
    have hd:((gN a (k+l)+65536*gN a (k+l+1))/2 ^ s)%65536=(nv (a.drop l)/65536 ^ k/2 ^ s)%65536:=by
     rw [Zy2 (la.drop l),ZF5,Zb3,Zb3 a (l+k+1),shr_dig zo,ZEn l k]
    have hst:=shr_step hv hd;have w0:((gN a (k+l)+65536*gN a (k+l+1))/2 ^ s)%65536 < 65536:=ZDj _ zo;have sh:=λx=>shr_32 (x:=x) (s:=s) zo;by_cases hmore:k+l+1 < a.length
    ·(repeat' (first|(with_reducible first|refine stp ?_|apply gx1|apply gx2|apply gx3|apply gx4|apply gx5|apply gx6|apply gx7)|(with_reducible refine Zcm ?_;intro _)|((with_reducible refine gE ?_);(try simp (disch:=omega) only [go_sem,e0,e5,e6,e24,e25,e7,em,hol,Za3,Zbm,Zbv,or16_32',sh])<;>first|rfl|omega)|with_reducible refine Zak zd ?_))
     exact⟨k+1,⟨zo,gV (And.intro e0 (And.intro e5 (And.intro e6 (And.intro e24 e25)))),sv,_,⟨gW e7,gC⟩,by simpa using hol,hLo.set _ w0,by rw [Zde zo];exact hst⟩,zo⟩
    ·have g0:gN a (k+l+1)=0:=Zfk zo;simp only [g0,ZEm,ZDe] at hst w0
     (refine wkvp (w_12 e0 e5 e6 e24 e25 e7 em hol @Za3 @Zbm @Zbv sh) w_t (w_s ?_);intros)
     exact⟨k+1,⟨zo,gV (And.intro e0 (And.intro e5 (And.intro e6 (And.intro e24 e25)))),sv,_,⟨gW e7,gC⟩,by simpa using hol,hLo.set _ w0,by rw [Zde zo];exact hst⟩,zo⟩
   ·rw [Zbr zo] at hv;have h5:=Zh0 (la.drop l);rw [ZD7] at h5;have hk2:k=a.length - l:=zo;rw [ZEa (ZGl (ZF6 _ _) (by rw [hk2];exact h5))] at hv
    (refine wkax (w_8 e0 e5 e6 e24 e25 e7 em hol) w_t w_t (w_1 (Za1 o zo hLo)) w_t w_t w_y (w_r 0) (w_s ?_);intros)
    simp (disch:=omega) only [go_sem,hv]
  ·exact⟨ZB5 _,gC,_,List.replicate (a.length - l) 0,⟨gC,gC⟩,by simp,Lm.zeros _,by simp [nv,Nat.mod_one]⟩
theorem Zv7 (σ:Mem) (K:Nat) (sv:Value) (l:List Nat) (hs:l.length≤1000000000) (hl:Lm l) (hσ:σ K=some (.row sv 161 1 (u16s l) 0)) :
 ACall prog 159 [.own K sv] σ λr σ'=>r=.view K sv 1 0 (toL (nv l)).length∧σ'=σ:=by
 refine Zb1 (tok:=0) (rs:=[.tmp 2]) func159 rfl ntmps159 results159 call159 zr zs ?_
 (refine wkvp (w_1 hσ) w_t (w_s ?_);intros)
 refine Zad (ι:=Nat) (λk e m=>k≤l.length∧e 0=.own K sv∧e 3=.v (.int .i64 (k:Int))∧m=σ∧∀j,k≤j→gN l j=0) (λk=>k) l.length zr ?_ ?_
 ·rintro k e m ⟨hk,e0,e3,rfl,hz⟩
  have gl:=Zb2 hl (k - 1);have fin:(k=0∨0 < gN l (k - 1))→k=(toL (nv l)).length:=λh=>by
   rw [←Zlk hl hk hz h,ZCh,ZEb hk]
  by_cases h0:k=0
  ·subst h0;have f:=fin (.inl rfl)
   (refine wkvp (w_3 e0 e3 hσ) w_t (w_s ?_);intros)
   simp (disch:=omega) only [go_sem,←f]
  ·by_cases h1:gN l (k - 1)=0
   ·(refine wkvp (w_3 e0 e3 hσ) w_t (w_s ?_);intros)
    exact⟨k - 1,⟨zo,gW e0,by(simp (disch:=omega) only [go_sem,e3];congr 2;omega),rfl,λj hj=>by
     rcases ZCg j k with h2 | h2
     ·rw [show j=k - 1 by omega];exact h1
     ·exact hz j h2⟩,zo⟩
   ·have f:=fin (.inr zo)
    (refine wkvp (w_3 e0 e3 hσ) w_t (w_s ?_);intros)
    simp (disch:=omega) only [go_sem,←f,ZEs]
 ·exact⟨ZBw _,gC,gC,rfl,λj hj=>Zfk hj⟩
theorem Zpu (σ:Mem) (a:List Nat) (n:Nat) (ha:a.length≤400000000) (la:Lm a) (hn:n≤1048576) (h0:nv a≠0) :
 ACall prog 220 [lim a,.v (.int .i64 (n:Int))] σ λr σ'=>∃sv o,r=.view 44 sv 1 0 (toL (nv a*2 ^ n)).length∧σ'=upd σ 44 (some (.row sv 161 1 (u16s o) 0))∧o.length=(toL (nv a)).length+n/16+1∧Lm o∧nv o=nv a*2 ^ n:=by
 have hns:n=16*(n/16)+n%16:=zo;have q1:(n:Int).tdiv 16=((n/16:Nat):Int):=Zd0 n 16;have q2:(n:Int).tmod 16=((n%16:Nat):Int):=Zfn n 16;have hs:n%16 < 16:=ZDj _ zo
 have hnv:nv a*2 ^ n=nv a*2 ^ (n%16)*65536 ^ (n/16):=by
  have:=Zv3 (a:=nv a) (l:=n/16) (s:=n%16)
  rwa [←hns] at this
 have h1:=Zau la;have h2:=(Zef h0).1;have va:=Zap (nv a);have ma:=Zar (nv a);have h16:n/16≤65536:=zo;clear hns;generalize hl:n/16=l at *;generalize hss:n%16=s at *;generalize hA:toL (nv a)=A at *;refine Zb1 (tok:=0) (rs:=[.tmp 4]) func220 rfl ntmps220 results220 call220 zr zs ?_
 (refine wkvp (w_5 q1 q2 hA @Za3 @Zbm) (w_1 (Za1 a zo la)) (w_s ?_);intros)
 rw [hA];have e1:((A.length+l:Nat):Int)+3=((A.length+l+3:Nat):Int):=zo
 (refine wkvp (w_4 hA @Za3 @Zbm e1) w_t (w_s ?_);intros)
 refine Zad (ι:=Nat) (λk e m=>k≤A.length∧(e 5=.v (.int .i64 (l:Int))∧e 6=.v (.int .i64 (s:Int))∧e 45=lim A∧e 46=.v (.int .i64 A.length)∧e 47=.v (.int .i64 (k:Int)))∧∃sv o,(e 7=.own 44 sv∧m=upd σ 44 (some (.row sv 161 1 (u16s o) 0)))∧o.length=A.length+l+1∧Lm o∧gN o (k+l) < 2 ^ s∧(∀j,k+l < j→gN o j=0)∧nv o=nv (A.take k)*2 ^ s*65536 ^ l) (λk=>A.length - k) 0 zr ?_ ?_
 ·rintro k e m ⟨hk,⟨e5,e6,e45,e46,e47⟩,sv,o,⟨e7,rfl⟩,hol,hLo,hg,hz,hv⟩
  by_cases hlt:k < A.length
  ·have gx:=Zb2 ma k
   have p16:(2:Nat) ^ s≤32768:=by
    have:(2:Nat) ^ s≤2 ^ 15:=ZDk zo zo;omega
   have bx:gN A k*2 ^ s≤65535*32768:=ZC7 zo p16;have sh:=shl_32 (x:=gN A k) (s:=s) zo zo;have lo:=low_mul (x:=gN A k) (s:=s) zo;have hlo:(gN A k*2 ^ s)%65536 < 65536:=ZDj _ zo;rw [lo] at hlo;have hor:=or_16 (b:=gN o (k+l)) zo hg hlo;rw [←lo] at hor
   have hhi:gN A k*2 ^ s/65536 < 2 ^ s:=by
    rw [ZE0 zo,ZCy];exact Nat.mul_lt_mul_of_pos_left gx (ZGw s)
   have hsum:gN o (k+l)+(gN A k*2 ^ s)%65536 < 65536:=by
    rw [lo];have h5:(gN A k%2 ^ (16 - s)+1)*2 ^ s≤2 ^ (16 - s)*2 ^ s:=ZCf _ (ZDj _ (ZGw _));rw [←ZDb,ZG9 zo,ZCo,ZD1] at h5;omega
   have hcut:gN A k*2 ^ s/65536%65536=gN A k*2 ^ s/65536:=ZEa zo
   (refine wkvp (w_14 e5 e6 e45 e46 e47 e7 hol @Za3 @Zbm @Zbv sh hor hcut @l_set) w_t (w_s ?_);intros)
   refine⟨k+1,⟨zo,gV (And.intro e5 (And.intro e6 (And.intro e45 (And.intro e46 e47)))),sv,_,⟨gW e7,by(simp (disch:=omega) only [go_sem,Zh5]<;>repeat' first|rfl|refine⟨?_,?_⟩)⟩,by simpa using hol,(hLo.set _ hsum).set _ zo,?_,λj hj=>?_,?_⟩,zo⟩
   ·rw [Zf4 (by simp;omega),ZBv zo];exact hhi
   ·rw [Zf4 (by simp;omega),ZBu zo,Zf4 zo,ZBu zo];exact hz j zo
   ·have h3:=Zps (o:=o) (j:=k+l) zo (gN o (k+l)+(gN A k*2 ^ s)%65536);have h4:=Zps (o:=o.set (k+l) (gN o (k+l)+(gN A k*2 ^ s)%65536)) (j:=k+l+1) (by simp;omega) (gN A k*2 ^ s/65536);rw [Zf4 zo,ZBu zo,hz (k+l+1) zo,ZEm,ZDe] at h4;rw [h4,Zaz,ZCo,ZCo,←hv]
    have h5:65536 ^ (k+l)*(gN A k*2 ^ s%65536)+65536 ^ (k+l+1)*(gN A k*2 ^ s/65536)=65536 ^ k*gN A k*2 ^ s*65536 ^ l:=by
     rw [ZC5,ZC6 (65536 ^ (k+l)),←ZC2,Nat.mod_add_div,ZDb];simp only [ZC6,ZFp,ZCy]
    rw [ZC2] at h3;omega
  ·have hkA:k=A.length:=zo;subst hkA;rw [Zbr (ZBw _),va,←hnv] at hv;have ct:=Zv7 (upd σ 44 (some (.row sv 161 1 (u16s o) 0))) 44 sv o zo hLo (by simp only [Zan,ZC0]);rw [hv] at ct
   (repeat' (first|(with_reducible first|refine stp ?_|apply gx1|apply gx2|apply gx3|apply gx4|apply gx5|apply gx6|apply gx7|refine Zgz (ct) ?_)|(with_reducible refine Zcm ?_;intro _)|((with_reducible refine gE ?_);(try simp (disch:=omega) only [go_sem,e5,e6,e45,e46,e47,e7])<;>first|rfl|omega)|with_reducible refine Zak zd ?_))
   simp (disch:=omega) only [go_sem];exact⟨sv,o,rfl,rfl,hol,hLo,hv⟩
 ·refine⟨ZB5 _,gC,_,List.replicate (A.length+l+1) 0,⟨gC,gC⟩,by simp,Lm.zeros _,?_,λj _=>Zhq _ _,by simp [nv,Znw]⟩;rw [Zhq];exact ZGw s
theorem natShl (a:List Nat) (n:Nat) (ha:a.length≤400000000) (la:Lm a) (hn:n≤1048576):Pure prog 220 [lim a,.v (.int .i64 (n:Int))] (lim (toL (nv a*2 ^ n))):=by
 by_cases h0:nv a=0
 ·have h2:=Zbn.2 h0;rw [slN (show toL (nv a*2 ^ n)=[] by rw [h0,ZEp,Zax])];refine Pure.wk (r:=.v (.slice none 0 0)) ?_ (.nil 1);refine Zaa (tok:=0) (rs:=[.tmp 4]) func220 rfl ntmps220 results220 call220 zr zs ?_
  (refine wkvp (w_1 h2) (w_1 (Za1 a zo la)) (w_s ?_);intros)
  simp (disch:=omega) only [go_sem]
 ·refine Znr (Zpu Zag a n ha la hn h0) λr σ' ⟨sv,o,hr,hσ,hol,hLo,hv⟩=>?_;subst hr;subst hσ;have hlen:=Zau hLo;rw [hv] at hlen;refine⟨by simp (disch:=omega) only [go_sem],?_⟩;simp (disch:=omega) only [go_sem,ZCl];obtain⟨k,h1,h2⟩:=Znc hLo;rw [hv] at h2;have h3:k=(toL (nv a*2 ^ n)).length:=by rw [←h2,ZCh];omega
  rw [←h3,h2]
theorem natShr (a:List Nat) (n:Nat) (ha:a.length≤400000000) (la:Lm a) (h0:0 < n) (hn:n≤1048576):Pure prog 220 [lim a,.v (.int .i64 (-(n:Int)))] (lim (toL (nv a/2 ^ n))):=by
 by_cases hz:nv a=0
 ·have h2:=Zbn.2 hz;rw [slN (show toL (nv a/2 ^ n)=[] by rw [hz,Nat.zero_div,Zax])];refine Pure.wk (r:=.v (.slice none 0 0)) ?_ (.nil 1);refine Zaa (tok:=0) (rs:=[.tmp 4]) func220 rfl ntmps220 results220 call220 zr zs ?_
  (refine wkvp (w_1 h2) (w_1 (Za1 a zo la)) (w_s ?_);intros)
  simp (disch:=omega) only [go_sem]
 ·have h2:=(Zef hz).1;have h1:=Zau la;have hr:=natRight (toL (nv a)) n zo (Zar _) hn;rw [Zap] at hr;have w:(0:Int) - -(n:Int)=(n:Int):=zo;refine Zaa (tok:=0) (rs:=[.tmp 4]) func220 rfl ntmps220 results220 call220 zr zs ?_
  (refine wkvp (w_1 w) (w_2 (Za1 a zo la) hr) (w_s ?_);intros)
  simp (disch:=omega) only [go_sem]
theorem Zr6 (σ:Mem) (K:Nat) (sv:Value) (pre w post v:List Nat) (d:Nat) (hσ:σ K=some (.row sv 161 1 (u16s (pre++(w++post))) 0)) (hwv:w.length=v.length+1) (hsz:(pre++(w++post)).length≤1000000000) (lw:Lm w) (lv:Lm v) (hd:d < 65536) :
 ACall prog 261 [.view K sv 1 pre.length w.length,lim v,.v (.int .u32 (d:Int))] σ λr σ'=>∃(w':List Nat) (b:Nat),r=.v (.bool (decide (0 < (b:Int))))∧σ'=upd σ K (some (.row sv 161 1 (u16s (pre++(w'++post))) 0))∧w'.length=w.length∧Lm w'∧b≤1∧nv w'+d*nv v=nv w+65536 ^ w.length*b:=by
 have hsz2:pre.length+(w.length+post.length)≤1000000000:=by simpa using hsz
 refine Zb1 (tok:=0) (rs:=[.tmp 6]) func261 rfl ntmps261 results261 call261 zr zs ?_
 (refine wkvp w_t w_t (w_s ?_);intros)
 refine Zad (ι:=Nat) (λk e m=>k≤w.length∧(e 0=.view K sv 1 pre.length w.length∧e 1=lim v∧e 2=.v (.int .u32 (d:Int))∧e 12=.v (.int .i64 w.length)∧e 13=.v (.int .i64 (k:Int)))∧∃w' c r,(e 7=.v (.int .u32 (c:Nat))∧e 8=.v (.int .i32 (r:Nat))∧m=upd σ K (some (.row sv 161 1 (u16s (pre++(w'++post))) 0)))∧w'.length=w.length∧Lm w'∧c < 65536∧(v.length < k→c=0)∧r≤1∧(∀j,k≤j→gN w' j=gN w j)∧nv (w'.take k)+d*nv (v.take k)=nv (w.take k)+65536 ^ k*(c+r)) (λk=>w.length - k) 0 zr ?_ ?_
 ·rintro k e m ⟨hk,⟨e0,e1,e2,e12,e13⟩,w',c,r,⟨e7,e8,rfl⟩,hwl,hLw,hc,hcz,hr,hsame,hv⟩
  by_cases hlt:k < w.length
  ·have gw:=Zb2 lw k;have gv:=Zb2 lv k;have hgw:=hsame k (ZBw _);have mid:=gN_mid (pre:=pre) (post:=post) (show k < w'.length by omega);have smid:=λx=>Zxr (pre:=pre) (post:=post) (show k < w'.length by omega) x;have hln:(pre++(w'++post)).length=pre.length+(w'.length+post.length):=by simp
   have bd:=Zpy hd gv;have step:∀(x r' c1:Nat),c1=c+d*gN v k→x+c1%65536+r=gN w k+65536*r'→x < 65536→r'≤1 →
    (w'.set k x).length=w.length∧Lm (w'.set k x)∧c1/65536 < 65536∧(v.length < k+1→c1/65536=0)∧r'≤1∧(∀j,k+1≤j→gN (w'.set k x) j=gN w j)∧nv ((w'.set k x).take (k+1))+d*nv (v.take (k+1))=nv (w.take (k+1))+65536 ^ (k+1)*(c1/65536+r'):=by
    intro x r' c1 h1 h2 h3 h4;have h5:=Zq8 hv h1 h2;refine⟨by simpa using hwl,hLw.set k h3,zo,λh6=>?_,h4,λj hj=>?_,?_⟩
    ·have:gN v k=0:=Zfk zo;rw [this,ZEm] at h1;omega
    ·rw [Zf4 zo,ZBu zo];exact hsame j zo
    ·rw [Zde zo,Zaz,Zaz,ZC5];exact h5
   by_cases hkv:k < v.length
   ·generalize hxy:d*gN v k=xy at *;by_cases hneg:gN w k < (c+xy)%65536+r
    ·have hs:=step (gN w k+65536 - (c+xy)%65536 - r) 1 (c+xy) rfl zo zo zo;have wv:(gN w k:Int) - ((c+xy)%65536:Nat) - r+65536=((gN w k+65536 - (c+xy)%65536 - r:Nat):Int):=zo;have wm:(gN w k+65536 - (c+xy)%65536 - r)%65536=gN w k+65536 - (c+xy)%65536 - r:=ZEa zo
     (refine wkvp (w_18 e0 e1 e2 e12 e13 e7 e8 hln hwl mid smid hgw @Za3 @Zic @Zbv hxy wv wm) w_t (w_s ?_);intros)
     exact⟨k+1,⟨zo,gV (And.intro e0 (And.intro e1 (And.intro e2 (And.intro e12 e13)))),_,_,1,⟨gC,gC,by(simp (disch:=omega) only [go_sem,Zh5]<;>repeat' first|rfl|refine⟨?_,?_⟩)⟩,hs⟩,zo⟩
    ·have hs:=step (gN w k - (c+xy)%65536 - r) 0 (c+xy) rfl zo zo zo;have wv:(gN w k:Int) - ((c+xy)%65536:Nat) - r=((gN w k - (c+xy)%65536 - r:Nat):Int):=zo;have wm:(gN w k - (c+xy)%65536 - r)%65536=gN w k - (c+xy)%65536 - r:=ZEa zo
     (refine wkvp (w_18 e0 e1 e2 e12 e13 e7 e8 hln hwl mid smid hgw @Za3 @Zic @Zbv hxy wv wm) w_t (w_s ?_);intros)
     exact⟨k+1,⟨zo,gV (And.intro e0 (And.intro e1 (And.intro e2 (And.intro e12 e13)))),_,_,0,⟨gC,gC,by(simp (disch:=omega) only [go_sem,Zh5]<;>repeat' first|rfl|refine⟨?_,?_⟩)⟩,hs⟩,zo⟩
   ·have g0:gN v k=0:=Zfk zo;have hcm:c%65536=c:=ZEa hc;simp only [g0,ZEm,ZDe] at step;by_cases hneg:gN w k < c+r
    ·have hs:=step (gN w k+65536 - c - r) 1 c rfl zo zo zo;have wv:(gN w k:Int) - (c:Nat) - r+65536=((gN w k+65536 - c - r:Nat):Int):=zo;have wm:(gN w k+65536 - c - r)%65536=gN w k+65536 - c - r:=ZEa zo
     (refine wkvp (w_16 e0 e1 e2 e12 e13 e7 e8 hln hwl mid smid hgw @Zbv hcm wv wm) w_t (w_s ?_);intros)
     exact⟨k+1,⟨zo,gV (And.intro e0 (And.intro e1 (And.intro e2 (And.intro e12 e13)))),_,_,1,⟨gC,gC,by(simp (disch:=omega) only [go_sem,Zh5]<;>repeat' first|rfl|refine⟨?_,?_⟩)⟩,hs⟩,zo⟩
    ·have hs:=step (gN w k - c - r) 0 c rfl zo zo zo;have wv:(gN w k:Int) - (c:Nat) - r=((gN w k - c - r:Nat):Int):=zo;have wm:(gN w k - c - r)%65536=gN w k - c - r:=ZEa zo
     (refine wkvp (w_16 e0 e1 e2 e12 e13 e7 e8 hln hwl mid smid hgw @Zbv hcm wv wm) w_t (w_s ?_);intros)
     exact⟨k+1,⟨zo,gV (And.intro e0 (And.intro e1 (And.intro e2 (And.intro e12 e13)))),_,_,0,⟨gC,gC,by(simp (disch:=omega) only [go_sem,Zh5]<;>repeat' first|rfl|refine⟨?_,?_⟩)⟩,hs⟩,zo⟩
  ·have hkw:k=w.length:=zo;subst hkw;have hc0:=hcz zo;subst hc0;rw [Zbr zo,Zbr zo,Zbr (ZBw _),ZCl] at hv
   (refine wkvp (w_7 e0 e1 e2 e12 e13 e7 e8) w_t (w_s ?_);intros)
   simp (disch:=omega) only [go_sem];refine⟨w',r,?_,?_,hwl,hLw,hr,hv⟩<;>rfl
 ·exact⟨ZB5 _,gC,w,0,0,⟨gC,gC,by rw [Ztb hσ]⟩,rfl,lw,zo,λ_=>rfl,zo,λ_ _=>rfl,by simp [nv]⟩
theorem Zv8 (σ:Mem) (K:Nat) (sv:Value) (pre w post v:List Nat) (hσ:σ K=some (.row sv 161 1 (u16s (pre++(w++post))) 0)) (hwv:v.length≤w.length) (hsz:(pre++(w++post)).length≤1000000000) (lw:Lm w) (lv:Lm v) :
 ACall prog 262 [.view K sv 1 pre.length w.length,lim v] σ λr σ'=>∃(w':List Nat) (c:Nat),r=.tup []∧σ'=upd σ K (some (.row sv 161 1 (u16s (pre++(w'++post))) 0))∧w'.length=w.length∧Lm w'∧c≤1∧nv w'+65536 ^ w.length*c=nv w+nv v:=by
 have hsz2:pre.length+(w.length+post.length)≤1000000000:=by simpa using hsz
 refine Zb1 (tok:=0) (rs:=[]) func262 rfl ntmps262 results262 call262 zr zs ?_
 (refine wkvp w_t w_t (w_s ?_);intros)
 refine Zad (ι:=Nat) (λk e m=>k≤w.length∧(e 0=.view K sv 1 pre.length w.length∧e 1=lim v∧e 7=.v (.int .i64 w.length)∧e 8=.v (.int .i64 (k:Int)))∧∃w' c,(e 4=.v (.int .u32 (c:Nat))∧m=upd σ K (some (.row sv 161 1 (u16s (pre++(w'++post))) 0)))∧w'.length=w.length∧Lm w'∧c≤1∧(∀j,k≤j→gN w' j=gN w j)∧nv (w'.take k)+65536 ^ k*c=nv (w.take k)+nv (v.take k)) (λk=>w.length - k) 0 zr ?_ ?_
 ·rintro k e m ⟨hk,⟨e0,e1,e7,e8⟩,w',c,⟨e4,rfl⟩,hwl,hLw,hc,hsame,hv⟩
  by_cases hlt:k < w.length
  ·have gw:=Zb2 lw k;have gv:=Zb2 lv k;have hgw:=hsame k (ZBw _);have mid:=gN_mid (pre:=pre) (post:=post) (show k < w'.length by omega);have smid:=λx=>Zxr (pre:=pre) (post:=post) (show k < w'.length by omega) x;have hln:(pre++(w'++post)).length=pre.length+(w'.length+post.length):=by simp
   have hs:=Zvb (x:=gN w k) (y:=gN v k) hv;have w1:(c+gN w k+gN v k)/65536≤1:=zo;have w2:(c+gN w k+gN v k)%65536 < 65536:=zo;have hsm:∀x j,k+1≤j→gN (w'.set k x) j=gN w j:=λx j hj=>by
    rw [Zf4 zo,ZBu zo];exact hsame j zo
   rw [←Zde (o:=w') zo,←ZC5,←Zaz,←Zaz] at hs;by_cases hkv:k < v.length
   ·(refine wkvp (w_12 e0 e1 e7 e8 e4 hln hwl mid smid hgw @Za3 @Zbv) w_t (w_s ?_);intros)
    exact⟨k+1,⟨zo,gV (And.intro e0 (And.intro e1 (And.intro e7 e8))),_,_,⟨gC,by(simp (disch:=omega) only [go_sem,Zh5]<;>repeat' first|rfl|refine⟨?_,?_⟩)⟩,by simpa using hwl,hLw.set k w2,w1,hsm _,hs⟩,zo⟩
   ·have g0:gN v k=0:=Zfk zo;simp only [g0,ZDe] at hs w1 w2
    (refine wkvp (w_12 e0 e1 e7 e8 e4 hln hwl mid smid hgw @Za3 @Zbv) w_t (w_s ?_);intros)
    exact⟨k+1,⟨zo,gV (And.intro e0 (And.intro e1 (And.intro e7 e8))),_,_,⟨gC,by(simp (disch:=omega) only [go_sem,Zh5]<;>repeat' first|rfl|refine⟨?_,?_⟩)⟩,by simpa using hwl,hLw.set k w2,w1,hsm _,hs⟩,zo⟩
  ·have hkw:k=w.length:=zo;subst hkw;rw [Zbr zo,Zbr (ZBw _),Zbr hwv] at hv
   (refine wkvp (w_5 e0 e1 e7 e8 e4) w_t (w_s ?_);intros)
   simp (disch:=omega) only [go_sem];refine⟨w',c,?_,hwl,hLw,hc,hv⟩<;>rfl
 ·exact⟨ZB5 _,gC,w,0,⟨gC,by rw [Ztb hσ]⟩,rfl,lw,zo,λ_ _=>rfl,by simp [nv]⟩
theorem Zr5 (σ:Mem) (sv:Value) (g2 g3 g5 g7 g9 g10:Nat) (U post v:List Nat) (d r j:Nat) (h2:σ 2=some (.box g2 24 [.view 44 sv 1 0 U.length] false)) (h3:σ 3=some (.box g3 24 [lim v] false)) (h5:σ 5=some (.box g5 3 [.v (.int .i64 v.length)] false))
 (h7:σ 7=some (.box g7 3 [.v (.int .i64 (j:Int))] false)) (h9:σ 9=some (.box g9 121 [.v (.int .u64 (d:Int))] false)) (h10:σ 10=some (.box g10 121 [.v (.int .u64 (r:Int))] false)) (h44:σ 44=some (.row sv 161 1 (u16s (U++post)) 0))
 (hn:2≤v.length) (hj:j+v.length < U.length) (hsz:U.length+post.length≤1000000000) (lv:Lm v) (lU:Lm U) (hr:r < 65536) :
 ACall prog 260 [.pbox 9 g9 0,.pbox 3 g3 0,.pbox 5 g5 0,.pbox 10 g10 0,.pbox 2 g2 0,.pbox 7 g7 0] σ λx σ'=>x=.v (.bool (decide (65536≤d) || decide (r*65536+gN U (j+v.length - 2) < d*gN v (v.length - 2))))∧σ'=σ:=by
 refine Zb1 (tok:=0) (rs:=[.tmp 6]) func260 rfl ntmps260 results260 call260 zr zs ?_;by_cases hd:65536≤d
 ·(refine wkad (w_7 h2 h3 h5 h7 h9 h10 h44) w_t w_t (w_s ?_);intros)
  simp (disch:=omega) only [go_sem,ZB4 hd]
 ·have gv:=Zb2 lv (v.length - 2);have gu:=Zb2 lU (j+v.length - 2);have bd:=Zpy (x:=d) zo gv;have e1:(v.length:Int) - 2=((v.length - 2:Nat):Int):=zo;have e2:((j+v.length:Nat):Int) - 2=((j+v.length - 2:Nat):Int):=zo;have hg:gN (U++post) (j+v.length - 2)=gN U (j+v.length - 2):=Zsn zo;have hl:(U++post).length=U.length+post.length:=ZCr;generalize hxy:d*gN v (v.length - 2)=xy at *;by_cases ht:r*65536+gN U (j+v.length - 2) < xy
  ·(refine wkad (w_15 h2 h3 h5 h7 h9 h10 h44 e1 e2 hg hl @Za3 @Zic hxy @ZCl) w_t w_t (w_s ?_);intros)
   simp (disch:=omega) only [go_sem,ZB4 ht]
  ·(refine wkad (w_15 h2 h3 h5 h7 h9 h10 h44 e1 e2 hg hl @Za3 @Zic hxy @ZCl) w_t w_t (w_s ?_);intros)
   simp (disch:=omega) only [go_sem,ZB3 hd,ZB3 ht]
attribute [go_sem] szQ zQ
theorem Zds {P:Program} {t d f:Nat} {args:List AV} {K:St→Prop} {e:Nat→AV} {m:Mem} {R:AV→Mem→Prop} (c:ACall P f args m R) (h:∀r σ',R r σ'→K ⟨upd e d r,σ'⟩):aRes P t (some d) (.call f args) K ⟨e,m⟩:=c.mono h
theorem Zpt {σ:Mem} {K:Nat} {sv:Value} {pre w post v:List Nat} {d i len:Nat} (hi:pre.length=i) (hw:w.length=len) (hσ:σ K=some (.row sv 161 1 (u16s (pre++(w++post))) 0)) (hwv:len=v.length+1) (hsz:(pre++(w++post)).length≤1000000000) (lw:Lm w) (lv:Lm v) (hd:d < 65536) :
 ACall prog 261 [.view K sv 1 i len,lim v,.v (.int .u32 (d:Int))] σ λr σ'=>∃(w':List Nat) (b:Nat),r=.v (.bool (decide (0 < (b:Int))))∧σ'=upd σ K (some (.row sv 161 1 (u16s (pre++(w'++post))) 0))∧w'.length=len∧Lm w'∧b≤1∧nv w'+d*nv v=nv w+65536 ^ len*b:=by
 subst hi;subst hw;exact Zr6 σ K sv pre w post v d hσ hwv hsz lw lv hd
theorem Zr7 {σ:Mem} {K:Nat} {sv:Value} {pre w post v:List Nat} {i len:Nat} (hi:pre.length=i) (hw:w.length=len) (hσ:σ K=some (.row sv 161 1 (u16s (pre++(w++post))) 0)) (hwv:v.length≤len) (hsz:(pre++(w++post)).length≤1000000000) (lw:Lm w) (lv:Lm v) :
 ACall prog 262 [.view K sv 1 i len,lim v] σ λr σ'=>∃(w':List Nat) (c:Nat),r=.tup []∧σ'=upd σ K (some (.row sv 161 1 (u16s (pre++(w'++post))) 0))∧w'.length=len∧Lm w'∧c≤1∧nv w'+65536 ^ len*c=nv w+nv v:=by
 subst hi;subst hw;exact Zv8 σ K sv pre w post v hσ hwv hsz lw lv
structure LongInv (U v q U':List Nat) (k:Nat):Prop where
 ql:q.length=U.length - v.length
 qL:Lm q
 qz:∀j,j < k→gN q j=0
 ul:U'.length=U.length
 uL:Lm U'
 eq:nv U'+nv v*nv (q.drop k)*65536 ^ k=nv U
 lt:nv (U'.drop k) < nv v
theorem LongInv.step {U v q U' w'':List Nat} {j n:Nat} (h:LongInv U v q U' (j+1)) (hn:v.length=n) (lv:Lm v) (hj:j+n < U.length) (hw:w''.length=n+1) (hwL:Lm w'')
 (hwv:nv w''=nv ((U'.drop j).take (n+1))%nv v) (hd:nv ((U'.drop j).take (n+1))/nv v < 65536) :
 LongInv U v (q.set j (nv ((U'.drop j).take (n+1))/nv v)) (U'.take j++(w''++U'.drop (j+n+1))) j:=by
 have hV:0 < nv v:=ZGl (ZB5 _) h.lt;have hz:=drop_zero lv hn h.lt;rw [ZF5,show j+1+n=j+n+1 by omega] at hz;have hql:=h.ql;have hul:=h.ul;have hlj:(U'.take j).length=j:=by rw [ZCh];omega
 have hj1:nv (U'.drop j)=nv ((U'.drop j).take (n+1)):=by
  have:=Zbz (U'.drop j) (n+1);rw [ZF5,show j+(n+1)=j+n+1 by omega,hz] at this;omega
 have hw2:nv (w''++U'.drop (j+n+1))=nv w'':=by rw [Zec,hz];omega
 have hdr:nv ((U'.take j++(w''++U'.drop (j+n+1))).drop j)=nv w'':=by
  rw [List.drop_append_of_le_length zo,ZDo zo,ZGg,hw2]
 refine⟨by simpa using hql,h.qL.set j hd,λi hi=>?_,by simp;omega,(h.uL.take j).append (hwL.append (h.uL.drop _)),?_,by rw [hdr,hwv];exact ZDj _ hV⟩
 ·rw [Zf4 zo,ZBu zo];exact h.qz i zo
 ·have h1:=h.eq;have h2:=Zbz U' j;have h3:=ZEt (nv ((U'.drop j).take (n+1))) (nv v);rw [Zec,hlj,hw2,hwv,Zb3 (q.set j _),Zf4 zo,ZBv rfl,List.drop_set_of_lt zo];rw [←h1,h2,hj1,ZC2,ZCo,ZC5];generalize nv ((U'.drop j).take (n+1))=W at *;generalize nv (q.drop (j+1))=Q at *
  have e1:nv v*(W/nv v)*65536 ^ j+65536 ^ j*(W%nv v)=65536 ^ j*W:=by
   rw [ZCy (nv v*(W/nv v)),←ZC2,h3]
  have e2:nv v*(65536*Q)*65536 ^ j=nv v*Q*(65536 ^ j*65536):=by
   simp only [ZC6,ZFp,ZCy]
  omega
theorem natLong (σ:Mem) (sv:Value) (U post v:List Nat) (n:Nat) (hvn:v.length=n) (h44:σ 44=some (.row sv 161 1 (u16s (U++post)) 0)) (hn:2≤n) (hlen:n < U.length) (hsz:U.length+post.length≤1000000000) (lU:Lm U) (lp:Lm post) (lv:Lm v)
 (hvt:0 < gN v (n - 1)) (hlt:nv (U.drop (U.length - n)) < nv v) :
 ACall prog 221 [.view 44 sv 1 0 U.length,lim v] σ λr σ'=>∃U':List Nat,r=lim (toL (nv U/nv v))∧σ' 44=some (.row sv 161 1 (u16s (U'++post)) 0)∧U'.length=U.length∧Lm U'∧nv U'=nv U%nv v:=by
 have hc:(U.length:Int) - (n:Int)=((U.length - n:Nat):Int):=zo;refine Zb1 (tok:=0) (rs:=[.tmp 4]) func221 rfl ntmps221 results221 call221 zr zs ?_
 (refine wkvp (w_2 hvn hc) w_t (w_s ?_);intros)
 refine Zad (ι:=Nat) (λk e m=>k≤U.length - n∧∃g2 g3 g5 g7 svo q U',(e 2=.pbox 2 g2 0∧e 3=.pbox 3 g3 0∧e 5=.pbox 5 g5 0∧e 6=.own 18 svo∧e 7=.pbox 7 g7 0)∧m 2=some (.box g2 24 [.view 44 sv 1 0 U.length] false)∧m 3=some (.box g3 24 [lim v] false)∧m 5=some (.box g5 3 [.v (.int .i64 n)] false)∧m 7=some (.box g7 3 [.v (.int .i64 ((k:Int) - 1))] false) ∧
  m 18=some (.row svo 161 1 (u16s q) 0)∧m 44=some (.row sv 161 1 (u16s (U'++post)) 0)∧LongInv U v q U' k) (λk=>k) (U.length - n) zr ?_ ?_
 ·rintro k e m ⟨hk,g2,g3,g5,g7,svo,q,U',⟨e2,e3,e5,e6,e7⟩,m2,m3,m5,m7,m18,m44,inv⟩
  have hql:=inv.ql;rw [hvn] at hql;have hul:=inv.ul;rcases ZC3 k with h0 | h0
  ·subst h0;have h1:=inv.eq;have h2:=inv.lt;rw [ZD9] at h1 h2;rw [ZFq,ZEl] at h1;have hq:nv U/nv v=nv q:=by rw [←h1,ZEn,Nat.mul_add_div zo,ZGy h2,ZDe]
   have hr:nv U'=nv U%nv v:=by rw [←h1,ZEn,Nat.mul_add_mod,ZEa h2]
   (repeat' (first|(with_reducible first|refine stp ?_|apply gx1|apply gx2|apply gx3|apply gx4|apply gx5|apply gx6|apply gx7|apply gw1 (Za1 q zo inv.qL))|(with_reducible refine Zcm ?_;intro _)|((with_reducible refine gE ?_);(try simp (disch:=omega) only [go_sem,e2,e3,e5,e6,e7,m2,m3,m5,m7,m18,m44])<;>first|rfl|omega)|with_reducible refine Zak zd ?_))
   simp (disch:=omega) only [go_sem,hq];refine⟨U',?_,hul,inv.uL,hr⟩;simp (disch:=omega) only [go_sem,m44]
  ·obtain⟨j,rfl⟩:∃j,k=j+1:=⟨k - 1,zo⟩;have ej:((j+1:Nat):Int) - 1=(j:Int):=zo;rw [ej] at m7;have g0:=Zb2 inv.uL (j+n);have g1:=Zb2 inv.uL (j+n - 1);have g2':=Zb2 inv.uL (j+n - 2);have gv1:=Zb2 lv (n - 1);have gv2:=Zb2 lv (n - 2);have hl:(U'++post).length=U'.length+post.length:=ZCr;have x0:gN (U'++post) (j+n)=gN U' (j+n):=Zsn zo;have x1:gN (U'++post) (j+n - 1)=gN U' (j+n - 1):=Zsn zo;have ex1:((j+n:Nat):Int) - 1=((j+n - 1:Nat):Int):=zo;have ex2:(n:Int) - 1=((n - 1:Nat):Int):=zo;have hwl:((U'.drop j).take (n+1)).length=n+1:=by rw [ZCh,ZD7];omega
   have hwL:Lm ((U'.drop j).take (n+1)):=(inv.uL.drop j).take _;have wg:∀i,i≤n→gN ((U'.drop j).take (n+1)) i=gN U' (j+i):=λi hi=>by rw [gN_take zo,Zz7]
   have hW:=nv_top3 hwl hn;rw [wg n (ZBw _),wg (n - 1) zo,wg (n - 2) zo,show j+(n - 1)=j+n - 1 by omega,show j+(n - 2)=j+n - 2 by omega] at hW;have hwl2:=Zhm hwL (n - 2);have hVt:=nv_top2 hvn hn;have hvl2:=Zhm lv (n - 2);have hV:0 < nv v:=ZGl (ZB5 _) inv.lt
   have htop:gN U' (j+n)≤gN v (n - 1):=by
    have:=top_le (inv.uL.drop (j+1)) lv hvn hn inv.lt
    rwa [Zz7,show j+1+(n - 1)=j+n by omega] at this
   have hWV:nv ((U'.drop j).take (n+1))/nv v < 65536:=by
    rw [ZE0 hV];have h1:=Zbz (U'.drop j) (n+1);have h2:=Zb3 U' j;have h3:=inv.lt;have h4:=Zb2 inv.uL j;omega
   obtain⟨high,hhigh⟩:∃h,gN U' (j+n)*65536+gN U' (j+n - 1)=h:=⟨_,rfl⟩;rw [hhigh] at hW;have hinit:=kn_init (ZF4 zo) hVt hW hwl2 g2' hvt (Nat.div_mul_le_self (nv ((U'.drop j).take (n+1))) (nv v));have hhd:=ZEt high (gN v (n - 1));have hhr:=ZDj high hvt;have hhq:=ZF6 high (gN v (n - 1));rw [ZCy] at hhd;have hv1i:(gN v (n - 1):Int)≠0:=zo
   have hq1:(high:Int)/(gN v (n - 1):Int)≤4294967296:=by
    have:((high/gN v (n - 1):Nat):Int)≤4294967296:=zo;exact this
   have wq:IntKind.u64.wrap ((high/gN v (n - 1):Nat):Int)=((high/gN v (n - 1):Nat):Int):=Zff (ZFo _) zo
   (repeat' (first|(with_reducible first|refine stp ?_|apply gx1|apply gx2|apply gx3|apply gx4|apply gx5|apply gx6|apply gx7|apply gy8|apply gz2|apply gz3)|(with_reducible refine Zcm ?_;intro _)|((with_reducible refine gE ?_);(try simp (disch:=omega) only [go_sem,e2,e3,e5,e6,e7,m2,m3,m5,m7,m18,m44,hl,hul,hvn,x0,x1,ex1,ex2,hhigh,hv1i,Za3,Zd0,Zfn,ZCl,wq])<;>first|rfl|omega)|with_reducible refine Zak zd ?_|((with_reducible apply gy1);iterate 3 focus rfl)|((with_reducible apply gy2);iterate 3 focus rfl)|((with_reducible apply gy3);iterate 2 focus rfl)|((with_reducible apply gy4);iterate 1 focus rfl)|((with_reducible apply gy5);iterate 4 focus rfl)|((with_reducible apply gy5c);iterate 4 focus rfl)|((with_reducible apply gy6);iterate 4 focus rfl)|((with_reducible apply Zjm);iterate 3 focus rfl)|((with_reducible apply Zjd);iterate 1 focus rfl)|((with_reducible apply gy7);iterate 1 focus rfl)|((with_reducible apply gy9);(focus ((with_reducible refine gE ?_);(try simp (disch:=omega) only [go_sem,e2,e3,e5,e6,e7,m2,m3,m5,m7,m18,m44,hl,hul,hvn,x0,x1,ex1,ex2,hhigh,hv1i,Za3,Zd0,Zfn,ZCl,wq])<;>rfl)))|((with_reducible apply gz1);(focus first|rfl|(simp (disch:=omega) only [go_sem,e2,e3,e5,e6,e7,m2,m3,m5,m7,m18,m44,hl,hul,hvn,x0,x1,ex1,ex2,hhigh,hv1i,Za3,Zd0,Zfn,ZCl,wq];done)))|((with_reducible apply Zcp (Zfc []) [] [9,10]);(focus kernel_rfl);(focus rfl);(focus kernel_rfl);(focus (simp only [ZCd,ZCq,Nat.reduceAdd];rfl)))))
   rename_i g9 g10;have hlj:(U'.take j).length=j:=by rw [ZCh];omega
   have hsplit:U'++post=U'.take j++((U'.drop j).take (n+1)++(U'.drop (j+n+1)++post)):=by
    have e1:U'=U'.take j++((U'.drop j).take (n+1)++U'.drop (j+n+1)):=by
     rw [show j+n+1=j+(n+1) by omega,←ZF5,ZD2,ZD2]
    rw [←ZDd ((U'.drop j).take (n+1)),←ZDd,←e1]
   have esub:j+n+1 - j=n+1:=zo;obtain⟨W,hWd⟩:∃W,nv ((U'.drop j).take (n+1))=W:=⟨_,rfl⟩;have hstep:=fun(w'':List Nat) hw hwL2 hwv=>inv.step (w'':=w'') hvn lv zo hw hwL2 hwv hWV;rw [hWd] at hinit hWV hW hstep
   have hzz:∀d r,high=d*gN v (n - 1)+r→65536≤r→d < 65536∧d*gN v (n - 2)≤r*65536+gN U' (j+n - 2):=by
    intro d r h1 h2
    have hd:d < 65536:=by
     rcases ZCg d 65536 with h3 | h3
     ·exact h3
     ·exfalso;have h4:65536*gN v (n - 1)≤d*gN v (n - 1):=ZCf _ h3;omega
    have:=Zpy hd gv2;omega
   refine Zad (ι:=Nat) (λd e' m'=>(e' 2=.pbox 2 g2 0∧e' 3=.pbox 3 g3 0∧e' 5=.pbox 5 g5 0∧e' 6=.own 18 svo∧e' 7=.pbox 7 g7 0∧e' 9=.pbox 9 g9 0∧e' 10=.pbox 10 g10 0∧e' 11=.fn 260 [.pbox 9 g9 0,.pbox 3 g3 0,.pbox 5 g5 0,.pbox 10 g10 0,.pbox 2 g2 0,.pbox 7 g7 0]) ∧
    m' 2=some (.box g2 24 [.view 44 sv 1 0 U.length] false)∧m' 3=some (.box g3 24 [lim v] false)∧m' 5=some (.box g5 3 [.v (.int .i64 n)] false)∧m' 7=some (.box g7 3 [.v (.int .i64 (j:Int))] false)∧m' 18=some (.row svo 161 1 (u16s q) 0)∧m' 44=some (.row sv 161 1 (u16s (U'++post)) 0) ∧
    m' 9=some (.box g9 121 [.v (.int .u64 (d:Int))] false)∧∃r:Nat,m' 10=some (.box g10 121 [.v (.int .u64 (r:Int))] false)∧high=d*gN v (n - 1)+r∧W/nv v≤d∧d≤high∧r < 131072) (λd=>d) (high/gN v (n - 1)) zr ?_ ?_
   ·rintro d e m ⟨⟨e2,e3,e5,e6,e7,e9,e10,e11⟩,m2,m3,m5,m7,m18,m44,m9,r,m10,hhi,hqd,hdh,hr2⟩
    have ct:=λhr=>Zr5 m sv g2 g3 g5 g7 g9 g10 U' post v d r j (by rw [hul];exact m2) m3 (by rw [hvn];exact m5) m7 m9 m10 m44 zo zo zo lv inv.uL hr;rw [hvn] at ct;by_cases hgo:r < 65536∧(65536≤d∨r*65536+gN U' (j+n - 2) < d*gN v (n - 2))
    ·obtain⟨hr,ht⟩:=hgo;have hb:(decide (65536≤d) || decide (r*65536+gN U' (j+n - 2) < d*gN v (n - 2)))=true:=by simpa using ht
     have hd1:1≤d:=by
      rcases ZC3 d with h | h
      ·subst h;omega
      ·exact h
     have ed:(d:Int) - 1=((d - 1:Nat):Int):=zo
     have hq2:W/nv v≤d - 1:=by
      rcases ht with h | h
      ·omega
      ·have h1:=kn_step hVt hW hwl2 hhi h;rw [←ZE0 hV] at h1;omega
     have hh2:high=(d - 1)*gN v (n - 1)+(r+gN v (n - 1)):=by
      obtain⟨d',rfl⟩:∃d',d=d'+1:=⟨d - 1,zo⟩;rw [ZFb,hhi,ZCo,ZD1];omega
     (repeat' (first|(with_reducible first|refine stp ?_|apply gx1|apply gx2|apply gx3|apply gx4|apply gx5|apply gx6|apply gx7|apply gy8|apply gz2|apply gz3|refine Zgz (ct hr) ?_)|(with_reducible refine Zcm ?_;intro _)|((with_reducible refine gE ?_);(try simp (disch:=omega) only [go_sem,e2,e3,e5,e6,e7,e9,e10,e11,m2,m3,m5,m7,m18,m44,m9,m10,hb,ed,ex2,hvn,Za3])<;>first|rfl|omega)|with_reducible refine Zak zd ?_|((with_reducible apply gy1);iterate 3 focus rfl)|((with_reducible apply gy2);iterate 3 focus rfl)|((with_reducible apply gy3);iterate 2 focus rfl)|((with_reducible apply gy4);iterate 1 focus rfl)|((with_reducible apply gy5);iterate 4 focus rfl)|((with_reducible apply gy5c);iterate 4 focus rfl)|((with_reducible apply gy6);iterate 4 focus rfl)|((with_reducible apply Zjm);iterate 3 focus rfl)|((with_reducible apply Zjd);iterate 1 focus rfl)|((with_reducible apply gy7);iterate 1 focus rfl)|((with_reducible apply gy9);(focus ((with_reducible refine gE ?_);(try simp (disch:=omega) only [go_sem,e2,e3,e5,e6,e7,e9,e10,e11,m2,m3,m5,m7,m18,m44,m9,m10,hb,ed,ex2,hvn,Za3])<;>rfl)))|((with_reducible apply gz1);(focus first|rfl|(simp (disch:=omega) only [go_sem,e2,e3,e5,e6,e7,e9,e10,e11,m2,m3,m5,m7,m18,m44,m9,m10,hb,ed,ex2,hvn,Za3];done)))|((with_reducible apply Zcp (Zfc []) [8] []);(focus kernel_rfl);(focus rfl);(focus kernel_rfl);(focus (simp only [ZCd,ZCq,Nat.reduceAdd];rfl)))))
     exact⟨d - 1,⟨⟨gW e2,gW e3,gW e5,gW e6,gW e7,gW e9,gW e10,gW e11⟩,gW m2,gW m3,gW m5,gW m7,gW m18,gW m44,gC,_,gC,hh2,hq2,zo,zo⟩,zo⟩
    ·obtain⟨hd,hdv⟩:d < 65536∧d*gN v (n - 2)≤r*65536+gN U' (j+n - 2):=by
      rcases ZCg r 65536 with h | h
      ·have h2:¬(65536≤d∨r*65536+gN U' (j+n - 2) < d*gN v (n - 2)):=λh2=>hgo ⟨h,h2⟩;omega
      ·exact hzz d r hhi h
     have hb:(decide (65536≤d) || decide (r*65536+gN U' (j+n - 2) < d*gN v (n - 2)))=false:=by
      rw [ZF3,ZEx,ZEx];omega
     have hnear:=kn_near hV hqd (kn_exit hVt hvl2 hW hhi hvt hd hdv);have csub:=Zpt (K:=44) (sv:=sv) (σ:=m) (post:=U'.drop (j+n+1)++post) (v:=v) (d:=d) hlj hwl (by rw [←hsplit];exact m44) zo (by rw [←hsplit];omega) hwL lv hd;rcases ZCg r 65536 with hr | hr
     all_goals
      (repeat' (first|(with_reducible first|refine stp ?_|apply gx1|apply gx2|apply gx3|apply gx4|apply gx5|apply gx6|apply gx7|apply gy8|apply gz2|apply gz3|refine Zgz (ct hr) ?_)|(with_reducible refine Zcm ?_;intro _)|((with_reducible refine gE ?_);(try simp (disch:=omega) only [go_sem,e2,e3,e5,e6,e7,e9,e10,e11,m2,m3,m5,m7,m18,m44,m9,m10,hb,ex2,hvn,Za3,Zbm,esub,ZCl])<;>first|rfl|omega)|with_reducible refine Zak zd ?_|((with_reducible apply gy1);iterate 3 focus rfl)|((with_reducible apply gy2);iterate 3 focus rfl)|((with_reducible apply gy3);iterate 2 focus rfl)|((with_reducible apply gy4);iterate 1 focus rfl)|((with_reducible apply gy5);iterate 4 focus rfl)|((with_reducible apply gy5c);iterate 4 focus rfl)|((with_reducible apply gy6);iterate 4 focus rfl)|((with_reducible apply Zjm);iterate 3 focus rfl)|((with_reducible apply Zjd);iterate 1 focus rfl)|((with_reducible apply gy7);iterate 1 focus rfl)|((with_reducible apply gy9);(focus ((with_reducible refine gE ?_);(try simp (disch:=omega) only [go_sem,e2,e3,e5,e6,e7,e9,e10,e11,m2,m3,m5,m7,m18,m44,m9,m10,hb,ex2,hvn,Za3,Zbm,esub,ZCl])<;>rfl)))|((with_reducible apply gz1);(focus first|rfl|(simp (disch:=omega) only [go_sem,e2,e3,e5,e6,e7,e9,e10,e11,m2,m3,m5,m7,m18,m44,m9,m10,hb,ex2,hvn,Za3,Zbm,esub,ZCl];done)))|((with_reducible apply Zcp (Zfc []) [10] []);(focus kernel_rfl);(focus rfl);(focus kernel_rfl);(focus (simp only [ZCd,ZCq,Nat.reduceAdd];rfl)))))
      refine Zds csub ?_
      rintro _ _ ⟨w',b,rfl,rfl,hwl',hwL',hb1,heq⟩
      rw [hWd] at heq;have hw'p:nv w' < 65536 ^ (n+1):=by have:=Zh0 hwL';rwa [hwl'] at this
      have hcase:=subDone hV hw'p hb1 heq hnear;have ej2:(j:Int) - 1=(j:Int) - 1:=rfl;rcases hcase with⟨rfl,hdq,hwm⟩ | ⟨rfl,hdq⟩
      ·have inv':=hstep w' hwl' hwL' hwm;rw [←hdq] at inv';have hdm:d%65536=d:=ZEa hd
       (repeat' (first|(with_reducible first|refine stp ?_|apply gx1|apply gx2|apply gx3|apply gx4|apply gx5|apply gx6|apply gx7|apply gy8|apply gz2|apply gz3)|(with_reducible refine Zcm ?_;intro _)|((with_reducible refine gE ?_);(try simp (disch:=omega) only [go_sem,e2,e3,e5,e6,e7,e9,e10,e11,m2,m3,m5,m7,m18,m44,m9,m10,hql,Zbv,hdm,ZDp,Int.lt_irrefl])<;>first|rfl|omega)|with_reducible refine Zak zd ?_|((with_reducible apply gy1);iterate 3 focus rfl)|((with_reducible apply gy2);iterate 3 focus rfl)|((with_reducible apply gy3);iterate 2 focus rfl)|((with_reducible apply gy4);iterate 1 focus rfl)|((with_reducible apply gy5);iterate 4 focus rfl)|((with_reducible apply gy5c);iterate 4 focus rfl)|((with_reducible apply gy6);iterate 4 focus rfl)|((with_reducible apply Zjm);iterate 3 focus rfl)|((with_reducible apply Zjd);iterate 1 focus rfl)|((with_reducible apply gy7);iterate 1 focus rfl)|((with_reducible apply gy9);(focus ((with_reducible refine gE ?_);(try simp (disch:=omega) only [go_sem,e2,e3,e5,e6,e7,e9,e10,e11,m2,m3,m5,m7,m18,m44,m9,m10,hql,Zbv,hdm,ZDp,Int.lt_irrefl])<;>rfl)))|((with_reducible apply gz1);(focus first|rfl|(simp (disch:=omega) only [go_sem,e2,e3,e5,e6,e7,e9,e10,e11,m2,m3,m5,m7,m18,m44,m9,m10,hql,Zbv,hdm,ZDp,Int.lt_irrefl];done)))|((with_reducible apply Zcp (Zfc []) [10] []);(focus kernel_rfl);(focus rfl);(focus kernel_rfl);(focus (simp only [ZCd,ZCq,Nat.reduceAdd];rfl)))))
       exact⟨j,⟨zo,g2,g3,g5,_,svo,q.set j d,U'.take j++(w'++U'.drop (j+n+1)),⟨gW e2,gW e3,gW e5,gW e6,gC⟩,gW m2,gW m3,gW m5,gC,gC,by(simp (disch:=omega) only [go_sem,ZDd]<;>repeat' first|rfl|refine⟨?_,?_⟩),inv'⟩,zo⟩
      ·have crest:=fun(σ:Mem) h=>Zr7 (σ:=σ) (K:=44) (sv:=sv) (post:=U'.drop (j+n+1)++post) (v:=v) hlj hwl' h zo (by rw [hsplit] at hl;simp only [ZCr] at hl ⊢;omega) hwL' lv;have hd1:1≤d:=by rw [hdq];exact Nat.le_add_left 1 _
       have ed:(d:Int) - 1=((d - 1:Nat):Int):=zo;have one:(0:Int) < ((1:Nat):Int):=zo
       (repeat' (first|(with_reducible first|refine stp ?_|apply gx1|apply gx2|apply gx3|apply gx4|apply gx5|apply gx6|apply gx7|apply gy8|apply gz2|apply gz3)|(with_reducible refine Zcm ?_;intro _)|((with_reducible refine gE ?_);(try simp (disch:=omega) only [go_sem,e2,e3,e5,e6,e7,e9,e10,e11,m2,m3,m5,m7,m18,m44,m9,m10,ed,one,Za3,Zbm,esub,ZCl])<;>first|rfl|omega)|with_reducible refine Zak zd ?_|((with_reducible apply gy1);iterate 3 focus rfl)|((with_reducible apply gy2);iterate 3 focus rfl)|((with_reducible apply gy3);iterate 2 focus rfl)|((with_reducible apply gy4);iterate 1 focus rfl)|((with_reducible apply gy5);iterate 4 focus rfl)|((with_reducible apply gy5c);iterate 4 focus rfl)|((with_reducible apply gy6);iterate 4 focus rfl)|((with_reducible apply Zjm);iterate 3 focus rfl)|((with_reducible apply Zjd);iterate 1 focus rfl)|((with_reducible apply gy7);iterate 1 focus rfl)|((with_reducible apply gy9);(focus ((with_reducible refine gE ?_);(try simp (disch:=omega) only [go_sem,e2,e3,e5,e6,e7,e9,e10,e11,m2,m3,m5,m7,m18,m44,m9,m10,ed,one,Za3,Zbm,esub,ZCl])<;>rfl)))|((with_reducible apply gz1);(focus first|rfl|(simp (disch:=omega) only [go_sem,e2,e3,e5,e6,e7,e9,e10,e11,m2,m3,m5,m7,m18,m44,m9,m10,ed,one,Za3,Zbm,esub,ZCl];done)))|((with_reducible apply Zcp (Zfc []) [8] []);(focus kernel_rfl);(focus rfl);(focus kernel_rfl);(focus (simp only [ZCd,ZCq,Nat.reduceAdd];rfl)))))
       refine Zds (crest _ (gC)) ?_
       rintro _ _ ⟨w'',c,rfl,rfl,hwl'',hwL'',hc1,heq2⟩
       have hw''p:nv w'' < 65536 ^ (n+1):=by have:=Zh0 hwL'';rwa [hwl''] at this
       have hVp:nv v≤65536 ^ (n+1):=by
        have h1:=Zh0 lv;rw [hvn] at h1;have h2:65536 ^ n≤65536 ^ (n+1):=ZDk zo zo;omega
       have hwm:=resDone hV hVp hw''p hc1 (by rw [←hdq];exact heq) heq2;have inv':=hstep w'' hwl'' hwL'' hwm;have hdq2:d - 1=W/nv v:=by rw [hdq,ZFb]
       rw [←hdq2] at inv';have hdm:(d - 1)%65536=d - 1:=ZEa zo
       (refine wkad (w_19 e2 e3 e5 e6 e7 e9 e10 e11 m2 m3 m5 m7 m18 m44 m9 m10 hql @Zbv hdm) w_t w_t (w_s ?_);intros)
       exact⟨j,⟨zo,g2,g3,g5,_,svo,q.set j (d - 1),U'.take j++(w''++U'.drop (j+n+1)),⟨gW e2,gW e3,gW e5,gW e6,gC⟩,gW m2,gW m3,gW m5,gC,gC,by(simp (disch:=omega) only [go_sem,ZDd]<;>repeat' first|rfl|refine⟨?_,?_⟩),inv'⟩,zo⟩
   ·exact⟨⟨gW e2,gW e3,gW e5,gW e6,gW e7,gC,gC,gC⟩,gW m2,gW m3,gW m5,gW m7,gW m18,gW m44,gC,_,gC,zo,hinit,zo,zo⟩
 ·refine⟨ZBw _,_,_,_,_,_,List.replicate (U.length - n) 0,U,⟨gC,gC,gC,gC,gC⟩,gC,gC,gC,gC,gC,gW h44,⟨by rw [hvn];simp,Lm.zeros _,λ_ _=>Zhq _ _,rfl,lU,?_,hlt⟩⟩;rw [ZDo zs];simp [nv]
theorem Zzq (i:Nat):i < 2 ^ len8 i:=by
 unfold len8;split
 ·rename_i h;subst h;decide
 ·exact Nat.lt_log2_self
theorem len16_lt (x:Nat):x < 2 ^ Zfd x:=by
 unfold Zfd;split
 ·have:=Zzq (x/256);rw [ZDb];have e:(2:Nat) ^ 8=256:=rfl;omega
 ·exact Zzq x
theorem Ztc (a:List Nat):u16s a++[.v (.int .u16 0),.v (.int .u16 0)]=u16s (a++[0,0]):=by simp [u16s]
theorem Wk.three {a a' b b' c:AV} (h1:Wk a a') (h2:Wk b b'):Wk (.tup [a,b,c]) (.tup [a',b',c]):=by
 refine .tup _ _ rfl λj x y h3 h4=>?_
 match j with
 | 0=>simp at h3 h4;subst h3;subst h4;exact h1
 | 1=>simp at h3 h4;subst h3;subst h4;exact h2
 | 2=>simp at h3 h4;subst h3;subst h4;exact .refl _
 | j+3=>simp at h3
theorem Zrb {b s n:Nat} (h0:b≠0) (hn:(toL b).length=n) (hs:s=16 - Zfd (gN (toL b) (n - 1))):(toL (b*2 ^ s)).length=n:=by
 have h1:=(Zef h0).1;have ht:=Zb2 (Zar b) (n - 1);have hbd:=Ziy ht;have hlt:=len16_lt (gN (toL b) (n - 1));have hp:=ZGw s;have h3:(toL b).length≤(toL (b*2 ^ s)).length:=Za7 (ZE2 _ hp)
 have h4:(toL (b*2 ^ s)).length≤n:=by
  rw [Zae];have h5:=Zbz (toL b) (n - 1);rw [Zap,Zb3,show n - 1+1=n by omega,ZDo zo] at h5;simp only [nv,ZEm,ZDe] at h5;have h6:=Zhm (Zar b) (n - 1);generalize gN (toL b) (n - 1)=t at *
  have h7:b < 65536 ^ (n - 1)*2 ^ Zfd t:=by
   have h10:65536 ^ (n - 1)*(t+1)≤65536 ^ (n - 1)*2 ^ Zfd t:=ZD0 _ hlt;rw [ZC2,ZEl] at h10;omega
  have h8:b*2 ^ s < 65536 ^ (n - 1)*2 ^ Zfd t*2 ^ s:=ZGz h7 hp
  have h9:2 ^ Zfd t*2 ^ s=65536:=by
   rw [←ZDb,hs,show Zfd t+(16 - Zfd t)=16 by omega]
  rw [ZC6,h9,←ZC5,Nat.succ_eq_add_one,show n - 1+1=n by omega] at h8;exact h8
 omega
theorem Zpv (a b:List Nat) (ha:a.length≤200000000) (hb:b.length≤200000000) (la:Lm a) (lb:Lm b) (h0:nv b≠0):Pure prog 158 [lim a,lim b] (.tup [lim (toL (nv a/nv b)),lim (toL (nv a%nv b)),.v (.int .i64 0)]):=by
 have h1:=Zau la;have h2:=Zau lb;have va:=Zap (nv a);have vb:=Zap (nv b);have ma:=Zar (nv a);have mb:=Zar (nv b);obtain⟨hb1,hb2⟩:=Zef h0;have cc:=Zt8 (toL (nv a)) (toL (nv b)) zo zo ma mb;rw [va,vb] at cc;by_cases hlt:nv a < nv b
 ·rw [show toL (nv a/nv b)=[] by rw [ZGy hlt,Zax],ZEa hlt];refine Pure.wk ?_ (Wk.three (.nil 1) (.refl _));have hcm:cmpN (nv a) (nv b)=-1:=ZBv hlt;have cn:=Zny (toL (nv a)) zo ma;rw [va] at cn;refine Zaa (tok:=0) (rs:=[.tmp 4,.tmp 5,.tmp 6]) func158 rfl ntmps158 results158 call158 zr zs ?_
  (refine wkvp (w_1 hcm) (w_4 (Za1 a zo la) (Za1 b zo lb) cc cn) (w_s ?_);intros)
  simp (disch:=omega) only [go_sem]
 ·have hcm:0≤cmpN (nv a) (nv b):=by unfold cmpN;rw [ZBu hlt];split<;>omega
  by_cases hone:(toL (nv b)).length=1
  ·have e0:nv b=gN (toL (nv b)) 0:=by
    have:=Zbz (toL (nv b)) 0;rw [Zb3,ZDo zo,vb] at this
    simpa [nv] using this
   have gb:=Zb2 mb 0;have cb:=Zpw (toL (nv a)) (gN (toL (nv b)) 0) zo ma zo gb;rw [va,←e0] at cb;have hr:=ZDj (nv a) (ZDl h0);have co:=natOf (nv a%nv b) zo;refine Zaa (tok:=0) (rs:=[.tmp 4,.tmp 5,.tmp 6]) func158 rfl ntmps158 results158 call158 zr zs ?_;have wr:IntKind.u64.wrap ((nv a%nv b:Nat):Int)=((nv a%nv b:Nat):Int):=Zff (ZFo _) zo
   (refine wkvp (w_3 hone (Eq.symm e0) wr) (w_5 (Za1 a zo la) (Za1 b zo lb) cc cb co) (w_s ?_);intros)
   simp (disch:=omega) only [go_sem]
  ·
   obtain⟨n,hn⟩:∃n,(toL (nv b)).length=n:=⟨_,rfl⟩;rw [hn] at hb1 hb2 hone h2;have ht:=Zb2 mb (n - 1);have hbd:=Ziy ht;obtain⟨s,hs⟩:∃s,16 - Zfd (gN (toL (nv b)) (n - 1))=s:=⟨_,rfl⟩;have hs15:s≤15:=zo;have hvl:=Zrb h0 hn hs.symm;have ha0:nv a≠0:=zo;have hab:n≤(toL (nv a)).length:=by rw [←hn];exact Za7 zo
   have clz:=bitsLz16 (gN (toL (nv b)) (n - 1)) ht;rw [hs] at clz;have en:(n:Int) - 1=((n - 1:Nat):Int):=zo;have hp:=ZGw s;obtain⟨A,hA⟩:∃A,toL (nv a)=A:=⟨_,rfl⟩;rw [hA] at va ma h1 hab cc;have hVlen:A.length≤(toL (nv a*2 ^ s)).length:=by rw [←hA];exact Za7 (ZE2 _ hp)
   have hV2:nv a*2 ^ s < 65536 ^ (A.length+1):=by
    have h3:=Zh0 ma;rw [va] at h3;have h4:(2:Nat) ^ s≤2 ^ 16:=ZDk zo zo;rw [ZC5];exact ZDx (ZGz h3 hp) (ZD0 _ h4)
   have hVlen2:(toL (nv a*2 ^ s)).length≤A.length+1:=Zae.2 hV2
   have hdl:nv a*2 ^ s/65536 ^ (A.length+1 - n) < nv b*2 ^ s:=by
    rw [ZE0 (ZF4 zo)];have h3:=Zh0 ma;rw [va] at h3
    have h5:65536 ^ (n - 1)≤nv b:=by
     rcases ZCg (nv b) (65536 ^ (n - 1)) with h | h
     ·have:=Zae.2 h;omega
     ·exact h
    have h6:65536 ^ A.length=65536 ^ (n - 1)*65536 ^ (A.length+1 - n):=by rw [←ZDb];congr 1;omega
    have h7:65536 ^ (n - 1)*65536 ^ (A.length+1 - n)≤nv b*65536 ^ (A.length+1 - n):=ZCf _ h5;have h8:nv a < nv b*65536 ^ (A.length+1 - n):=zo;have h9:=ZGz h8 hp
    rwa [Nat.mul_right_comm] at h9
   have qe:nv a*2 ^ s/(nv b*2 ^ s)=nv a/nv b:=Nat.mul_div_mul_right _ _ hp;have re:nv a*2 ^ s%(nv b*2 ^ s)=(nv a%nv b)*2 ^ s:=Nat.mul_mod_mul_right _ _ _;have cv:=natShl (toL (nv b)) s zo mb zo;rw [vb] at cv;refine Zaa (tok:=0) (rs:=[.tmp 4,.tmp 5,.tmp 6]) func158 rfl ntmps158 results158 call158 zr zs ?_
   (refine wkvp (w_3 hn hA en) (w_4 (Za1 a zo la) (Za1 b zo lb) cc clz) (w_s ?_);intros)
   refine Zds (Zpu _ A s zo ma zo (by rw [va];exact ha0)) ?_
   rintro _ _ ⟨sv,o,rfl,rfl,hol,hLo,hov⟩
   rw [va] at hov;rw [va];have hlen:=Zau hLo;rw [hov] at hlen;obtain⟨L,hL⟩:∃L,o.take (toL (nv a*2 ^ s)).length++[0,0]=L:=⟨_,rfl⟩;have hLl:L.length=(toL (nv a*2 ^ s)).length+2:=by rw [←hL,ZCr,ZCh];simp;omega
   have hot:o.take (toL (nv a*2 ^ s)).length=toL (nv a*2 ^ s):=by
    obtain⟨k,h3,h4⟩:=Znc hLo;rw [hov] at h4;have h5:k=(toL (nv a*2 ^ s)).length:=by rw [←h4,ZCh];omega
    rw [←h5,h4]
   have hLn:nv L=nv a*2 ^ s:=by rw [←hL,hot,Zec,Zap];simp [nv]
   have hLL:Lm L:=by rw [←hL,hot];exact(Zar _).append λy hy=>by simp at hy;omega
   have hes:u16s o=u16s o:=rfl;have e3:((A.length:Nat):Int)+1=((A.length+1:Nat):Int):=zo
   (refine wkvp (w_6 hol @Ztc hL hLl e3 (Eq.symm hvl)) (w_1 cv) (w_s ?_);intros)
   have hUl:(L.take (A.length+1)).length=A.length+1:=by rw [ZCh];omega
   have hUn:nv (L.take (A.length+1))=nv a*2 ^ s:=by
    have h3:=Zbz L (A.length+1);rw [hLn] at h3;rcases ZC3 (nv (L.drop (A.length+1))) with h4 | h4
    ·rw [h4,ZEm,ZDe] at h3;exact h3.symm
    ·have:=ZE2 (65536 ^ (A.length+1)) h4;omega
   rename_i sv2 sv';have vn:nv (toL (nv b*2 ^ s))=nv b*2 ^ s:=Zap _
   have hb20:nv b*2 ^ s≠0:=by
    have:=Nat.mul_pos (ZDl h0) hp;omega
   have htop:=(Zef hb20).2;rw [hvl] at htop;have hTD:(L.take (A.length+1))++(L.drop (A.length+1))=L:=ZD2 _ _;have clong:=fun(σ:Mem) h44=>natLong σ sv' (L.take (A.length+1)) (L.drop (A.length+1)) (toL (nv b*2 ^ s)) n hvl h44 zo (by rw [hUl];omega) (by rw [hUl,ZD7];omega) (hLL.take _) (hLL.drop _) (Zar _) htop
    (by rw [hUl,←Zy2 (hLL.take _),hUn,vn];exact hdl)
   rw [hUl,hUn,vn,qe,re] at clong;refine Zds (clong _ (by rw [hTD];(simp (disch:=omega) only [go_sem,Ztc,hL]<;>repeat' first|rfl|refine⟨?_,?_⟩))) ?_
   rintro _ σ' ⟨U',rfl,h44',hUl',hUL',hUn'⟩
   have ct:=Za1 U' zo hUL';rw [hUn'] at ct;have htk:(U'++L.drop (A.length+1)).take (A.length+1)=U':=by rw [←hUl'];exact List.take_left
   rcases ZC3 s with hs0 | hs0
   ·subst hs0;have cr:=natShl (toL ((nv a%nv b)*2 ^ 0)) 0 (by have:=Zau hUL';rw [hUn'] at this;omega) (Zar _) zo;rw [Zap,ZFq,ZEl,ZEl] at cr;rw [ZFq,ZEl] at ct;have ez:(0:Int) - ((0:Nat):Int)=((0:Nat):Int):=zo
    (repeat' (first|(with_reducible first|refine stp ?_|apply gx1|apply gx2|apply gx3|apply gx4|apply gx5|apply gx6|apply gx7|apply gw1 (ct)|refine gw0 (cr) ?_ ?_)|(with_reducible refine Zcm ?_;intro _)|((with_reducible refine gE ?_);(try simp (disch:=omega) only [go_sem,h44',htk,ZCl,ZEs,ZD9,ez])<;>first|rfl|omega)|with_reducible refine Zak zd ?_))
    simp (disch:=omega) only [go_sem]
   ·have cr:=natShr (toL ((nv a%nv b)*2 ^ s)) s (by have:=Zau hUL';rw [hUn'] at this;omega) (Zar _) hs0 zo;rw [Zap,Nat.mul_div_cancel _ hp] at cr;have ez:(0:Int) - (s:Int)=-(s:Int):=zo
    (repeat' (first|(with_reducible first|refine stp ?_|apply gx1|apply gx2|apply gx3|apply gx4|apply gx5|apply gx6|apply gx7|apply gw1 (ct)|refine gw0 (cr) ?_ ?_)|(with_reducible refine Zcm ?_;intro _)|((with_reducible refine gE ?_);(try simp (disch:=omega) only [go_sem,h44',htk,ZCl,ZEs,ZD9,ez])<;>first|rfl|omega)|with_reducible refine Zak zd ?_))
    simp (disch:=omega) only [go_sem]
theorem natGcd (a b:List Nat) (ha:a.length≤200000000) (hb:b.length≤200000000) (la:Lm a) (lb:Lm b):Pure prog 114 [lim a,lim b] (lim (toL (Nat.gcd (nv a) (nv b)))):=by
 have h1:=Zau la;have h2:=Zau lb
 have cu:∀x:Nat,(toL x).length≤200000000→Pure prog 193 [lim (toL x)] (.tup [.v (.int .u64 (if x < 18446744073709551616 then (x:Int) else 0)),.v (.bool (decide (x < 18446744073709551616)))]):=by
  intro x hx;have:=natUint (toL x) zo (Zar x)
  rwa [Zap] at this
 have cd:∀x y:Nat,(toL x).length≤200000000→(toL y).length≤200000000→y≠0→Pure prog 158 [lim (toL x),lim (toL y)] (.tup [lim (toL (x/y)),lim (toL (x%y)),.v (.int .i64 0)]):=by
  intro x y hx hy h0;have:=Zpv (toL x) (toL y) hx hy (Zar x) (Zar y) (by rw [Zap];exact h0)
  rwa [Zap,Zap] at this
 refine Zaa (tok:=0) (rs:=[.tmp 4]) func114 rfl ntmps114 results114 call114 zr zs ?_
 (refine wkvp w_t (w_2 (Zny a zo la) (Zny b zo lb)) (w_s ?_);intros)
 refine Zad (ι:=Nat) (λy e m=>∃x,(e 0=lim (toL x)∧e 1=lim (toL y))∧(toL x).length≤200000000∧(toL y).length≤200000000∧Nat.gcd x y=Nat.gcd (nv a) (nv b)) (λy=>y) (nv b) zr ?_ ?_
 ·rintro y e m ⟨x,⟨e0,e1⟩,hx,hy,hg⟩
  rcases ZC3 y with h0 | h0
  ·subst h0;have hl:=Zbn.2 (rfl:(0:Nat)=0);rw [Nat.gcd_zero_right] at hg
   (refine wkvp (w_3 e0 e1 hl) w_t (w_s ?_);intros)
   simp (disch:=omega) only [go_sem,hg]
  ·have hl:0 < (toL y).length:=by
    have:=(Zef (show y≠0 by omega)).1;omega
   by_cases hs:x < 18446744073709551616∧y < 18446744073709551616
   ·obtain⟨hsx,hsy⟩:=hs;have dx:decide (x < 18446744073709551616)=true:=ZB4 hsx;have dy:decide (y < 18446744073709551616)=true:=ZB4 hsy
    (repeat' (first|(with_reducible first|refine stp ?_|apply gx1|apply gx2|apply gx3|apply gx4|apply gx5|apply gx6|apply gx7|refine gw0 (cu x hx) ?_ ?_|refine gw0 (cu y hy) ?_ ?_)|(with_reducible refine Zcm ?_;intro _)|((with_reducible refine gE ?_);(try simp (disch:=omega) only [go_sem,e0,e1,ZBv hsx,ZBv hsy,dx,dy])<;>first|rfl|omega)|with_reducible refine Zak zd ?_))
    refine Zad (ι:=Nat) (λY e m=>∃X:Nat,(e 5=.v (.int .u64 (X:Int))∧e 7=.v (.int .u64 (Y:Int)))∧X < 18446744073709551616∧Y < 18446744073709551616∧Nat.gcd X Y=Nat.gcd (nv a) (nv b)) (λY=>Y) y zr ?_ ?_
    ·rintro Y e m ⟨X,⟨e5,e7⟩,hX,hY,hg2⟩
     rcases ZC3 Y with h3 | h3
     ·subst h3;rw [Nat.gcd_zero_right] at hg2;have co:=natOf X hX;rw [hg2] at co;rw [hg2] at e5
      (refine wkvp (w_3 e5 e7 @ZDp) (w_1 co) (w_s ?_);intros)
      simp (disch:=omega) only [go_sem]
     ·have hn:(Y:Int)≠0:=zo;have hm:=ZDj X h3
      (refine wkad (w_4 e5 e7 @Zfn hn) w_t w_t (w_s ?_);intros)
      exact⟨X%Y,⟨Y,⟨gC,gC⟩,hY,zo,by rw [←hg2,ZF7 X Y,Nat.gcd_rec Y X,ZF7]⟩,hm⟩
    ·exact⟨x,⟨gC,gC⟩,hsx,hsy,hg⟩
   ·have hm:=ZDj x h0;have hml:(toL (x%y)).length≤200000000:=ZB1 (Za7 (Nat.le_of_lt hm)) hy
    have hdd:(decide (x < 18446744073709551616) && decide (y < 18446744073709551616))=false:=by
     rw [Bool.and_eq_false_iff,ZEx,ZEx];omega
    have hgg:Nat.gcd y (x%y)=Nat.gcd (nv a) (nv b):=by rw [←hg,ZF7 x y,Nat.gcd_rec y x,ZF7]
    by_cases hsx:x < 18446744073709551616
    ·have hsy:¬y < 18446744073709551616:=λh=>hs ⟨hsx,h⟩;have dx:decide (x < 18446744073709551616)=true:=ZB4 hsx;have dy:decide (y < 18446744073709551616)=false:=ZB3 hsy
     (repeat' (first|(with_reducible first|refine stp ?_|apply gx1|apply gx2|apply gx3|apply gx4|apply gx5|apply gx6|apply gx7|refine gw0 (cu x hx) ?_ ?_|refine gw0 (cu y hy) ?_ ?_|refine gw0 (cd x y hx hy zo) ?_ ?_)|(with_reducible refine Zcm ?_;intro _)|((with_reducible refine gE ?_);(try simp (disch:=omega) only [go_sem,e0,e1,ZBv hsx,ZBu hsy,dx,dy])<;>first|rfl|omega)|with_reducible refine Zak zd ?_))
     exact⟨x%y,⟨y,⟨gW e1,gC⟩,hy,hml,hgg⟩,hm⟩
    ·have dx:decide (x < 18446744073709551616)=false:=ZB3 hsx;by_cases hsy:y < 18446744073709551616
     ·have dy:decide (y < 18446744073709551616)=true:=ZB4 hsy
      (repeat' (first|(with_reducible first|refine stp ?_|apply gx1|apply gx2|apply gx3|apply gx4|apply gx5|apply gx6|apply gx7|refine gw0 (cu x hx) ?_ ?_|refine gw0 (cu y hy) ?_ ?_|refine gw0 (cd x y hx hy zo) ?_ ?_)|(with_reducible refine Zcm ?_;intro _)|((with_reducible refine gE ?_);(try simp (disch:=omega) only [go_sem,e0,e1,ZBu hsx,ZBv hsy,dx,dy])<;>first|rfl|omega)|with_reducible refine Zak zd ?_))
      exact⟨x%y,⟨y,⟨gW e1,gC⟩,hy,hml,hgg⟩,hm⟩
     ·have dy:decide (y < 18446744073709551616)=false:=ZB3 hsy
      (repeat' (first|(with_reducible first|refine stp ?_|apply gx1|apply gx2|apply gx3|apply gx4|apply gx5|apply gx6|apply gx7|refine gw0 (cu x hx) ?_ ?_|refine gw0 (cu y hy) ?_ ?_|refine gw0 (cd x y hx hy zo) ?_ ?_)|(with_reducible refine Zcm ?_;intro _)|((with_reducible refine gE ?_);(try simp (disch:=omega) only [go_sem,e0,e1,ZBu hsx,ZBu hsy,dx,dy])<;>first|rfl|omega)|with_reducible refine Zak zd ?_))
      exact⟨x%y,⟨y,⟨gW e1,gC⟩,hy,hml,hgg⟩,hm⟩
 ·exact⟨nv a,⟨gC,gC⟩,zo,zo,rfl⟩
theorem Ze6 (l:List Nat) (hs:l.length≤1000000000) (hl:Lm l):Pure prog 133 [lim l] (lim (toL (nv l))):=by
 refine Zaa (tok:=0) (rs:=[.tmp 2]) func133 rfl ntmps133 results133 call133 zr zs ?_
 (refine wkvp w_t w_t (w_s ?_);intros)
 refine Zad (ι:=Nat) (λk e m=>k≤l.length∧e 0=lim l∧e 3=.v (.int .i64 (k:Int))∧∀j,k≤j→gN l j=0) (λk=>k) l.length zr ?_ ?_
 ·rintro k e m ⟨hk,e0,e3,hz⟩
  have gl:=Zb2 hl (k - 1);have hln:(l.take k).length=k:=by rw [ZCh];omega
  by_cases h0:k=0
  ·subst h0;have:=Zlk hl hk hz (.inl rfl)
   (refine wkvp (w_3 e0 e3 @Zg3) w_t (w_s ?_);intros)
   simp (disch:=omega) only [go_sem];rw [←this];rfl
  ·by_cases h1:gN l (k - 1)=0
   ·(refine wkvp (w_2 e0 e3) w_t (w_s ?_);intros)
    exact⟨k - 1,⟨zo,gW e0,by(simp (disch:=omega) only [go_sem,e3];congr 2;omega),λj hj=>by
     rcases ZCg j k with h2 | h2
     ·rw [show j=k - 1 by omega];exact h1
     ·exact hz j h2⟩,zo⟩
   ·have:=Zlk hl hk hz (.inr zo)
    (refine wkvp (w_4 e0 e3 @Zg3 hln) w_t (w_s ?_);intros)
    simp (disch:=omega) only [go_sem,this]
 ·exact⟨ZBw _,gC,gC,λj hj=>Zfk hj⟩
theorem Zk7 (n:Nat) (hn:n < 18446744073709551616):Pure prog 79 [.v (.int .u64 (n:Int))] (lim (toL n)):=by
 have b1:=(Zae (n:=n) (k:=4)).2 hn;refine Zaa (tok:=0) (rs:=[.tmp 2]) func79 rfl ntmps79 results79 call79 zr zs ?_
 (refine wkvp w_t w_t (w_s ?_);intros)
 refine Zfb (Frz.nilOwn (d:=3) 11 1 161 (gC)) ?_;refine Zad (ι:=Nat) (λk e m=>k≤n∧e 0=.v (.int .u64 (k:Int))∧∃sv l,e 3=.own 11 sv∧m 11=some (.row sv 161 1 (u16s l) 0)∧l++toL k=toL n) (λk=>k) n zr ?_ ?_
 ·rintro k e m ⟨hk,e0,sv,l,e3,em,hl⟩
  by_cases hk0:k=0
  ·subst hk0;rw [Zax,ZDf] at hl
   (refine wkvp (w_3 e0 e3 @ZDp) w_t (w_s ?_);intros)
   simp (disch:=omega) only [go_sem,em,hl]
  ·have b2:l.length≤(toL n).length:=by rw [←hl];simp
   have hne:k≠0:=hk0;have r1:(k:Int).tmod 65536=((k%65536:Nat):Int):=Zfn k 65536;have r2:(k:Int).tdiv 65536=((k/65536:Nat):Int):=Zd0 k 65536;have r3:k%65536%65536=k%65536:=Nat.mod_mod _ _
   (refine wkvp (w_7 e0 e3 em r1 r2 @Zbv r3) w_t (w_s ?_);intros)
   refine⟨k/65536,⟨zo,gW e0,_,l++[k%65536],gC,gC,?_⟩,zo⟩;rw [←hl,Ze3 hk0];simp
 ·exact⟨ZBw _,gC,_,[],gC,gC,by simp⟩
theorem Zno (l:List Nat) (hs:l.length≤4) (hl:Lm l):Pure prog 203 [lim l] (.v (.int .u64 (nv l:Nat))):=by
 refine Zaa (tok:=0) (rs:=[.tmp 2]) func203 rfl ntmps203 results203 call203 zr zs ?_
 (refine wkvp w_t w_t (w_s ?_);intros)
 refine Zad (ι:=Nat) (λk e m=>k≤l.length∧e 0=lim l∧e 4=.v (.int .i64 ((k:Int) - 1))∧e 3=.v (.int .u64 (nv (l.drop k):Nat))) (λk=>k) l.length zr ?_ ?_
 ·rintro k e m ⟨hk,e0,e4,e3⟩
  by_cases h0:k=0
  ·subst h0;rw [ZD9] at e3
   (refine wkvp (w_3 e0 e4 e3) w_t (w_s ?_);intros)
   simp (disch:=omega) only [go_sem]
  ·have gl:=Zb2 hl (k - 1);have b1:=Zh0 (hl.drop k);have b2:65536 ^ (l.drop k).length≤65536 ^ 3:=ZDk zo (by rw [ZD7];omega);have e1:(nv (l.drop k):Int)*65536=((nv (l.drop k)*65536:Nat):Int):=zo
   (refine wkvp (w_5 e0 e4 e3 e1 @Za3) w_t (w_s ?_);intros)
   refine⟨k - 1,⟨zo,gW e0,by(simp (disch:=omega) only [go_sem,e4];congr 2;omega),?_⟩,zo⟩;simp (disch:=omega) only [go_sem];rw [Zb3 l (k - 1),show k - 1+1=k by omega];congr 3;omega
 ·exact⟨ZBw _,gC,gC,by(simp (disch:=omega) only [go_sem,List.drop_length]<;>repeat' first|rfl|refine⟨?_,?_⟩)⟩
theorem Zk8 (l:List Nat) (i:Nat) (hs:l.length≤1000000000) (hl:Lm l):Pure prog 202 [lim l,.v (.int .i64 (i:Int))] (.v (.int .i64 (gN l i:Nat))):=by
 have gl:=Zb2 hl i;refine Zaa (tok:=0) (rs:=[.tmp 4]) func202 rfl ntmps202 results202 call202 zr zs ?_;by_cases h:i < l.length
 ·(refine wkvp w_t w_t (w_s ?_);intros)
  simp (disch:=omega) only [go_sem]
 ·have g0:gN l i=0:=Zfk zo
  (refine wkvp w_t w_t (w_s ?_);intros)
  simp (disch:=omega) only [go_sem,g0];rfl
theorem Zx6 (a b:List Nat) (ha:a.length≤1000000000) (hb:b.length≤1000000000) (la:Lm a) (lb:Lm b):Pure prog 206 [lim a,lim b] (.v (.int .i64 (cmpN (nv a) (nv b)))):=by
 have cl:=λi=>Zk8 a i ha la;have cr:=λi=>Zk8 b i hb lb;refine Zaa (tok:=0) (rs:=[.tmp 4]) func206 rfl ntmps206 results206 call206 zr zs ?_;have hmx:max (a.length:Int) (b.length:Int)=((max a.length b.length:Nat):Int):=zo;obtain⟨M,hM⟩:∃M,max a.length b.length=M:=⟨_,rfl⟩
 (refine wkvp (w_2 hmx hM) w_t (w_s ?_);intros)
 refine Zad (ι:=Nat) (λk e m=>k≤M∧e 0=lim a∧e 1=lim b∧e 5=.v (.int .i64 ((k:Int) - 1))∧nv (a.drop k)=nv (b.drop k)) (λk=>k) M zr ?_ ?_
 ·rintro k e m ⟨hk,e0,e1,e5,hz⟩
  by_cases h0:k=0
  ·subst h0;rw [ZD9,ZD9] at hz
   (refine wkvp (w_3 e0 e1 e5) w_t (w_s ?_);intros)
   simp (disch:=omega) only [go_sem,cmpN,hz,Nat.lt_irrefl,ZCx]
  ·obtain⟨j,rfl⟩:∃j,k=j+1:=⟨k - 1,zo⟩;have ej:((j+1:Nat):Int) - 1=(j:Int):=zo;rw [ej] at e5;have ga:=Zb2 la j;have gb:=Zb2 lb j;by_cases p1:gN a j < gN b j
   ·have:=Zt5 la lb hz p1
    (refine wkvp (w_3 e0 e1 e5) (w_2 (cl j) (cr j)) (w_s ?_);intros)
    simp (disch:=omega) only [go_sem,cmpN,ZBv this]
   ·by_cases p2:gN b j < gN a j
    ·have:=Zt5 lb la hz.symm p2;have this2:¬nv a < nv b:=zo
     (refine wkvp (w_3 e0 e1 e5) (w_2 (cl j) (cr j)) (w_s ?_);intros)
     simp (disch:=omega) only [go_sem,cmpN,ZBv this,ZBu this2]
    ·(refine wkvp (w_3 e0 e1 e5) (w_2 (cl j) (cr j)) (w_s ?_);intros)
     refine⟨j,⟨zo,gW e0,gW e1,gW e5,?_⟩,zo⟩;rw [Zb3,Zb3 b,hz];omega
 ·refine⟨ZBw _,gC,gC,gC,?_⟩;rw [ZDo zo,ZDo zo]
theorem refSub (a b:List Nat) (ha:a.length≤1000000000) (hb:b.length≤1000000000) (la:Lm a) (lb:Lm b) :
 Pure prog 205 [lim a,lim b] (.tup [lim (if nv a < nv b then [] else toL (nv a - nv b)),.v (.int .i64 (if nv a < nv b then 2 else 0))]):=by
 have cl:=λi=>Zk8 a i ha la;have cr:=λi=>Zk8 b i hb lb;have cc:=Zx6 a b ha hb la lb;by_cases hlt:nv a < nv b
 ·rw [ZBv hlt,ZBv hlt];refine Pure.wk ?_ (okTup rfl);refine Zaa (tok:=0) (rs:=[.tmp 4,.tmp 5]) func205 rfl ntmps205 results205 call205 zr zs ?_;have hc:cmpN (nv a) (nv b)=-1:=by unfold cmpN;rw [ZBv hlt]
  (refine wkvp (w_1 hc) (w_1 cc) (w_s ?_);intros)
  simp (disch:=omega) only [go_sem]
 ·rw [ZBu hlt,ZBu hlt];have hc:0≤cmpN (nv a) (nv b):=by unfold cmpN;rw [ZBu hlt];split<;>omega
  refine Zaa (tok:=0) (rs:=[.tmp 4,.tmp 5]) func205 rfl ntmps205 results205 call205 zr zs ?_
  (refine wkvp w_t (w_1 cc) (w_s ?_);intros)
  refine Zfb (Frz.nilOwn (d:=6) 37 1 161 (gC)) ?_;refine Zad (ι:=Nat) (λk e m=>k≤a.length∧(e 0=lim a∧e 1=lim b∧e 8=.v (.int .i64 (k:Int)))∧∃sv o r,(e 6=.own 37 sv∧e 7=.v (.int .i64 (r:Nat))∧m 37=some (.row sv 161 1 (u16s o) 0))∧o.length=k∧Lm o∧r≤1∧nv o+nv (b.take k)=nv (a.take k)+65536 ^ k*r) (λk=>a.length - k) 0 zr ?_ ?_
  ·rintro k e m ⟨hk,⟨e0,e1,e8⟩,sv,o,r,⟨e6,e7,em⟩,hol,hLo,hr,hv⟩
   have ga:=Zb2 la k;have gb:=Zb2 lb k;by_cases hlt2:k < a.length
   ·have step:∀(d r':Nat),d+r+gN b k=gN a k+65536*r'→d < 65536→r'≤1→(o++[d]).length=k+1∧Lm (o++[d])∧r'≤1∧nv (o++[d])+nv (b.take (k+1))=nv (a.take (k+1))+65536 ^ (k+1)*r':=by
     intro d r' hd h3 h4;have:=Ztj hv hd;have nvs:nv (o++[d])=nv o+65536 ^ k*d:=by rw [Zec,hol];simp [nv]
     rw [nvs,Zaz,Zaz,ZC5];exact⟨by simp [hol],hLo.append (Lm.one h3),h4,this⟩
    by_cases hneg:gN a k < gN b k+r
    ·have hs:=step (gN a k+65536 - gN b k - r) 1 zo zo zo;have w:(gN a k:Int) - gN b k - r+65536=((gN a k+65536 - gN b k - r:Nat):Int):=zo
     (refine wkvp (w_8 e0 e1 e8 e6 e7 em hol w) (w_2 (cl k) (cr k)) (w_s ?_);intros)
     exact⟨k+1,⟨zo,⟨gW e0,gW e1,gV e8⟩,_,_,1,⟨gC,gC,gC⟩,hs⟩,zo⟩
    ·have hs:=step (gN a k - gN b k - r) 0 zo zo zo;have w:(gN a k:Int) - gN b k - r=((gN a k - gN b k - r:Nat):Int):=zo
     (refine wkvp (w_8 e0 e1 e8 e6 e7 em hol w) (w_2 (cl k) (cr k)) (w_s ?_);intros)
     exact⟨k+1,⟨zo,⟨gW e0,gW e1,gV e8⟩,_,_,0,⟨gC,gC,gC⟩,hs⟩,zo⟩
   ·have hka:k=a.length:=zo;have hbs:=Zbz b k;have hno:=Zh0 hLo;rw [hol] at hno;rw [Zbr (l:=a) zo] at hv
    have hno2:nv o=nv a - nv b:=by
     have hbd:nv (b.drop k)=0:=by
      rcases ZC3 (nv (b.drop k)) with h3 | h3
      ·exact h3
      ·have h4:=ZE2 (65536 ^ k) h3;have h5:=Zh0 la;rw [←hka] at h5;omega
     rw [hbd,ZEm,ZDe] at hbs
     have hr0:r=0:=by
      rcases ZC3 r with h3 | h3
      ·exact h3
      ·have:r=1:=zo;subst this;omega
     subst hr0;omega
    (repeat' (first|(with_reducible first|refine stp ?_|apply gx1|apply gx2|apply gx3|apply gx4|apply gx5|apply gx6|apply gx7|apply gw1 (Ze6 o zo hLo))|(with_reducible refine Zcm ?_;intro _)|((with_reducible refine gE ?_);(try simp (disch:=omega) only [go_sem,e0,e1,e8,e6,e7,em])<;>first|rfl|omega)|with_reducible refine Zak zd ?_))
    simp (disch:=omega) only [go_sem,hno2]
  ·exact⟨ZB5 _,⟨gC,gC,gC⟩,_,[],0,⟨gC,gC,gC⟩,rfl,Lm.nil,zo,by simp [nv]⟩
def valL (l:List Nat):Bool:=decide (l.length=0) || !decide (gN l (l.length - 1)=0)
theorem Zin {l:List Nat} (h:Lm l):valL l=true↔l=toL (nv l):=by
 unfold valL;constructor
 ·intro h1;refine canon h ?_;simp only [ZEh,ZCs,ZEd,ZEx] at h1;rcases h1 with h1 | h1
  ·exact .inl (ZFf h1)
  ·exact .inr zo
 ·intro h1;by_cases h0:nv l=0
  ·rw [h0,Zax] at h1;subst h1;rfl
  ·obtain⟨h2,h3⟩:=Zef h0;rw [←h1] at h2 h3;simp only [ZEh,ZCs,ZEd,ZEx];exact .inr zo
theorem Ztq (l:List Nat) (hs:l.length≤1000000000) (hl:Lm l):Pure prog 124 [lim l] (.v (.bool (valL l))):=by
 refine Zaa (tok:=0) (rs:=[.tmp 2]) func124 rfl ntmps124 results124 call124 zr zs ?_;have gl:=Zb2 hl (l.length - 1);unfold valL;by_cases h0:l.length=0
 ·(refine wkvp (w_1 h0) w_t (w_s ?_);intros)
  simp (disch:=omega) only [go_sem,h0]
 ·by_cases h1:gN l (l.length - 1)=0
  ·(refine wkvp (w_2 h1 @ZDp) w_t (w_s ?_);intros)
   simp (disch:=omega) only [go_sem,h0,h1]
  ·(refine wkvp w_t w_t (w_s ?_);intros)
   simp (disch:=omega) only [go_sem,h0,h1]
theorem Ztr (a b:List Nat) (ha:a.length≤1000000000) (hb:b.length≤1000000000) (la:Lm a) (lb:Lm b):Pure prog 125 [lim a,lim b] (.v (.bool (decide (a=b)))):=by
 refine Zaa (tok:=0) (rs:=[.tmp 4]) func125 rfl ntmps125 results125 call125 zr zs ?_;by_cases hl:a.length=b.length
 ·(refine wkvp (w_1 hl) w_t (w_s ?_);intros)
  refine Zad (ι:=Nat) (λk e m=>k≤a.length∧(e 0=lim a∧e 1=lim b∧e 5=.v (.int .i64 (k:Int)))∧∀j,j < k→gN a j=gN b j) (λk=>a.length - k) 0 zr ?_ ?_
  ·rintro k e m ⟨hk,⟨e0,e1,e5⟩,hs⟩
   by_cases hlt:k < a.length
   ·by_cases p:gN a k=gN b k
    ·(refine wkad (w_3 e0 e1 e5) w_t w_t (w_s ?_);intros)
     exact⟨k+1,⟨zo,⟨gW e0,gW e1,gV e5⟩,λj hj=>by
      rcases ZCg j k with h1 | h1
      ·exact hs j h1
      ·rw [show j=k by omega];exact p⟩,zo⟩
    ·have hne:decide (a=b)=false:=ZB3 λh=>p (by rw [h])
     (refine wkad (w_3 e0 e1 e5) w_t w_t (w_s ?_);intros)
     simp (disch:=omega) only [go_sem,hne]
   ·have he:decide (a=b)=true:=ZB4 (List.ext_getElem hl λj h1 h2=>by
     have:=hs j zo
     rwa [gN_at h1,gN_at h2] at this)
    (refine wkad (w_3 e0 e1 e5) w_t w_t (w_s ?_);intros)
    simp (disch:=omega) only [go_sem,he]
  ·exact⟨ZB5 _,⟨gC,gC,gC⟩,λj hj=>zo⟩
 ·have hne:decide (a=b)=false:=ZB3 λh=>hl (by rw [h])
  (refine wkvp w_t w_t (w_s ?_);intros)
  simp (disch:=omega) only [go_sem,hne]
theorem Zx5 (a b:List Nat) (ha:a.length≤400000000) (hb:b.length≤400000000) (la:Lm a) (lb:Lm b):Pure prog 132 [lim a,lim b] (lim (toL (nv a*nv b))):=by
 have cr:=λi=>Zk8 b i zo lb;refine Zaa (tok:=0) (rs:=[.tmp 4]) func132 rfl ntmps132 results132 call132 zr zs ?_
 (refine wkvp (w_2 @Za3 @Zbm) w_t (w_s ?_);intros)
 refine Zad (ι:=Nat) (λi e m=>i≤a.length∧(e 0=lim a∧e 1=lim b∧e 6=.v (.int .i64 i))∧∃sv o,(e 5=.own 16 sv∧m 16=some (.row sv 161 1 (u16s o) 0))∧o.length=a.length+b.length+1∧Lm o∧(∀j,i+b.length≤j→gN o j=0)∧nv o=nv (a.take i)*nv b) (λi=>a.length - i) 0 zr ?_ ?_
 ·rintro i e m ⟨hi,⟨e0,e1,e6⟩,sv,o,⟨e5,em⟩,hol,hLo,hz,hv⟩
  by_cases hlt:i < a.length
  ·have gx:=Zb2 la i
   (refine wkvp (w_7 e0 e1 e6 e5 em hol @Za3) w_t (w_s ?_);intros)
   refine Zad (ι:=Nat) (λk e' m'=>k≤b.length+1∧(e' 0=lim a∧e' 1=lim b∧e' 6=.v (.int .i64 i)∧e' 8=.v (.int .i64 k)∧e' 5=.own 16 sv)∧∃o' c,(e' 7=.v (.int .u64 (c:Nat))∧m' 16=some (.row sv 161 1 (u16s o') 0))∧o'.length=a.length+b.length+1∧Lm o'∧c < 65536∧(b.length < k→c=0)∧(∀j,i+max b.length k≤j→gN o' j=0)∧nv o'+65536 ^ (i+k)*c=nv o+65536 ^ i*nv (b.take k)*gN a i) (λk=>b.length+1 - k) 0 zr ?_ ?_
   ·rintro k e m ⟨hk,⟨e0,e1,e6,e8,e5⟩,o',c,⟨e7,em⟩,hol',hLo',hc,hcz,hz',hv'⟩
    have gy:=Zb2 lb k;have go:=Zb2 hLo' (i+k);have bd:=Zpy gx gy;by_cases hgo:k < b.length∨0 < c
    ·have hkb:k≤b.length:=by
      rcases hgo with h | h
      ·omega
      ·rcases ZCg b.length k with h2 | h2
       ·have:=hcz h2;omega
       ·exact h2
     have hs:=Zt9 (x:=gN a i) (y:=gN b k) rfl (Zps (o:=o') (j:=i+k) zo _) hv';rw [←Zua,←Zaz,←ZC5,Nat.succ_eq_add_one,ZGs i] at hs;have ecomm:gN o' (i+k)+gN a i*gN b k+c=c+(gN o' (i+k)+gN a i*gN b k):=zo
     have hcz2:b.length < k+1→(c+(gN o' (i+k)+gN a i*gN b k))/65536=0:=by
      intro h;have g1:gN b k=0:=Zfk zo;have g2:=hz' (i+k) zo;rw [g1,g2];omega
     have w1:(c+(gN o' (i+k)+gN a i*gN b k))/65536 < 65536:=zo;have w2:(c+(gN o' (i+k)+gN a i*gN b k))%65536 < 65536:=zo;generalize hxy:gN a i*gN b k=xy at *;have r1:((c+(gN o' (i+k)+xy):Nat):Int).tmod 65536=(((c+(gN o' (i+k)+xy))%65536:Nat):Int):=Zfn _ 65536;have r2:((c+(gN o' (i+k)+xy):Nat):Int).tdiv 65536=(((c+(gN o' (i+k)+xy))/65536:Nat):Int):=Zd0 _ 65536;have r3:(c+(gN o' (i+k)+xy))%65536%65536=(c+(gN o' (i+k)+xy))%65536:=Nat.mod_mod _ _;have hzz:∀j,i+max b.length (k+1)≤j→gN (o'.set (i+k) ((c+(gN o' (i+k)+xy))%65536)) j=0:=λj hj=>by
      rw [Zf4 zo,ZBu zo];exact hz' j zo
     by_cases h3:k < b.length
     ·(refine wkad (w_16 e0 e1 e6 e8 e5 e7 em hol' @Za3 @Zic @Zbv hxy ecomm r1 r2 r3) (w_1 (cr k)) (w_1 (w_d 9 [(14,.v (.int .i64 (gN b k:Nat)))] [] [])) (w_s ?_);intros)
      exact⟨k+1,⟨zo,⟨gW e0,gW e1,gW e6,gS,gW e5⟩,_,_,⟨gC,gC⟩,by simpa using hol',hLo'.set _ w2,w1,hcz2,hzz,hs⟩,zo⟩
     ·have hc1:0 < c:=zo;(focus (refine wkad (w_16 e0 e1 e6 e8 e5 e7 em hol' @Za3 @Zic @Zbv hxy ecomm r1 r2 r3) (w_1 (cr k)) (w_1 (w_d 9 [(14,.v (.int .i64 (gN b k:Nat)))] [] [])) ?_;(repeat' first|exact w_t|apply w_l);all_goals intros));exact⟨k+1,⟨zo,⟨gW e0,gW e1,gW e6,gS,gW e5⟩,_,_,⟨gC,gC⟩,by simpa using hol',hLo'.set _ w2,w1,hcz2,hzz,hs⟩,zo⟩
    ·have hc0:c=0:=zo;subst hc0;rw [Zbr (l:=b) zo,ZEm,ZDe] at hv';(focus (refine wkad (w_8 e0 e1 e6 e8 e5 e7 em @ZDp) w_t w_t ?_;(repeat' first|exact w_t|apply w_l);all_goals intros));refine⟨i+1,⟨zo,⟨gW e0,gW e1,gS⟩,sv,o',⟨gW e5,gW em⟩,hol',hLo',λj hj=>hz' j zo,?_⟩,zo⟩;rw [hv',hv,Zaz,ZCo];congr 1;simp only [ZC6,ZCy,ZFp]
   ·exact⟨zo,⟨gW e0,gW e1,gW e6,gC,gW e5⟩,_,0,⟨gC,gW em⟩,hol,hLo,zo,λ_=>rfl,λj hj=>hz j zo,by simp [nv]⟩
  ·have hiA:i=a.length:=zo;subst hiA;rw [Zbr (ZBw _)] at hv
   (repeat' (first|(with_reducible first|refine stp ?_|apply gx1|apply gx2|apply gx3|apply gx4|apply gx5|apply gx6|apply gx7|apply gw1 (Ze6 o zo hLo))|(with_reducible refine Zcm ?_;intro _)|((with_reducible refine gE ?_);(try simp (disch:=omega) only [go_sem,e0,e1,e6,e5,em,hol])<;>first|rfl|omega)|with_reducible refine Zak zd ?_))
   simp (disch:=omega) only [go_sem,hv]
 ·exact⟨ZB5 _,⟨gC,gC,gC⟩,_,List.replicate (a.length+b.length+1) 0,⟨gC,gC⟩,by simp,Lm.zeros _,λj hj=>Zhq _ _,by simp [nv,Znw]⟩
theorem refDigit (R B:Nat) (hR:(toL R).length≤300000000) (hB:(toL B).length≤200000000) (h0:0 < B) (hlt:R < B*65536):Pure prog 204 [lim (toL R),lim (toL B)] (.v (.int .u64 ((R/B:Nat):Int))):=by
 refine Zaa (tok:=0) (rs:=[.tmp 4]) func204 rfl ntmps204 results204 call204 zr zs ?_
 (refine wkvp w_t w_t (w_s ?_);intros)
 refine Zad (ι:=Nat × Nat) (λp e m=>(e 0=lim (toL R)∧e 1=lim (toL B)∧e 5=.v (.int .u64 (p.1:Int))∧e 6=.v (.int .u64 (p.2:Int)))∧p.1≤p.2∧p.2≤65535∧B*p.1≤R∧R < B*(p.2+1)) (λp=>p.2 - p.1) (0,65535) zr ?_ ?_
 ·rintro ⟨lo,hi⟩ e m ⟨⟨e0,e1,e5,e6⟩,h1,h2,h3,h4⟩
  simp only at e5 e6 h1 h2 h3 h4;by_cases hlh:lo < hi
  ·obtain⟨mid,hmid⟩:∃mid,(lo+hi+1)/2=mid:=⟨_,rfl⟩;have r2:((lo+hi+1:Nat):Int).tdiv 2=((mid:Nat):Int):=by rw [←hmid];exact Zd0 _ 2
   have co:=Zk7 mid zo;have lm:(toL mid).length≤4:=Zae.2 zo;have cm:=Zx5 (toL B) (toL mid) zo zo (Zar _) (Zar _);rw [Zap,Zap] at cm
   have lbm:(toL (B*mid)).length≤1000000000:=by
    have h5:(toL (B*mid)).length≤(toL B).length+4:=by
     rw [Zae,ZDb];have h6:=Zae.1 (ZBw (toL B).length);exact Nat.mul_lt_mul'' h6 zo
    omega
   have cc:=Zx6 (toL (B*mid)) (toL R) lbm zo (Zar _) (Zar _);rw [Zap,Zap] at cc;by_cases hle:B*mid≤R
   ·have hc:cmpN (B*mid) R≤0:=by unfold cmpN;split;omega;split<;>omega
    (refine wkvp (w_8 e0 e1 e5 e6 @Za3 @Zbm r2 hc) (w_3 co cm cc) (w_s ?_);intros)
    exact⟨(mid,hi),⟨⟨gW e0,gW e1,gC,gW e6⟩,zo,h2,hle,h4⟩,by simp only;omega⟩
   ·have hc:0 < cmpN (B*mid) R:=by unfold cmpN;rw [ZBu zo,ZBv zo];omega
    have em1:(mid:Int) - 1=((mid - 1:Nat):Int):=zo
    (refine wkvp (w_9 e0 e1 e5 e6 @Za3 @Zbm r2 hc em1) (w_3 co cm cc) (w_s ?_);intros)
    exact⟨(lo,mid - 1),⟨⟨gW e0,gW e1,gW e5,gC⟩,by simp only;omega,by simp only;omega,h3,by simp only;rw [show mid - 1+1=mid by omega];omega⟩,by simp only;omega⟩
  ·have hh:lo=hi:=zo;subst hh;have hd:R/B=lo:=Nat.div_eq_of_lt_le (by rw [ZCy];exact h3) (by rw [ZCy];exact h4)
   (refine wkvp (w_4 e0 e1 e5 e6) w_t (w_s ?_);intros)
   simp (disch:=omega) only [go_sem,hd]
 ·exact⟨⟨gC,gC,gC,gC⟩,by simp,by simp,by simp,by simpa using hlt⟩
theorem Zo2 (x:Nat) (l:List Nat):AV.v (.int .u16 (x:Int)) :: u16s l=u16s (x :: l):=rfl
theorem Zpf (a b:List Nat) (ha:a.length≤200000000) (hb:b.length≤200000000) (la:Lm a) (lb:Lm b) (h0:nv b≠0):Pure prog 134 [lim a,lim b] (.tup [lim (toL (nv a/nv b)),lim (toL (nv a%nv b)),.v (.int .i64 0)]):=by
 have h1:=Zau la;have h2:=Zau lb;have va:=Zap (nv a);have vb:=Zap (nv b);have ma:=Zar (nv a);have mb:=Zar (nv b);have hb1:=(Zef h0).1;have hbp:=ZDl h0;by_cases h4:(toL (nv a)).length≤4∧(toL (nv b)).length≤4
 ·obtain⟨h4a,h4b⟩:=h4;have ca:=Zno (toL (nv a)) h4a ma;have cb:=Zno (toL (nv b)) h4b mb;rw [va] at ca;rw [vb] at cb;have hA:=Zae.1 h4a;have hB:=Zae.1 h4b;have hq:=ZF6 (nv a) (nv b);have hr:=Nat.mod_le (nv a) (nv b);have cq:=Zk7 (nv a/nv b) zo;have cr:=Zk7 (nv a%nv b) zo;have wq:IntKind.u64.wrap ((nv a/nv b:Nat):Int)=((nv a/nv b:Nat):Int):=Zff (ZFo _) (by
   have:((nv a/nv b:Nat):Int)≤(nv a:Int):=Int.ofNat_le.2 hq;omega)
  have hn:((nv b:Nat):Int)≠0:=zo;refine Zaa (tok:=0) (rs:=[.tmp 4,.tmp 5,.tmp 6]) func134 rfl ntmps134 results134 call134 zr zs ?_
  (refine wkad (w_4 @Zd0 @Zfn wq hn) (w_6 (Ze6 a zo la) (Ze6 b zo lb) ca cb cq cr) w_t (w_s ?_);intros)
  simp (disch:=omega) only [go_sem]
 ·have h4':((toL (nv a)).length≤4)→4 < (toL (nv b)).length:=λh=>by
   rcases ZCg 4 (toL (nv b)).length with h3 | h3
   ·exact h3
   ·exact absurd ⟨h,h3⟩ h4
  obtain⟨A,hA⟩:∃A,toL (nv a)=A:=⟨_,rfl⟩;rw [hA] at va ma h1 h4';refine Zaa (tok:=0) (rs:=[.tmp 4,.tmp 5,.tmp 6]) func134 rfl ntmps134 results134 call134 zr zs ?_;rcases ZCg 4 A.length with h5 | h5
  rotate_left
  have h6:=h4' h5;all_goals
   (refine wkvp (w_1 hA) (w_2 (Ze6 a zo la) (Ze6 b zo lb)) (w_s ?_);intros)
   rw [hA];refine Zfb (Frz.trans (Frz.nil (d:=7) 1 (gC)) (Frz.nil (d:=8) 1 (gC))) ?_;refine Zyf (ι:=Nat) (λk e m=>k≤A.length∧(e 0=lim A∧e 1=lim (toL (nv b))∧e 9=.v (.int .i64 ((k:Int) - 1)))∧∃ql R,(e 7=lim ql∧e 8=lim (toL R))∧ql.length=A.length - k∧Lm ql∧R < nv b∧nv (A.drop k)=nv ql*nv b+R) (λk=>k) A.length zr ?_ ?_
   ·rintro k e m ⟨hk,⟨e0,e1,e9⟩,ql,R,⟨e7,e8⟩,hql,hqL,hR,hv⟩
    by_cases hk0:k=0
    ·subst hk0;rw [ZD9,va] at hv;have hq:nv ql=nv a/nv b:=by rw [hv,ZCy,Nat.mul_add_div hbp,ZGy hR,ZDe]
     have hr:R=nv a%nv b:=by rw [hv,ZCy,Nat.mul_add_mod,ZEa hR]
     have cn:=Ze6 ql zo hqL;rw [hq] at cn;rw [hr] at e8
     (refine wkvp (w_5 e0 e1 e9 e7 e8) (w_1 cn) (w_s ?_);intros)
     simp (disch:=omega) only [go_sem]
    ·obtain⟨j,rfl⟩:∃j,k=j+1:=⟨k - 1,zo⟩;have ej:((j+1:Nat):Int) - 1=(j:Int):=zo;rw [ej] at e9;have gx:=Zb2 ma j;have hRl:(toL R).length≤(toL (nv b)).length:=Za7 zo;have cn:=Ze6 (gN A j :: toL R) (by simp;omega) (λy hy=>by
      rcases List.mem_cons.1 hy with rfl | hy
      ·exact gx
      ·exact Zar R y hy)
     have en:nv (gN A j :: toL R)=gN A j+65536*R:=by rw [nv,Zap]
     rw [en] at cn;have hX:gN A j+65536*R < nv b*65536:=zo;obtain⟨X,hXd⟩:∃X,gN A j+65536*R=X:=⟨_,rfl⟩;rw [hXd] at cn hX
     have hXl:(toL X).length≤(toL (nv b)).length+1:=by
      rw [Zae,ZC5];exact ZDx hX (ZCf _ (Nat.le_of_lt (Zae.1 (ZBw (toL (nv b)).length))))
     have cd:=refDigit X (nv b) zo zo hbp hX;have hd:X/nv b < 65536:=by rw [ZE0 hbp,ZCy];exact hX
     have hdm:=ZEt X (nv b);have hml:=ZDj X hbp;have co:=Zk7 (X/nv b) zo;have ld:(toL (X/nv b)).length≤1:=Zae.2 zo;have cm:=Zx5 (toL (nv b)) (toL (X/nv b)) zo zo (Zar _) (Zar _);rw [Zap,Zap] at cm;have hle:nv b*(X/nv b)≤X:=zo;have cs:=refSub (toL X) (toL (nv b*(X/nv b))) zo (ZB1 (Za7 hle) zo) (Zar _) (Zar _);rw [Zap,Zap,ZBu zo,ZBu zo,show X - nv b*(X/nv b)=X%nv b by omega] at cs;have hcut:X/nv b%65536=X/nv b:=ZEa hd
     (repeat' (first|(with_reducible first|refine stp ?_|apply gx1|apply gx2|apply gx3|apply gx4|apply gx5|apply gx6|apply gx7|apply gw1 (cn)|refine gw0 (cd) ?_ ?_|refine gw0 (co) ?_ ?_|refine gw0 (cm) ?_ ?_|refine gw0 (cs) ?_ ?_)|(with_reducible refine Zcm ?_;intro _)|((with_reducible refine gE ?_);(try simp (disch:=omega) only [go_sem,e0,e1,e9,e7,e8,Zo2,Zbv,hcut])<;>first|rfl|omega)|with_reducible refine Zak zd ?_))
     refine⟨j,_,Frz.own (d:=7) (gC) (gC),⟨zo,⟨gW e0,gW e1,gC⟩,X/nv b :: ql,X%nv b,⟨by(simp (disch:=omega) only [go_sem,Zo2]<;>repeat' first|rfl|refine⟨?_,?_⟩),gC⟩,by simp [hql];omega,?_,hml,?_⟩,zo⟩
     ·intro y hy;rcases List.mem_cons.1 hy with rfl | hy
      ·exact hd
      ·exact hqL y hy
     ·rw [Zb3,hv,nv,ZCo,ZC2 65536,←hXd];rw [←hXd] at hdm;rw [ZCy] at hdm;have:65536*(nv ql*nv b)=65536*nv ql*nv b:=by rw [ZC6]
      omega
   ·exact⟨ZBw _,⟨gC,gC,gC⟩,[],0,⟨by(simp (disch:=omega) only [go_sem,Ztd]<;>repeat' first|rfl|refine⟨?_,?_⟩),by(simp (disch:=omega) only [go_sem,Zax,Ztd]<;>repeat' first|rfl|refine⟨?_,?_⟩)⟩,by simp,Lm.nil,hbp,by rw [ZDo (ZBw _)];simp [nv]⟩
theorem refGcd (a b:List Nat) (ha:a.length≤200000000) (hb:b.length≤200000000) (la:Lm a) (lb:Lm b):Pure prog 126 [lim a,lim b] (lim (toL (Nat.gcd (nv a) (nv b)))):=by
 have h1:=Zau la;have h2:=Zau lb
 have cd:∀x y:Nat,(toL x).length≤200000000→(toL y).length≤200000000→y≠0→Pure prog 134 [lim (toL x),lim (toL y)] (.tup [lim (toL (x/y)),lim (toL (x%y)),.v (.int .i64 0)]):=by
  intro x y hx hy h0;have:=Zpf (toL x) (toL y) hx hy (Zar x) (Zar y) (by rw [Zap];exact h0)
  rwa [Zap,Zap] at this
 refine Zaa (tok:=0) (rs:=[.tmp 4]) func126 rfl ntmps126 results126 call126 zr zs ?_
 (refine wkvp w_t (w_2 (Ze6 a zo la) (Ze6 b zo lb)) (w_s ?_);intros)
 refine Zad (ι:=Nat) (λy e m=>∃x,(e 0=lim (toL x)∧e 1=lim (toL y))∧(toL x).length≤200000000∧(toL y).length≤200000000∧Nat.gcd x y=Nat.gcd (nv a) (nv b)) (λy=>y) (nv b) zr ?_ ?_
 ·rintro y e m ⟨x,⟨e0,e1⟩,hx,hy,hg⟩
  rcases ZC3 y with h0 | h0
  ·subst h0;have hl:=Zbn.2 (rfl:(0:Nat)=0);rw [Nat.gcd_zero_right] at hg
   (refine wkvp (w_3 e0 e1 hl) w_t (w_s ?_);intros)
   simp (disch:=omega) only [go_sem,hg]
  ·have hl:0 < (toL y).length:=by
    have:=(Zef (show y≠0 by omega)).1;omega
   have hm:=ZDj x h0;have hml:(toL (x%y)).length≤200000000:=ZB1 (Za7 (Nat.le_of_lt hm)) hy;have hgg:Nat.gcd y (x%y)=Nat.gcd (nv a) (nv b):=by rw [←hg,ZF7 x y,Nat.gcd_rec y x,ZF7]
   (refine wkvp (w_2 e0 e1) (w_1 (cd x y hx hy zo)) (w_s ?_);intros)
   exact⟨x%y,⟨y,⟨gW e1,gC⟩,hy,hml,hgg⟩,hm⟩
 ·exact⟨nv a,⟨gC,gC⟩,zo,zo,rfl⟩
theorem nAdd (n m:Nat) (hn:(toL n).length≤100000000) (hm:(toL m).length≤100000000):Pure prog 222 [lim (toL n),lim (toL m)] (lim (toL (n+m))):=by
 have:=natAdd (toL n) (toL m) zo zo (Zar _) (Zar _)
 rwa [Zap,Zap] at this
theorem nMul (n m:Nat) (hn:(toL n).length≤100000000) (hm:(toL m).length≤100000000):Pure prog 95 [lim (toL n),lim (toL m)] (lim (toL (n*m))):=by
 have:=natMul (toL n) (toL m) zo zo (Zar _) (Zar _)
 rwa [Zap,Zap] at this
theorem nCmp (n m:Nat) (hn:(toL n).length≤100000000) (hm:(toL m).length≤100000000):Pure prog 217 [lim (toL n),lim (toL m)] (.v (.int .i64 (cmpN n m))):=by
 have:=Zt8 (toL n) (toL m) zo zo (Zar _) (Zar _)
 rwa [Zap,Zap] at this
theorem nSub (n m:Nat) (hn:(toL n).length≤100000000) (hm:(toL m).length≤100000000):Pure prog 223 [lim (toL n),lim (toL m)] (.tup [lim (if n < m then [] else toL (n - m)),.v (.int .i64 (if n < m then 2 else 0))]):=by
 have:=natSub (toL n) (toL m) zo zo (Zar _) (Zar _)
 rwa [Zap,Zap] at this
theorem Zy7 (n m:Nat) (hn:(toL n).length≤100000000) (hm:(toL m).length≤100000000) (h0:m≠0):Pure prog 158 [lim (toL n),lim (toL m)] (.tup [lim (toL (n/m)),lim (toL (n%m)),.v (.int .i64 0)]):=by
 have:=Zpv (toL n) (toL m) zo zo (Zar _) (Zar _) (by rw [Zap];exact h0)
 rwa [Zap,Zap] at this
theorem nGcd (n m:Nat) (hn:(toL n).length≤100000000) (hm:(toL m).length≤100000000):Pure prog 114 [lim (toL n),lim (toL m)] (lim (toL (Nat.gcd n m))):=by
 have:=natGcd (toL n) (toL m) zo zo (Zar _) (Zar _)
 rwa [Zap,Zap] at this
theorem Zpx (n:Nat) (hn:(toL n).length≤100000000):Pure prog 156 [lim (toL n)] (lim (toL n)):=by
 have:=Zny (toL n) zo (Zar _)
 rwa [Zap] at this
theorem nBits (n:Nat) (hn:(toL n).length≤100000000):Pure prog 99 [lim (toL n)] (.v (.int .i64 (Zoq n:Nat))):=by
 have:=natBits (toL n) zo (Zar _)
 rwa [Zap] at this
theorem rMul (n m:Nat) (hn:(toL n).length≤100000000) (hm:(toL m).length≤100000000):Pure prog 132 [lim (toL n),lim (toL m)] (lim (toL (n*m))):=by
 have:=Zx5 (toL n) (toL m) zo zo (Zar _) (Zar _)
 rwa [Zap,Zap] at this
theorem rCmp (n m:Nat) (hn:(toL n).length≤100000000) (hm:(toL m).length≤100000000):Pure prog 206 [lim (toL n),lim (toL m)] (.v (.int .i64 (cmpN n m))):=by
 have:=Zx6 (toL n) (toL m) zo zo (Zar _) (Zar _)
 rwa [Zap,Zap] at this
theorem Zrp (n m:Nat) (hn:(toL n).length≤100000000) (hm:(toL m).length≤100000000) (h0:m≠0):Pure prog 134 [lim (toL n),lim (toL m)] (.tup [lim (toL (n/m)),lim (toL (n%m)),.v (.int .i64 0)]):=by
 have:=Zpf (toL n) (toL m) zo zo (Zar _) (Zar _) (by rw [Zap];exact h0)
 rwa [Zap,Zap] at this
theorem rGcd (n m:Nat) (hn:(toL n).length≤100000000) (hm:(toL m).length≤100000000):Pure prog 126 [lim (toL n),lim (toL m)] (lim (toL (Nat.gcd n m))):=by
 have:=refGcd (toL n) (toL m) zo zo (Zar _) (Zar _)
 rwa [Zap,Zap] at this
theorem Zyg (n:Nat) (hn:(toL n).length≤100000000):Pure prog 133 [lim (toL n)] (lim (toL n)):=by
 have:=Ze6 (toL n) zo (Zar _)
 rwa [Zap] at this
theorem szB:szOf prog 4=some 1:=by kernel_rfl
theorem zB:Zao prog 4=some (.bool false):=by kernel_rfl
theorem Zav:szOf prog 24=some 1:=by kernel_rfl
theorem zNat:Zao prog 24=some (.slice none 0 0):=by kernel_rfl
theorem Zaw:szOf prog 26=some 2:=by kernel_rfl
theorem zInt:Zao prog 26=some (.agg #[.bool false,.slice none 0 0]):=by kernel_rfl
theorem Zas:szOf prog 28=some 3:=by kernel_rfl
theorem zRat:Zao prog 28=some (.agg #[.bool false,.slice none 0 0,.slice none 0 0]):=by kernel_rfl
abbrev intA (s:Bool) (n:Nat):AV:=.agg [.v (.bool s),lim (toL n)]
def zI (s:Bool) (n:Nat):Int:=if s then -(n:Int) else n
abbrev intZ (z:Int):AV:=intA (decide (z < 0)) z.natAbs
theorem Zc8 (z:Int):zI (decide (z < 0)) z.natAbs=z:=by
 unfold zI;by_cases h:z < 0
 ·rw [ZBv (by simpa using h)];omega
 ·rw [ZBu (by simpa using h)];omega
theorem Zd7 (s:Bool) (n:Nat):(zI s n).natAbs=n:=by cases s<;>simp [zI]
theorem zI_lt (s:Bool) (n:Nat):decide (zI s n < 0)=(s && decide (0 < n)):=by
 cases s
 ·simp [zI]
 ·simp only [zI,ZC0,ZDn];by_cases h:0 < n
  ·rw [ZB4 zo,ZB4 h]
  ·rw [ZB3 zo,ZB3 h]
theorem Zg4 (s:Bool) (n:Nat):intZ (zI s n)=.agg [.v (.bool (s && decide (0 < n))),lim (toL n)]:=by
 unfold intZ intA;rw [zI_lt,Zd7]
theorem Za6 {n:Nat}:(0 < (toL n).length)↔0 < n:=by
 have:=@Zbn n;omega
attribute [go_sem] underlying4 underlying26 underlying28 underlying35 underlying192 szB zB zNat zInt zRat
attribute [local go_sem] Zav Zaw Zas
theorem Zji (s:Bool) (n:Nat) (hn:(toL n).length≤1000000000):Pure prog 121 [.v (.bool s),lim (toL n)] (intZ (zI s n)):=by
 rw [Zg4];have hp:=@Za6 n;cases s
 ·refine pI func121 rfl ntmps121 results121 call121 ?_
  (refine wkvp w_t w_t (w_s ?_);intros)
  simp (disch:=omega) only [go_sem,ZCz]
 ·by_cases h:0 < n
  ·refine pI func121 rfl ntmps121 results121 call121 ?_
   (refine wkvp w_t w_t (w_s ?_);intros)
   simp (disch:=omega) only [go_sem,ZB4 h]
  ·refine pI func121 rfl ntmps121 results121 call121 ?_
   (refine wkvp w_t w_t (w_s ?_);intros)
   simp (disch:=omega) only [go_sem,ZB3 h]
theorem intOf' (s:Bool) (n:Nat) (hn:(toL n).length≤100000000):Pure prog 216 [.v (.bool s),lim (toL n)] (intZ (zI s n)):=by
 rw [Zg4];have hp:=@Za6 n;cases s
 ·refine pI func216 rfl ntmps216 results216 call216 ?_
  (refine wkvp w_t (w_1 (Zpx n hn)) (w_s ?_);intros)
  simp (disch:=omega) only [go_sem,ZCz]
 ·by_cases h:0 < n
  ·refine pI func216 rfl ntmps216 results216 call216 ?_
   (refine wkvp w_t (w_1 (Zpx n hn)) (w_s ?_);intros)
   simp (disch:=omega) only [go_sem,ZB4 h]
  ·refine pI func216 rfl ntmps216 results216 call216 ?_
   (refine wkvp w_t (w_1 (Zpx n hn)) (w_s ?_);intros)
   simp (disch:=omega) only [go_sem,ZB3 h]
theorem intNorm (s:Bool) (n:Nat) (hn:(toL n).length≤100000000):Pure prog 157 [intA s n] (intZ (zI s n)):=by
 refine pI func157 rfl ntmps157 results157 call157 ?_
 (refine wkvp w_t (w_1 (intOf' s n hn)) (w_s ?_);intros)
 simp (disch:=omega) only [go_sem]
theorem Zsj (s:Bool) (n:Nat) (hn:(toL n).length≤100000000):Pure prog 54 [intA s n] (.v (.int .i64 (zI s n).sign)):=by
 by_cases h:n=0
 ·have hb:Zoq n=0:=Zht.2 h;have hz:(zI s n).sign=0:=by subst h;cases s<;>rfl
  rw [hz];refine pI func54 rfl ntmps54 results54 call54 ?_
  (refine wkvp (w_2 hb @ZDp) (w_1 (nBits n hn)) (w_s ?_);intros)
  simp (disch:=omega) only [go_sem]
 ·have hb:Zoq n≠0:=λe=>h (Zht.1 e);cases s
  ·have hz:(zI false n).sign=1:=ZHa (by simp [zI];omega);rw [hz];refine pI func54 rfl ntmps54 results54 call54 ?_
   (refine wkvp w_t (w_1 (nBits n hn)) (w_s ?_);intros)
   simp (disch:=omega) only [go_sem]
  ·have hz:(zI true n).sign=-1:=ZFr (by simp [zI];omega);rw [hz];refine pI func54 rfl ntmps54 results54 call54 ?_
   (refine wkvp w_t (w_1 (nBits n hn)) (w_s ?_);intros)
   simp (disch:=omega) only [go_sem]
def cmpZ (a b:Int):Int:=if a < b then -1 else if b < a then 1 else 0
theorem Zzz (n m:Nat) (hn:(toL n).length≤100000000) (hm:(toL m).length≤100000000):Pure prog 286 [lim (toL n),lim (toL m)] (.v (.int .i64 (cmpN n m))):=by
 refine pI func286 rfl ntmps286 results286 call286 ?_
 (refine wkvp w_t (w_1 (nCmp n m hn hm)) (w_s ?_);intros)
 simp (disch:=omega) only [go_sem]
theorem intCmp (s t:Bool) (n m:Nat) (hn:(toL n).length≤100000000) (hm:(toL m).length≤100000000):Pure prog 247 [intA s n,intA t m] (.v (.int .i64 (cmpZ (zI s n) (zI t m)))):=by
 have cs:=Zsj s n hn;have ct:=Zsj t m hm;rcases ZFs (zI s n).sign (zI t m).sign with h | h | h
 ·have hc:cmpZ (zI s n) (zI t m)=-1:=by
   unfold cmpZ;rw [ZBv];rcases ZFs (zI s n) 0 with h1 | h1 | h1<;>rcases ZFs (zI t m) 0 with h2 | h2 | h2<;>first
    | omega
    | (exfalso;simp [ZFr,ZHa,h1,h2] at h)
  rw [hc];refine pI func247 rfl ntmps247 results247 call247 ?_
  (refine wkad w_t (w_2 cs ct) (w_1 (w_d 1 [(1,.v (.int .i64 (zI s n).sign)),(3,.v (.int .i64 (zI t m).sign))] [] [])) (w_s ?_);intros)
  simp (disch:=omega) only [go_sem]
 ·have hcc:cmpZ (zI s n) (zI t m)=if (zI s n).sign < 0 then cmpN m n else cmpN n m:=by
   unfold cmpZ cmpN;cases s<;>cases t<;>simp only [zI,ZC0,ZB8,ZCx] at h ⊢
   ·have hs0:¬(n:Int).sign < 0:=by
     have:=Int.sign_nonneg_iff.2 (ZFo n);omega
    simp only [hs0,ZCx,Int.ofNat_lt]
   ·have h1:=Int.sign_nonneg_iff.2 (ZFo n)
    have h2:(-(m:Int)).sign≤0:=by
     rcases ZC3 m with h3 | h3
     ·subst h3;simp
     ·rw [ZFr zo];omega
    have h3:(n:Int).sign=0:=zo;have h4:n=0:=by have:=Int.sign_eq_zero_iff_zero.1 h3;omega
    have h5:m=0:=by rw [h3] at h;have:=Int.sign_eq_zero_iff_zero.1 h.symm;omega
    subst h4;subst h5;simp
   ·have h1:=Int.sign_nonneg_iff.2 (ZFo m)
    have h2:(-(n:Int)).sign≤0:=by
     rcases ZC3 n with h3 | h3
     ·subst h3;simp
     ·rw [ZFr zo];omega
    have h3:(m:Int).sign=0:=zo;have h4:m=0:=by have:=Int.sign_eq_zero_iff_zero.1 h3;omega
    have h5:n=0:=by rw [h3] at h;have:=Int.sign_eq_zero_iff_zero.1 h;omega
    subst h4;subst h5;simp
   ·rcases ZC3 n with h3 | h3
    ·subst h3;have h5:m=0:=by have:=Int.sign_eq_zero_iff_zero.1 h.symm;omega
     subst h5;simp
    ·rw [ZBv (c:=(-(n:Int)).sign < 0) (by rw [ZFr zo];omega)];have e1:(-(n:Int) < -(m:Int))↔m < n:=zo;have e2:(-(m:Int) < -(n:Int))↔n < m:=zo;simp only [e1,e2]
  rw [hcc];by_cases hneg:(zI s n).sign < 0
  ·rw [ZBv hneg];refine pI func247 rfl ntmps247 results247 call247 ?_
   (refine wkad w_t (w_3 cs ct (Zzz m n hm hn)) (w_1 (w_d 1 [(1,.v (.int .i64 (zI s n).sign)),(3,.v (.int .i64 (zI t m).sign))] [] [])) (w_s ?_);intros)
   simp (disch:=omega) only [go_sem]
  ·rw [ZBu hneg];refine pI func247 rfl ntmps247 results247 call247 ?_
   (refine wkad w_t (w_3 cs ct (Zzz n m hn hm)) (w_1 (w_d 1 [(1,.v (.int .i64 (zI s n).sign)),(3,.v (.int .i64 (zI t m).sign))] [] [])) (w_s ?_);intros)
   simp (disch:=omega) only [go_sem]
 ·have hc:cmpZ (zI s n) (zI t m)=1:=by
   have h0:zI t m < zI s n:=by
    rcases ZFs (zI s n) 0 with h1 | h1 | h1<;>rcases ZFs (zI t m) 0 with h2 | h2 | h2<;>first
     | omega
     | (exfalso;simp [ZFr,ZHa,h1,h2] at h)
   unfold cmpZ;rw [ZBu zo,ZBv h0]
  rw [hc];refine pI func247 rfl ntmps247 results247 call247 ?_
  (refine wkad w_t (w_2 cs ct) (w_1 (w_d 1 [(1,.v (.int .i64 (zI s n).sign)),(3,.v (.int .i64 (zI t m).sign))] [] [])) (w_s ?_);intros)
  simp (disch:=omega) only [go_sem]
theorem Zuo (s t:Bool) (n m:Nat) (hn:(toL n).length≤100000000) (hm:(toL m).length≤100000000):Pure prog 94 [intA s n,intA t m] (intZ (zI s n*zI t m)):=by
 have e:zI s n*zI t m=zI (s != t) (n*m):=by cases s<;>cases t<;>simp [zI,Int.mul_neg,Int.neg_mul]
 have lm:(toL (n*m)).length≤1000000000:=by
  have h5:(toL (n*m)).length≤(toL n).length+(toL m).length:=by
   rw [Zae,ZDb];exact Nat.mul_lt_mul'' (Zae.1 (ZBw _)) (Zae.1 (ZBw _))
  omega
 rw [e];have hne:(!(s == t))=(s != t):=rfl;refine pI func94 rfl ntmps94 results94 call94 ?_
 (refine wkad (w_1 hne) (w_2 (nMul n m hn hm) (Zji (s != t) (n*m) lm)) (w_1 (w_d 1 [(9,lim (toL (n*m))),(10,intZ (zI (s != t) (n*m)))] [11] [])) (w_s ?_);intros)
 simp (disch:=omega) only [go_sem]
theorem intAdd (s t:Bool) (n m:Nat) (hn:(toL n).length≤100000000) (hm:(toL m).length≤100000000):Pure prog 160 [intA s n,intA t m] (intZ (zI s n+zI t m)):=by
 by_cases hst:s=t
 ·subst hst;have e:zI s n+zI s m=zI s (n+m):=by cases s<;>simp [zI]<;>omega
  have la:(toL (n+m)).length≤1000000000:=by
   have h5:(toL (n+m)).length≤max (toL n).length (toL m).length+1:=by
    rw [Zae,ZC5];have h1:=Zae.1 (Nat.le_max_left (toL n).length (toL m).length);have h2:=Zae.1 (Nat.le_max_right (toL n).length (toL m).length);generalize 65536 ^ max (toL n).length (toL m).length=p at *;omega
   omega
  rw [e];have hb:(s == s)=true:=by cases s<;>rfl
  refine pI func160 rfl ntmps160 results160 call160 ?_
  (refine wkad (w_1 hb) (w_2 (nAdd n m hn hm) (Zji s (n+m) la)) (w_1 (w_d 2 [(6,lim (toL (n+m))),(7,intZ (zI s (n+m)))] [8] [])) (w_s ?_);intros)
  simp (disch:=omega) only [go_sem]
 ·have hb:(s == t)=false:=by cases s<;>cases t<;>first|rfl|exact absurd rfl hst
  have ht:t=!s:=by cases s<;>cases t<;>first|rfl|exact absurd rfl hst
  by_cases hlt:n < m
  ·have hc:cmpN n m=-1:=ZBv hlt;have e:zI s n+zI t m=zI t (m - n):=by rw [ht];cases s<;>simp [zI]<;>omega
   have ls:(toL (m - n)).length≤1000000000:=ZB1 (Za7 (Nat.sub_le _ _)) zo;have cs:=nSub m n hm hn;rw [ZBu zo,ZBu zo] at cs;rw [e];refine pI func160 rfl ntmps160 results160 call160 ?_
   (refine wkad (w_2 hb hc) (w_3 (nCmp n m hn hm) cs (Zji t (m - n) ls)) w_t (w_s ?_);intros)
   simp (disch:=omega) only [go_sem]
  ·have hc:0≤cmpN n m:=by unfold cmpN;rw [ZBu hlt];split<;>omega
   have e:zI s n+zI t m=zI s (n - m):=by rw [ht];cases s<;>simp [zI]<;>omega
   have ls:(toL (n - m)).length≤1000000000:=ZB1 (Za7 (Nat.sub_le _ _)) zo;have cs:=nSub n m hn hm;rw [ZBu zo,ZBu zo] at cs;rw [e];refine pI func160 rfl ntmps160 results160 call160 ?_
   (refine wkad (w_1 hb) (w_3 (nCmp n m hn hm) cs (Zji s (n - m) ls)) w_t (w_s ?_);intros)
   simp (disch:=omega) only [go_sem]
end Go.Proofs.YtkefeinbjbeidaaGreatDoor
