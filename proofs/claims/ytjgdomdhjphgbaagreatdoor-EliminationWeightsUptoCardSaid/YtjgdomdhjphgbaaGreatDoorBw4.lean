/- Contracts of the functions that the law reaches, and the rules by which they are walked. They say what a call hands back for every input within the bounds that each names; no other condition. -/
import Derived.Test.YtjgdomdhjphgbaaGreatDoorBw3
import Derived.Laws.RangeString
import Derived.Lib.OthersKept
import Derived.Laws.Strings
import Derived.Sort.AssemblyPlain
import Derived.Sort.LotD5
import Derived.Lib.Builder
import Derived.Lib.UnsafeStr
import Derived.Laws.Externs
import Derived.Shelf.RegionOpenPlain
set_option linter.unusedSimpArgs false
set_option linter.unusedVariables false
set_option maxRecDepth 20000
set_option maxHeartbeats 16000000
namespace Go.Pg
open Go Go.RowKit Go.Lib
section
variable {P:Program} {n:Nat}
theorem Zq2 {x y:Code} {Q:AE→St→Prop} {st:St} (h:AWP P n x (AE.then (AWP P n y Q) Q) st):AWP P n (.seq x y) Q st:=λc a w imm hr=>by
 refine wp_seq (Code.wp_mono (λe a' w' hp=>?_) (h c a w imm hr));obtain⟨ae,st',imm',rfl,h2,h3⟩:=hp
 cases ae with
 | normal=>exact h2 c a' w' imm' h3
 | exit id=>exact⟨.exit id,st',imm',rfl,h2,h3⟩
 | ret=>exact⟨.ret,st',imm',rfl,h2,h3⟩
theorem Zs2 {o:Oper} {a:Act} {w w':World} {ops:Array Oper} {Qp:Exit→Act→World→Prop} {l:List Oper} {y:Value} (hg:o.guard=none) (hr:(execOp a.eval o).run P w=.ok (.value y) w') (h:wpList P ops Qp l (a.put o.dst y) w'):wpList P ops Qp (o :: l) a w:=by
 unfold wpList;rw [if_pos (by simp [Region.wanted,hg])];refine .inl ?_;unfold Oper.wp;rw [hr];exact h
theorem rebase {c:Cx} {e:Nat→AV} {a:Act} {w:World} {imm:Imm} (h:Rel c n ⟨e,Zae⟩ a w imm):Rel ⟨w.heap.size,w,imm⟩ n ⟨e,Zae⟩ a w imm :=
 ⟨h.env,h.size,h.defers,⟨⟨λk e hk=>by simp [Zae] at hk,λk k' e e' b hk=>by simp [Zae] at hk,h.mem.ok.lt,h.mem.ok.spot⟩,Below.refl _ _,Nat.le_refl _,λ_ h1=>h1,λ_ h1=>.inl h1,λ_ _=>rfl⟩⟩
theorem unbase {c:Cx} {st':St} {a':Act} {w w':World} {imm imm':Imm} (hm:Mx c Zae w imm) (h:Rel ⟨w.heap.size,w,imm⟩ n st' a' w' imm') (h0:st'.mem=Zae):Rel c n st' a' w' imm':=by
 refine⟨h.env,h.size,h.defers,?_⟩;have hm':=h.mem;rw [h0] at hm' ⊢;exact⟨⟨λk e hk=>by simp [Zae] at hk,λk k' e e' b hk=>by simp [Zae] at hk,hm'.ok.lt,hm'.ok.spot⟩,hm.below.trans (hm'.below.mono hm.lt),Nat.le_trans hm.lt hm'.lt,λad h1=>hm'.old ad (hm.old ad h1),λad h1=>(hm'.new ad h1).elim (hm.new ad) (λh2=>.inr (Nat.le_trans hm.lt h2)),λad h1=>(hm'.cells ad (hm.old ad h1)).trans (hm.cells ad h1)⟩
structure ItS (c:Cx) (n:Nat) (s:ByteArray) (tI:Nat) (J:Nat→(Nat→AV)→Prop) (pos:Nat) (a:Act) (w:World):Prop where
 h:∃e imm g,Rel c n ⟨e,Zae⟩ a w imm∧w.heap[g]?=some (.stringIter s pos)∧c.B≤g∧(∀ad,imm ad→ad.block≠g)∧e tI=.v (.pointer (some ⟨g,0,none⟩))∧J pos e
theorem Zyp {s:ByteArray} {id1 id2 bid d1 tI d2 d3:Nat} {x:Operand} {ty1 ty2 ty3 ty4 tys:TypeId} {p1 p2 p3 p4:String} {f1 f2 f3 f4:Array Edge} {r2:Code} {Q:AE→St→Prop} {e:Nat→AV}
 (hx:St.ev ⟨e,Zae⟩ x=.v (.string s)) (hty:P.underlying tys=some .string) (h1:d1 < n) (hI:tI < n) (h2:d2 < n) (h3:d3 < n) (hne:tI≠d2) (hne3:tI≠d3) (hne1:d2≠d3) (hf:Zbo n r2=true)
 (J:Nat→(Nat→AV)→Prop) (h0:∀pv,J 0 (upd (upd e d1 (.v (.string s))) tI (.v pv)))
 (hstep:∀pos e pv,J pos e→e tI=.v pv→pos < s.size→Za8 P 0 n r2 (AE.then (λst'=>st'.mem=Zae∧J (pos+(Utf8.decode s pos).2) st'.env∧st'.env tI=.v pv) λae st'=>st'.mem=Zae∧AE.inBlock bid Q ae st')
  ⟨upd (upd e d2 (.tup [.v (.bool true),.v (.int .i64 pos),.v (.int .i32 (Utf8.decode s pos).1)])) d3 (.v (.bool true)),Zae⟩)
 (hw:∀pos,pos < s.size→0 < (Utf8.decode s pos).2)
 (hend:∀pos e pv,J pos e→e tI=.v pv→¬pos < s.size→Za8 P 0 n r2 (AE.then (λ_=>False) λae st'=>st'.mem=Zae∧AE.inBlock bid Q ae st')
  ⟨upd (upd e d2 (.tup [.v (.bool false)])) d3 (.v (.bool false)),Zae⟩) :
 AWP P n (.seq (.region id1 #[⟨some d1,.move x,ty1,p1,f1,none⟩,⟨some tI,.range tys (.tmp d1),ty2,p2,f2,none⟩] false)
  (.block bid (.loop (.seq (.region id2 #[⟨some d2,.next (.tmp tI) true,ty3,p3,f3,none⟩,⟨some d3,.extract (.tmp d2) 0,ty4,p4,f4,none⟩] false) r2)))) Q ⟨e,Zae⟩:=by
 intro c a w imm hr;refine wp_seq (wp_region_list ?_);have ex:=hr.ev x;rw [hx] at ex;have ex:=ex.v_inv;refine Zs2 rfl (y:=.string s) (w':=w) (by simp [execOp,ex]) ?_;have r1:=hr.step (dst:=some d1) (av:=.v (.string s)) (x:=.string s) (Keeps.refl w imm) hr.mem (λd hd=>by cases hd;exact h1) (.pure (.v _));have e1:=(r1.ev (.tmp d1))
 have e1:(a.put (some d1) (.string s)).eval (.tmp d1)=.string s:=by
  have h9:St.ev (St.put ⟨e,Zae⟩ (some d1) (.v (.string s))) (.tmp d1)=.v (.string s):=by simp [St.ev,St.put,Zaj]
  rw [h9] at e1;exact e1.v_inv
 refine Zs2 rfl (y:=.pointer (some ⟨w.heap.size,0,none⟩)) (w':=w.iter s 0) (by
  simp only [execOp,e1];exact Zjg (run_range_string w tys s hty)) ?_
 have hcell:∀ad,imm ad→(w.iter s 0).cell? ad=w.cell? ad:=λad h9=>World.cell?_alloc_lt w _ ad (hr.mem.ok.lt ad h9);have hm2:Mx c Zae (w.iter s 0) imm:=⟨⟨λk e hk=>by simp [Zae] at hk,λk k' e e' b hk=>by simp [Zae] at hk,λad h9=>Nat.lt_of_lt_of_le (hr.mem.ok.lt ad h9) (World.grownBy_alloc w (.stringIter s 0) none).size,hr.mem.ok.spot⟩,
  hr.mem.below.grown (World.grownBy_alloc w (.stringIter s 0) none) hr.mem.lt (λg hg=>by cases hg),Nat.le_trans hr.mem.lt (World.grownBy_alloc w (.stringIter s 0) none).size,hr.mem.old,hr.mem.new,λad h9=>(hcell ad (hr.mem.old ad h9)).trans (hr.mem.cells ad h9)⟩
 have r2':=r1.step (dst:=some tI) (av:=.v (.pointer (some ⟨w.heap.size,0,none⟩))) (x:=.pointer (some ⟨w.heap.size,0,none⟩)) (w':=w.iter s 0) (imm':=imm) (λad h9=>⟨h9,hcell ad h9⟩) hm2 (λd hd=>by cases hd;exact hI) (.pure (.v _));show(Code.block bid _).wp P (post c n Q) _ _;refine wp_block ?_;have start:ItS c n s tI J 0 ((a.put (some d1) (.string s)).put (some tI) (.pointer (some ⟨w.heap.size,0,none⟩))) (w.iter s 0) :=
  ⟨_,imm,w.heap.size,r2',World.iter_heap w s 0,hr.mem.lt,λad h9=>Nat.ne_of_lt (hr.mem.ok.lt ad h9),by simp [St.put,Zaj],h0 _⟩
 generalize (a.put (some d1) (.string s)).put (some tI) (.pointer (some ⟨w.heap.size,0,none⟩))=a1 at start;generalize w.iter s 0=w1 at start;clear r2' r1 hm2 hcell e1 ex hr
 let Qp:Exit→Act→World→Prop:=Exit.inBlock bid (post c n Q)
 have lift:∀(ae:AE) (st':St) (a':Act) (w w':World) (imm imm':Imm),Mx c Zae w imm→Rel ⟨w.heap.size,w,imm⟩ n st' a' w' imm'→st'.mem=Zae→AE.inBlock bid Q ae st'→ae≠.normal→Qp ae.to a' w':=by
  intro ae st' a' w w' imm imm' hm hr h9 hq hn;have hr':=unbase hm hr h9
  cases ae with
  | normal=>exact absurd rfl hn
  | exit i =>
    show Exit.inBlock bid (post c n Q) (.exit i) a' w';simp only [AE.inBlock] at hq;by_cases hi:i=bid
    ·subst hi;rw [if_pos rfl] at hq;simp only [Exit.inBlock,if_true];exact⟨.normal,st',imm',rfl,hq,hr'⟩
    ·rw [if_neg hi] at hq;simp only [Exit.inBlock,if_neg hi];exact⟨.exit i,st',imm',rfl,hq,hr'⟩
  | ret=>exact⟨.ret,st',imm',rfl,hq,hr'⟩
 have round:∀pos a w,ItS c n s tI J pos a w→(Code.seq (.region id2 #[⟨some d2,.next (.tmp tI) true,ty3,p3,f3,none⟩,⟨some d3,.extract (.tmp d2) 0,ty4,p4,f4,none⟩] false) r2).wp P
  (Exit.then (λa w=>∃pos',ItS c n s tI J pos' a w∧s.size - pos' < s.size - pos) Qp) a w:=by
  rintro pos a w ⟨e,imm,g,hr,hg,hB,hng,heI,hJ⟩
  have eI:=hr.ev (.tmp tI)
  have eI:a.eval (.tmp tI)=.pointer (some ⟨g,0,none⟩):=by
   rw [show St.ev ⟨e,Zae⟩ (.tmp tI)=_ from heI] at eI;exact eI.v_inv
  refine wp_seq (wp_region_list ?_);have glt:g < w.heap.size:=(Array.getElem?_eq_some_iff.1 hg).1;by_cases hp:pos < s.size
  ·refine Zs2 rfl (y:=.tuple #[.bool true,.int .i64 pos,.int .i32 (Utf8.decode s pos).1]) (w':=w.iterAt g s (pos+(Utf8.decode s pos).2)) (by
    simp only [execOp,eI];exact Zjg (run_next_any_at w g s pos _ hg hp)) ?_
   have hgrow:w.grownBy (w.iterAt g s (pos+(Utf8.decode s pos).2)) (some g):=by
    refine⟨rfl,rfl,rfl,?_,λk hk hne=>?_⟩
    ·simp [World.iterAt]
    ·simp only [World.iterAt];rw [Array.getElem?_setIfInBounds_ne (λh9=>hne (by rw [h9]))]
   have hcell:∀ad,imm ad→(w.iterAt g s (pos+(Utf8.decode s pos).2)).cell? ad=w.cell? ad:=λad h9=>Zeh hgrow (hr.mem.ok.lt ad h9) (λh8=>hng ad h9 (by cases h8;rfl));have hm2:Mx c Zae (w.iterAt g s (pos+(Utf8.decode s pos).2)) imm:=⟨⟨λk e hk=>by simp [Zae] at hk,λk k' e e' b hk=>by simp [Zae] at hk,λad h9=>Nat.lt_of_lt_of_le (hr.mem.ok.lt ad h9) hgrow.size,hr.mem.ok.spot⟩,
    hr.mem.below.grown hgrow hr.mem.lt (λg' hg'=>by cases hg';exact hB),Nat.le_trans hr.mem.lt hgrow.size,hr.mem.old,hr.mem.new,λad h9=>(hcell ad (hr.mem.old ad h9)).trans (hr.mem.cells ad h9)⟩
   have q1:=hr.step (dst:=some d2) (av:=.tup [.v (.bool true),.v (.int .i64 pos),.v (.int .i32 (Utf8.decode s pos).1)]) (x:=.tuple #[.bool true,.int .i64 pos,.int .i32 (Utf8.decode s pos).1]) (imm':=imm) (λad h9=>⟨h9,hcell ad h9⟩) hm2 (λd hd=>by cases hd;exact h2)
    (.pure (.tup _ _ rfl λj a x k1 k2=>by
     match j with
     | 0=>simp at k1 k2;subst k1;subst k2;exact .v _
     | 1=>simp at k1 k2;subst k1;subst k2;exact .v _
     | 2=>simp at k1 k2;subst k1;subst k2;exact .v _
     | j+3=>simp at k1))
   have v2:=q1.env d2
   have v2:(a.put (some d2) (.tuple #[.bool true,.int .i64 pos,.int .i32 (Utf8.decode s pos).1])).eval (.tmp d2)=.tuple #[.bool true,.int .i64 pos,.int .i32 (Utf8.decode s pos).1]:=by
    show(a.put (some d2) _).tmps.getD d2 undef=_;rw [Act.put_getD a d2 _ (by rw [hr.size];exact h2),if_pos rfl]
   refine Zs2 rfl (y:=.bool true) (w':=w.iterAt g s (pos+(Utf8.decode s pos).2)) (by
    simp only [execOp,v2];simp [Instr.extract]) ?_
   have q2:=q1.step (dst:=some d3) (av:=.v (.bool true)) (x:=.bool true) (Keeps.refl _ imm) hm2 (λd hd=>by cases hd;exact h3) (.pure (.v _));have hst:=hstep pos e _ hJ heI hp;have q3:=rebase q2;refine Code.wp_mono (λee a' w' hpost=>?_) (Zbf r2 _ _ hf hst _ _ _ _ q3);obtain⟨ae,st',imm',rfl,hq,hrel⟩:=hpost
   cases ae with
   | normal =>
     obtain⟨hm,hJ',hpv⟩:=hq;have hr':=unbase hm2 hrel hm;refine⟨pos+(Utf8.decode s pos).2,⟨st'.env,imm',g,?_,?_,hB,λad h9=>?_,hpv,hJ'⟩,by have:=hw pos hp;omega⟩
     ·obtain⟨en,me⟩:=st';simp only at hm;subst hm;exact hr'
     ·rw [hrel.mem.below.block g (Nat.lt_of_lt_of_le glt hgrow.size)];exact iterAt_heap w g s pos _ hg
     ·rcases hrel.mem.new ad h9 with h8 | h8
      ·exact hng ad h8
      ·have:(w.iterAt g s (pos+(Utf8.decode s pos).2)).heap.size≤ad.block:=h8;have:=hgrow.size;omega
   | exit i=>exact lift (.exit i) st' a' _ w' imm imm' hm2 hrel hq.1 hq.2 (by simp)
   | ret=>exact lift .ret st' a' _ w' imm imm' hm2 hrel hq.1 hq.2 (by simp)
  ·refine Zs2 rfl (y:=.tuple #[.bool false]) (w':=w) (by
    simp only [execOp,eI];exact Zjg (run_next_end_at w g s pos _ hg hp)) ?_
   have q1:=hr.step (dst:=some d2) (av:=.tup [.v (.bool false)]) (x:=.tuple #[.bool false]) (Keeps.refl w imm) hr.mem (λd hd=>by cases hd;exact h2)
    (.pure (.tup _ _ rfl λj a x k1 k2=>by
     match j with
     | 0=>simp at k1 k2;subst k1;subst k2;exact .v _
     | j+1=>simp at k1))
   have v2:(a.put (some d2) (.tuple #[.bool false])).eval (.tmp d2)=.tuple #[.bool false]:=by
    show(a.put (some d2) _).tmps.getD d2 undef=_;rw [Act.put_getD a d2 _ (by rw [hr.size];exact h2),if_pos rfl]
   refine Zs2 rfl (y:=.bool false) (w':=w) (by
    simp only [execOp,v2];simp [Instr.extract]) ?_
   have q2:=q1.step (dst:=some d3) (av:=.v (.bool false)) (x:=.bool false) (Keeps.refl _ imm) hr.mem (λd hd=>by cases hd;exact h3) (.pure (.v _));have hst:=hend pos e _ hJ heI hp;have q3:=rebase q2;refine Code.wp_mono (λee a' w' hpost=>?_) (Zbf r2 _ _ hf hst _ _ _ _ q3);obtain⟨ae,st',imm',rfl,hq,hrel⟩:=hpost
   cases ae with
   | normal=>exact hq.elim
   | exit i=>exact lift (.exit i) st' a' _ w' imm imm' hr.mem hrel hq.1 hq.2 (by simp)
   | ret=>exact lift .ret st' a' _ w' imm imm' hr.mem hrel hq.1 hq.2 (by simp)
 intro b k cs;have key:∀m pos a w,s.size - pos=m→ItS c n s tI J pos a w →
  ∃ee a' w',Qp ee a' w'∧Arrives P (lone (b.at a (.code (Code.seq (.region id2 #[⟨some d2,.next (.tmp tI) true,ty3,p3,f3,none⟩,⟨some d3,.extract (.tmp d2) 0,ty4,p4,f4,none⟩] false) r2) :: .inLoop (Code.seq (.region id2 #[⟨some d2,.next (.tmp tI) true,ty3,p3,f3,none⟩,⟨some d3,.extract (.tmp d2) 0,ty4,p4,f4,none⟩] false) r2) :: k)) cs w) b k cs ee a' w':=by
  intro m
  induction m using Nat.strongRecOn with
  | _ m ih =>
    intro pos a w hm hI';obtain⟨ee,a₁,w₁,hq,harr⟩:=round pos a w hI' b (.inLoop _ :: k) cs
    cases ee with
    | normal =>
      obtain⟨pos',h8,h9⟩:=hq;obtain⟨e₂,a₂,w₂,hq₂,harr₂⟩:=ih (s.size - pos') (hm ▸ h9) pos' a₁ w₁ rfl h8;exact⟨e₂,a₂,w₂,hq₂,.of_steps (Steps.trans harr (.one step_inLoop)) harr₂⟩
    | exit id=>exact⟨.exit id,a₁,w₁,hq,.pass (x:=.inLoop _) rfl (λ_ _=>.inl (by simp)) harr⟩
    | goto l=>exact⟨.goto l,a₁,w₁,hq,.pass (x:=.inLoop _) rfl (λ_ _=>.inl (by simp)) harr⟩
    | ret=>exact⟨.ret,a₁,w₁,hq,.pass (x:=.inLoop _) rfl (λ_ _=>.inl (by simp)) harr⟩
    | panic ch=>exact⟨.panic ch,a₁,w₁,hq,.pass (x:=.inLoop _) rfl (λ_ _=>.inl (by simp)) harr⟩
    | outgrown=>exact⟨.outgrown,a₁,w₁,hq,.pass (x:=.inLoop _) rfl (λ_ _=>.inl (by simp)) harr⟩
 obtain⟨ee,a',w',hq,harr⟩:=key _ 0 a1 w1 rfl start;exact⟨ee,a',w',hq,.of_steps (.one step_loop) harr⟩
theorem Zqa {f:FuncId} {fn:Func} {code:Code} {rs:List ResultVar} {args:List AV} {r:AV} (hf:P.funcs[f]?=some fn) (hb:fn.body=some code) (hn:fn.ntmps=n) (hrs:fn.results=rs.toArray)
 (hc:∀(vs:Array Value) (w:World),(callFunc f vs).run P w=.ok (.enter f vs) w) (hal:args.length≤n)
 (h:AWP P n code (Done P rs λst=>Zwc st r) ⟨λt=>args.getD t .u,Zae⟩):Pure P f args r:=by
 refine⟨hc,λw imm vs himm hl hr=>?_⟩;refine calls_of_wp hf hb ?_
 let c:Cx:=⟨w.heap.size,w,imm⟩
 have hrel:Rel c n ⟨λt=>args.getD t .u,Zae⟩ { tmps:=vs++Array.replicate (fn.ntmps - vs.size) undef,defers:=[] } w imm:=by
  refine⟨λt=>?_,by simp [hn];omega,rfl,⟨⟨λk e hk=>by simp [Zae] at hk,λk k' e e' b hk=>by simp [Zae] at hk,λad h1=>(himm ad h1).1,λad h1=>(himm ad h1).2⟩,Below.refl _ _,Nat.le_refl _,λ_ h1=>h1,λ_ h1=>.inl h1,λ_ _=>rfl⟩⟩;simp only [List.getD_eq_getElem?_getD];rcases Nat.lt_or_ge t args.length with ht | ht
  ·have ht2:t < vs.size:=by omega
   rw [List.getElem?_eq_getElem ht,Array.getD_eq_getD_getElem?,Array.getElem?_append_left ht2,Array.getElem?_eq_getElem ht2];exact .pure (hr t _ _ (List.getElem?_eq_getElem ht) (Array.getElem?_eq_getElem ht2))
  ·rw [List.getElem?_eq_none ht];exact .pure (.u _)
 refine Code.wp_mono (λe a' w' hp=>?_) (h c _ w imm hrel);obtain⟨ae,st',imm',rfl,hdone,hrel'⟩:=hp;have hret:=Znf hdone;have hae:∀id,ae≠.exit id:=by rintro id rfl;exact hdone
 obtain⟨y,b,hrun,⟨hpo,hpv⟩,hrs'⟩:=Zp3 hrs hrel' hret;obtain⟨i2,hm2,hk2⟩:=Zc0 b.toks hrel'.mem;have hrd:=Zgk hm2 (hk2.rs hrs') hpo;rw [hpv] at hrd;have fin:a'.defers=[]∧∃v,(results fn a'.tmps).run P w'=.ok v w'∧(λe w'=>∃x imm',e=Ending.returned x∧Rd w' imm' r x∧(∀ad,imm ad→imm' ad)∧(∀ad,imm' ad→(imm ad∨w.heap.size≤ad.block)∧ad.block < w'.heap.size∧ad.spot=none)∧Below w.heap.size w w') (Ending.returned v) w' :=
  ⟨hrel'.defers,y,hrun,y,i2,rfl,hrd,hm2.old,λad h1=>⟨hm2.new ad h1,hm2.ok.lt ad h1,hm2.ok.spot ad h1⟩,hm2.below⟩
 cases ae with
 | normal=>exact fin
 | ret=>exact fin
 | exit id=>exact absurd rfl (hae id)
theorem Zt7 (s:ByteArray) (i:Nat):0 < (Utf8.decode s i).2:=by
 unfold Utf8.decode;simp only
 repeat' split
 all_goals simp
end
end Go.Pg
namespace Go.Proofs.YtjgdomdhjphgbaaGreatDoor
open Go Go.RowKit Go.Pg
attribute [-bool_to_prop] Bool.and_eq_decide Bool.or_eq_decide Bool.decide_beq_decide decide_eq_decide
attribute [local go_sem] Tryz.underlying3 Tryz.underlying4 Tryz.underlying5 Tryz.underlying9 Tryz.underlying44 sz3 by3 z3 Zbq Zct zStr
def kwL:List ByteArray:=[
 ⟨#[97,110,103,108,101]⟩,
 ⟨#[97,112,101,120]⟩,
 ⟨#[98,105,115,101,99,116,111,114]⟩,
 ⟨#[99,101,110,116,101,114]⟩,
 ⟨#[99,105,114,99,108,101]⟩,
 ⟨#[99,105,114,99,117,109]⟩,
 ⟨#[99,111,108,108,105,110,101,97,114]⟩,
 ⟨#[99,111,109,109,111,110]⟩,
 ⟨#[99,111,110,99,121,99,108,105,99]⟩,
 ⟨#[99,111,110,103,114,117,101,110,116]⟩,
 ⟨#[99,114,111,115,115]⟩,
 ⟨#[99,117,116]⟩,
 ⟨#[100,105,118,105,100,101]⟩,
 ⟨#[102,111,111,116]⟩,
 ⟨#[108,105,110,101]⟩,
 ⟨#[109,101,101,116]⟩,
 ⟨#[109,105,100,112,111,105,110,116]⟩,
 ⟨#[109,105,114,114,111,114]⟩,
 ⟨#[111,110]⟩,
 ⟨#[111,116,104,101,114]⟩,
 ⟨#[112,97,114,97,108,108,101,108]⟩,
 ⟨#[112,101,114,112,101,110,100,105,99,117,108,97,114]⟩,
 ⟨#[112,111,105,110,116,115]⟩,
 ⟨#[112,114,111,118,101]⟩,
 ⟨#[114,97,116,105,111]⟩,
 ⟨#[114,101,102,108,101,99,116]⟩,
 ⟨#[115,97,109,101]⟩,
 ⟨#[115,104,105,102,116]⟩,
 ⟨#[116,117,114,110]⟩]
def letB (c:Nat):Bool:=decide (97≤c∧c≤122) || decide (65≤c∧c≤90)
def digB (c:Nat):Bool:=decide (48≤c∧c≤57)
def gB (s:ByteArray) (k:Nat):Nat:=(s.data.toList.getD k 0).toNat
theorem gB_lt (s:ByteArray) (k:Nat):gB s k < 256:=UInt8.toNat_lt _
def namB (s:ByteArray):Bool:=decide (0 < s.size∧s.size≤20) && (letB (gB s 0) && ((List.range s.size).all (λk=>letB (gB s k) || digB (gB s k)) && !(kwL.any λw=>w.toList == s.toList)))
theorem Zj1 (s:ByteArray):(s.toList == (⟨#[]⟩:ByteArray).toList)=decide (s.size=0):=by
 rw [ByteArray.toList_eq,ByteArray.toList_eq,Bool.eq_iff_iff,beq_iff_eq,decide_eq_true_eq];constructor
 ·intro h;have:=congrArg List.length h;exact this
 ·intro h;exact List.length_eq_zero_iff.1 h
theorem gB_at (s:ByteArray) (k:Nat):((s.data.toList.getD k 0).toNat:Int)=(gB s k:Int):=rfl
theorem Zlx (s:ByteArray):∀n,n≤s.size→∃k,k≤n∧(∀j,j < k→(letB (gB s j) || digB (gB s j))=true)∧(k < n→(letB (gB s k) || digB (gB s k))=false)
 | 0,_=>⟨0,by omega,λj h=>by omega,λh=>by omega⟩
 | n+1,h=>by
   obtain⟨k,h1,h2,h3⟩:=Zlx s n (by omega);by_cases hk:k < n
   ·exact⟨k,by omega,h2,λ_=>h3 hk⟩
   ·have:k=n:=by omega
    subst this
    cases hb:(letB (gB s k) || digB (gB s k)) with
    | true=>exact⟨k+1,by omega,λj hj=>by by_cases e:j=k;rw [e];exact hb;exact h2 j (by omega),λh=>by omega⟩
    | false=>exact⟨k,by omega,h2,λ_=>hb⟩
theorem rnKeys:Pure Tryz.prog 185 [] (.sl 1 (kwL.map strA)):=by
 unfold kwL;refine Zaa (tok:=0) Tryz.func185 rfl Tryz.ntmps185 Tryz.results185 Tryz.call185 (by rfl) (by simp) ?_;(focus (refine wklp w_t w_t w_t (w_r 0) ?_;(repeat' first|exact w_t|apply w_l);all_goals intros))
theorem Zrn (c:Nat) (hc:c < 256):Pure Tryz.prog 183 [.v (.int .u8 (c:Int))] (.v (.bool (letB c))):=by
 unfold letB;refine Zaa (tok:=0) Tryz.func183 rfl Tryz.ntmps183 Tryz.results183 Tryz.call183 (by rfl) (by simp) ?_;(focus (refine wklp w_t w_t w_t (w_r 0) ?_;(repeat' first|exact w_t|apply w_l);all_goals intros))
theorem rnDigit (c:Nat) (hc:c < 256):Pure Tryz.prog 184 [.v (.int .u8 (c:Int))] (.v (.bool (digB c))):=by
 unfold digB;refine Zaa (tok:=0) Tryz.func184 rfl Tryz.ntmps184 Tryz.results184 Tryz.call184 (by rfl) (by simp) ?_;(focus (refine wklp w_t w_t w_t (w_r 0) ?_;(repeat' first|exact w_t|apply w_l);all_goals intros))
end Go.Proofs.YtjgdomdhjphgbaaGreatDoor
namespace Go.Proofs.YtjgdomdhjphgbaaGreatDoor
open Go Go.RowKit Go.Pg Go.Pol
attribute [-bool_to_prop] Bool.and_eq_decide Bool.or_eq_decide Bool.decide_beq_decide decide_eq_decide
def arS (k:Int):Int :=
 if k=1 then 0 else if k=2∨k=5∨k=6∨k=14 then 2 else if k=3∨k=4∨k=7∨k=8∨k=10∨k=11 then 3 else if k=9∨k=12∨k=13 then 4 else -1
def arG (k:Int):Int :=
 if k=8 then 2 else if k=1∨k=5 then 3 else if k=2∨k=3∨k=4∨k=6∨k=9 then 4 else if k=7 then 8 else 0
def outB (n:Int) (l:List Int):Bool:=l.any λa=>decide (a < 0) || decide (n≤a)
abbrev RS.zero:RS:=⟨0,.empty,[],⟨false,[],[]⟩⟩
def errS (ss:List RS) (i:Nat):Int :=
 let s:=ss.getD i RS.zero
 if arS s.k < 0 then 8
 else if (s.ar.length:Int)≠arS s.k then 1
 else if outB (i:Int) s.ar=true then 2
 else if (s.k=2∧s.r.ok=false)∨(s.k≠2∧s.r.none=false) then 1
 else if s.nm.size=0 then 0
 else if namB s.nm=false then 6
 else if (ss.take i).any (λt=>t.nm.toList == s.nm.toList)=true then 7
 else 0
def errG (g:RG) (n:Nat):Int :=
 if arG g.k=0 then 8
 else if (g.ar.length:Int)≠arG g.k then 1
 else if outB (n:Int) g.ar=true then 2
 else if (g.k=9∧g.r.ok=false)∨(g.k≠9∧g.r.none=false) then 1
 else 0
def fstE (f:Nat→Int):Nat→Int
 | 0=>0
 | n+1=>if fstE f n≠0 then fstE f n else f n
theorem Zid {f:Nat→Int}:∀{n:Nat},(∀j,j < n→f j=0)→fstE f n=0
 | 0,_=>rfl
 | n+1,h=>by
   unfold fstE;rw [if_neg (by rw [Zid λj hj=>h j (by omega)];simp)];exact h n (by omega)
theorem Zqv {f:Nat→Int} {i:Nat} (h:∀j,j < i→f j=0) (hi:f i≠0):∀{n:Nat},i < n→fstE f n=f i
 | 0,hn=>by omega
 | n+1,hn=>by
   unfold fstE;by_cases e:i=n
   ·subst e;rw [if_neg (by rw [Zid h];simp)]
   ·have:=Zqv h hi (n:=n) (by omega);rw [this,if_pos hi]
theorem Zna {f:Nat→Int}:∀{n:Nat},fstE f n=0→∀j,j < n→f j=0
 | 0,_,j,hj=>by omega
 | n+1,h,j,hj=>by
   unfold fstE at h;split at h
   ·rename_i h1;exact absurd h h1
   ·rename_i h1;by_cases e:j=n
    ·subst e;exact h
    ·exact Zna (n:=n) (by rcases Decidable.em (fstE f n=0) with h2 | h2;exact h2;exact absurd h2 h1) j (by omega)
def figE (ss:List RS) (gs:List RG):Int :=
 if 40 < ss.length∨8 < gs.length then 4
 else if fstE (errS ss) ss.length≠0 then fstE (errS ss) ss.length
 else fstE (λi=>errG (gs.getD i ⟨0,[],⟨false,[],[]⟩⟩) ss.length) gs.length
def frame (ss:List RS) (gs:List RG):List (Po × Po) × List Vt × Int :=
 if figE ss gs≠0 then ([],[],figE ss gs)
 else if (List.range ss.length).any (bigN ss)=true then ([],[],4)
 else ((frN ss ss.length).cs,(frN ss ss.length).vs,0)
theorem Zwn {n:Int} {l:List Int} (h:outB n l=false) {k:Nat} (hk:k < l.length):0≤gI l k∧gI l k < n:=by
 unfold outB at h;rw [List.any_eq_false] at h;have:=h (gI l k) (by rw [Zex hk];exact List.getElem_mem hk);simp only [Bool.or_eq_true,decide_eq_true_eq] at this;omega
theorem Zku {ss:List RS} {i:Nat} (hi:i < ss.length) (h:errS ss i=0):0≤arS ss[i].k∧(ss[i].ar.length:Int)=arS ss[i].k∧(∀k,k < ss[i].ar.length→0≤gI ss[i].ar k∧gI ss[i].ar k < (i:Int))∧(ss[i].k=2→ss[i].r.ok=true):=by
 unfold errS at h;rw [show ss.getD i RS.zero=ss[i] from by rw [List.getD_eq_getElem?_getD,List.getElem?_eq_getElem hi];rfl] at h;generalize ss[i]=s at *;simp only at h;split at h
 ·omega
 ·split at h
  ·omega
  ·split at h
   ·omega
   ·split at h
    ·omega
    ·rename_i h1 h2 h3 h4;refine⟨by omega,by omega,λk hk=>Zwn (by simpa using h3) hk,λh5=>?_⟩
     cases h6:s.r.ok with
     | true=>rfl
     | false=>exact absurd (.inl ⟨h5,h6⟩) h4
attribute [local go_sem] Tryz.underlying3 Tryz.underlying4 Tryz.underlying53 Tryz.underlying51 Tryz.underlying49 sz3 by3 z3 Zax zRat Za3 zInt Za2 zNat
theorem Zel {q:Rat}:(q.num.sign=0)=(q=0):=by rw [Int.sign_eq_zero_iff_zero,Rat.num_eq_zero]
section
attribute [local go_sem] Tryz.underlying3 Tryz.underlying4 Tryz.underlying53 Tryz.underlying51 Tryz.underlying49 sz3 by3 z3 Zax zRat Za3 zInt Za2 zNat
end
end Go.Proofs.YtjgdomdhjphgbaaGreatDoor
namespace Go.Proofs.YtjgdomdhjphgbaaGreatDoor
open Go Go.RowKit Go.Pg
attribute [-bool_to_prop] Bool.and_eq_decide Bool.or_eq_decide Bool.decide_beq_decide decide_eq_decide
attribute [local go_sem] Tryz.underlying3 Tryz.underlying2 Tryz.underlying120 Tryz.underlying160 Tryz.underlying4 Tryz.underlying53 Tryz.underlying49 Tryz.underlying51 sz3 by3 z3 szL byL zL Zax zRat Za2 zNat Za3 zInt
theorem intOfM:Pure Tryz.prog 99 [iv (-1)] (intZ (-1)):=by
 have hm:=Zit true 1 (by rw [Zc8];omega);have hn:=natOf 1 (by omega);rw [show zI true 1=-1 from rfl] at hm;rw [show intZ (-1)=.agg [.v (.bool true),lim (toL 1)] from rfl] at hm ⊢;generalize toL 1=l at *;refine Zaa (tok:=0) Tryz.func99 rfl Tryz.ntmps99 Tryz.results99 Tryz.call99 (by rfl) (by simp) ?_;(focus (refine wklp w_t (w_2 hn hm) w_t (w_r 0) ?_;(repeat' first|exact w_t|apply w_l);all_goals intros))
theorem ratOfM:Pure Tryz.prog 47 [iv (-1)] (ratQ (-1)):=by
 have c:=intOfM;rw [show intZ (-1)=.agg [.v (.bool true),lim (toL 1)] from rfl] at c;rw [show ratQ (-1)=.agg [.v (.bool true),lim (toL 1),lim (toL 1)] from rfl];have u:=Zp6;generalize toL 1=l at *;refine Zaa (tok:=0) Tryz.func47 rfl Tryz.ntmps47 Tryz.results47 Tryz.call47 (by rfl) (by simp) ?_;(focus (refine wklp w_t (w_2 c u) w_t (w_r 0) ?_;(repeat' first|exact w_t|apply w_l);all_goals intros))
theorem zOfM:Pure Tryz.prog 79 [iv (-1)] (intZ (-1)):=by
 have hm:=zOf' true 1 (by rw [Zc8];omega);have h0:=Zjh 0 (by omega);have h1:=Zjh 1 (by omega);have ha:=rAdd 0 1 (by rw [Zaw];simp) (by rw [Zc8];omega);rw [show zI true 1=-1 from rfl] at hm;rw [show 0+1=1 from rfl] at ha;rw [show intZ (-1)=.agg [.v (.bool true),lim (toL 1)] from rfl] at hm ⊢;generalize toL 1=l at *;generalize toL 0=k at *;refine Zaa (tok:=0) Tryz.func79 rfl Tryz.ntmps79 Tryz.results79 Tryz.call79 (by rfl) (by simp) ?_;(focus (refine wklp w_t (w_4 h0 h1 ha hm) w_t (w_r 0) ?_;(repeat' first|exact w_t|apply w_l);all_goals intros))
theorem qOfM:Pure Tryz.prog 34 [iv (-1)] (ratQ (-1)):=by
 have c:=zOfM;have h1:=Zjh 1 (by omega);have co:Pure Tryz.prog 78 [.agg [.v (.bool true),lim (toL 1)],lim (toL 1)] (ratQ (mkRat (zI true 1) 1)):=Zp9 true 1 1 (by rw [Zc8];omega) (by rw [Zc8];omega) (by omega);rw [show mkRat (zI true 1) 1=(-1:Rat) from rfl] at co;rw [show intZ (-1)=.agg [.v (.bool true),lim (toL 1)] from rfl] at c;rw [show ratQ (-1)=.agg [.v (.bool true),lim (toL 1),lim (toL 1)] from rfl] at *;generalize toL 1=l at *;refine Zaa (tok:=0) Tryz.func34 rfl Tryz.ntmps34 Tryz.results34 Tryz.call34 (by rfl) (by simp) ?_;(focus (refine wklp w_t (w_3 c h1 co) w_t (w_r 0) ?_;(repeat' first|exact w_t|apply w_l);all_goals intros))
end Go.Proofs.YtjgdomdhjphgbaaGreatDoor
namespace Go.Proofs.YtjgdomdhjphgbaaGreatDoor
open Go Go.RowKit Go.Pg Go.Pol
attribute [-bool_to_prop] Bool.and_eq_decide Bool.or_eq_decide Bool.decide_beq_decide decide_eq_decide
section
attribute [local go_sem] Tryz.underlying3 Tryz.underlying4 Tryz.underlying53 Tryz.underlying51 Tryz.underlying49 sz3 by3 z3 Zax zRat Za3 zInt Za2 zNat
end
attribute [local go_sem] Tryz.underlying3 Tryz.underlying4 Tryz.underlying53 Tryz.underlying51 Tryz.underlying49 sz3 by3 z3 Zax zRat Za3 zInt Za2 zNat
theorem qSign (q:Rat) {k:Nat} (h:Sz q k) (hk:k≤10000000):Pure Tryz.prog 76 [ratQ q] (.v (.int .i64 q.num.sign)):=by
 have c:=zSign q.num (by have:=h.1;omega);have cn:=Zv8 q h hk;generalize q.num.sign=z at *;refine Zaa (tok:=0) Tryz.func76 rfl Tryz.ntmps76 Tryz.results76 Tryz.call76 (by rfl) (by simp) ?_;(focus (refine wklp w_t (w_2 cn c) w_t (w_r 0) ?_;(repeat' first|exact w_t|apply w_l);all_goals intros))
attribute [local go_sem] Tryz.underlying160 Tryz.underlying27 Tryz.underlying54 Tryz.underlying56 Tryz.underlying30 Tryz.underlying31 szB zB Zag Zaq Zah Bool.and_self Zal Zbh zSlQ szQT byQT zQT Zbj zSlT szQP zQP
abbrev QTs:=List (Rat × List Qt)
abbrev qpA (p:QTs):AV:=.sl 4 (p.map qtA)
theorem Zv9 {l:List Qt} {q:Qt}:∀{i:Nat},(∀t (h:t < l.length),t < i→Qt.cmp l[t] q≤0)→i≤l.length→putQ Qt.cmp l q=l.take i++putQ Qt.cmp (l.drop i) q:=by
 induction l with
 | nil=>intro i _ h;have:i=0:=by simpa using h
        subst this;rfl
 | cons a l ih =>
   intro i h hi
   cases i with
   | zero=>rfl
   | succ i =>
     show(if Qt.cmp a q≤0 then a :: putQ Qt.cmp l q else q :: a :: l)=a :: (l.take i++putQ Qt.cmp (l.drop i) q);have h0:Qt.cmp a q≤0:=h 0 (by simp) (by omega);rw [if_pos h0,ih (i:=i) (λt ht hti=>h (t+1) (Nat.succ_lt_succ ht) (Nat.succ_lt_succ hti)) (Nat.le_of_succ_le_succ hi)]
theorem put_stop {l:List Qt} {q:Qt} (h:∀a t,l=a :: t→¬Qt.cmp a q≤0):putQ Qt.cmp l q=q :: l:=by
 cases l with
 | nil=>rfl
 | cons a t=>show(if Qt.cmp a q≤0 then _ else _)=_;rw [if_neg (h a t rfl)]
theorem rxPut (l:List Qt) (q:Qt) (hl:l.length≤1000):Pure Tryz.prog 123 [qsA l,q.av] (qsA (putQ Qt.cmp l q)):=by
 have hlm:(l.map Qt.av).length=l.length:=List.length_map ..;have hg:∀j (h:j < l.length),(l.map Qt.av).getD j .u=Qt.av l[j]:=λj h=>Zap Qt.av h;have hmd:∀i,(l.map Qt.av).drop i=(l.drop i).map Qt.av:=λi=>List.map_drop.symm;show Pure _ _ [.sl 4 (l.map Qt.av),.agg [iv q.k,iv q.a,iv q.b,iv q.c]] _;generalize l.map Qt.av=A at *;refine Zaa (tok:=0) Tryz.func123 rfl Tryz.ntmps123 Tryz.results123 Tryz.call123 (by rfl) (by simp) ?_;(focus (refine wkad (w_1 hlm) w_t w_t ?_;(repeat' first|exact w_t|apply w_l);all_goals intros));rename_i g3;refine Zeu (Frz.nilOwn (d:=5) 26 4 27 (by exact gC)) ?_
 refine Zac (ι:=Nat) (λi e m=>i≤l.length∧(∀t (h:t < l.length),t < i→Qt.cmp l[t] q≤0)∧e 0=.sl 4 A∧e 3=.pbox 3 g3 0∧m 3=some (.box g3 27 [iv q.k,iv q.a,iv q.b,iv q.c] false)∧e 6=iv i∧∃sv,e 5=.own 26 sv∧m 26=some (.row sv 27 4 ((l.take i).map Qt.av) 0)) (λi=>l.length - i) 0 (by rfl) ?_ ?_
 ·rintro i e m ⟨hi,hc,e0,e3,m3,e6,sv,e5,m26⟩
  have htl:((l.take i).map Qt.av).length=i:=by rw [List.length_map,List.length_take];omega
  have hsp:=Zv9 hc hi;have htk:A.take l.length=A:=List.take_of_length_le (by omega);have hmdi:=hmd i;by_cases hlt:i < l.length
  ·have g1:=hg i hlt;have cc:=rqCmp l[i].k l[i].a l[i].b l[i].c q.k q.a q.b q.c;have hta:(l.take (i+1)).map Qt.av=(l.take i).map Qt.av++[Qt.av l[i]]:=by rw [List.take_add_one,List.getElem?_eq_getElem hlt,List.map_append];rfl
   by_cases hz:Qt.cmp l[i] q≤0
   ·have hc2:∀t (h:t < l.length),t < i+1→Qt.cmp l[t] q≤0:=λt h hti=>by
     by_cases e:t=i
     ·subst e;exact hz
     ·exact hc t h (by omega)
    clear hsp hc hmd hg;obtain⟨q1,q2,q3,q4⟩:=q;generalize l[i]=x at *;obtain⟨x1,x2,x3,x4⟩:=x;simp only at *;generalize Qt.cmp _ _=z at *;generalize (l.take i).map Qt.av=T at *;(focus (refine wkad (w_10 e0 e3 m3 e5 e6 m26 hlm g1 hz htl) (w_1 cc) (w_1 (w_d 3 [(10,iv z)] [] [])) ?_;(repeat' first|exact w_t|apply w_l);all_goals intros));exact⟨i+1,⟨by omega,hc2,by exact gW e0,by exact gW e3,by exact gW m3,by exact gS,_,by exact gC,by rw [hta];exact gC⟩,by omega⟩
   ·have hst:putQ Qt.cmp (l.drop i) q=q :: l.drop i:=put_stop λa t e=>by
     have:l.drop i=l[i] :: l.drop (i+1):=List.drop_eq_getElem_cons hlt;rw [this] at e;injection e with e1 _
     rw [←e1];exact hz
    have hfin:qsA (putQ Qt.cmp l q)=.sl 4 (((l.take i).map Qt.av++[.agg [iv q.k,iv q.a,iv q.b,iv q.c]])++(l.drop i).map Qt.av):=by unfold qsA;rw [hsp,hst];simp
    rw [hfin];have hdl:((l.drop i).map Qt.av).length=l.length - i:=by rw [List.length_map,List.length_drop]
    have hnl:(i:Int).toNat=i:=Int.toNat_natCast i;clear hfin hsp hst hc hmd hg hta;obtain⟨q1,q2,q3,q4⟩:=q;generalize l[i]=x at *;obtain⟨x1,x2,x3,x4⟩:=x;simp only at *;generalize Qt.cmp _ _=z at *;generalize (l.take i).map Qt.av=T at *;generalize (l.drop i).map Qt.av=R at *;(focus (refine wkad (w_14 e0 e3 m3 e5 e6 m26 hlm g1 hz htl htk hmdi hdl @l_app) (w_1 cc) (w_1 (w_d 3 [(10,iv z)] [] [])) ?_;(repeat' first|exact w_t|apply w_l);all_goals intros));all_goals exact gL
  ·have hil:i=l.length:=by omega
   have hst:putQ Qt.cmp (l.drop i) q=[q]:=by rw [List.drop_of_length_le (by omega)];rfl
   have hfin:qsA (putQ Qt.cmp l q)=.sl 4 (((l.take i).map Qt.av++[.agg [iv q.k,iv q.a,iv q.b,iv q.c]])++[]):=by unfold qsA;rw [hsp,hst];simp
   rw [hfin];have hdn:A.drop i=[]:=by rw [hmdi,List.drop_of_length_le (by omega)];rfl
   clear hfin hsp hst hc hmd hg;obtain⟨q1,q2,q3,q4⟩:=q;simp only at *;generalize (l.take i).map Qt.av=T at *;subst hil;(focus (refine wkad (w_11 e0 e3 m3 e5 e6 m26 hlm htl htk hdn @l_app) w_t w_t ?_;(repeat' first|exact w_t|apply w_l);all_goals intros));all_goals exact gL
 ·exact⟨Nat.zero_le _,λt h hti=>by omega,by exact gC,by exact gC,by exact gC,by exact gC,_,by exact gC,by exact gC⟩
abbrev Zav (p q:QTs):QTs:=addP (λx y=>ordQ y x < 0) p q
def QK (p:QTs) (j n:Nat):Prop:=∀t∈p,Sz t.1 j∧t.2.length≤n
theorem QK.mono {p:QTs} {j n k m:Nat} (h:QK p j n) (hj:j≤k) (hn:n≤m):QK p k m:=λt ht=>⟨(h t ht).1.mono hj,Nat.le_trans (h t ht).2 hn⟩
theorem Zo5 {p q:QTs} {i k:Nat} (hi:i < p.length) (hk:k < q.length):Zav (p.drop i) (q.drop k) =
 if ordQ p[i].2 q[k].2 < 0 then p[i] :: Zav (p.drop (i+1)) (q.drop k) else if ordQ q[k].2 p[i].2 < 0 then q[k] :: Zav (p.drop i) (q.drop (k+1))
 else if p[i].1+q[k].1=0 then Zav (p.drop (i+1)) (q.drop (k+1)) else (p[i].1+q[k].1,p[i].2) :: Zav (p.drop (i+1)) (q.drop (k+1)):=by
 rw [List.drop_eq_getElem_cons hi,List.drop_eq_getElem_cons hk];rw [show Zav (p[i] :: p.drop (i+1)) (q[k] :: q.drop (k+1))=_ from by unfold Zav;rw [addP]]
theorem Ze4 {p q:QTs} {i k:Nat} (h:p.length≤i∨q.length≤k):Zav (p.drop i) (q.drop k)=p.drop i++q.drop k:=by
 rcases h with h | h
 ·rw [List.drop_eq_nil_of_le h];simp [Zav,addP]
 ·rw [List.drop_eq_nil_of_le h,List.append_nil];exact addP_nil _
theorem join_QK {p q:QTs} {j k n:Nat} (hp:QK p j n) (hq:QK q k n):QK (Zav p q) (j+k+1) n:=λt ht=>by
 rcases Zgn ht with h | h | ⟨s,hs,u,hu,rfl⟩
 ·exact⟨(hp t h).1.mono (by omega),(hp t h).2⟩
 ·exact⟨(hq t h).1.mono (by omega),(hq t h).2⟩
 ·exact⟨(hp s hs).1.add (hq u hu).1,(hp s hs).2⟩
theorem Zok (l m:List Qt):(ordQ l m=-1∧ordQ l m < 0)∨(ordQ l m=0∧¬ordQ l m < 0∧¬ordQ m l < 0)∨(ordQ l m=1∧¬ordQ l m < 0∧ordQ m l < 0):=by
 have hf:=Zbp.flip m l
 have h3:ordQ l m=-1∨ordQ l m=0∨ordQ l m=1:=by
  unfold ordQ ordL;split
  ·exact .inl rfl
  ·split
   ·exact .inr (.inr rfl)
   ·clear hf;rename_i h1 h2;clear h1 h2
    induction l generalizing m with
    | nil=>cases m<;>simp [lexL]
    | cons a l ih=>cases m with
      | nil=>simp [lexL]
      | cons b m =>
        rw [Zb3];split
        ·exact ih m
        ·rcases Zgt a b with⟨h,_⟩ | ⟨h,_⟩ | ⟨h,_⟩
         ·exact .inl h
         ·exact .inr (.inl h)
         ·exact .inr (.inr h)
 rcases h3 with h | h | h
 ·exact .inl ⟨h,by omega⟩
 ·exact .inr (.inl ⟨h,by omega,by omega⟩)
 ·exact .inr (.inr ⟨h,by omega,by omega⟩)
theorem rxJoin (p q:QTs) {j k n:Nat} (hp:QK p j n) (hq:QK q k n) (lp:p.length≤100000000) (lq:q.length≤100000000) (hj:j≤1000000) (hk:k≤1000000) (hn:n≤1000000) :
 Pure Tryz.prog 125 [qpA p,qpA q] (qpA (Zav p q)):=by
 have hlp:(p.map qtA).length=p.length:=List.length_map ..;have hlq:(q.map qtA).length=q.length:=List.length_map ..;have gp:∀i (h:i < p.length),(p.map qtA).getD i .u=qtA p[i]:=λi h=>Zap qtA h;have gq:∀i (h:i < q.length),(q.map qtA).getD i .u=qtA q[i]:=λi h=>Zap qtA h;show Pure _ _ [.sl 4 (p.map qtA),.sl 4 (q.map qtA)] _;generalize p.map qtA=A at *;generalize q.map qtA=B at *;have hz:((p.length:Int)+(q.length:Int)).toNat=p.length+q.length:=by omega
 refine Zaa (tok:=0) Tryz.func125 rfl Tryz.ntmps125 Tryz.results125 Tryz.call125 (by rfl) (by simp) ?_;(focus (refine wkad (w_3 hlp hlq hz) w_t w_t ?_;(repeat' first|exact w_t|apply w_l);all_goals intros));refine Zac (ι:=Nat × Nat) (λx e m=>x.1≤p.length∧x.2≤q.length∧e 0=.sl 4 A∧e 1=.sl 4 B∧e 6=iv x.1∧e 7=iv x.2∧∃sv out,e 5=.own 15 sv∧m 15=some (.row sv 56 4 (out.map qtA) 0)∧out.length≤x.1+x.2∧Zav p q=out++Zav (p.drop x.1) (q.drop x.2)) (λx=>p.length+q.length - (x.1+x.2)) (0,0) (by rfl) ?_ ?_
 ·rintro ⟨i,l⟩ e m ⟨hi,hl,e0,e1,e6,e7,sv,out,e5,em,ho,hs⟩
  simp only at hi hl e6 e7 ho hs;have hlen:(out.map qtA).length=out.length:=List.length_map ..;by_cases hil:i < p.length∧l < q.length
  ·obtain⟨hi2,hl2⟩:=hil;have hg:=gp i hi2;have hh:=gq l hl2;have st:=Zo5 hi2 hl2;have ms:=hp _ (List.getElem_mem hi2);have mt:=hq _ (List.getElem_mem hl2);clear gp gq hp hq;generalize p[i]=s at *;generalize q[l]=t at *;have cl:=Zvd s.2 t.2 (by have:=ms.2;omega) (by have:=mt.2;omega);have ca:=qAdd s.1 t.1 ms.1 mt.1 (by omega) (by omega);have cz:=qSign (s.1+t.1) (ms.1.add mt.1) (by omega);have h3:=Zok s.2 t.2;rw [st] at hs;clear st ms mt;have hout:∀x:Rat × List Qt,(out++[x]).map qtA=out.map qtA++[qtA x]:=λx=>by rw [List.map_append];rfl
   obtain⟨s1,s2⟩:=s;obtain⟨t1,t2⟩:=t;simp only at *;have hou1:=hout (s1,s2);have hou2:=hout (t1,t2);have hou3:=hout (s1+t1,s2);clear hout;rcases h3 with⟨h1,h2⟩ | ⟨h1,h2,h4⟩ | ⟨h1,h2,h4⟩
   ·rw [if_pos h2] at hs;rw [h1] at cl;clear ca cz h1 h2 hou2 hou3;generalize out.map qtA=O at *;generalize s2.map Qt.av=S2 at *;generalize t2.map Qt.av=T2 at *;(focus (refine wkad (w_11 e0 e1 e6 e7 e5 em hlp hlq hlen hg hh) (w_1 cl) (w_1 (w_d 8 [(10,iv (-1))] [] [])) ?_;(repeat' first|exact w_t|apply w_l);all_goals intros));refine⟨(i+1,l),⟨by simp only;omega,by simp only;omega,by exact gW e0,by exact gW e1,by exact gS,by exact gW e7,_,out++[(s1,s2)],by exact gC,by rw [hou1];exact gC,by simp only [List.length_append,List.length_cons,List.length_nil];omega,by rw [hs,List.append_assoc];rfl⟩,by simp only;omega⟩
   ·rw [if_neg h2,if_neg h4] at hs;rw [h1] at cl;by_cases hz0:s1+t1=0
    ·rw [if_pos hz0] at hs;have hz2:(s1+t1).num.sign=0:=by rw [Zel];exact hz0
     clear h1 h2 h4 hou1 hou2 hou3;generalize (s1+t1)=z at *;generalize hO:out.map qtA=O at *;generalize s2.map Qt.av=S2 at *;generalize t2.map Qt.av=T2 at *;(focus (refine wkad (w_12 e0 e1 e6 e7 e5 em hlp hlq hlen hg hh hz2) (w_3 cl ca cz) (w_2 (w_d 8 [(10,iv 0)] [] []) (w_d 9 [(10,ratQ z)] [] [9])) ?_;(repeat' first|exact w_t|apply w_l);all_goals intros));refine⟨(i+1,l+1),⟨by simp only;omega,by simp only;omega,by exact gW e0,by exact gW e1,by exact gS,by exact gS,_,out,by exact gW e5,by rw [hO];exact gW em,by simp only;omega,hs⟩,by simp only;omega⟩
    ·rw [if_neg hz0] at hs;have hz2:¬(s1+t1).num.sign=0:=by rw [Zel];exact hz0
     clear h1 h2 h4 hou1 hou2;generalize (s1+t1)=z at *;generalize out.map qtA=O at *;generalize s2.map Qt.av=S2 at *;generalize t2.map Qt.av=T2 at *;(focus (refine wkax (w_12 e0 e1 e6 e7 e5 em hlp hlq hlen hg hh hz2) (w_3 cl ca cz) (w_3 (w_d 8 [(10,iv 0)] [] []) (w_d 9 [(10,ratQ z)] [] [9]) (w_d 11 [] [9,1009] [15,67])) w_t w_t w_t (w_r 0) ?_;(repeat' first|exact w_t|apply w_l);all_goals intros));refine⟨(i+1,l+1),⟨by simp only;omega,by simp only;omega,by exact gW e0,by exact gW e1,by exact gS,by exact gS,_,out++[(z,s2)],by exact gC,by rw [hou3];exact gC,by simp only [List.length_append,List.length_cons,List.length_nil];omega,by rw [hs,List.append_assoc];rfl⟩,by simp only;omega⟩
   ·rw [if_neg h2,if_pos h4] at hs;rw [h1] at cl;clear ca cz h1 h2 h4 hou1 hou3;generalize out.map qtA=O at *;generalize s2.map Qt.av=S2 at *;generalize t2.map Qt.av=T2 at *;(focus (refine wkad (w_11 e0 e1 e6 e7 e5 em hlp hlq hlen hg hh) (w_1 cl) (w_1 (w_d 8 [(10,iv 1)] [] [])) ?_;(repeat' first|exact w_t|apply w_l);all_goals intros));refine⟨(i,l+1),⟨by simp only;omega,by simp only;omega,by exact gW e0,by exact gW e1,by exact gW e6,by exact gS,_,out++[(t1,t2)],by exact gC,by rw [hou2];exact gC,by simp only [List.length_append,List.length_cons,List.length_nil];omega,by rw [hs,List.append_assoc];rfl⟩,by simp only;omega⟩
  ·rw [Ze4 (by omega)] at hs;by_cases hi2:i < p.length
   ·have hl2:l=q.length:=by omega
    subst hl2;have hg:=gp i hi2;have hd:p.drop i=p[i] :: p.drop (i+1):=List.drop_eq_getElem_cons hi2;rw [hd] at hs
    have hs:Zav p q=(out++[p[i]])++Zav (p.drop (i+1)) (q.drop q.length):=by
     rw [Ze4 (.inr (Nat.le_refl _)),hs];simp
    have hou:(out++[p[i]]).map qtA=out.map qtA++[qtA p[i]]:=by rw [List.map_append];rfl
    clear hd gp gq hp hq;generalize p[i]=s at *;obtain⟨s1,s2⟩:=s;generalize out.map qtA=O at *;(focus (refine wkad (w_10 e0 e1 e6 e7 e5 em hg hlp hlq hlen) w_t w_t ?_;(repeat' first|exact w_t|apply w_l);all_goals intros));refine⟨(i+1,q.length),⟨by simp only;omega,by simp only;omega,by exact gW e0,by exact gW e1,by exact gS,by exact gW e7,_,out++[(s1,s2)],by exact gC,by rw [hou];exact gC,by simp only [List.length_append,List.length_cons,List.length_nil];omega,hs⟩,by simp only;omega⟩
   ·have hi3:i=p.length:=by omega
    subst hi3;by_cases hl2:l < q.length
    ·have hg:=gq l hl2;have hd:q.drop l=q[l] :: q.drop (l+1):=List.drop_eq_getElem_cons hl2;rw [hd] at hs
     have hs:Zav p q=(out++[q[l]])++Zav (p.drop p.length) (q.drop (l+1)):=by
      rw [Ze4 (.inl (Nat.le_refl _)),hs];simp
     have hou:(out++[q[l]]).map qtA=out.map qtA++[qtA q[l]]:=by rw [List.map_append];rfl
     clear hd gp gq hp hq;generalize q[l]=s at *;obtain⟨s1,s2⟩:=s;generalize out.map qtA=O at *;(focus (refine wkad (w_10 e0 e1 e6 e7 e5 em hg hlp hlq hlen) w_t w_t ?_;(repeat' first|exact w_t|apply w_l);all_goals intros));refine⟨(p.length,l+1),⟨by simp only;omega,by simp only;omega,by exact gW e0,by exact gW e1,by exact gW e6,by exact gS,_,out++[(s1,s2)],by exact gC,by rw [hou];exact gC,by simp only [List.length_append,List.length_cons,List.length_nil];omega,hs⟩,by simp only;omega⟩
    ·have hl3:l=q.length:=by omega
     subst hl3;rw [List.drop_length,List.drop_length,List.append_nil,List.append_nil] at hs;rw [hs];clear gp gq hp hq hs;generalize hO:out.map qtA=O at *;rw [show qpA out=.sl 4 O from congrArg _ hO];(focus (refine wkad (w_9 e0 e1 e6 e7 e5 em hlp hlq hlen) w_t w_t ?_;(repeat' first|exact w_t|apply w_l);all_goals intros));all_goals (all_goals (try simp (disch:=omega) only [go_sem,em,decide_eq_true,decide_eq_false,if_pos,if_neg,Int.reduceAdd,Int.reduceSub,Int.reduceToNat,Int.zero_add]));(all_goals first|done|rfl|(congr 2;first|done|omega|(rw [Bool.eq_iff_iff];simp only [bool_to_prop,Bool.false_eq_true,iff_true,true_iff,iff_false,false_iff];omega))|skip)
 ·exact⟨Nat.zero_le _,Nat.zero_le _,by exact gC,by exact gC,by exact gC,by exact gC,_,[],by exact gC,by exact gC,Nat.zero_le _,by simp⟩
end Go.Proofs.YtjgdomdhjphgbaaGreatDoor
namespace Go.Pol
section
def cl (q:Rat):Nat:=(q.num.natAbs+q.den - 1)/q.den
theorem cl_le {q:Rat} {B:Nat}:cl q≤B↔q.num.natAbs≤B*q.den:=by
 have h:0 < q.den:=Nat.pos_of_ne_zero q.den_nz;unfold cl;rw [←Nat.lt_succ_iff,Nat.div_lt_iff_lt_mul h,Nat.succ_mul];omega
theorem cl_self (q:Rat):q.num.natAbs≤cl q*q.den:=cl_le.1 (Nat.le_refl _)
theorem Znj {q:Rat} {D:Nat} (h:q.den ∣ D):BQ D (cl q) q:=⟨h,cl_self q⟩
theorem cl_add (a b:Rat):cl (a+b)≤cl a+cl b:=cl_le.2 ((Znj (Nat.dvd_mul_right a.den b.den)).add (Znj (Nat.dvd_mul_left b.den a.den))).2
theorem cl_mul (a b:Rat):cl (a*b)≤cl a*cl b:=cl_le.2 ((Znj (Nat.dvd_refl a.den)).mul (Znj (Nat.dvd_refl b.den))).2
theorem Zx9 {a b:Rat} {D:Nat} (h:a.den ∣ D) (k:b.den ∣ D):(a+b).den ∣ D:=((Znj h).add (Znj k)).1
theorem den_mul {a b:Rat} {D E:Nat} (h:a.den ∣ D) (k:b.den ∣ E):(a*b).den ∣ D*E:=((Znj h).mul (Znj k)).1
variable {κ:Type}
def n1 (l:List (Rat × κ)):Nat:=(l.map λt=>cl t.1).sum
theorem Zbl (t:Rat × κ) (l:List (Rat × κ)):n1 (t :: l)=cl t.1+n1 l:=rfl
theorem Zou (l m:List (Rat × κ)):n1 (l++m)=n1 l+n1 m:=by unfold n1;rw [List.map_append,List.sum_append]
theorem n1_mem {l:List (Rat × κ)} {t:Rat × κ} (h:t∈l):cl t.1≤n1 l:=by
 induction l with
 | nil=>cases h
 | cons s l ih =>
   rw [Zbl];rcases List.mem_cons.1 h with rfl | h
   ·omega
   ·have:=ih h;omega
theorem Zw3 (f:Rat × κ→Bool) (l:List (Rat × κ)):n1 (l.filter f)≤n1 l:=by
 induction l with
 | nil=>exact Nat.le_refl _
 | cons t l ih =>
   rw [List.filter_cons];split
   ·rw [Zbl,Zbl];omega
   ·rw [Zbl];omega
theorem n1_take (l:List (Rat × κ)) (i:Nat):n1 (l.take i)≤n1 l:=by
 have:=Zou (l.take i) (l.drop i);rw [List.take_append_drop] at this;omega
def NB (D B:Nat) (l:List (Rat × κ)):Prop:=(∀t∈l,t.1.den ∣ D)∧n1 l≤B
theorem NB.nil (D B:Nat):NB D B ([]:List (Rat × κ)):=⟨λt h=>(by cases h),Nat.zero_le _⟩
theorem NB.mono {D B E C:Nat} {l:List (Rat × κ)} (h:NB D B l) (hd:D ∣ E) (hb:B≤C):NB E C l:=⟨λt ht=>Nat.dvd_trans (h.1 t ht) hd,Nat.le_trans h.2 hb⟩
theorem NB.bq {D B:Nat} {l:List (Rat × κ)} (h:NB D B l) {t:Rat × κ} (ht:t∈l):BQ D B t.1:=(Znj (h.1 t ht)).mono (Nat.dvd_refl _) (Nat.le_trans (n1_mem ht) h.2)
theorem NB.filter {D B:Nat} {l:List (Rat × κ)} (h:NB D B l) (f:Rat × κ→Bool):NB D B (l.filter f):=⟨λt ht=>h.1 t (List.mem_filter.1 ht).1,Nat.le_trans (Zw3 f l) h.2⟩
theorem NB.take {D B:Nat} {l:List (Rat × κ)} (h:NB D B l) (i:Nat):NB D B (l.take i):=⟨λt ht=>h.1 t (List.mem_of_mem_take ht),Nat.le_trans (n1_take l i) h.2⟩
theorem NB.app {D B C:Nat} {l m:List (Rat × κ)} (h:NB D B l) (k:NB D C m):NB D (B+C) (l++m) :=
 ⟨λt ht=>(List.mem_append.1 ht).elim (h.1 t) (k.1 t),by rw [Zou];exact Nat.add_le_add h.2 k.2⟩
end
section
variable {κ:Type} [DecidableEq κ]
theorem n1_addC (l:List (Rat × κ)) (t:Rat × κ):n1 (addC l t)≤n1 l+cl t.1:=by
 induction l with
 | nil=>show cl t.1+0≤0+cl t.1;omega
 | cons s l ih =>
   unfold addC;split
   ·rw [Zbl,Zbl];have:=cl_add s.1 t.1;simp only;omega
   ·rw [Zbl,Zbl];omega
theorem den_addC {D:Nat} {l:List (Rat × κ)} {t:Rat × κ} (h:∀s∈l,s.1.den ∣ D) (ht:t.1.den ∣ D):∀s∈addC l t,s.1.den ∣ D:=by
 induction l with
 | nil=>intro s hs;rw [List.mem_singleton.1 hs];exact ht
 | cons u l ih =>
   intro s hs;unfold addC at hs;split at hs
   ·rcases List.mem_cons.1 hs with rfl | hs
    ·exact Zx9 (h u (.head _)) ht
    ·exact h s (.tail _ hs)
   ·rcases List.mem_cons.1 hs with rfl | hs
    ·exact h _ (.head _)
    ·exact ih (λv hv=>h v (.tail _ hv)) s hs
theorem NB.addC {D B C:Nat} {l:List (Rat × κ)} (h:NB D B l) {t:Rat × κ} (ht:t.1.den ∣ D) (hc:cl t.1≤C):NB D (B+C) (addC l t) :=
 ⟨den_addC h.1 ht,Nat.le_trans (n1_addC l t) (Nat.add_le_add h.2 hc)⟩
end
section
variable {κ:Type} {lt:κ→κ→Prop} [DecidableRel lt]
theorem NB.addP {D B C:Nat} {p q:List (Rat × κ)} (hp:NB D B p) (hq:NB D C q):NB D (B+C) (addP lt p q):=by
 suffices h:(∀t∈Go.Pol.addP lt p q,t.1.den ∣ D)∧n1 (Go.Pol.addP lt p q)≤n1 p+n1 q from⟨h.1,Nat.le_trans h.2 (Nat.add_le_add hp.2 hq.2)⟩
 replace hp:=hp.1
 replace hq:=hq.1
 fun_induction Go.Pol.addP lt p q with
 | case1 q=>exact⟨hq,by show n1 q≤0+n1 q;omega⟩
 | case2 s p=>exact⟨hp,Nat.le_add_right _ _⟩
 | case3 s p u q h1 ih =>
   obtain⟨a,b⟩:=ih (λt h=>hp t (.tail _ h)) hq;exact⟨λt ht=>by
    rcases List.mem_cons.1 ht with rfl | ht
    ·exact hp _ (.head _)
    ·exact a t ht,by rw [Zbl,Zbl];omega⟩
 | case4 s p u q h1 h2 ih =>
   obtain⟨a,b⟩:=ih hp (λt h=>hq t (.tail _ h));exact⟨λt ht=>by
    rcases List.mem_cons.1 ht with rfl | ht
    ·exact hq _ (.head _)
    ·exact a t ht,by rw [Zbl,Zbl u];omega⟩
 | case5 s p u q h1 h2 h3 ih =>
   obtain⟨a,b⟩:=ih (λt h=>hp t (.tail _ h)) (λt h=>hq t (.tail _ h));exact⟨a,by rw [Zbl,Zbl];omega⟩
 | case6 s p u q h1 h2 h3 ih =>
   obtain⟨a,b⟩:=ih (λt h=>hp t (.tail _ h)) (λt h=>hq t (.tail _ h));exact⟨λt ht=>by
    rcases List.mem_cons.1 ht with rfl | ht
    ·exact Zx9 (hp _ (.head _)) (hq _ (.head _))
    ·exact a t ht,by rw [Zbl,Zbl,Zbl];have:=cl_add s.1 u.1;simp only;omega⟩
theorem sumH_nb {D:Nat} (l:List (List (Rat × κ))) (h:∀p∈l,∀t∈p,t.1.den ∣ D):NB D ((l.map n1).sum) (sumH lt l):=by
 fun_induction sumH lt l with
 | case1=>exact .nil _ _
 | case2 p=>exact⟨h p (.head _),by simp⟩
 | case3 p q l ih1 ih2 =>
   have:=(ih1 λu hu=>h u (List.mem_of_mem_take hu)).addP (lt:=lt) (ih2 λu hu=>h u (List.mem_of_mem_drop hu))
   rwa [←List.sum_append,←List.map_append,List.take_append_drop] at this
end
section
variable {κ:Type} {cmp:κ→κ→Int}
theorem NB.sumG {D B:Nat} {l:List (Rat × κ)} (h:NB D B l):NB D B (sumG cmp l):=by
 have:=sumH_nb (lt:=λx y=>cmp y x < 0) (D:=D) (l.map λt=>if t.1=0 then [] else [t]) λp hp t ht=>by
  obtain⟨s,hs,rfl⟩:=List.mem_map.1 hp;split at ht
  ·cases ht
  ·rw [List.mem_singleton.1 ht];exact h.1 s hs
 refine this.mono (Nat.dvd_refl _) (Nat.le_trans ?_ h.2);clear this h
 induction l with
 | nil=>exact Nat.le_refl _
 | cons t l ih =>
   rw [List.map_cons,List.map_cons,List.sum_cons,Zbl];refine Nat.add_le_add ?_ ih;split
   ·exact Nat.zero_le _
   ·show cl t.1+0≤_;omega
def prodL (mu:κ→κ→κ) (l m:List (Rat × κ)):List (Rat × κ):=l.flatMap λs=>m.map λt=>(s.1*t.1,mu s.2 t.2)
theorem Zfk (mu:κ→κ→κ) (s:Rat × κ) (l m:List (Rat × κ)):prodL mu (s :: l) m=(m.map λt=>(s.1*t.1,mu s.2 t.2))++prodL mu l m:=rfl
theorem Zh3 (mu:κ→κ→κ) (l m:List (Rat × κ)):(prodL mu l m).length=l.length*m.length:=by
 induction l with
 | nil=>simp [prodL]
 | cons s l ih=>rw [Zfk,List.length_append,List.length_map,ih,List.length_cons,Nat.succ_mul,Nat.add_comm]
theorem Zfj {mu:κ→κ→κ} {l m:List (Rat × κ)} {u:Rat × κ} (h:u∈prodL mu l m):∃s∈l,∃t∈m,u=(s.1*t.1,mu s.2 t.2):=by
 obtain⟨s,hs,hu⟩:=List.mem_flatMap.1 h;obtain⟨t,ht,rfl⟩:=List.mem_map.1 hu;exact⟨s,hs,t,ht,rfl⟩
theorem NB.prodL {mu:κ→κ→κ} {D B E C:Nat} {l m:List (Rat × κ)} (h:NB D B l) (k:NB E C m):NB (D*E) (B*C) (prodL mu l m):=by
 refine⟨λu hu=>?_,Nat.le_trans ?_ (Nat.mul_le_mul h.2 k.2)⟩
 ·obtain⟨s,hs,t,ht,rfl⟩:=Zfj hu;exact den_mul (h.1 s hs) (k.1 t ht)
 ·clear h k
  induction l with
  | nil=>exact Nat.zero_le _
  | cons s l ih =>
    rw [Zfk,Zou,Zbl,Nat.add_mul];refine Nat.add_le_add ?_ ih;clear ih
    induction m with
    | nil=>exact Nat.zero_le _
    | cons t m ih =>
      rw [List.map_cons,Zbl,Zbl,Nat.mul_add];exact Nat.add_le_add (cl_mul _ _) ih
end
section
variable {κ:Type}
theorem evl_row (φ:κ→Rat) (mu:κ→κ→κ) (s:Rat × κ) (m:List (Rat × κ)):evl φ (m.map λt=>(s.1*t.1,mu s.2 t.2))=s.1*evl (λk=>φ (mu s.2 k)) m:=by
 induction m with
 | nil=>show(0:Rat)=s.1*0;rw [Rat.mul_zero]
 | cons t m ih=>simp only [List.map_cons,evl];rw [ih];grind
theorem Zxs (φ:κ→Rat) (mu:κ→κ→κ) (l m:List (Rat × κ)):evl φ (prodL mu l m)=evl (λk=>evl (λk'=>φ (mu k k')) m) l:=by
 induction l with
 | nil=>rfl
 | cons s l ih=>rw [Zfk,Zxu,ih,evl_row];rfl
theorem Zxt [DecidableEq κ] (l:List (Rat × κ)) (x:κ):cof l x=evl (λk=>if k=x then 1 else 0) l:=by
 induction l with
 | nil=>rfl
 | cons t l ih =>
   simp only [cof,evl];rw [ih];split<;>grind
end
section
variable {κ:Type} {lt:κ→κ→Prop} [DecidableRel lt] {D:κ→Prop}
theorem evl_sumH (o:KO D lt) (φ:κ→Rat) (l:List (List (Rat × κ))) (h:∀p∈l,Srt D lt p):evl φ (sumH lt l)=(l.map (evl φ)).sum:=by
 fun_induction sumH lt l with
 | case1=>rfl
 | case2 p=>show evl φ p=evl φ p+0;rw [Rat.add_zero]
 | case3 p q l ih1 ih2 =>
   have h1:∀u∈(p :: q :: l).take ((p :: q :: l).length/2),Srt D lt u:=λu hu=>h u (List.mem_of_mem_take hu);have h2:∀u∈(p :: q :: l).drop ((p :: q :: l).length/2),Srt D lt u:=λu hu=>h u (List.mem_of_mem_drop hu);have happ:∀l m:List Rat,(l++m).sum=l.sum+m.sum:=λl m=>by
    induction l with
    | nil=>show m.sum=0+m.sum;rw [Rat.zero_add]
    | cons a l ih=>show a+(l++m).sum=a+l.sum+m.sum;rw [ih,Rat.add_assoc]
   rw [Zsp o φ (Zgz o _ h1).dom (Zgz o _ h2).dom,ih1 h1,ih2 h2,←happ,←List.map_append,List.take_append_drop]
end
structure RG {κ:Type} (D:κ→Prop) (cmp:κ→κ→Int) (mu:κ→κ→κ) (e:κ):Prop where
 o:CO cmp
 comm:∀a b,mu a b=mu b a
 assoc:∀a b c,mu (mu a b) c=mu a (mu b c)
 one:∀a,D a→mu a e=a
 cl:∀a b,D a→D b→D (mu a b)
 de:D e
section
variable {κ:Type} {D:κ→Prop} {cmp:κ→κ→Int} {mu:κ→κ→κ} {e:κ}
theorem CO.koD (o:CO cmp):KO D (λx y=>cmp y x < 0):=⟨o.ko.irr,o.ko.tr,λx y _ _=>o.ko.tri x y trivial trivial⟩
abbrev SQ (D:κ→Prop) (cmp:κ→κ→Int) (p:List (Rat × κ)):Prop:=Srt D (λx y=>cmp y x < 0) p
abbrev adG (cmp:κ→κ→Int) (p q:List (Rat × κ)):List (Rat × κ):=addP (λx y=>cmp y x < 0) p q
def mlG (cmp:κ→κ→Int) (mu:κ→κ→κ) (p q:List (Rat × κ)):List (Rat × κ):=sumG cmp (prodL mu p q)
theorem Zj4 {l:List (Rat × κ)} (h:∀t∈l,D t.2):∀p∈l.map (λt=>if t.1=0 then [] else [t]),SQ D cmp p:=λp hp=>by
 obtain⟨t,ht,rfl⟩:=List.mem_map.1 hp;split
 ·exact .nil
 ·rename_i h0;exact Srt.nil.cons h0 (h t ht) (λu hu=>by cases hu)
theorem Zhz (o:CO cmp) {l:List (Rat × κ)} (h:∀t∈l,D t.2):SQ D cmp (sumG cmp l):=Zgz o.koD _ (Zj4 h)
theorem Zso (o:CO cmp) (φ:κ→Rat) (l:List (Rat × κ)):evl φ (sumG cmp l)=evl φ l:=by
 unfold sumG;rw [evl_sumH (D:=λ_=>True) o.koD φ _ (Zj4 λ_ _=>trivial)]
 induction l with
 | nil=>rfl
 | cons t l ih =>
   rw [List.map_cons,List.map_cons,List.sum_cons,ih];show _=t.1*φ t.2+evl φ l;congr 1;split
   ·rename_i h;rw [h,Rat.zero_mul];rfl
   ·show t.1*φ t.2+0=_;rw [Rat.add_zero]
theorem Zne (o:CO cmp) {p q:List (Rat × κ)} (hp:SQ D cmp p) (hq:SQ D cmp q) (h:∀φ,evl φ p=evl φ q):p=q:=by
 classical exact Zmb o.koD hp hq λx=>by rw [Zxt,Zxt,h]
theorem Zkt (o:CO cmp) (φ:κ→Rat) (p q:List (Rat × κ)):evl φ (adG cmp p q)=evl φ p+evl φ q:=Zsp (D:=λ_=>True) o.koD φ (λ_ _=>trivial) (λ_ _=>trivial)
theorem Zk3 (o:CO cmp) {p q:List (Rat × κ)} (hp:SQ D cmp p) (hq:SQ D cmp q):SQ D cmp (adG cmp p q):=Zjw o.koD hp hq
theorem Zqy (o:CO cmp) (φ:κ→Rat) (p q:List (Rat × κ)):evl φ (mlG cmp mu p q)=evl (λk=>evl (λk'=>φ (mu k k')) q) p:=by
 unfold mlG;rw [Zso o,Zxs]
theorem Zmy (r:RG D cmp mu e) {p q:List (Rat × κ)} (hp:SQ D cmp p) (hq:SQ D cmp q):SQ D cmp (mlG cmp mu p q):=Zhz r.o λu hu=>by
 obtain⟨s,hs,t,ht,rfl⟩:=Zfj hu;exact r.cl _ _ (hp.dom s hs) (hq.dom t ht)
theorem mlG_nil (p:List (Rat × κ)):mlG cmp mu [] p=[]:=by
 show sumG cmp []=[];unfold sumG;simp [sumH]
def pwG (cmp:κ→κ→Int) (mu:κ→κ→κ) (e:κ) (a:List (Rat × κ)):Nat→List (Rat × κ)
 | 0=>[((1:Rat),e)]
 | n+1=>mlG cmp mu (pwG cmp mu e a n) a
def rfG (cmp:κ→κ→Int) (mu:κ→κ→κ) (e:κ) (P:Nat→List (Rat × κ)) (a d:List (Rat × κ)) (m:Nat):Nat→List (Rat × κ)
 | 0=>[]
 | k+1=>adG cmp (rfG cmp mu e P a d m k) (mlG cmp mu (mlG cmp mu (P k) (pwG cmp mu e a k)) (pwG cmp mu e d (m - k)))
def hnG (cmp:κ→κ→Int) (mu:κ→κ→κ) (e:κ) (P:Nat→List (Rat × κ)) (a d:List (Rat × κ)) (m:Nat):Nat→List (Rat × κ)
 | 0=>[]
 | n+1=>adG cmp (mlG cmp mu (hnG cmp mu e P a d m n) a) (mlG cmp mu (P (m - n)) (pwG cmp mu e d n))
end
end Go.Pol
namespace Go.Proofs.YtjgdomdhjphgbaaGreatDoor
open Go Go.RowKit Go.Pg Go.Pol
attribute [-bool_to_prop] Bool.and_eq_decide Bool.or_eq_decide Bool.decide_beq_decide decide_eq_decide
attribute [local go_sem] Tryz.underlying3 Tryz.underlying4 Tryz.underlying160 Tryz.underlying49 Tryz.underlying51 Tryz.underlying53 Tryz.underlying27 Tryz.underlying54 Tryz.underlying56 Tryz.underlying30 Tryz.underlying31 sz3 by3 z3 szB zB Zax zRat Za3 zInt Za2 zNat Zag Zaq Zah Bool.and_self Zal Zbh zSlQ szQT byQT zQT Zbj zSlT szQP zQP
abbrev gatM (l:QTs):QTs:=sumG ordQ l
theorem Zxl:gatM []=[]:=by simp [gatM,sumG,sumH]
theorem Zm8 (t:Rat × List Qt):gatM [t]=if t.1=0 then [] else [t]:=by simp [gatM,sumG,sumH]
theorem Zxk {l:QTs} (h:2≤l.length):gatM l=Zav (gatM (l.take (l.length/2))) (gatM (l.drop (l.length/2))):=by
 match l,h with
 | a :: b :: r,_ =>
   unfold gatM sumG;rw [List.map_take,List.map_drop];show sumH _ (_ :: _ :: r.map _)=_;rw [sumH];simp only [List.length_cons,List.length_map];rfl
theorem Zo7:∀(n:Nat) (l:QTs) {j m:Nat},l.length=n→QK l j m→QK (gatM l) (n*(j+1) - 1) m∧(gatM l).length≤n:=by
 intro n
 induction n using Nat.strongRecOn with
 | _ n ih =>
   intro l j m hl hq
   match n,l,hl with
   | 0,[],_=>rw [Zxl];exact⟨λt ht=>by(cases ht),Nat.le_refl _⟩
   | 1,[t],_ =>
     rw [Zm8];split
     ·exact⟨λt ht=>by(cases ht),Nat.zero_le _⟩
     ·exact⟨hq.mono (by omega) (Nat.le_refl _),by simp⟩
   | n+2,l,hl =>
     rw [Zxk (by omega)];have ht:(l.take (l.length/2)).length=(n+2)/2:=by rw [List.length_take];omega
     have hd:(l.drop (l.length/2)).length=n+2 - (n+2)/2:=by rw [List.length_drop];omega
     obtain⟨a1,a2⟩:=ih _ (by omega) (l.take (l.length/2)) ht (λt h=>hq t (List.mem_of_mem_take h));obtain⟨b1,b2⟩:=ih _ (by omega) (l.drop (l.length/2)) hd (λt h=>hq t (List.mem_of_mem_drop h));have e:(n+2)*(j+1)=(n+2)/2*(j+1)+(n+2 - (n+2)/2)*(j+1):=by rw [←Nat.add_mul];congr 1;omega
     have p1:1*(j+1)≤(n+2)/2*(j+1):=Nat.mul_le_mul_right _ (by omega);have p2:1*(j+1)≤(n+2 - (n+2)/2)*(j+1):=Nat.mul_le_mul_right _ (by omega);refine⟨(join_QK a1 b1).mono (by omega) (Nat.le_refl _),?_⟩;refine Nat.le_trans (Zhe _ _) ?_;omega
def GH (l:QTs) (k m:Nat):Prop:=∀s:QTs,s <:+: l→QK s k m∧QK (gatM s) k m
theorem GH.part {l s:QTs} {k m:Nat} (h:GH l k m) (hs:s <:+: l):GH s k m:=λu hu=>h u (hu.trans hs)
theorem GH.of_qk {l:QTs} {j m:Nat} (h:QK l j m):GH l (l.length*(j+1)+j) m:=λs hs=>by
 have hq:QK s j m:=λt ht=>h t (hs.subset ht);have hl:=hs.length_le;have:=Nat.mul_le_mul_right (j+1) hl;exact⟨hq.mono (by omega) (Nat.le_refl _),(Zo7 _ s rfl hq).1.mono (by omega) (Nat.le_refl _)⟩
theorem nb_qk {D B a b:Nat} {l:QTs} (h:NB D B l) (h0:D≠0) (hd:D < 65536 ^ a) (hb:B < 65536 ^ b) {m:Nat} (hm:∀t∈l,t.2.length≤m):QK l (a+b) m :=
 λt ht=>⟨bq_sz (h.bq ht) h0 hd hb,hm t ht⟩
theorem n1_infix {s l:QTs} (h:s <:+: l):n1 s≤n1 l:=by
 obtain⟨a,b,rfl⟩:=h;rw [Zou,Zou];omega
theorem Zic {l:QTs} {m:Nat} (hm:∀t∈l,t.2.length≤m):∀t∈gatM l,t.2.length≤m:=by
 have:∃j,QK l j m:=by
  induction l with
  | nil=>exact⟨0,λt ht=>by cases ht⟩
  | cons a l ih =>
    obtain⟨j,hj⟩:=ih λt ht=>hm t (.tail _ ht);refine⟨max j (max (toL a.1.num.natAbs).length (toL a.1.den).length),λt ht=>?_⟩;rcases List.mem_cons.1 ht with rfl | ht
    ·exact⟨⟨by omega,by omega⟩,hm _ (.head _)⟩
    ·exact⟨(hj t ht).1.mono (by omega),(hj t ht).2⟩
 obtain⟨j,hj⟩:=this;exact λt ht=>((Zo7 _ l rfl hj).1 t ht).2
theorem GH.of_nb {D B a b:Nat} {l:QTs} (h:NB D B l) (h0:D≠0) (hd:D < 65536 ^ a) (hb:B < 65536 ^ b) {m:Nat} (hm:∀t∈l,t.2.length≤m):GH l (a+b) m:=λs hs=>by
 have hn:NB D B s:=⟨λt ht=>h.1 t (hs.subset ht),Nat.le_trans (n1_infix hs) h.2⟩;have hm2:∀t∈s,t.2.length≤m:=λt ht=>hm t (hs.subset ht);exact⟨nb_qk hn h0 hd hb hm2,nb_qk (NB.sumG (cmp:=ordQ) hn) h0 hd hb (Zic hm2)⟩
theorem Zrk:∀(n:Nat) (l:QTs) {j m:Nat},l.length=n→GH l j m→n≤100000000→m≤1000000→j≤900000→Pure Tryz.prog 124 [qpA l] (qpA (gatM l)):=by
 intro n
 induction n using Nat.strongRecOn with
 | _ n ih =>
   intro l j m hl hG hn hm hj;have hq:=(hG l (List.infix_refl l)).1;have hlm:(l.map qtA).length=n:=by rw [List.length_map,hl]
   match n,l,hl with
   | 0,[],_ =>
     clear ih hG;refine Zg4 (r:=.v (.slice none 0 0)) ?_ (by rw [Zxl];exact .nil 4);show Pure _ _ [.sl 4 []] _;refine Zaa (tok:=0) Tryz.func124 rfl Tryz.ntmps124 Tryz.results124 Tryz.call124 (by rfl) (by simp) ?_;(focus (refine wkad w_t w_t w_t ?_;(repeat' first|exact w_t|apply w_l);all_goals intros));all_goals exact gL
   | 1,[t],_ =>
     clear ih hG;obtain⟨ht,-⟩:=hq t (.head _);have cz:=qSign t.1 ht (by omega);rw [Zm8];by_cases h0:t.1=0
     ·rw [if_pos h0];have hz2:t.1.num.sign=0:=by rw [Zel];exact h0
      refine Zg4 (r:=.v (.slice none 0 0)) ?_ (.nil 4);show Pure _ _ [.sl 4 [qtA t]] _;rw [hz2] at cz;clear hq hz2 h0;obtain⟨t1,t2⟩:=t;simp only at *;generalize t2.map Qt.av=T at *;generalize toL t1.num.natAbs=a at *;generalize toL t1.den=b at *;refine Zaa (tok:=0) Tryz.func124 rfl Tryz.ntmps124 Tryz.results124 Tryz.call124 (by rfl) (by simp) ?_;(focus (refine wkad w_t (w_1 cz) w_t ?_;(repeat' first|exact w_t|apply w_l);all_goals intros));all_goals exact gL
     ·rw [if_neg h0];have hz2:¬t.1.num.sign=0:=by rw [Zel];exact h0
      show Pure _ _ [.sl 4 [qtA t]] (.sl 4 [qtA t]);clear hq h0;obtain⟨t1,t2⟩:=t;simp only at *;generalize t1.num.sign=z at *;generalize t2.map Qt.av=T at *;generalize toL t1.num.natAbs=a at *;generalize toL t1.den=b at *;refine Zaa (tok:=0) Tryz.func124 rfl Tryz.ntmps124 Tryz.results124 Tryz.call124 (by rfl) (by simp) ?_;(focus (refine wkad (w_1 hz2) (w_1 cz) w_t ?_;(repeat' first|exact w_t|apply w_l);all_goals intros));all_goals exact gL
   | n+2,l,hl =>
     rw [Zxk (by omega)];have ht:(l.take (l.length/2)).length=(n+2)/2:=by rw [List.length_take];omega
     have hd:(l.drop (l.length/2)).length=n+2 - (n+2)/2:=by rw [List.length_drop];omega
     have qt:l.take (l.length/2) <:+: l:=(List.take_prefix _ _).isInfix;have qd:l.drop (l.length/2) <:+: l:=(List.drop_suffix _ _).isInfix;have c1:=ih _ (by omega) _ ht (hG.part qt) (by omega) hm hj;have c2:=ih _ (by omega) _ hd (hG.part qd) (by omega) hm hj;obtain⟨q1,a1⟩:=hG _ qt;obtain⟨q2,b1⟩:=hG _ qd;have a2:=(Zo7 _ _ ht q1).2;have b2:=(Zo7 _ _ hd q2).2;have c3:=rxJoin _ _ a1 b1 (by omega) (by omega) (by omega) (by omega) hm;clear ih a1 b1 a2 b2 qt qd hq hG q1 q2;have m1:(l.take (l.length/2)).map qtA=(l.map qtA).take ((n+2)/2):=by rw [List.map_take,hl]
     have m2:(l.drop (l.length/2)).map qtA=(l.map qtA).drop ((n+2)/2):=by rw [List.map_drop,hl]
     have c1:Pure Tryz.prog 124 [.sl 4 ((l.map qtA).take ((n+2)/2))] (.sl 4 ((gatM (l.take (l.length/2))).map qtA)):=by rw [←m1];exact c1
     have c2:Pure Tryz.prog 124 [.sl 4 ((l.map qtA).drop ((n+2)/2))] (.sl 4 ((gatM (l.drop (l.length/2))).map qtA)):=by rw [←m2];exact c2
     have c3:Pure Tryz.prog 125 [.sl 4 ((gatM (l.take (l.length/2))).map qtA),.sl 4 ((gatM (l.drop (l.length/2))).map qtA)] (.sl 4 ((Zav (gatM (l.take (l.length/2))) (gatM (l.drop (l.length/2)))).map qtA)):=c3;show Pure _ _ [.sl 4 (l.map qtA)] (.sl 4 ((Zav (gatM (l.take (l.length/2))) (gatM (l.drop (l.length/2)))).map qtA));clear m1 m2;generalize (Zav (gatM (l.take (l.length/2))) (gatM (l.drop (l.length/2)))).map qtA=R at *;generalize (gatM (l.take (l.length/2))).map qtA=G1 at *;generalize (gatM (l.drop (l.length/2))).map qtA=G2 at *;generalize l.map qtA=A at *;have htk:A.take (n+2)=A:=List.take_of_length_le (by omega)
     have hn2:((n+2:Nat):Int).tdiv 2=(((n+2)/2:Nat):Int):=by first|rfl|(rw [Int.tdiv_eq_ediv_of_nonneg (by omega)];omega)
     refine Zaa (tok:=0) Tryz.func124 rfl Tryz.ntmps124 Tryz.results124 Tryz.call124 (by rfl) (by simp) ?_;(focus (refine wkad (w_3 hlm htk hn2) (w_3 c1 c2 c3) (w_1 (w_d 6 [(3,.sl 4 G1),(7,.sl 4 G2),(8,.sl 4 R)] [] [])) ?_;(repeat' first|exact w_t|apply w_l);all_goals intros));all_goals exact gL
end Go.Proofs.YtjgdomdhjphgbaaGreatDoor
namespace Go.Proofs.YtjgdomdhjphgbaaGreatDoor
open Go Go.RowKit Go.Pg
attribute [-bool_to_prop] Bool.and_eq_decide Bool.or_eq_decide Bool.decide_beq_decide decide_eq_decide
attribute [local go_sem] Tryz.underlying3 Tryz.underlying4 Tryz.underlying5 Tryz.underlying9 Tryz.underlying44 sz3 by3 z3 Zbq Zct zStr
theorem Zis:kwL.length=29:=rfl
theorem decode_1 (s:ByteArray) (k:Nat) (hk:k < s.size) (h:gB s k < 128):(Utf8.decode s k).2=1:=by
 have e:(s[k]'hk).toNat=gB s k:=by
  unfold gB;rw [List.getD_eq_getElem?_getD,List.getElem?_eq_getElem (by simpa using hk)];rfl
 rw [decode_ascii s k hk (by omega)]
theorem ld_ascii {c:Nat} (h:(letB c || digB c)=true):c < 128:=by
 unfold letB digB at h;simp only [Bool.or_eq_true,decide_eq_true_eq] at h;omega
theorem rnName (s:ByteArray) (hs:s.size≤1000000000):Pure Tryz.prog 141 [strA s] (.v (.bool (namB s))):=by
 have he:=Zj1 s;unfold namB;by_cases h0:0 < s.size∧s.size≤20
 ·rw [decide_eq_true h0,Bool.true_and];have h00:(decide (s.size=0))=false:=decide_eq_false (by omega);rw [h00] at he;have hk:=Zrn (gB s 0) (gB_lt s 0);have hg:=gB_at s 0
  cases hl:letB (gB s 0) with
  | false =>
    rw [hl] at hk;rw [Bool.false_and];refine Zaa (tok:=0) Tryz.func141 rfl Tryz.ntmps141 Tryz.results141 Tryz.call141 (by rfl) (by simp) ?_;(focus (refine wklp (w_2 he hg) (w_1 hk) w_t (w_r 0) ?_;(repeat' first|exact w_t|apply w_l);all_goals intros))
  | true =>
    rw [hl] at hk;rw [Bool.true_and];obtain⟨n,h1,h2,h3⟩:=Zlx s s.size (Nat.le_refl _)
    have hall:(List.range s.size).all (λk=>letB (gB s k) || digB (gB s k))=decide (n=s.size):=by
     rw [Bool.eq_iff_iff,List.all_eq_true,decide_eq_true_eq];constructor
     ·intro h;rcases Nat.lt_or_ge n s.size with h4 | h4
      ·have:=h n (List.mem_range.2 h4);rw [h3 h4] at this;cases this
      ·omega
     ·intro h x hx;exact h2 x (by rw [h];exact List.mem_range.1 hx)
    rw [hall];have ck:=rnKeys;refine Zqa (rs:=[.tmp 2]) Tryz.func141 rfl Tryz.ntmps141 Tryz.results141 Tryz.call141 (by simp) ?_;refine Zq2 (Zbf (tok:=0) _ _ _ (by rfl) ?_);(focus (refine wkap w_t w_t (w_r 0) ?_;(repeat' first|exact w_t|apply w_l);all_goals intros));refine Zq2 (Zbf (tok:=0) _ _ _ (by rfl) ?_);(focus (refine wkap (w_2 he hg) (w_1 hk) (w_r 0) ?_;(repeat' first|exact w_t|apply w_l);all_goals intros));refine Zq2 ?_;clear hk hg he hall;refine Zyp (s:=s) (by exact gC) Tryz.underlying9 (by omega) (by omega) (by omega) (by omega) (by omega) (by omega) (by omega) (by rfl) (λpos e=>pos≤n∧e 0=strA s) ?_ ?_ (λpos _=>Zt7 s pos) ?_
    ·intro pv;exact⟨Nat.zero_le _,by exact gC⟩
    ·rintro pos e pv ⟨hp,e0⟩ epv hlt
     have hkl:=Zrn (gB s pos) (gB_lt s pos);have hkd:=rnDigit (gB s pos) (gB_lt s pos);have hg:=gB_at s pos;by_cases hpn:pos < n
     ·have hb:=h2 pos hpn;have hd:=decode_1 s pos hlt (ld_ascii hb);rw [hd];generalize (Utf8.decode s pos).1=cc
      cases hl2:letB (gB s pos) with
      | true =>
        rw [hl2] at hkl;(focus (refine wkap (w_2 e0 hg) (w_2 hkl hkd) (w_r 0) ?_;(repeat' first|exact w_t|apply w_l);all_goals intros));exact⟨rfl,⟨by omega,by exact gW e0⟩,by exact gW epv⟩
      | false =>
        rw [hl2,Bool.false_or] at hb;rw [hl2] at hkl;rw [hb] at hkd;(focus (refine wkap (w_2 e0 hg) (w_2 hkl hkd) (w_r 0) ?_;(repeat' first|exact w_t|apply w_l);all_goals intros));exact⟨rfl,⟨by omega,by exact gW e0⟩,by exact gW epv⟩
     ·have hpe:pos=n:=by omega
      subst hpe;have hb:=h3 hlt;rw [Bool.or_eq_false_iff] at hb;rw [hb.1] at hkl;rw [hb.2] at hkd;have hne:decide (pos=s.size)=false:=decide_eq_false (by omega);rw [hne];generalize (Utf8.decode s pos).1=cc;generalize (Utf8.decode s pos).2=cw;(focus (refine wkap (w_2 e0 hg) (w_2 hkl hkd) (w_r 0) ?_;(repeat' first|exact w_t|apply w_l);all_goals intros));refine⟨rfl,?_⟩;(focus (refine wklp w_t w_t w_t (w_r 0) ?_;(repeat' first|exact w_t|apply w_l);all_goals intros))
    ·rintro pos e pv ⟨hp,e0⟩ epv hlt
     have hpe:n=s.size:=by omega
     rw [decide_eq_true hpe,Bool.true_and];(focus (refine wkap (w_1 e0) w_t (w_r 0) ?_;(repeat' first|exact w_t|apply w_l);all_goals intros));refine⟨rfl,?_⟩;refine Znz (t_then ?_);refine Zbf (tok:=0) _ _ _ (by rfl) ?_;(focus (refine wkap (w_3 e0 @Zm4 @Zis) (w_1 ck) (w_r 0) ?_;(repeat' first|exact w_t|apply w_l);all_goals intros));refine Zac (ι:=Nat) (λi e m=>i≤29∧e 0=strA s∧e 36=.sl 1 (kwL.map strA)∧e 37=iv 29∧e 38=iv i∧(kwL.take i).any (λw=>w.toList == s.toList)=false) (λi=>29 - i) 0 (by rfl) ?_ ?_
     ·rintro i e m ⟨hi,e0,e25,e26,e27,hno⟩
      by_cases hlt:i < 29
      ·have hlt':i < kwL.length:=by rw [Zis];exact hlt
       have hgk:=Zap strA hlt';have hsn:kwL.take (i+1)=kwL.take i++[kwL[i]]:=List.take_succ_eq_append_getElem hlt';have hmem:kwL[i]∈kwL:=List.getElem_mem hlt';generalize kwL[i]=w at *;have hsy:(s.toList == w.toList)=(w.toList == s.toList):=by rw [Bool.eq_iff_iff,beq_iff_eq,beq_iff_eq];exact eq_comm
       cases hw:(w.toList == s.toList) with
       | true =>
         have:kwL.any (λw=>w.toList == s.toList)=true:=List.any_eq_true.2 ⟨w,hmem,hw⟩;rw [this];rw [hw] at hsy;(focus (refine wklp (w_8 e0 e25 e26 e27 hgk hsy @Zm4 @Zis) w_t (w_1 @Bool.not_true) (w_r 0) ?_;(repeat' first|exact w_t|apply w_l);all_goals intros))
       | false =>
         rw [hw] at hsy;(focus (refine wkap (w_8 e0 e25 e26 e27 hgk hsy @Zm4 @Zis) w_t (w_r 0) ?_;(repeat' first|exact w_t|apply w_l);all_goals intros));exact⟨i+1,⟨by omega,by exact gW e0,by exact gW e25,by exact gW e26,by exact gS,by rw [hsn,List.any_append,hno];simp [hw]⟩,by omega⟩
      ·have hi2:i=29:=by omega
       subst hi2;rw [show kwL.take 29=kwL from by rw [←Zis,List.take_length]] at hno;rw [hno];(focus (refine wklp (w_4 e0 e25 e26 e27) w_t (w_1 @Bool.not_false) (w_r 0) ?_;(repeat' first|exact w_t|apply w_l);all_goals intros))
     ·exact⟨Nat.zero_le _,by exact gW e0,by exact gC,by(simp (disch:=omega) only [go_sem,List.length_map,Zis]<;>repeat' first|rfl|refine⟨?_,?_⟩),by exact gC,by simp⟩
 ·rw [decide_eq_false h0,Bool.false_and];by_cases h1:s.size=0
  ·rw [decide_eq_true h1] at he;refine Zaa (tok:=0) Tryz.func141 rfl Tryz.ntmps141 Tryz.results141 Tryz.call141 (by rfl) (by simp) ?_;(focus (refine wklp (w_1 he) w_t w_t (w_r 0) ?_;(repeat' first|exact w_t|apply w_l);all_goals intros))
  ·rw [decide_eq_false h1] at he;refine Zaa (tok:=0) Tryz.func141 rfl Tryz.ntmps141 Tryz.results141 Tryz.call141 (by rfl) (by simp) ?_;(focus (refine wklp (w_1 he) w_t w_t (w_r 0) ?_;(repeat' first|exact w_t|apply w_l);all_goals intros))
end Go.Proofs.YtjgdomdhjphgbaaGreatDoor
namespace Go.Proofs.YtjgdomdhjphgbaaGreatDoor
open Go Go.RowKit Go.Pg Go.Pol
attribute [-bool_to_prop] Bool.and_eq_decide Bool.or_eq_decide Bool.decide_beq_decide decide_eq_decide
attribute [local go_sem] Tryz.underlying3 Tryz.underlying4 Tryz.underlying160 Tryz.underlying9 Tryz.underlying39 Tryz.underlying34 Tryz.underlying53 Tryz.underlying51 Tryz.underlying49 Tryz.underlying65 Tryz.underlying22 Tryz.underlying87 Tryz.underlying23 Tryz.underlying25 sz3 by3 z3 szB zB szL byL zL Zcf zErr Zbq Zct zStr Zax zRat Za3 zInt Za2 zNat Zca Zcb Zdq Zcl Zco Zd7 Zdv zFig Zdu zSlI Zdt zSlS Zd8 zSlF
theorem irRaw (s:Bool) (l:List Nat) (hl:Lm l) (hs:l.length≤100000000):Pure Tryz.prog 152 [.agg [.v (.bool s),lim l]] (.v (.bool (RQ.zok s l))):=by
 unfold RQ.zok valL;by_cases h:l.length=0
 ·rw [decide_eq_true h,Bool.true_or,Bool.true_and,Bool.and_true];cases s
  ·refine Zaa (tok:=0) Tryz.func152 rfl Tryz.ntmps152 Tryz.results152 Tryz.call152 (by rfl) (by simp) ?_;(focus (refine wklp (w_1 @Zbg) w_t w_t (w_r 0) ?_;(repeat' first|exact w_t|apply w_l);all_goals intros))
  ·refine Zaa (tok:=0) Tryz.func152 rfl Tryz.ntmps152 Tryz.results152 Tryz.call152 (by rfl) (by simp) ?_;(focus (refine wklp (w_1 @Zbg) w_t w_t (w_r 0) ?_;(repeat' first|exact w_t|apply w_l);all_goals intros))
 ·rw [decide_eq_false h,Bool.false_or,Bool.and_false,Bool.not_false,Bool.and_true];have ei:(l.length:Int) - 1=((l.length - 1:Nat):Int):=by omega
  have hlm:=Zbv hl (l.length - 1);by_cases hg:gN l (l.length - 1)=0
  ·rw [decide_eq_true hg];cases s
   ·refine Zaa (tok:=0) Tryz.func152 rfl Tryz.ntmps152 Tryz.results152 Tryz.call152 (by rfl) (by simp) ?_;(focus (refine wklp (w_2 ei @Zbg) w_t (w_1 @Bool.not_true) (w_r 0) ?_;(repeat' first|exact w_t|apply w_l);all_goals intros))
   ·refine Zaa (tok:=0) Tryz.func152 rfl Tryz.ntmps152 Tryz.results152 Tryz.call152 (by rfl) (by simp) ?_;(focus (refine wklp (w_2 ei @Zbg) w_t (w_1 @Bool.not_true) (w_r 0) ?_;(repeat' first|exact w_t|apply w_l);all_goals intros))
  ·rw [decide_eq_false hg];cases s
   ·refine Zaa (tok:=0) Tryz.func152 rfl Tryz.ntmps152 Tryz.results152 Tryz.call152 (by rfl) (by simp) ?_;(focus (refine wklp (w_2 ei @Zbg) w_t (w_1 @Bool.not_false) (w_r 0) ?_;(repeat' first|exact w_t|apply w_l);all_goals intros))
   ·refine Zaa (tok:=0) Tryz.func152 rfl Tryz.ntmps152 Tryz.results152 Tryz.call152 (by rfl) (by simp) ?_;(focus (refine wklp (w_2 ei @Zbg) w_t (w_1 @Bool.not_false) (w_r 0) ?_;(repeat' first|exact w_t|apply w_l);all_goals intros))
theorem rtRight (r:RQ) (h:r.lm 100000000):Pure Tryz.prog 96 [r.av] (.v (.bool r.ok)):=by
 obtain⟨s,l,d⟩:=r;obtain⟨h1,h2,h3,h4⟩:=h;simp only at h1 h2 h3 h4;have c1:=irRaw s l h1 h3;unfold RQ.ok;simp only;generalize RQ.zok s l=z at *;by_cases hd:d.length=0
 ·have:decide (0 < d.length)=false:=decide_eq_false (by omega);rw [this,Bool.and_false];cases z
  ·refine Zaa (tok:=0) Tryz.func96 rfl Tryz.ntmps96 Tryz.results96 Tryz.call96 (by rfl) (by simp) ?_;(focus (refine wklp (w_1 @Zbg) (w_1 c1) w_t (w_r 0) ?_;(repeat' first|exact w_t|apply w_l);all_goals intros))
  ·refine Zaa (tok:=0) Tryz.func96 rfl Tryz.ntmps96 Tryz.results96 Tryz.call96 (by rfl) (by simp) ?_;(focus (refine wklp (w_1 @Zbg) (w_1 c1) w_t (w_r 0) ?_;(repeat' first|exact w_t|apply w_l);all_goals intros))
 ·have:decide (0 < d.length)=true:=decide_eq_true (by omega);rw [this,Bool.and_true];have ei:(d.length:Int) - 1=((d.length - 1:Nat):Int):=by omega
  have hlm:=Zbv h2 (d.length - 1)
  cases z with
  | false =>
    rw [Bool.false_and,Bool.false_and];refine Zaa (tok:=0) Tryz.func96 rfl Tryz.ntmps96 Tryz.results96 Tryz.call96 (by rfl) (by simp) ?_;(focus (refine wklp (w_1 @Zbg) (w_1 c1) w_t (w_r 0) ?_;(repeat' first|exact w_t|apply w_l);all_goals intros))
  | true =>
    rw [Bool.true_and];by_cases hg:gN d (d.length - 1)=0
    ·have:valL d=false:=by unfold valL;rw [decide_eq_false hd,decide_eq_true hg];rfl
     rw [this,Bool.false_and];refine Zaa (tok:=0) Tryz.func96 rfl Tryz.ntmps96 Tryz.results96 Tryz.call96 (by rfl) (by simp) ?_;(focus (refine wklp (w_2 ei @Zbg) (w_1 c1) w_t (w_r 0) ?_;(repeat' first|exact w_t|apply w_l);all_goals intros))
    ·have hv:valL d=true:=by unfold valL;rw [decide_eq_false hd,decide_eq_false hg];rfl
     rw [hv,Bool.true_and];have hdt:=(Zhy h2).1 hv;have l4:(toL (nv d)).length≤100000000:=by rw [←hdt];exact h4
     have c2:=Zkc (nv d) l4;have c3:=natGcd l d (by omega) (by omega) h1 h2
     have n0:nv d≠0:=by
      intro h0;rw [h0,Zaw] at hdt;rw [hdt] at hd;exact hd rfl
     have gl:(toL (Nat.gcd (nv l) (nv d))).length≤100000000:=Nat.le_trans (Zc4 (Nat.gcd_le_right _ (by omega))) l4;have c4:=Zkc (Nat.gcd (nv l) (nv d)) gl;rw [←hdt] at c2;have hb:(Nat.gcd (nv l) (nv d) == 1)=decide (Nat.gcd (nv l) (nv d)=1):=by rw [Bool.eq_iff_iff,beq_iff_eq,decide_eq_true_eq]
     rw [hb];by_cases h1d:nv d=1
     ·rw [decide_eq_true h1d] at c2;rw [decide_eq_true (show Nat.gcd (nv l) (nv d)=1 by rw [h1d,Nat.gcd_one_right])];clear c3 c4 hdt;refine Zaa (tok:=0) Tryz.func96 rfl Tryz.ntmps96 Tryz.results96 Tryz.call96 (by rfl) (by simp) ?_;(focus (refine wklp (w_2 ei @Zbg) (w_2 c1 c2) (w_1 @decide_true) (w_r 0) ?_;(repeat' first|exact w_t|apply w_l);all_goals intros))
     ·rw [decide_eq_false h1d] at c2;clear hdt hb gl;generalize decide (Nat.gcd (nv l) (nv d)=1)=v at *;generalize toL (Nat.gcd (nv l) (nv d))=lg' at *;refine Zaa (tok:=0) Tryz.func96 rfl Tryz.ntmps96 Tryz.results96 Tryz.call96 (by rfl) (by simp) ?_;(focus (refine wklp (w_2 ei @Zbg) (w_4 c1 c2 c3 c4) w_t (w_r 0) ?_;(repeat' first|exact w_t|apply w_l);all_goals intros))
theorem rlAr (k:Int):Pure Tryz.prog 139 [iv k] (iv (arS k)):=by
 unfold arS;refine Zaa (tok:=0) Tryz.func139 rfl Tryz.ntmps139 Tryz.results139 Tryz.call139 (by rfl) (by simp) ?_;(focus (refine wklp w_t w_t w_t (w_r 0) ?_;(repeat' first|exact w_t|apply w_l);all_goals intros));all_goals (congr 2;repeat' split)
 all_goals (first|rfl|omega)
theorem rlNone (r:RQ):Pure Tryz.prog 140 [r.av] (.v (.bool r.none)):=by
 obtain⟨s,l,d⟩:=r;unfold RQ.none;simp only;cases s
 ·refine Zaa (tok:=0) Tryz.func140 rfl Tryz.ntmps140 Tryz.results140 Tryz.call140 (by rfl) (by simp) ?_;(focus (refine wklp (w_1 @Zbg) w_t w_t (w_r 0) ?_;(repeat' first|exact w_t|apply w_l);all_goals intros))
 ·refine Zaa (tok:=0) Tryz.func140 rfl Tryz.ntmps140 Tryz.results140 Tryz.call140 (by rfl) (by simp) ?_;(focus (refine wklp (w_1 @Zbg) w_t w_t (w_r 0) ?_;(repeat' first|exact w_t|apply w_l);all_goals intros))
theorem rrAr (k:Int):Pure Tryz.prog 142 [iv k] (iv (arG k)):=by
 unfold arG;refine Zaa (tok:=0) Tryz.func142 rfl Tryz.ntmps142 Tryz.results142 Tryz.call142 (by rfl) (by simp) ?_;(focus (refine wklp w_t w_t w_t (w_r 0) ?_;(repeat' first|exact w_t|apply w_l);all_goals intros));all_goals (congr 2;repeat' split)
 all_goals (first|rfl|omega)
theorem rrNone (r:RQ):Pure Tryz.prog 143 [r.av] (.v (.bool r.none)):=by
 obtain⟨s,l,d⟩:=r;unfold RQ.none;simp only;cases s
 ·refine Zaa (tok:=0) Tryz.func143 rfl Tryz.ntmps143 Tryz.results143 Tryz.call143 (by rfl) (by simp) ?_;(focus (refine wklp (w_1 @Zbg) w_t w_t (w_r 0) ?_;(repeat' first|exact w_t|apply w_l);all_goals intros))
 ·refine Zaa (tok:=0) Tryz.func143 rfl Tryz.ntmps143 Tryz.results143 Tryz.call143 (by rfl) (by simp) ?_;(focus (refine wklp (w_1 @Zbg) w_t w_t (w_r 0) ?_;(repeat' first|exact w_t|apply w_l);all_goals intros))
def RS.sm (s:RS):Prop:=s.r.lm 100000000∧s.nm.size≤1000000000∧s.ar.length≤1000000000
def RG.sm (g:RG):Prop:=g.r.lm 100000000∧g.ar.length≤1000000000
theorem Zoj {n:Int} {l:List Int} {k:Nat} (hk:k < l.length):outB n (l.take (k+1))=(outB n (l.take k) || (decide (l[k] < 0) || decide (n≤l[k]))):=by
 unfold outB;rw [List.take_succ_eq_append_getElem hk,List.any_append,List.any_cons,List.any_nil,Bool.or_false]
theorem Zwo {n:Int} {l:List Int} {k:Nat} (hk:k < l.length) (h:(decide (l[k] < 0) || decide (n≤l[k]))=true):outB n l=true:=List.any_eq_true.2 ⟨l[k],List.getElem_mem hk,h⟩
theorem rrRight (g:RG) (n:Nat) (hn:n≤1000000000) (hs:g.sm):Pure Tryz.prog 87 [g.av,iv n] (iv (errG g n)):=by
 obtain⟨h1,h3⟩:=hs;unfold errG;have ca:=rrAr g.k;have cr:Pure Tryz.prog 122 [g.r.av] (.v (.bool g.r.ok)):=Zv7 g.r.s g.r.l g.r.d h1.1 h1.2.1 h1.2.2.1 h1.2.2.2;have cn:=rrNone g.r;have hla:(g.ar.map iv).length=g.ar.length:=List.length_map ..;obtain⟨k,ar,r,rl,rd⟩:=g;simp only at *;generalize arG k=a at *;generalize RQ.ok ⟨r,rl,rd⟩=ok at *;generalize RQ.none ⟨r,rl,rd⟩=no at *;by_cases w1:a=0
 ·rw [if_pos w1];subst w1;refine Zaa (tok:=0) Tryz.func87 rfl Tryz.ntmps87 Tryz.results87 Tryz.call87 (by rfl) (by simp) ?_;(focus (refine wkld (w_1 hla) (w_1 ca) w_t w_t ?_;(repeat' first|exact w_t|apply w_l);all_goals intros))
 ·rw [if_neg w1];by_cases w2:(ar.length:Int)≠a
  ·rw [if_pos w2];refine Zaa (tok:=0) Tryz.func87 rfl Tryz.ntmps87 Tryz.results87 Tryz.call87 (by rfl) (by simp) ?_;(focus (refine wkld (w_1 hla) (w_1 ca) w_t (w_1 (w_d 3 [(5,iv a)] [] [])) ?_;(repeat' first|exact w_t|apply w_l);all_goals intros))
  ·rw [if_neg w2];refine Zaa (tok:=0) Tryz.func87 rfl Tryz.ntmps87 Tryz.results87 Tryz.call87 (by rfl) (by simp) ?_;(focus (refine wkad (w_1 hla) (w_1 ca) (w_1 (w_d 3 [(5,iv a)] [] [])) ?_;(repeat' first|exact w_t|apply w_l);all_goals intros));rename_i g2;refine Zac (ι:=Nat) (λi e m=>i≤ar.length∧e 1=iv n∧e 2=.pbox 2 g2 0∧m 2=some (.box g2 87 [iv k,ivs ar,.v (.bool r),lim rl,lim rd] false)∧e 19=ivs ar∧e 20=iv ar.length∧e 21=iv i∧outB n (ar.take i)=false) (λi=>ar.length - i) 0 (by rfl) ?_ ?_
   ·rintro i e m ⟨hi,e1,e2,m2,ea,en,ei,hno⟩
    by_cases hlt:i < ar.length
    ·have hg:=Zap iv hlt;have hst:=Zoj (n:=n) hlt;have hat:=Zwo (n:=n) hlt;rw [hno,Bool.false_or] at hst;generalize ar[i]=x at *;by_cases hx:x < 0∨(n:Int)≤x
     ·have hb:(decide (x < 0) || decide ((n:Int)≤x))=true:=by simpa using hx
      rw [if_pos (hat hb)];clear hat hst hb;rcases hx with hx | hx
      ·(focus (refine wkld (w_8 e1 e2 m2 ea en ei hg hla) w_t w_t w_t ?_;(repeat' first|exact w_t|apply w_l);all_goals intros))
      ·(focus (refine wkld (w_8 e1 e2 m2 ea en ei hg hla) w_t w_t w_t ?_;(repeat' first|exact w_t|apply w_l);all_goals intros))
     ·have hb:(decide (x < 0) || decide ((n:Int)≤x))=false:=by simpa using hx
      rw [hb] at hst;clear hat hb;(focus (refine wkad (w_8 e1 e2 m2 ea en ei hg hla) w_t w_t ?_;(repeat' first|exact w_t|apply w_l);all_goals intros));exact⟨i+1,⟨by omega,by exact gW e1,by exact gW e2,by exact gW m2,by exact gW ea,by exact gW en,by exact gS,hst⟩,by omega⟩
    ·have hi2:i=ar.length:=by omega
     subst hi2;rw [List.take_length] at hno;rw [hno,if_neg (by decide)];by_cases hk:k=9
     ·subst hk;cases ok
      ·rw [if_pos (by simp)];(focus (refine wkld (w_7 e1 e2 m2 ea en ei hla) (w_2 cr cn) w_t w_t ?_;(repeat' first|exact w_t|apply w_l);all_goals intros))
      ·rw [if_neg (by simp)];(focus (refine wkld (w_7 e1 e2 m2 ea en ei hla) (w_2 cr cn) w_t w_t ?_;(repeat' first|exact w_t|apply w_l);all_goals intros))
     ·cases no
      ·rw [if_pos (by simp [hk])];(focus (refine wkld (w_7 e1 e2 m2 ea en ei hla) (w_2 cr cn) w_t w_t ?_;(repeat' first|exact w_t|apply w_l);all_goals intros))
      ·rw [if_neg (by simp [hk])];(focus (refine wkld (w_7 e1 e2 m2 ea en ei hla) (w_2 cr cn) w_t w_t ?_;(repeat' first|exact w_t|apply w_l);all_goals intros))
   ·exact⟨Nat.zero_le _,by exact gC,by exact gC,by exact gC,by exact gC,by exact gW hla,by exact gC,by simp [outB]⟩
theorem rlCheck (ss:List RS) (i:Nat) (hi:i < ss.length) (hl:ss.length≤1000000000) (hs:∀s∈ss,s.sm):Pure Tryz.prog 86 [.sl 6 (ss.map RS.av),iv i] (iv (errS ss i)):=by
 have hg:=Zap RS.av hi;have hsm:=hs _ (List.getElem_mem hi);unfold errS;rw [show ss.getD i RS.zero=ss[i] from by rw [List.getD_eq_getElem?_getD,List.getElem?_eq_getElem hi];rfl];have hgt:∀k,k < i→∃t:RS,((ss.map RS.av).take i).getD k .u=t.av∧(ss.take i)[k]?=some t:=λk hk=>by
  refine⟨ss[k],?_,?_⟩
  ·rw [List.getD_eq_getElem?_getD,List.getElem?_take,if_pos hk,List.getElem?_map,List.getElem?_eq_getElem (by omega)];rfl
  ·rw [List.getElem?_take,if_pos hk,List.getElem?_eq_getElem (by omega)]
 have hlm:(ss.map RS.av).length=ss.length:=List.length_map ..;have hlt:(ss.take i).length=i:=by rw [List.length_take];omega
 generalize ss.map RS.av=M at *;generalize ss[i]=s at *;generalize ss.take i=T at *;clear hs;obtain⟨h1,h2,h3⟩:=hsm;have ca:=rlAr s.k;have cr:Pure Tryz.prog 122 [s.r.av] (.v (.bool s.r.ok)):=Zv7 s.r.s s.r.l s.r.d h1.1 h1.2.1 h1.2.2.1 h1.2.2.2;have cn:=rlNone s.r;have cm:=rnName s.nm h2;have hst:=Zj1 s.nm;have hla:(s.ar.map iv).length=s.ar.length:=List.length_map ..;obtain⟨k,nm,ar,r,rl,rd⟩:=s;simp only at *;generalize arS k=a at *;generalize RQ.ok ⟨r,rl,rd⟩=ok at *;generalize RQ.none ⟨r,rl,rd⟩=no at *;generalize namB nm=nb at *;by_cases w1:a < 0
 ·rw [if_pos w1];refine Zaa (tok:=0) Tryz.func86 rfl Tryz.ntmps86 Tryz.results86 Tryz.call86 (by rfl) (by simp) ?_;(focus (refine wkld (w_3 hg hlm hla) (w_1 ca) w_t w_t ?_;(repeat' first|exact w_t|apply w_l);all_goals intros))
 ·rw [if_neg w1];by_cases w2:(ar.length:Int)≠a
  ·rw [if_pos w2];refine Zaa (tok:=0) Tryz.func86 rfl Tryz.ntmps86 Tryz.results86 Tryz.call86 (by rfl) (by simp) ?_;(focus (refine wkld (w_3 hg hlm hla) (w_1 ca) w_t (w_1 (w_d 4 [(5,iv a)] [] [])) ?_;(repeat' first|exact w_t|apply w_l);all_goals intros))
  ·rw [if_neg w2];refine Zaa (tok:=0) Tryz.func86 rfl Tryz.ntmps86 Tryz.results86 Tryz.call86 (by rfl) (by simp) ?_;(focus (refine wkad (w_3 hg hlm hla) (w_1 ca) (w_1 (w_d 4 [(5,iv a)] [] [])) ?_;(repeat' first|exact w_t|apply w_l);all_goals intros));rename_i g5;refine Zac (ι:=Nat) (λx e m=>x≤ar.length∧e 0=.sl 6 M∧e 1=iv i∧e 5=.pbox 5 g5 0∧m 5=some (.box g5 65 [iv k,strA nm,ivs ar,.v (.bool r),lim rl,lim rd] false)∧e 26=ivs ar∧e 27=iv ar.length∧e 28=iv x∧outB i (ar.take x)=false) (λx=>ar.length - x) 0 (by rfl) ?_ ?_
   ·rintro x e m ⟨hx,e0,e1,e5,m5,e26,e27,e28,hno⟩
    by_cases hlt2:x < ar.length
    ·have hga:=Zap iv hlt2;have hso:=Zoj (n:=(i:Int)) hlt2;have hat:=Zwo (n:=(i:Int)) hlt2;rw [hno,Bool.false_or] at hso;generalize ar[x]=y at *;by_cases hy:y < 0∨(i:Int)≤y
     ·have hb:(decide (y < 0) || decide ((i:Int)≤y))=true:=by simpa using hy
      rw [if_pos (hat hb)];clear hat hso hb;rcases hy with hy | hy
      ·(focus (refine wkld (w_9 e0 e1 e5 m5 e26 e27 e28 hga hla) w_t w_t w_t ?_;(repeat' first|exact w_t|apply w_l);all_goals intros))
      ·(focus (refine wkld (w_9 e0 e1 e5 m5 e26 e27 e28 hga hla) w_t w_t w_t ?_;(repeat' first|exact w_t|apply w_l);all_goals intros))
     ·have hb:(decide (y < 0) || decide ((i:Int)≤y))=false:=by simpa using hy
      rw [hb] at hso;clear hat hb;(focus (refine wkad (w_9 e0 e1 e5 m5 e26 e27 e28 hga hla) w_t w_t ?_;(repeat' first|exact w_t|apply w_l);all_goals intros));exact⟨x+1,⟨by omega,by exact gW e0,by exact gW e1,by exact gW e5,by exact gW m5,by exact gW e26,by exact gW e27,by exact gS,hso⟩,by omega⟩
    ·have hi2:x=ar.length:=by omega
     subst hi2;rw [List.take_length] at hno;rw [hno,if_neg (by decide)];by_cases w3:(k=2∧ok=false)∨(k≠2∧no=false)
     ·rw [if_pos w3];rcases w3 with⟨hk,rfl⟩ | ⟨hk,rfl⟩
      ·subst hk;(focus (refine wkld (w_8 e0 e1 e5 m5 e26 e27 e28 hla) (w_1 cr) w_t w_t ?_;(repeat' first|exact w_t|apply w_l);all_goals intros))
      ·(focus (refine wkld (w_8 e0 e1 e5 m5 e26 e27 e28 hla) (w_1 cn) w_t w_t ?_;(repeat' first|exact w_t|apply w_l);all_goals intros))
     ·rw [if_neg w3]
      have w4:(k=2∧ok=true)∨(k≠2∧no=true):=by
       by_cases hk:k=2
       ·cases ok
        ·exact absurd (.inl ⟨hk,rfl⟩) w3
        ·exact .inl ⟨hk,rfl⟩
       ·cases no
        ·exact absurd (.inr ⟨hk,rfl⟩) w3
        ·exact .inr ⟨hk,rfl⟩
      clear w3;have rest:∀(e:Nat→AV) (m:Mem),e 0=.sl 6 M→e 1=iv i→e 5=.pbox 5 g5 0→m 5=some (.box g5 65 [iv k,strA nm,ivs ar,.v (.bool r),lim rl,lim rd] false)→True:=λ_ _ _ _ _ _=>trivial;clear rest;by_cases w5:nm.size=0
      ·rw [if_pos w5];rw [decide_eq_true w5] at hst;rcases w4 with⟨hk,rfl⟩ | ⟨hk,rfl⟩
       ·subst hk;(focus (refine wkld (w_9 e0 e1 e5 m5 e26 e27 e28 hla hst) (w_1 cr) w_t w_t ?_;(repeat' first|exact w_t|apply w_l);all_goals intros))
       ·(focus (refine wkld (w_9 e0 e1 e5 m5 e26 e27 e28 hla hst) (w_1 cn) w_t w_t ?_;(repeat' first|exact w_t|apply w_l);all_goals intros))
      ·rw [if_neg w5];rw [decide_eq_false w5] at hst
       cases nb with
       | false =>
         rw [if_pos rfl];rcases w4 with⟨hk,rfl⟩ | ⟨hk,rfl⟩
         ·subst hk;(focus (refine wkld (w_9 e0 e1 e5 m5 e26 e27 e28 hla hst) (w_2 cr cm) w_t w_t ?_;(repeat' first|exact w_t|apply w_l);all_goals intros))
         ·(focus (refine wkld (w_9 e0 e1 e5 m5 e26 e27 e28 hla hst) (w_2 cn cm) w_t w_t ?_;(repeat' first|exact w_t|apply w_l);all_goals intros))
       | true =>
         rw [if_neg (by decide)];rcases w4 with⟨hk,rfl⟩ | ⟨hk,rfl⟩
         all_goals first|(subst hk;(focus (refine wkad (w_12 e0 e1 e5 m5 e26 e27 e28 hla hlm hst @Zm5 @l_take) (w_2 cr cm) w_t ?_;(repeat' first|exact w_t|apply w_l);all_goals intros)))|(focus (refine wkad (w_12 e0 e1 e5 m5 e26 e27 e28 hla hlm hst @Zm5 @l_take) (w_2 cn cm) w_t ?_;(repeat' first|exact w_t|apply w_l);all_goals intros))
         all_goals
          refine Zac (ι:=Nat) (λx e m=>x≤i∧e 5=.pbox 5 g5 0∧(∃k,m 5=some (.box g5 65 [iv k,strA nm,ivs ar,.v (.bool r),lim rl,lim rd] false))∧e 69=.sl 6 (M.take i)∧e 70=iv i∧e 71=iv x∧(T.take x).any (λt=>t.nm.toList == nm.toList)=false) (λx=>i - x) 0 (by rfl) ?_ ?_
          ·rintro x e m ⟨hx,e5,⟨k,m5⟩,e69,e70,e71,hnq⟩
           by_cases hlt2:x < i
           ·obtain⟨t,ht,ht2⟩:=hgt x hlt2;have htl:x < T.length:=by omega
            have htx:T[x]=t:=by rw [List.getElem?_eq_getElem htl] at ht2;cases ht2;rfl
            have hsn:T.take (x+1)=T.take x++[t]:=by rw [List.take_succ_eq_append_getElem htl,htx]
            have hmem:t∈T:=by rw [←htx];exact List.getElem_mem htl
            obtain⟨tk,tn,ta,tr,tl,td⟩:=t;have hll:(M.take i).length=i:=by rw [List.length_take];omega
            cases hw:(tn.toList == nm.toList) with
            | true =>
              have hany:T.any (λt=>t.nm.toList == nm.toList)=true:=List.any_eq_true.2 ⟨_,hmem,hw⟩;rw [if_pos hany];(focus (refine wkld (w_8 e5 m5 e69 e70 e71 ht hw hll) w_t w_t w_t ?_;(repeat' first|exact w_t|apply w_l);all_goals intros))
            | false =>
              (focus (refine wkad (w_8 e5 m5 e69 e70 e71 ht hw hll) w_t w_t ?_;(repeat' first|exact w_t|apply w_l);all_goals intros));exact⟨x+1,⟨by omega,by exact gW e5,⟨k,by exact gW m5⟩,by exact gW e69,by exact gW e70,by exact gS,by rw [hsn,List.any_append,hnq];simp [hw]⟩,by omega⟩
           ·have hxi:x=i:=by omega
            subst hxi;rw [show T.take x=T from by rw [←hlt,List.take_length]] at hnq;rw [hnq,if_neg (by decide)];(focus (refine wkld (w_5 e5 m5 e69 e70 e71) w_t w_t w_t ?_;(repeat' first|exact w_t|apply w_l);all_goals intros))
          ·exact⟨Nat.zero_le _,by exact gW e5,⟨_,by exact gW m5⟩,by exact gC,by(simp (disch:=omega) only [go_sem,List.length_take,hlm,Nat.min_eq_left]<;>repeat' first|rfl|refine⟨?_,?_⟩),by exact gC,by simp⟩
   ·exact⟨Nat.zero_le _,by exact gC,by exact gC,by exact gC,by exact gC,by exact gC,by exact gW hla,by exact gC,by simp [outB]⟩
theorem Zvn (ss:List RS) (gs:List RG) (h1:ss.length≤1000000000) (h2:gs.length≤1000000000) (hs:∀s∈ss,s.sm) (hg:∀g∈gs,g.sm):Pure Tryz.prog 37 [figA ss gs] (iv (figE ss gs)):=by
 have hls:(ss.map RS.av).length=ss.length:=List.length_map ..;have hlg:(gs.map RG.av).length=gs.length:=List.length_map ..;have eg:∀i (h:i < gs.length),(gs.map RG.av).getD i .u=gs[i].av:=λi h=>Zap RG.av h;have eg2:∀i (h:i < gs.length),gs.getD i ⟨0,[],⟨false,[],[]⟩⟩=gs[i]:=λi h=>by rw [List.getD_eq_getElem?_getD,List.getElem?_eq_getElem h];rfl
 have cc:∀i,i < ss.length→Pure Tryz.prog 86 [.sl 6 (ss.map RS.av),iv i] (iv (errS ss i)):=λi hi=>rlCheck ss i hi h1 hs;have cg:∀i (h:i < gs.length),Pure Tryz.prog 87 [gs[i].av,iv ss.length] (iv (errG gs[i] ss.length)):=λi h=>rrRight gs[i] ss.length h1 (hg _ (List.getElem_mem h));unfold figE;show Pure _ _ [.agg [.sl 6 (ss.map RS.av),.sl 5 (gs.map RG.av)]] _;generalize ss.map RS.av=M at *;generalize gs.map RG.av=N at *;by_cases hb:40 < ss.length∨8 < gs.length
 ·rw [if_pos hb];refine Zaa (tok:=0) Tryz.func37 rfl Tryz.ntmps37 Tryz.results37 Tryz.call37 (by rfl) (by simp) ?_;(focus (refine wklp (w_2 hls hlg) w_t w_t (w_r 0) ?_;(repeat' first|exact w_t|apply w_l);all_goals intros))
 ·rw [if_neg hb];refine Zaa (tok:=0) Tryz.func37 rfl Tryz.ntmps37 Tryz.results37 Tryz.call37 (by rfl) (by simp) ?_;(focus (refine wkap (w_2 hls hlg) w_t (w_r 0) ?_;(repeat' first|exact w_t|apply w_l);all_goals intros));rename_i g1;refine Zac (ι:=Nat) (λi e m=>i≤ss.length∧e 1=.pbox 1 g1 0∧m 1=some (.box g1 25 [.sl 6 M,.sl 5 N] false)∧e 20=iv ss.length∧e 21=iv i∧∀j,j < i→errS ss j=0) (λi=>ss.length - i) 0 (by rfl) ?_ ?_
  ·rintro i e m ⟨hi,e1,m1,e20,e21,hz⟩
   by_cases hlt:i < ss.length
   ·have c:=cc i hlt;by_cases he:errS ss i=0
    ·rw [he] at c;(focus (refine wkap (w_6 e1 m1 e20 e21 hls hlg) (w_1 c) (w_r 0) ?_;(repeat' first|exact w_t|apply w_l);all_goals intros));exact⟨i+1,⟨by omega,by exact gW e1,by exact gW m1,by exact gW e20,by exact gS,λj hj=>by by_cases e:j=i;rw [e];exact he;exact hz j (by omega)⟩,by omega⟩
    ·rw [Zqv hz he hlt,if_pos he];generalize errS ss i=z at *;(focus (refine wklp (w_6 e1 m1 e20 e21 hls hlg) (w_1 c) w_t (w_r 0) ?_;(repeat' first|exact w_t|apply w_l);all_goals intros))
   ·have hi2:i=ss.length:=by omega
    subst hi2;rw [Zid hz,if_neg (by simp)];(focus (refine wkap (w_6 e1 m1 e20 e21 hls hlg) w_t (w_r 0) ?_;(repeat' first|exact w_t|apply w_l);all_goals intros));refine Zac (ι:=Nat) (λi e m=>i≤gs.length∧e 1=.pbox 1 g1 0∧m 1=some (.box g1 25 [.sl 6 M,.sl 5 N] false)∧e 33=.sl 5 N∧e 34=iv gs.length∧e 35=iv i∧∀j,j < i→errG (gs.getD j ⟨0,[],⟨false,[],[]⟩⟩) ss.length=0) (λi=>gs.length - i) 0 (by rfl) ?_ ?_
    ·rintro i e m ⟨hi,e1,m1,e33,e34,e35,hz⟩
     by_cases hlt:i < gs.length
     ·have c:=cg i hlt;have hgi:=eg i hlt;have hgj:=eg2 i hlt;have hfa:=@Zqv (λi=>errG (gs.getD i ⟨0,[],⟨false,[],[]⟩⟩) ss.length) i hz;simp only [hgj] at hfa;generalize gs[i]=G at *;by_cases he:errG G ss.length=0
      ·rw [he] at c;clear hfa;obtain⟨k,ar,r,rl,rd⟩:=G;(focus (refine wkap (w_8 e1 m1 e33 e34 e35 hls hlg hgi) (w_1 c) (w_r 0) ?_;(repeat' first|exact w_t|apply w_l);all_goals intros));exact⟨i+1,⟨by omega,by exact gW e1,by exact gW m1,by exact gW e33,by exact gW e34,by exact gS,λj hj=>by by_cases e:j=i;rw [e,hgj];exact he;exact hz j (by omega)⟩,by omega⟩
      ·rw [hfa he hlt];clear hfa;generalize errG G ss.length=z at *;obtain⟨k,ar,r,rl,rd⟩:=G;(focus (refine wklp (w_8 e1 m1 e33 e34 e35 hls hlg hgi) (w_1 c) w_t (w_r 0) ?_;(repeat' first|exact w_t|apply w_l);all_goals intros))
     ·have hi2:i=gs.length:=by omega
      subst hi2;rw [Zid hz];(focus (refine wklp (w_7 e1 m1 e33 e34 e35 hls hlg) w_t w_t (w_r 0) ?_;(repeat' first|exact w_t|apply w_l);all_goals intros))
    ·exact⟨Nat.zero_le _,by exact gW e1,by exact gW m1,by exact gC,by exact gW hlg,by exact gC,λj hj=>by omega⟩
  ·exact⟨Nat.zero_le _,by exact gC,by exact gC,by exact gW hls,by exact gC,λj hj=>by omega⟩
end Go.Proofs.YtjgdomdhjphgbaaGreatDoor
namespace Go.Proofs.YtjgdomdhjphgbaaGreatDoor
attribute [-bool_to_prop] Bool.and_eq_decide Bool.or_eq_decide Bool.decide_beq_decide decide_eq_decide
section
open Go Go.RowKit Go.Pg
end
end Go.Proofs.YtjgdomdhjphgbaaGreatDoor
namespace Go.Proofs.YtjgdomdhjphgbaaGreatDoor
open Go Go.RowKit Go.Pg Go.Pol
attribute [-bool_to_prop] Bool.and_eq_decide Bool.or_eq_decide Bool.decide_beq_decide decide_eq_decide
attribute [local go_sem] Tryz.underlying3 Tryz.underlying4 Tryz.underlying160 Tryz.underlying9 Tryz.underlying39 Tryz.underlying34 Tryz.underlying53 Tryz.underlying51 Tryz.underlying49 Tryz.underlying65 Tryz.underlying22 Tryz.underlying25 sz3 by3 z3 szB zB Zcf zErr Zbq Zct zStr Zax zRat Za3 zInt Za2 zNat Zca Zcb Zdq Zdv zFig Zdu zSlI Zdt zSlS
theorem Sub.nil (m:Nat):Sub (.v (.slice none 0 0)) (.sl m []):=λw imm x h=>by
 rw [h.v_inv];exact .pure ((Wk.nil m).rd (.v _))
theorem Zge {σ:Mem} {k:Nat} {e:Ent} (h:σ k=some e):upd σ k (some e)=σ:=by
 funext j;rw [Zaj];split
 ·subst_vars;exact h.symm
 ·rfl
theorem Zb7 {K c:Nat} (h:c < 1000):(K+1000 == c)=false:=by rw [beq_eq_false_iff_ne];omega
theorem Zrc {a b:List Nat} (h:u16s a=u16s b):a=b:=by
 induction a generalizing b with
 | nil=>cases b with
   | nil=>rfl
   | cons y b=>simp [u16s] at h
 | cons x a ih=>cases b with
   | nil=>simp [u16s] at h
   | cons y b =>
     rw [Zut,Zut] at h;simp only [List.cons.injEq,AV.v.injEq,Value.int.injEq,true_and] at h;rw [ih h.2,show x=y by omega]
theorem RQ.ok_eq {r:RQ} {k:Nat} (hl:r.lm k) (h:r.ok=true):r=⟨decide (r.q.num < 0),toL r.q.num.natAbs,toL r.q.den⟩:=by
 have h1:=(RQ.ok_av hl h).1;simp only [RQ.av,ratQ,AV.agg.injEq,List.cons.injEq,AV.v.injEq,Value.bool.injEq,lim,AV.sl.injEq,true_and,and_true] at h1;obtain⟨s,l,d⟩:=r;simp only at h1;rw [RQ.mk.injEq];exact⟨h1.1,Zrc h1.2.1,Zrc h1.2.2⟩
attribute [local go_sem] Tryz.underlying27 Tryz.underlying54 Tryz.underlying56 Tryz.underlying30 Tryz.underlying31 Zag Zaq Zah Bool.and_self Zal Zbh zSlQ szQT byQT zQT Zbj zSlT szQP zQP
structure RE where
 r:RQ
 q:List Qt
abbrev RE.av (t:RE):AV:=.agg [.v (.bool t.r.s),lim t.r.l,lim t.r.d,qsA t.q]
def RE.ok (t:RE):Bool:=t.r.ok && t.q.all Qt.ok
def sgP (l:List Qt):Int:=l.foldl (λs q=>s*q.norm.2) 1
def nzP (l:List Qt):List Qt:=(l.filter λq=>decide (q.norm.2≠0)).map λq=>q.norm.1
def putP (l:List Qt):List Qt:=(nzP l).foldl (putQ Qt.cmp) []
def RE.t (t:RE):Rat × List Qt:=(t.r.q*(sgP t.q:Rat),putP t.q)
theorem Zri (l:List Qt) (q:Qt):sgP (l++[q])=sgP l*q.norm.2:=by unfold sgP;rw [List.foldl_append];rfl
theorem putP_y (l:List Qt) {q:Qt} (h:q.norm.2≠0):putP (l++[q])=putQ Qt.cmp (putP l) q.norm.1:=by
 unfold putP nzP;rw [List.filter_append,List.map_append,List.foldl_append,List.filter_cons,if_pos (decide_eq_true h)];rfl
theorem putP_n (l:List Qt) {q:Qt} (h:q.norm.2=0):putP (l++[q])=putP l:=by
 unfold putP nzP;rw [List.filter_append,List.map_append,List.foldl_append,List.filter_cons,if_neg (by simp [h])];rfl
theorem Zjo (l:List Qt):(putP l).length≤l.length:=by
 unfold putP;rw [(Zfc (cmp:=Qt.cmp) (nzP l) []).length_eq,List.append_nil];unfold nzP;rw [List.length_map];exact List.length_filter_le _ _
theorem Zhs (q:Qt):q.norm.2=-1∨q.norm.2=0∨q.norm.2=1:=by
 unfold Qt.norm Zdy Zev
 repeat' split
 all_goals first|exact .inl rfl|exact .inr (.inl rfl)|exact .inr (.inr rfl)
theorem sg_mul {a b:Int} (ha:a=-1∨a=0∨a=1) (hb:b=-1∨b=0∨b=1):a*b=-1∨a*b=0∨a*b=1:=by
 rcases ha with rfl | rfl | rfl<;>rcases hb with rfl | rfl | rfl<;>decide
theorem Zlf (l:List Qt):sgP l=-1∨sgP l=0∨sgP l=1:=by
 have key:∀(l:List Qt) (s:Int),(s=-1∨s=0∨s=1)→(l.foldl (λs q=>s*q.norm.2) s=-1∨l.foldl (λs q=>s*q.norm.2) s=0∨l.foldl (λs q=>s*q.norm.2) s=1):=by
  intro l
  induction l with
  | nil=>intro s h;exact h
  | cons a l ih=>intro s h;exact ih _ (sg_mul h (Zhs a))
 exact key l 1 (.inr (.inr rfl))
theorem Zme {z:Int} (h:z=-1∨z=0∨z=1):Sz (z:Rat) 1:=by
 refine Sz.int ?_ (Nat.le_refl _);rcases h with rfl | rfl | rfl
 ·exact Nat.le_of_eq Zc8
 ·show(toL 0).length≤1;rw [Zaw];exact Nat.zero_le _
 ·exact Nat.le_of_eq Zc8
theorem qOfS {z:Int} (h:z=-1∨z=0∨z=1):Pure Tryz.prog 34 [iv z] (ratQ (z:Rat)):=by
 rcases h with rfl | rfl | rfl
 ·exact qOfM
 ·exact qOf 0 (by omega)
 ·exact qOf 1 (by omega)
def nrmR (l:List RE):AV:=if l.all RE.ok=true then qpA (gatM (l.map RE.t)) else .v (.slice none 0 0)
theorem Zii {α:Type} {p:α→Bool} {l:List α} {i:Nat} (h:i < l.length) (h1:(l.take i).all p=true) (h2:p l[i]=true):(l.take (i+1)).all p=true:=by
 rw [List.take_add_one,List.getElem?_eq_getElem h,List.all_append,h1];simp [h2]
theorem Zjv {α:Type} {p:α→Bool} {l:List α} {i:Nat} (h:i < l.length) (h2:p l[i]=false):l.all p=false:=by
 rw [List.all_eq_false];exact⟨l[i],List.getElem_mem h,by simp [h2]⟩
theorem rxNorm (l:List RE) {J:Nat} (hl:l.length≤1000) (hr:∀t∈l,t.r.lm J) (hq:∀t∈l,t.q.length≤1000) (hJ:J≤800):Pure Tryz.prog 67 [.sl 4 (l.map RE.av)] (nrmR l):=by
 have hlm:(l.map RE.av).length=l.length:=List.length_map ..;have hg:∀i (h:i < l.length),(l.map RE.av).getD i .u=RE.av l[i]:=λi h=>Zap RE.av h;generalize l.map RE.av=A at *;refine Zaa (tok:=0) Tryz.func67 rfl Tryz.ntmps67 Tryz.results67 Tryz.call67 (by rfl) (by simp) ?_;(focus (refine wkad (w_1 hlm) w_t w_t ?_;(repeat' first|exact w_t|apply w_l);all_goals intros));refine Zeu (Frz.nilOwn (d:=3) 75 4 56 (by exact gC)) ?_;refine Zac (ι:=Nat) (λi e m=>i≤l.length∧(l.take i).all RE.ok=true∧e 0=.sl 4 A∧e 4=iv i∧∃sv,e 3=.own 75 sv∧m 75=some (.row sv 56 4 (((l.take i).map RE.t).map qtA) 0)) (λi=>l.length - i) 0 (by rfl) ?_ ?_
 ·rintro i e m ⟨hi,ha,e0,e4,sv,e3,m75⟩
  have hol:((((l.take i).map RE.t).map qtA)).length=i:=by rw [List.length_map,List.length_map,List.length_take];omega
  by_cases hlt:i < l.length
  ·have hgi:=hg i hlt;have hri:=hr _ (List.getElem_mem hlt);have hqi:=hq _ (List.getElem_mem hlt);have hta:((l.take (i+1)).map RE.t).map qtA=((l.take i).map RE.t).map qtA++[qtA l[i].t]:=by rw [List.take_add_one,List.getElem?_eq_getElem hlt,List.map_append,List.map_append];rfl
   have hok:=Zii (p:=RE.ok) hlt ha;have hbad:=Zjv (p:=RE.ok) hlt;have hbr:RE.ok l[i]=false→nrmR l=.v (.slice none 0 0):=λh=>by unfold nrmR;rw [hbad h];rfl
   clear hbad hg hr hq ha;generalize l[i]=t at *;generalize nrmR l=NR at *;generalize ((l.take i).map RE.t).map qtA=O at *;obtain⟨r,q⟩:=t;simp only at hri hqi;have hgi:A.getD i .u=.agg [.v (.bool r.s),lim r.l,lim r.d,.sl 4 (q.map Qt.av)]:=hgi;have crq:=Zv7 r.s r.l r.d hri.1 hri.2.1 (by have:=hri.2.2.1;omega) (by have:=hri.2.2.2;omega)
   cases hro:r.ok with
   | false =>
     rw [show(RQ.ok ⟨r.s,r.l,r.d⟩)=false from hro] at crq;rw [hbr (by unfold RE.ok;rw [hro];rfl)];clear hbr hok hta;obtain⟨s,x,d⟩:=r;simp only at *;generalize q.map Qt.av=Q at *;(focus (refine wkad (w_6 e0 e4 e3 m75 hlm hgi) (w_1 crq) w_t ?_;(repeat' first|exact w_t|apply w_l);all_goals intros));all_goals exact gL
   | true =>
     rw [show(RQ.ok ⟨r.s,r.l,r.d⟩)=true from hro] at crq;have hz:=(RQ.ok_av hri hro).2;have hre:=RQ.ok_eq hri hro;have hqm:(q.map Qt.av).length=q.length:=List.length_map ..;have hgq:∀k (h:k < q.length),(q.map Qt.av).getD k .u=Qt.av q[k]:=λk h=>Zap Qt.av h;have hbq:∀k (h:k < q.length),Qt.ok q[k]=false→NR=.v (.slice none 0 0):=λk h h2=>hbr (by unfold RE.ok;rw [Zjv (p:=Qt.ok) h h2,Bool.and_false]);have hqk:q.all Qt.ok=true→RE.ok ⟨r,q⟩=true:=λh=>by unfold RE.ok;rw [hro,h];rfl
     have het:qtA (RE.t ⟨r,q⟩)=.agg [.v (.bool (decide ((r.q*(sgP q:Rat)).num < 0))),lim (toL (r.q*(sgP q:Rat)).num.natAbs),lim (toL (r.q*(sgP q:Rat)).den),.sl 4 ((putP q).map Qt.av)]:=rfl;rw [het] at hta;clear het hbr;generalize hx:r.q=x at *;subst hre;clear hro;simp only at *;generalize hQ:q.map Qt.av=Q at *;have cm:=qMul x (sgP q:Rat) hz (Zme (Zlf q)) (by omega) (by omega);have cs:=qOfS (Zlf q);have cm:Pure Tryz.prog 77 [.agg [.v (.bool (decide (x.num < 0))),lim (toL x.num.natAbs),lim (toL x.den)],ratQ (sgP q:Rat)] (ratQ (x*(sgP q:Rat))):=cm;generalize hxn:toL x.num.natAbs=xn at *;generalize hxd:toL x.den=xd at *
     generalize hxs:decide (x.num < 0)=xs at *;(focus (refine wkad (w_6 e0 e4 e3 m75 hlm hgi) (w_1 crq) w_t ?_;(repeat' first|exact w_t|apply w_l);all_goals intros));refine Zeu (Frz.nil (d:=6) 4 (by exact gC)) ?_;refine Zac (ι:=Nat) (λk e m=>k≤q.length∧(q.take k).all Qt.ok=true∧e 0=.sl 4 A∧e 4=iv i∧e 3=.own 75 sv∧m 75=some (.row sv 56 4 O 0)∧e 5=iv (sgP (q.take k))∧e 6=.sl 4 ((putP (q.take k)).map Qt.av)∧e 7=iv k) (λk=>q.length - k) 0 (by rfl) ?_ ?_
     ·rintro k e m ⟨hk,hak,e0,e4,e3,m75,e5,e6,e7⟩
      by_cases hkt:k < q.length
      ·have hgk:=hgq k hkt;have hok2:=Zii (p:=Qt.ok) hkt hak;have hbk:=hbq k hkt;have htk:q.take (k+1)=q.take k++[q[k]]:=by rw [List.take_add_one,List.getElem?_eq_getElem hkt];rfl
       have s1:=Zri (q.take k) q[k];have s2:=putP_y (q.take k) (q:=q[k]);have s3:=putP_n (q.take k) (q:=q[k]);have hpl:=Zjo (q.take k);have htl:(q.take k).length≤1000:=by rw [List.length_take];omega
       have hsg:=Zlf (q.take k);have hns:=Zhs q[k];rw [←htk] at s1 s2 s3;have c1:=Zj8 q[k].k q[k].a q[k].b q[k].c;have c2:=rqNorm q[k].k q[k].a q[k].b q[k].c;have c3:=rxPut (putP (q.take k)) (q[k].norm).1 (by omega);clear hgq hbq hqk cm cs hta hok htk hak;generalize q[k]=y at *;generalize hP1:putP (q.take (k+1))=P1 at *;generalize hS1:sgP (q.take (k+1))=S1 at *;generalize putP (q.take k)=P0 at *;generalize sgP (q.take k)=S0 at *;generalize hn1:y.norm.1=nn at *;generalize hn2:y.norm.2=ns at *;obtain⟨y1,y2,y3,y4⟩:=y;simp only at *
       cases hyo:Qt.ok ⟨y1,y2,y3,y4⟩with
       | false =>
         rw [hyo] at c1;rw [hbk hyo];clear s1 s2 s3 c2 c3 hok2 hbk;(focus (refine wkad (w_11 e0 e4 e3 m75 e5 e6 e7 hlm hgi hqm hgk) (w_1 c1) w_t ?_;(repeat' first|exact w_t|apply w_l);all_goals intros));all_goals exact gL
       | true =>
         rw [hyo] at c1;have hok3:=hok2 hyo;clear hbk hok2;obtain⟨n1,n2,n3,n4⟩:=nn;by_cases hns0:ns=0
         ·have s3:=s3 hns0;subst s3;subst s1;clear s2 c3;generalize hPA:P1.map Qt.av=PA at *;(focus (refine wkad (w_12 e0 e4 e3 m75 e5 e6 e7 hlm hgi hqm hgk hns0) (w_2 c1 c2) w_t ?_;(repeat' first|exact w_t|apply w_l);all_goals intros));exact⟨k+1,⟨by omega,hok3,by exact gW e0,by exact gW e4,by exact gW e3,by exact gW m75,by rw [hS1,hns0];exact gC,by rw [hP1,hPA];exact gW e6,by exact gS⟩,by omega⟩
         ·have s2:=s2 hns0;subst s2;have hw:IntKind.i64.wrap (S0*ns)=S0*ns:=by rcases sg_mul hsg hns with h | h | h<;>rw [h]<;>rfl
          subst s1;clear s3;have c3:Pure Tryz.prog 123 [.sl 4 (P0.map Qt.av),.agg [iv n1,iv n2,iv n3,iv n4]] (.sl 4 ((putQ Qt.cmp P0 ⟨n1,n2,n3,n4⟩).map Qt.av)):=c3;generalize hPB:(putQ Qt.cmp P0 ⟨n1,n2,n3,n4⟩).map Qt.av=PB' at *;generalize P0.map Qt.av=PA at *;(focus (refine wkad (w_13 e0 e4 e3 m75 e5 e6 e7 hlm hgi hqm hgk hns0 hw) (w_3 c1 c2 c3) w_t ?_;(repeat' first|exact w_t|apply w_l);all_goals intros));exact⟨k+1,⟨by omega,hok3,by exact gW e0,by exact gW e4,by exact gW e3,by exact gW m75,by rw [hS1];exact gC,by rw [hP1,hPB];exact gC,by exact gS⟩,by omega⟩
      ·have hkl:k=q.length:=by omega
       subst hkl;rw [List.take_length] at hak e5 e6;have hok3:=hok (hqk hak);clear hgq hbq hqk hok;generalize (putP q).map Qt.av=PA at *;generalize hS:sgP q=S0 at *;generalize x*(S0:Rat)=w at *;(focus (refine wkad (w_11 e0 e4 e3 m75 e5 e6 e7 hlm hgi hqm hol) (w_2 cs cm) (w_1 (w_d 18 [(7,ratQ (S0:Rat)),(8,ratQ w)] [12,1012] [74,75])) ?_;(repeat' first|exact w_t|apply w_l);all_goals intros));exact⟨i+1,⟨by omega,hok3,by exact gW e0,by exact gS,_,by exact gC,by rw [hta];exact gC⟩,by omega⟩
     ·exact⟨Nat.zero_le _,rfl,by exact gW e0,by exact gW e4,by exact gW e3,by exact gW m75,by exact gC,by exact gC,by exact gC⟩
  ·have hil:i=l.length:=by omega
   subst hil;rw [List.take_length] at m75 ha hol;have hfin:nrmR l=.sl 4 ((gatM (l.map RE.t)).map qtA):=by unfold nrmR;rw [if_pos ha]
   have hqk:QK (l.map RE.t) (J+1) 1000:=λt ht=>by
    obtain⟨u,hu,rfl⟩:=List.mem_map.1 ht
    have hok:u.r.ok=true:=by
     have:=List.all_eq_true.1 ha u hu;unfold RE.ok at this;simp only [Bool.and_eq_true] at this;exact this.1
    have:=hq u hu;have:=Zjo u.q;exact⟨(RQ.ok_av (hr u hu) hok).2.mul (Zme (Zlf u.q)),by show(putP u.q).length≤1000;omega⟩
   have h1:l.length*(J+1+1)≤1000*(J+1+1):=Nat.mul_le_mul_right _ hl;have cg:=Zrk l.length (l.map RE.t) (List.length_map ..) (GH.of_qk hqk) (by omega) (by omega) (by rw [List.length_map];omega);have cg:Pure Tryz.prog 124 [.sl 4 ((l.map RE.t).map qtA)] (.sl 4 ((gatM (l.map RE.t)).map qtA)):=cg;rw [hfin];show _;clear hg hr hq hqk ha;generalize (gatM (l.map RE.t)).map qtA=G at *;generalize (l.map RE.t).map qtA=O at *;(focus (refine wkax (w_6 e0 e4 e3 m75 hlm hol) w_t w_t (w_1 cg) w_t w_t (w_r 0) ?_;(repeat' first|exact w_t|apply w_l);all_goals intros));all_goals exact gL
 ·exact⟨Nat.zero_le _,rfl,by exact gC,by exact gC,_,by exact gC,by exact gC⟩
end Go.Proofs.YtjgdomdhjphgbaaGreatDoor
namespace Go.Pg
open Go Go.RowKit
def EntSub (e e':Ent):Prop:=e'.blk=e.blk∧∀(B:Nat) (w:World) (imm:Imm),EntOk B w imm e→EntOk B w imm e'
theorem EntSub.refl (e:Ent):EntSub e e:=⟨rfl,λ_ _ _ h=>h⟩
theorem EntSub.box {g:Nat} {t:TypeId} {cs cs':List AV} {pub:Bool} (hl:cs'.length=cs.length) (h1:∀x∈cs',x.one=true) (h:∀(j:Nat) (a b:AV),cs[j]?=some a→cs'[j]?=some b→Sub a b):EntSub (.box g t cs pub) (.box g t cs' pub):=by
 refine⟨rfl,λB w imm h0=>?_⟩;obtain⟨cur,k1,k2,k3,k4,k5,k6,k7⟩:=h0;refine⟨cur,k1,k2,by rw [hl];exact k3,h1,λj a x ha hx=>?_,k6,λhp off ho=>k7 hp off (by rw [←hl];exact ho)⟩;have hj:j < cs.length:=by rw [←hl];exact(List.getElem?_eq_some_iff.1 ha).1
 exact h j cs[j] a (List.getElem?_eq_getElem hj) ha w imm x (k5 j cs[j] x (List.getElem?_eq_getElem hj) hx)
def Zy2 (R:AV→Mem→Prop) (b:AV) (m:Mem):Prop:=∃(r:AV) (σ':Mem) (ρ:Nat→Nat),Sub b r∧R r σ'∧(∀k e,σ' k=some e→∃e0,m (ρ k)=some e0∧EntSub e0 e)∧(∀k k',σ' k≠none→σ' k'≠none→ρ k=ρ k'→k=k')
theorem Mx.renameG {c:Cx} {m σ':Mem} {w:World} {imm:Imm} (h:Mx c m w imm) (ρ:Nat→Nat) (h3:∀k e,σ' k=some e→∃e0,m (ρ k)=some e0∧EntSub e0 e) (h4:∀k k',σ' k≠none→σ' k'≠none→ρ k=ρ k'→k=k'):Mx c σ' w imm:=by
 refine⟨⟨λk e hk=>?_,λk k' e e' b k1 k2 k3 k4=>?_,h.ok.lt,h.ok.spot⟩,h.below,h.lt,h.old,h.new,h.cells⟩
 ·obtain⟨e0,hm,hs⟩:=h3 k e hk;exact hs.2 _ _ _ (h.ok.ent _ _ hm)
 ·obtain⟨e0,hm,hs⟩:=h3 k e k1;obtain⟨e1,hm',hs'⟩:=h3 k' e' k2;refine h4 k k' (by rw [k1];simp) (by rw [k2];simp) (h.ok.apart _ _ _ _ b hm hm' ?_ ?_)
  ·rw [←hs.1];exact k3
  ·rw [←hs'.1];exact k4
theorem Zq4 {P:Program} {f n:Nat} {fn:Func} {code:Code} {rs:List ResultVar} {args args':List AV} {σ:Mem} {R:AV→Mem→Prop} (hf:P.funcs[f]?=some fn) (hb:fn.body=some code) (hn:fn.ntmps=n) (hrs:fn.results=rs.toArray)
 (hc:∀(vs:Array Value) (w:World),(callFunc f vs).run P w=.ok (.enter f vs) w) (hfit:Zbo n code=true) (hal:args'.length≤n) (hsub:Subs args args')
 (h:Za8 P 0 n code (Done P rs λst b=>Zy2 R b st.mem) ⟨λt=>args'.getD t .u,lent σ⟩):ACall P f args σ R:=by
 have key:=Zbz (σ:=lent σ) (R:=Zy2 R) hf hb hn hrs hc hfit hal h;refine⟨hc,λc w imm vs hm hl hr=>?_⟩;have hm':Mx c (lent σ) w imm:=hm.rename (λk=>k - 1000) (λk e hk=>by
  unfold lent at hk;split at hk
  ·cases hk
  ·exact hk) λk k' h1 h2 h3=>by
  unfold lent at h1 h2;split at h1<;>split at h2<;>first|omega|exact absurd rfl h1|exact absurd rfl h2
 refine(key.2 c w imm vs hm' (by rw [←hsub.len];exact hl) λj a x h1 h2=>?_).mono λe w' he=>?_
 ·have hj:j < args.length:=by rw [hsub.len];exact(List.getElem?_eq_some_iff.1 h1).1
  exact hsub.get j args[j] a (List.getElem?_eq_getElem hj) h1 w imm x (hr j args[j] x (List.getElem?_eq_getElem hj) h2)
 ·obtain⟨b,m,imm',x,rfl,⟨r,σ',ρ,h1,h2,h3,h4⟩,h5,h6,h7⟩:=he;exact⟨r,σ',imm',x,rfl,h2,h1 _ _ _ h5,h6.renameG ρ h3 h4,h7⟩
end Go.Pg
namespace Go.Proofs.YtjgdomdhjphgbaaGreatDoor
open Go Go.RowKit Go.Pg
attribute [-bool_to_prop] Bool.and_eq_decide Bool.or_eq_decide Bool.decide_beq_decide decide_eq_decide
attribute [local go_sem] Tryz.underlying49 Tryz.underlying3 Tryz.underlying160 Tryz.underlying178 Tryz.underlying120 Tryz.underlying21 Tryz.underlying9 Tryz.underlying5 Tryz.underlying172 sz3 by3 z3 szL byL zL
theorem Zyo (x:Nat) (hx:x < 256):Pure Tryz.prog 203 [.v (.int .u64 (x:Int))] (iv (len8 x:Nat)):=by
 refine Zaa (tok:=0) (rs:=[.tmp 2]) Tryz.func203 rfl Tryz.ntmps203 Tryz.results203 Tryz.call203 (by rfl) (by simp) ?_;have b:=Zf3 (i:=x) (by omega)
 (repeat' (first|(apply Zqe (g:=len8) (n:=256) (by kernel_rfl) (by kernel_rfl) (by omega))|(with_reducible first|refine stp ?_|apply gx1|apply gx2|apply gx3|apply gx4|apply gx5|apply gx6|apply gx7)|(with_reducible refine Zbb ?_;intro _)|((with_reducible refine gE ?_);(try simp (disch:=omega) only [go_sem])<;>first|rfl|omega)|with_reducible refine Zab (by decide) ?_))
 simp (disch:=omega) only [go_sem,Int.zero_add]
theorem bitsLen (x:Nat) (hx:x < 256):Pure Tryz.prog 155 [.v (.int .u64 (x:Int))] (iv (len8 x:Nat)):=by
 have c:=Zyo x hx;generalize ((len8 x:Nat):Int)=r at *;refine Zaa (tok:=0) Tryz.func155 rfl Tryz.ntmps155 Tryz.results155 Tryz.call155 (by rfl) (by simp) ?_;(focus (refine wkap w_t (w_1 c) (w_r 0) ?_;(repeat' first|exact w_t|apply w_l);all_goals intros));all_goals exact gL
theorem szXs:szOf Tryz.prog 226=some 1:=by kernel_rfl
theorem byXs:Zhj Tryz.prog 226=some 8:=by kernel_rfl
theorem zXs:Za0 Tryz.prog 226=some (.int .u64 0):=by kernel_rfl
end Go.Proofs.YtjgdomdhjphgbaaGreatDoor
namespace Go.Pol
open Go.Sort
def ltC {α:Type} (cmp:α→α→Int) (x y:α):Bool:=decide (cmp x y < 0)
theorem ltC_y {α:Type} {cmp:α→α→Int} {x y:α} (h:cmp x y < 0):ltC cmp x y=true:=decide_eq_true h
theorem ltC_n {α:Type} {cmp:α→α→Int} {x y:α} (h:¬cmp x y < 0):ltC cmp x y=false:=decide_eq_false h
theorem swo_key {α β:Type} {cmp:α→α→Int} (o:CO cmp) (f:β→α):SWO (ltC λs t:β=>cmp (f s) (f t)) where
 irrefl x:=ltC_n (by rw [o.refl];omega)
 trans x y z h k:=ltC_y (o.tr _ _ _ (of_decide_eq_true h) (of_decide_eq_true k))
 ntrans x y z h k:=ltC_n λhc=>by
  have h1:=o.le_total _ _ (of_decide_eq_false h);have h2:=o.le_total _ _ (of_decide_eq_false k);have h3:=o.le_tr h2 h1;have h4:=(o.flip _ _).1 hc;omega
theorem Zrz {α β:Type} {cmp:α→α→Int} (o:CO cmp) (f:β→α):∀{l m:List β},(∀s∈l,∀t∈l,f s=f t→s=t)→(l.Pairwise λs t=>cmp (f s) (f t)≤0)→(m.Pairwise λs t=>cmp (f s) (f t)≤0)→l.Perm m→l=m
 | [],m,_,_,_,p=>(List.nil_perm.1 p).symm
 | a :: l,[],_,_,_,p=>by have:=p.length_eq;simp at this
 | a :: l,b :: m,hi,hl,hm,p=>by
   have hl':=List.pairwise_cons.1 hl;have hm':=List.pairwise_cons.1 hm
   have hab:a=b:=by
    have h1:a∈b :: m:=p.mem_iff.1 (.head _);have h2:b∈a :: l:=p.mem_iff.2 (.head _);rcases List.mem_cons.1 h1 with h | h1
    ·exact h
    ·rcases List.mem_cons.1 h2 with h | h2
     ·exact h.symm
     ·exact hi a (.head _) b (.tail _ h2) (o.anti (hl'.1 b h2) (hm'.1 a h1))
   subst hab;rw [Zrz o f (λs hs t ht=>hi s (.tail _ hs) t (.tail _ ht)) hl'.2 hm'.2 (List.Perm.cons_inv p)]
theorem dst_inj {κ:Type} {l:List (Rat × κ)} (h:Dst l):∀s∈l,∀t∈l,s.2=t.2→s=t:=by
 induction l with
 | nil=>intro s hs;cases hs
 | cons a l ih =>
   have h':=List.pairwise_cons.1 h;intro s hs t ht e;rcases List.mem_cons.1 hs with rfl | hs
   ·rcases List.mem_cons.1 ht with rfl | ht
    ·rfl
    ·exact absurd e (h'.1 t ht)
   ·rcases List.mem_cons.1 ht with ht | ht
    ·rw [ht] at e;exact absurd e.symm (h'.1 s hs)
    ·exact ih h'.2 s hs t ht e
theorem Zwj {α β γ:Type} [Inhabited β] {cmp:α→α→Int} (o:CO cmp) (f:γ→α) (g:β→γ) (L:List β) (hi:∀s∈L.map g,∀t∈L.map g,f s=f t→s=t) (lim:Nat) :
 (pdq (ltC λs t:β=>cmp (f (g s)) (f (g t))) L.toArray 0 L.length lim true true).toList.map g=srtQ (λs t=>cmp (f s) (f t)) (L.map g):=by
 obtain⟨hp,hs⟩:=pdq_sorts _ (swo_key o λs:β=>f (g s)) L.toArray 0 L.length lim true true (Nat.zero_le _) (by simp) (Or.inl rfl);generalize pdq (ltC λs t:β=>cmp (f (g s)) (f (g t))) L.toArray 0 L.length lim true true=d at *;obtain⟨hz,-,hq⟩:=hp;have hz:d.size=L.length:=by rw [hz];simp
 have hq:d.toList.Perm L:=by
  have e1:(d.extract 0 L.length).toList=d.toList:=by rw [←hz];simp
  have e2:(L.toArray.extract 0 L.length).toList=L:=by simp
  rwa [e1,e2] at hq
 have hq:=hq.map g
 have ha:(d.toList.map g).Pairwise λs t=>cmp (f s) (f t)≤0:=by
  rw [List.pairwise_map,List.pairwise_iff_getElem];intro i j h1 h2 hij;have h1':i < d.size:=by simpa using h1
  have h2':j < d.size:=by simpa using h2
  have:=of_decide_eq_false (hs i j (Nat.zero_le _) hij (by omega));rw [getElem!_pos d j h2',getElem!_pos d i h1'] at this;exact o.le_total _ _ (by simpa using this)
 refine Zrz o f (λs hs' t ht' e=>?_) ha (Zb5 (o.cp.key f) (L.map g)) (hq.trans (Za7 _).symm);exact hi s (hq.mem_iff.1 hs') t (hq.mem_iff.1 ht') e
section
variable {α:Type} {β:Type} (f:α→β)
theorem Znm (d:Array α):(d.toList.map f).length=d.size:=by simp
variable [Inhabited α]
theorem Zpn {d:Array α} {i:Nat} (h:i < d.size) (u:β):(d.toList.map f).getD i u=f d[i]!:=by
 rw [List.getD_eq_getElem?_getD,List.getElem?_eq_getElem (by simpa using h),List.getElem_map,getElem!_pos d i h];simp
theorem Zyr (d:Array α) (i j:Nat):((d.toList.map f).set i (f d[j]!)).set j (f d[i]!)=(swp d i j).toList.map f:=by
 unfold swp;simp [List.map_set]
theorem Zys {d:Array α} {j:Nat} (h:j < d.size) (i:Nat) (u:β):((d.toList.map f).set i (f d[j]!)).getD j u=f d[j]!:=by
 by_cases e:i=j
 ·subst e;rw [List.getD_eq_getElem?_getD,List.getElem?_set_self (by simpa using h)];rfl
 ·rw [List.getD_eq_getElem?_getD,List.getElem?_set_ne e,←List.getD_eq_getElem?_getD];exact Zpn f h u
end
section
variable {α:Type} [Inhabited α] {lt:α→α→Bool}
theorem Zlr {a j:Nat} {d:Array α} (h:j≤a):insInner lt a j d=d:=by
 cases j with
 | zero=>rfl
 | succ j =>
   show(if j+1 > a && lt d[j+1]! d[j]! then insInner lt a j (swp d (j+1) j) else d)=d;rw [if_neg (by simp;omega)]
theorem Zls {a j:Nat} {d:Array α} (h:lt d[j+1]! d[j]! = false):insInner lt a (j+1) d=d:=by
 show(if j+1 > a && lt d[j+1]! d[j]! then insInner lt a j (swp d (j+1) j) else d)=d;rw [h,if_neg (by simp)]
theorem Zlq {a j:Nat} {d:Array α} (h:j+1 > a) (h2:lt d[j+1]! d[j]! = true):insInner lt a (j+1) d=insInner lt a j (swp d (j+1) j):=by
 show(if j+1 > a && lt d[j+1]! d[j]! then insInner lt a j (swp d (j+1) j) else d)=_;rw [h2,if_pos (by simp;omega)]
theorem Zlo {a b i:Nat} {d:Array α} (h:i < b):insOuter lt a b i d=insOuter lt a b (i+1) (insInner lt a i d):=by
 rw [insOuter,if_pos h]
theorem Zlp {a b i:Nat} {d:Array α} (h:¬i < b):insOuter lt a b i d=d:=by
 rw [insOuter,if_neg h]
theorem bitsLen_256 {x:Nat} (h:256≤x):bitsLen x=8+bitsLen (x/256):=by
 have h1:=lt_two_pow_bitsLen x;have h2:=lt_two_pow_bitsLen (x/256)
 have h3:8 < bitsLen x:=by
  rcases Nat.lt_or_ge 8 (bitsLen x) with h | h
  ·exact h
  ·have:=(bitsLen_le_iff x 8).1 h;omega
 have a:bitsLen x≤8+bitsLen (x/256):=(bitsLen_le_iff _ _).2 (by rw [Nat.pow_add];omega);have b:bitsLen (x/256)≤bitsLen x - 8:=(bitsLen_le_iff _ _).2 (by
  obtain⟨m,hm⟩:∃m,bitsLen x=8+m:=⟨bitsLen x - 8,by omega⟩;rw [hm] at h1 ⊢;rw [Nat.pow_add] at h1;rw [show 8+m - 8=m by omega];exact Nat.div_lt_of_lt_mul h1)
 omega
def hintN (n:Nat):Hint:=if n=0 then .increasing else if n=12 then .decreasing else .unknown
theorem pdq_ins {d:Array α} {a b lim:Nat} {wb wp:Bool} (h:b - a≤12):pdq lt d a b lim wb wp=insertionSort lt d a b:=by rw [pdq,if_pos h]
section
variable {d d1 d2:Array α} {a b lim lim1 pv:Nat} {wb wp:Bool} {c:Nat × Hint} {hint:Hint} {pi:Array α × Bool}
end
end
end Go.Pol
namespace Go.Proofs.YtjgdomdhjphgbaaGreatDoor
open Go Go.RowKit Go.Pg Go.Pol
attribute [-bool_to_prop] Bool.and_eq_decide Bool.or_eq_decide Bool.decide_beq_decide decide_eq_decide
attribute [local go_sem] Tryz.underlying3 Tryz.underlying4 Tryz.underlying172 Tryz.underlying5 Tryz.underlying120 Tryz.underlying9 Tryz.underlying226 Tryz.underlying242 sz3 by3 z3 szXs byXs zXs
theorem Zpw (a:Nat) (s:Nat) (hs:s < 64):shrI .u64 (a:Int) (s:Int)=((a/2 ^ s:Nat):Int):=by
 unfold shrI;rw [show min ((s:Int).toNat) IntKind.u64.bits=s by rw [Int.toNat_natCast];exact Nat.min_eq_left (by show s≤64;omega),Int.fdiv_eq_ediv_of_nonneg _ (Int.le_of_lt (Int.pow_pos (by decide)))];simp
def hintI:Go.Sort.Hint→Int
 | .unknown=>0
 | .increasing=>1
 | .decreasing=>2
abbrev u64A (n:Nat):AV:=.v (.int .u64 (n:Int))
theorem Zm2 (i:Nat):len8 i=Go.Sort.bitsLen i:=rfl
theorem bLen64 (x:Nat) (hx:x≤1000000000):Pure Tryz.prog 203 [u64A x] (iv (Go.Sort.bitsLen x:Nat)):=by
 have n32:¬(4294967296:Int)≤(x:Int):=by omega
 by_cases h16:65536≤x
 ·have g16:(65536:Int)≤(x:Int):=by omega
  have b1:=Go.Pol.bitsLen_256 (x:=x) (by omega);have b2:=Go.Pol.bitsLen_256 (x:=x/256) (by omega);rw [Nat.div_div_eq_div_mul] at b2;have b2:Go.Sort.bitsLen (x/256)=8+Go.Sort.bitsLen (x/65536):=b2;have s16:shrI .u64 (x:Int) 16=((x/65536:Nat):Int):=Zpw x 16 (by omega);have hy:x/65536≤15258:=by omega
  rw [b1,b2];clear b1 b2;generalize x/65536=y at *;have s8:shrI .u64 (y:Int) 8=((y/256:Nat):Int):=Zpw y 8 (by omega);by_cases h8:256≤y
  ·have g8:(256:Int)≤(y:Int):=by omega
   rw [Go.Pol.bitsLen_256 h8];have hz:y/256 < 256:=by omega
   generalize y/256=z at *;rw [←Zm2];have b:=Zf3 hz;refine Zaa (tok:=0) Tryz.func203 rfl Tryz.ntmps203 Tryz.results203 Tryz.call203 (by rfl) (by simp) ?_
   (repeat' (first|(apply Zqe (g:=len8) (n:=256) (by kernel_rfl) (by kernel_rfl) (by omega))|(with_reducible first|refine stp ?_|apply gx1|apply gx2|apply gx3|apply gx4|apply gx5|apply gx6|apply gx7)|(with_reducible refine Zbb ?_;intro _)|((with_reducible refine gE ?_);(try simp (disch:=omega) only [go_sem,n32,g16,s16,s8,g8])<;>first|rfl|omega)|with_reducible refine Zab (by decide) ?_))
   (all_goals (try simp (disch:=omega) only [go_sem,decide_eq_true,decide_eq_false,if_pos,if_neg,Int.reduceAdd,Int.reduceSub,Int.reduceToNat,Int.zero_add]));(all_goals first|done|rfl|(congr 2;first|done|omega|(rw [Bool.eq_iff_iff];simp only [bool_to_prop,Bool.false_eq_true,iff_true,true_iff,iff_false,false_iff];omega))|skip)
  ·have g8:¬(256:Int)≤(y:Int):=by omega
   rw [←Zm2];have b:=Zf3 (i:=y) (by omega);refine Zaa (tok:=0) Tryz.func203 rfl Tryz.ntmps203 Tryz.results203 Tryz.call203 (by rfl) (by simp) ?_
   (repeat' (first|(apply Zqe (g:=len8) (n:=256) (by kernel_rfl) (by kernel_rfl) (by omega))|(with_reducible first|refine stp ?_|apply gx1|apply gx2|apply gx3|apply gx4|apply gx5|apply gx6|apply gx7)|(with_reducible refine Zbb ?_;intro _)|((with_reducible refine gE ?_);(try simp (disch:=omega) only [go_sem,n32,g16,s16,s8,g8])<;>first|rfl|omega)|with_reducible refine Zab (by decide) ?_))
   (all_goals (try simp (disch:=omega) only [go_sem,decide_eq_true,decide_eq_false,if_pos,if_neg,Int.reduceAdd,Int.reduceSub,Int.reduceToNat,Int.zero_add]));(all_goals first|done|rfl|(congr 2;first|done|omega|(rw [Bool.eq_iff_iff];simp only [bool_to_prop,Bool.false_eq_true,iff_true,true_iff,iff_false,false_iff];omega))|skip)
 ·have g16:¬(65536:Int)≤(x:Int):=by omega
  have s8:shrI .u64 (x:Int) 8=((x/256:Nat):Int):=Zpw x 8 (by omega);by_cases h8:256≤x
  ·have g8:(256:Int)≤(x:Int):=by omega
   rw [Go.Pol.bitsLen_256 h8];have hz:x/256 < 256:=by omega
   generalize x/256=z at *;rw [←Zm2];have b:=Zf3 hz;refine Zaa (tok:=0) Tryz.func203 rfl Tryz.ntmps203 Tryz.results203 Tryz.call203 (by rfl) (by simp) ?_
   (repeat' (first|(apply Zqe (g:=len8) (n:=256) (by kernel_rfl) (by kernel_rfl) (by omega))|(with_reducible first|refine stp ?_|apply gx1|apply gx2|apply gx3|apply gx4|apply gx5|apply gx6|apply gx7)|(with_reducible refine Zbb ?_;intro _)|((with_reducible refine gE ?_);(try simp (disch:=omega) only [go_sem,n32,g16,s8,g8])<;>first|rfl|omega)|with_reducible refine Zab (by decide) ?_))
   (all_goals (try simp (disch:=omega) only [go_sem,decide_eq_true,decide_eq_false,if_pos,if_neg,Int.reduceAdd,Int.reduceSub,Int.reduceToNat,Int.zero_add]));(all_goals first|done|rfl|(congr 2;first|done|omega|(rw [Bool.eq_iff_iff];simp only [bool_to_prop,Bool.false_eq_true,iff_true,true_iff,iff_false,false_iff];omega))|skip)
  ·have g8:¬(256:Int)≤(x:Int):=by omega
   rw [←Zm2];have b:=Zf3 (i:=x) (by omega);refine Zaa (tok:=0) Tryz.func203 rfl Tryz.ntmps203 Tryz.results203 Tryz.call203 (by rfl) (by simp) ?_
   (repeat' (first|(apply Zqe (g:=len8) (n:=256) (by kernel_rfl) (by kernel_rfl) (by omega))|(with_reducible first|refine stp ?_|apply gx1|apply gx2|apply gx3|apply gx4|apply gx5|apply gx6|apply gx7)|(with_reducible refine Zbb ?_;intro _)|((with_reducible refine gE ?_);(try simp (disch:=omega) only [go_sem,n32,g16,s8,g8])<;>first|rfl|omega)|with_reducible refine Zab (by decide) ?_))
   (all_goals (try simp (disch:=omega) only [go_sem,decide_eq_true,decide_eq_false,if_pos,if_neg,Int.reduceAdd,Int.reduceSub,Int.reduceToNat,Int.zero_add]));(all_goals first|done|rfl|(congr 2;first|done|omega|(rw [Bool.eq_iff_iff];simp only [bool_to_prop,Bool.false_eq_true,iff_true,true_iff,iff_false,false_iff];omega))|skip)
theorem bLen (x:Nat) (hx:x≤1000000000):Pure Tryz.prog 155 [u64A x] (iv (Go.Sort.bitsLen x:Nat)):=by
 have c:=bLen64 x hx;generalize ((Go.Sort.bitsLen x:Nat):Int)=r at *;refine Zaa (tok:=0) Tryz.func155 rfl Tryz.ntmps155 Tryz.results155 Tryz.call155 (by rfl) (by simp) ?_;(focus (refine wkap w_t (w_1 c) (w_r 0) ?_;(repeat' first|exact w_t|apply w_l);all_goals intros));all_goals exact gL
theorem Zl1 {x:Nat} (h:x≤1000000000):Go.Sort.bitsLen x≤30:=(Go.Sort.bitsLen_le_iff x 30).2 (by omega)
attribute [local go_sem] Tryz.underlying27 Tryz.underlying54 Tryz.underlying56 Tryz.underlying30 Tryz.underlying31 szB zB Zag Zaq Zah Bool.and_self Zal Zbh zSlQ szQT byQT zQT Zbj zSlT szQP zQP
instance:Inhabited Qt:=⟨Qt.zero⟩
abbrev sqLt:Qt→Qt→Bool:=ltC λs t=>Qt.cmp s t
theorem sqIns (σ:Mem) (K:Nat) (sv:Value) (d:Array Qt) (a b:Nat) (hab:a≤b) (hb:b≤d.size) (hK:σ K=some (.row sv 27 4 ((d).toList.map Qt.av) 0)) (hz:d.size≤1000000000):ACall Tryz.prog 194 [.own K sv,iv a,iv b,.fn 98 []] σ λr σ'=>r=.tup []∧σ'=upd σ K (some (.row sv 27 4 ((Go.Sort.insertionSort sqLt d a b).toList.map Qt.av) 0)):=by
 refine Zda (args':=[.own (K+1000) sv,iv a,iv b,.fn 98 []]) Tryz.func194 rfl Tryz.ntmps194 Tryz.results194 Tryz.call194 (by rfl) (by simp) (.cons (Sub.own _ _ _) (.cons (Sub.refl _) (.cons (Sub.refl _) (.cons (Sub.refl _) .nil)))) ?_;have hL:∀k,lent σ (k+1000)=σ k:=λk=>by unfold lent;rw [if_neg (by omega),Nat.add_sub_cancel]
 generalize lent σ=m0 at *;have m0K:m0 (K+1000)=some (.row sv 27 4 ((d).toList.map Qt.av) 0):=by rw [hL,hK]
 (focus (refine wkad w_t w_t w_t ?_;(repeat' first|exact w_t|apply w_l);all_goals intros));refine Zac (ι:=Nat × Array Qt) (λp e m=>(a < p.1∧p.1≤b+1∧p.2.size=d.size∧Go.Sort.insOuter sqLt a b p.1 p.2=Go.Sort.insertionSort sqLt d a b)∧e 0=.own (K+1000) sv∧e 1=iv a∧e 2=iv b∧e 3=.fn 98 []∧e 8=iv p.1∧(∀k,k≠K→m (k+1000)=σ k)∧m (K+1000)=some (.row sv 27 4 ((p.2).toList.map Qt.av) 0)) (λp=>b+1 - p.1) (a+1,d) (by rfl) ?_ ?_
 ·rintro ⟨i,dk⟩ e m ⟨⟨hi1,hi,hsz,hO⟩,e0,e1,e2,e3,e8,hm,mK⟩
  simp only at hi1 hi hsz hO e8 mK;by_cases hlt:i < b
  ·rw [Zlo hlt] at hO;(focus (refine wkad (w_5 e0 e1 e2 e3 e8) w_t w_t ?_;(repeat' first|exact w_t|apply w_l);all_goals intros));refine Zac (ι:=Nat × Array Qt) (λp e m=>(a≤p.1∧p.1≤i∧p.2.size=d.size∧Go.Sort.insInner sqLt a p.1 p.2=Go.Sort.insInner sqLt a i dk)∧e 0=.own (K+1000) sv∧e 1=iv a∧e 2=iv b∧e 3=.fn 98 []∧e 8=iv i∧e 9=iv p.1∧(∀k,k≠K→m (k+1000)=σ k)∧m (K+1000)=some (.row sv 27 4 ((p.2).toList.map Qt.av) 0)) (λp=>p.1) (i,dk) (by rfl) ?_ ?_
   ·rintro ⟨j,dj⟩ e m ⟨⟨hj1,hj,hsj,hI⟩,e0,e1,e2,e3,e8,e9,hm,mK⟩
    simp only at hj1 hj hsj hI e9 mK;by_cases hja:a < j
    ·obtain⟨j,rfl⟩:∃t,j=t+1:=⟨j - 1,by omega⟩;have hml:=Znm Qt.av dj;rw [hsj] at hml;have g1:(dj.toList.map Qt.av).getD (j+1) .u=Qt.av dj[j+1]!:=Zpn Qt.av (by omega) _;have g2:(dj.toList.map Qt.av).getD j .u=Qt.av dj[j]!:=Zpn Qt.av (by omega) _;have hs:=Zyr Qt.av dj (j+1) j;have g3:=Zys Qt.av (d:=dj) (j:=j) (by omega) (j+1) AV.u;have cc:=quCmp dj[j+1]!.k dj[j+1]!.a dj[j+1]!.b dj[j+1]!.c dj[j]!.k dj[j]!.a dj[j]!.b dj[j]!.c;have ej:(j:Int)+1 - 1=(j:Int):=by omega
     have en:((j+1:Nat):Int) - 1=(j:Int):=by omega
     by_cases hlt0:Qt.cmp dj[j+1]! dj[j]! < 0
     ·rw [Zlq (by omega) (ltC_y hlt0)] at hI;have hsw:(Go.Sort.swp dj (j+1) j).size=d.size:=by rw [Go.Sort.size_swp,hsj]
      generalize Go.Sort.swp dj (j+1) j=dn at *;generalize hz1:Qt.cmp dj[j+1]! dj[j]! = z at *;clear hz1;generalize dj[j+1]! = x at *;generalize dj[j]! = y at *;generalize dj.toList.map Qt.av=M at *;obtain⟨x1,x2,x3,x4⟩:=x;obtain⟨y1,y2,y3,y4⟩:=y
      try simp only at *
      (focus (refine wkad (w_16 e0 e1 e2 e3 e8 e9 mK g1 g2 g3 hml ej en hlt0 @Zat @l_set) (w_1 cc) (w_2 (w_d 4 [(14,iv z)] [] []) (w_d 6 [] [15,2015,16,17] [])) ?_;(repeat' first|exact w_t|apply w_l);all_goals intros));exact⟨(j,dn),⟨⟨by show a≤j;omega,by show j≤i;omega,hsw,hI⟩,by exact gW e0,by exact gW e1,by exact gW e2,by exact gW e3,by exact gW e8,by exact gW en,λk hk=>by rw [←hm k hk];try simp (disch:=omega) [Zaj,marks,mark,hk],by simp only;rw [←hs];exact gC⟩,by show j < j+1;omega⟩
     ·rw [Zls (ltC_n hlt0)] at hI;rw [←hI] at hO;generalize hz1:Qt.cmp dj[j+1]! dj[j]! = z at *;clear hz1 hs g3;generalize dj[j+1]! = x at *;generalize dj[j]! = y at *;generalize hM:dj.toList.map Qt.av=M at *;obtain⟨x1,x2,x3,x4⟩:=x;obtain⟨y1,y2,y3,y4⟩:=y
      try simp only at *
      (focus (refine wkad (w_14 e0 e1 e2 e3 e8 e9 mK g1 g2 hml ej en hlt0 @Zat) (w_1 cc) (w_1 (w_d 4 [(14,iv z)] [] [])) ?_;(repeat' first|exact w_t|apply w_l);all_goals intros));exact⟨(i+1,dj),⟨⟨by show a < i+1;omega,by show i+1≤b+1;omega,hsj,hO⟩,by exact gW e0,by exact gW e1,by exact gW e2,by exact gW e3,by exact gS,λk hk=>by rw [←hm k hk];try simp (disch:=omega) [Zaj,marks,mark,hk],by simp only;rw [hM];(simp (disch:=omega) only [go_sem,mK]<;>repeat' first|rfl|refine⟨?_,?_⟩)⟩,by show b+1 - (i+1) < b+1 - i;omega⟩
    ·rw [Zlr (by omega)] at hI;rw [←hI] at hO;(focus (refine wkad (w_6 e0 e1 e2 e3 e8 e9) w_t w_t ?_;(repeat' first|exact w_t|apply w_l);all_goals intros));exact⟨(i+1,dj),⟨⟨by show a < i+1;omega,by show i+1≤b+1;omega,hsj,hO⟩,by exact gW e0,by exact gW e1,by exact gW e2,by exact gW e3,by exact gS,λk hk=>by rw [←hm k hk];try simp (disch:=omega) [Zaj,marks,mark,hk],by(simp (disch:=omega) only [go_sem,mK]<;>repeat' first|rfl|refine⟨?_,?_⟩)⟩,by show b+1 - (i+1) < b+1 - i;omega⟩
   ·exact⟨⟨by show a≤i;omega,Nat.le_refl _,hsz,rfl⟩,by exact gW e0,by exact gW e1,by exact gW e2,by exact gW e3,by exact gW e8,by exact gC,λk hk=>by rw [←hm k hk];try simp (disch:=omega) [Zaj,marks,mark,hk],by(simp (disch:=omega) only [go_sem,mK]<;>repeat' first|rfl|refine⟨?_,?_⟩)⟩
  ·rw [Zlp hlt] at hO;rw [hO] at mK;(focus (refine wkad (w_5 e0 e1 e2 e3 e8) w_t w_t ?_;(repeat' first|exact w_t|apply w_l);all_goals intros));simp (disch:=omega) only [go_sem];refine Zfs (Sub.refl _) ⟨rfl,rfl⟩ λk hk=>?_;by_cases e:k=K
   ·subst e;rw [mK];simp only [Zaj,if_pos]
   ·rw [hm k e];simp only [Zaj,if_neg e]
 ·exact⟨⟨Nat.lt_succ_self a,by show a+1≤b+1;omega,rfl,rfl⟩,by exact gC,by exact gC,by exact gC,by exact gC,by exact gS,λk hk=>by rw [←hL k];try simp (disch:=omega) [Zaj,marks,mark],by(simp (disch:=omega) only [go_sem,m0K]<;>repeat' first|rfl|refine⟨?_,?_⟩)⟩
theorem sqPdq' (n:Nat) (σ:Mem) (K:Nat) (sv:Value) (d:Array Qt) (a0 b0 lim0:Nat) (hn:b0 - a0=n) (h0:a0≤b0) (h1:b0≤d.size) (hl:lim0≤1000000) (hz:d.size≤12) (hB:Go.Sort.Below sqLt a0 b0 d) (hK:σ K=some (.row sv 27 4 ((d).toList.map Qt.av) 0)) :
 ACall Tryz.prog 154 [.own K sv,iv a0,iv b0,iv lim0,.fn 98 []] σ λr σ'=>r=.tup []∧σ'=upd σ K (some (.row sv 27 4 ((Go.Sort.pdq sqLt d a0 b0 lim0 true true).toList.map Qt.av) 0)):=by
 rw [Go.Pol.pdq_ins (by omega)];refine Zda (args':=[.own (K+1000) sv,iv a0,iv b0,iv lim0,.fn 98 []]) Tryz.func154 rfl Tryz.ntmps154 Tryz.results154 Tryz.call154 (by rfl) (by simp) (.cons (Sub.own _ _ _) (.cons (Sub.refl _) (.cons (Sub.refl _) (.cons (Sub.refl _) (.cons (Sub.refl _) .nil))))) ?_;have hL:∀k,lent σ (k+1000)=σ k:=λk=>by unfold lent;rw [if_neg (by omega),Nat.add_sub_cancel]
 generalize lent σ=m0 at *;have m0K:m0 (K+1000)=some (.row sv 27 4 ((d).toList.map Qt.av) 0):=by rw [hL,hK]
 have ci:=fun(m:Mem) h=>sqIns m (K+1000) sv d a0 b0 h0 h1 h (by omega);have hc:(b0:Int) - (a0:Int)=(n:Int):=by omega
 have h12:(n:Int)≤12:=by omega
 (focus (refine wkax (w_2 hc h12) w_t w_t w_t w_t w_t (w_r 2) ?_;(repeat' first|exact w_t|apply w_l);all_goals intros));refine Zga (ci _ (by(simp (disch:=omega) only [go_sem,m0K]<;>repeat' first|rfl|refine⟨?_,?_⟩))) ?_;(focus (refine wkad w_t w_t w_t ?_;(repeat' first|exact w_t|apply w_l);all_goals intros));simp (disch:=omega) only [go_sem];refine Zfs (Sub.refl _) ⟨rfl,rfl⟩ λk hk=>?_;by_cases e:k=K
 ·subst e;simp only [Zaj,if_pos]
 ·simp only [Zaj,if_neg e,if_neg (show ¬k+1000=K+1000 by omega)];exact hL k
theorem sqSortA (σ:Mem) (K:Nat) (sv:Value) (d:Array Qt) (hK:σ K=some (.row sv 27 4 ((d).toList.map Qt.av) 0)) (hz:d.size≤12):ACall Tryz.prog 97 [.own K sv,.fn 98 []] σ λr σ'=>r=.tup []∧σ'=upd σ K (some (.row sv 27 4 ((Go.Sort.pdq sqLt d 0 d.size (Go.Sort.bitsLen d.size) true true).toList.map Qt.av) 0)):=by
 refine Zda (args':=[.own (K+1000) sv,.fn 98 []]) Tryz.func97 rfl Tryz.ntmps97 Tryz.results97 Tryz.call97 (by rfl) (by simp) (.cons (Sub.own _ _ _) (.cons (Sub.refl _) .nil)) ?_;have hL:∀k,lent σ (k+1000)=σ k:=λk=>by unfold lent;rw [if_neg (by omega),Nat.add_sub_cancel]
 generalize lent σ=m0 at *;have m0K:m0 (K+1000)=some (.row sv 27 4 ((d).toList.map Qt.av) 0):=by rw [hL,hK]
 have cb:=bLen d.size (by omega);have hb:=Zl1 (x:=d.size) (by omega);have ci:=fun(σ:Mem) h=>sqPdq' d.size σ (K+1000) sv d 0 d.size (Go.Sort.bitsLen d.size) (Nat.sub_zero _) (Nat.zero_le _) (Nat.le_refl _) (by omega) hz (Or.inl rfl) h;generalize Go.Sort.pdq sqLt d 0 d.size (Go.Sort.bitsLen d.size) true true=V at *;have hml:=Znm Qt.av d;generalize Go.Sort.bitsLen d.size=lim at *;have ci:∀(σ:Mem),σ (K+1000)=some (.row sv 27 4 ((d).toList.map Qt.av) 0)→ACall Tryz.prog 154 [.own (K+1000) sv,iv 0,iv d.size,iv lim,.fn 98 []] σ _:=ci;(focus (refine wkap (w_2 m0K hml) (w_1 cb) (w_r 0) ?_;(repeat' first|exact w_t|apply w_l);all_goals intros))
 refine Zga (ci _ (by(simp (disch:=omega) only [go_sem,m0K]<;>repeat' first|rfl|refine⟨?_,?_⟩))) ?_;(focus (refine wkap w_t w_t (w_r 0) ?_;(repeat' first|exact w_t|apply w_l);all_goals intros));simp (disch:=omega) only [go_sem];refine Zfs (Sub.refl _) ⟨rfl,rfl⟩ λk hk=>?_;by_cases e:k=K
 ·subst e;rw [Zaj,if_pos rfl,Zaj,if_pos rfl]
 ·rw [Zaj,if_neg (by omega),Zaj,if_neg e,hL]
theorem qSort (σ:Mem) (K:Nat) (sv:Value) (L:List Qt) (hK:σ K=some (.row sv 27 4 (L.map Qt.av) 0)) (hl:L.length≤12):ACall Tryz.prog 97 [.own K sv,.fn 98 []] σ λr σ'=>r=.tup []∧σ'=upd σ K (some (.row sv 27 4 ((srtQ Qt.cmp L).map Qt.av) 0)):=by
 have h:=sqSortA σ K sv L.toArray hK (by simpa using hl);have e:=Zwj qtO (λq:Qt=>q) (λq:Qt=>q) L (λs _ t _ h=>h) (Go.Sort.bitsLen L.length);rw [List.map_id',List.map_id'] at e;have e:(Go.Sort.pdq sqLt L.toArray 0 L.length (Go.Sort.bitsLen L.length) true true).toList=srtQ Qt.cmp L:=e;rw [show L.toArray.size=L.length by simp,e] at h;exact h
abbrev TQ:Type:={s:Rat × List Qt // s.2.length≤1000000}
instance:Inhabited TQ:=⟨⟨(0,[]),Nat.zero_le _⟩⟩
abbrev tqA (x:TQ):AV:=qtA x.1
abbrev stLt:TQ→TQ→Bool:=ltC λs t=>ordT s.1 t.1
theorem tqCmp (x y:TQ):Pure Tryz.prog 119 [tqA x,tqA y] (iv (ordT x.1 y.1)):=exCmpT x.1 y.1 x.2 y.2
theorem stIns (σ:Mem) (K:Nat) (sv:Value) (d:Array TQ) (a b:Nat) (hab:a≤b) (hb:b≤d.size) (hK:σ K=some (.row sv 56 4 ((d).toList.map tqA) 0)) (hz:d.size≤1000000000):ACall Tryz.prog 211 [.own K sv,iv a,iv b,.fn 119 []] σ λr σ'=>r=.tup []∧σ'=upd σ K (some (.row sv 56 4 ((Go.Sort.insertionSort stLt d a b).toList.map tqA) 0)):=by
 refine Zda (args':=[.own (K+1000) sv,iv a,iv b,.fn 119 []]) Tryz.func211 rfl Tryz.ntmps211 Tryz.results211 Tryz.call211 (by rfl) (by simp) (.cons (Sub.own _ _ _) (.cons (Sub.refl _) (.cons (Sub.refl _) (.cons (Sub.refl _) .nil)))) ?_;have hL:∀k,lent σ (k+1000)=σ k:=λk=>by unfold lent;rw [if_neg (by omega),Nat.add_sub_cancel]
 generalize lent σ=m0 at *;have m0K:m0 (K+1000)=some (.row sv 56 4 ((d).toList.map tqA) 0):=by rw [hL,hK]
 (focus (refine wkad w_t w_t w_t ?_;(repeat' first|exact w_t|apply w_l);all_goals intros));refine Zac (ι:=Nat × Array TQ) (λp e m=>(a < p.1∧p.1≤b+1∧p.2.size=d.size∧Go.Sort.insOuter stLt a b p.1 p.2=Go.Sort.insertionSort stLt d a b)∧e 0=.own (K+1000) sv∧e 1=iv a∧e 2=iv b∧e 3=.fn 119 []∧e 8=iv p.1∧(∀k,k≠K→m (k+1000)=σ k)∧m (K+1000)=some (.row sv 56 4 ((p.2).toList.map tqA) 0)) (λp=>b+1 - p.1) (a+1,d) (by rfl) ?_ ?_
 ·rintro ⟨i,dk⟩ e m ⟨⟨hi1,hi,hsz,hO⟩,e0,e1,e2,e3,e8,hm,mK⟩
  simp only at hi1 hi hsz hO e8 mK;by_cases hlt:i < b
  ·rw [Zlo hlt] at hO;(focus (refine wkad (w_5 e0 e1 e2 e3 e8) w_t w_t ?_;(repeat' first|exact w_t|apply w_l);all_goals intros));refine Zac (ι:=Nat × Array TQ) (λp e m=>(a≤p.1∧p.1≤i∧p.2.size=d.size∧Go.Sort.insInner stLt a p.1 p.2=Go.Sort.insInner stLt a i dk)∧e 0=.own (K+1000) sv∧e 1=iv a∧e 2=iv b∧e 3=.fn 119 []∧e 8=iv i∧e 9=iv p.1∧(∀k,k≠K→m (k+1000)=σ k)∧m (K+1000)=some (.row sv 56 4 ((p.2).toList.map tqA) 0)) (λp=>p.1) (i,dk) (by rfl) ?_ ?_
   ·rintro ⟨j,dj⟩ e m ⟨⟨hj1,hj,hsj,hI⟩,e0,e1,e2,e3,e8,e9,hm,mK⟩
    simp only at hj1 hj hsj hI e9 mK;by_cases hja:a < j
    ·obtain⟨j,rfl⟩:∃t,j=t+1:=⟨j - 1,by omega⟩;have hml:=Znm tqA dj;rw [hsj] at hml;have g1:(dj.toList.map tqA).getD (j+1) .u=tqA dj[j+1]!:=Zpn tqA (by omega) _;have g2:(dj.toList.map tqA).getD j .u=tqA dj[j]!:=Zpn tqA (by omega) _;have hs:=Zyr tqA dj (j+1) j;have g3:=Zys tqA (d:=dj) (j:=j) (by omega) (j+1) AV.u;have cc:=tqCmp dj[j+1]! dj[j]!;have ej:(j:Int)+1 - 1=(j:Int):=by omega
     have en:((j+1:Nat):Int) - 1=(j:Int):=by omega
     by_cases hlt0:ordT dj[j+1]!.1 dj[j]!.1 < 0
     ·rw [Zlq (by omega) (ltC_y hlt0)] at hI;have hsw:(Go.Sort.swp dj (j+1) j).size=d.size:=by rw [Go.Sort.size_swp,hsj]
      generalize Go.Sort.swp dj (j+1) j=dn at *;generalize hz1:ordT dj[j+1]!.1 dj[j]!.1=z at *;clear hz1;generalize dj[j+1]! = x at *;generalize dj[j]! = y at *;generalize dj.toList.map tqA=M at *;obtain⟨⟨x1,x2⟩,x3⟩:=x;obtain⟨⟨y1,y2⟩,y3⟩:=y
      try simp only [tqA] at *
      (focus (refine wkad (w_16 e0 e1 e2 e3 e8 e9 mK g1 g2 g3 hml ej en hlt0 @Zat @l_set) (w_1 cc) (w_2 (w_d 4 [(14,iv z)] [] []) (w_d 6 [] [15,2015,16,17] [])) ?_;(repeat' first|exact w_t|apply w_l);all_goals intros));exact⟨(j,dn),⟨⟨by show a≤j;omega,by show j≤i;omega,hsw,hI⟩,by exact gW e0,by exact gW e1,by exact gW e2,by exact gW e3,by exact gW e8,by exact gW en,λk hk=>by rw [←hm k hk];try simp (disch:=omega) [Zaj,marks,mark,hk],by simp only;rw [←hs];exact gC⟩,by show j < j+1;omega⟩
     ·rw [Zls (ltC_n hlt0)] at hI;rw [←hI] at hO;generalize hz1:ordT dj[j+1]!.1 dj[j]!.1=z at *;clear hz1 hs g3;generalize dj[j+1]! = x at *;generalize dj[j]! = y at *;generalize hM:dj.toList.map tqA=M at *;obtain⟨⟨x1,x2⟩,x3⟩:=x;obtain⟨⟨y1,y2⟩,y3⟩:=y
      try simp only [tqA] at *
      (focus (refine wkad (w_14 e0 e1 e2 e3 e8 e9 mK g1 g2 hml ej en hlt0 @Zat) (w_1 cc) (w_1 (w_d 4 [(14,iv z)] [] [])) ?_;(repeat' first|exact w_t|apply w_l);all_goals intros));exact⟨(i+1,dj),⟨⟨by show a < i+1;omega,by show i+1≤b+1;omega,hsj,hO⟩,by exact gW e0,by exact gW e1,by exact gW e2,by exact gW e3,by exact gS,λk hk=>by rw [←hm k hk];try simp (disch:=omega) [Zaj,marks,mark,hk],by simp only;rw [hM];(simp (disch:=omega) only [go_sem,mK]<;>repeat' first|rfl|refine⟨?_,?_⟩)⟩,by show b+1 - (i+1) < b+1 - i;omega⟩
    ·rw [Zlr (by omega)] at hI;rw [←hI] at hO;(focus (refine wkad (w_6 e0 e1 e2 e3 e8 e9) w_t w_t ?_;(repeat' first|exact w_t|apply w_l);all_goals intros));exact⟨(i+1,dj),⟨⟨by show a < i+1;omega,by show i+1≤b+1;omega,hsj,hO⟩,by exact gW e0,by exact gW e1,by exact gW e2,by exact gW e3,by exact gS,λk hk=>by rw [←hm k hk];try simp (disch:=omega) [Zaj,marks,mark,hk],by(simp (disch:=omega) only [go_sem,mK]<;>repeat' first|rfl|refine⟨?_,?_⟩)⟩,by show b+1 - (i+1) < b+1 - i;omega⟩
   ·exact⟨⟨by show a≤i;omega,Nat.le_refl _,hsz,rfl⟩,by exact gW e0,by exact gW e1,by exact gW e2,by exact gW e3,by exact gW e8,by exact gC,λk hk=>by rw [←hm k hk];try simp (disch:=omega) [Zaj,marks,mark,hk],by(simp (disch:=omega) only [go_sem,mK]<;>repeat' first|rfl|refine⟨?_,?_⟩)⟩
  ·rw [Zlp hlt] at hO;rw [hO] at mK;(focus (refine wkad (w_5 e0 e1 e2 e3 e8) w_t w_t ?_;(repeat' first|exact w_t|apply w_l);all_goals intros));simp (disch:=omega) only [go_sem];refine Zfs (Sub.refl _) ⟨rfl,rfl⟩ λk hk=>?_;by_cases e:k=K
   ·subst e;rw [mK];simp only [Zaj,if_pos]
   ·rw [hm k e];simp only [Zaj,if_neg e]
 ·exact⟨⟨Nat.lt_succ_self a,by show a+1≤b+1;omega,rfl,rfl⟩,by exact gC,by exact gC,by exact gC,by exact gC,by exact gS,λk hk=>by rw [←hL k];try simp (disch:=omega) [Zaj,marks,mark],by(simp (disch:=omega) only [go_sem,m0K]<;>repeat' first|rfl|refine⟨?_,?_⟩)⟩
theorem stPdq' (n:Nat) (σ:Mem) (K:Nat) (sv:Value) (d:Array TQ) (a0 b0 lim0:Nat) (hn:b0 - a0=n) (h0:a0≤b0) (h1:b0≤d.size) (hl:lim0≤1000000) (hz:d.size≤12) (hB:Go.Sort.Below stLt a0 b0 d) (hK:σ K=some (.row sv 56 4 ((d).toList.map tqA) 0)) :
 ACall Tryz.prog 170 [.own K sv,iv a0,iv b0,iv lim0,.fn 119 []] σ λr σ'=>r=.tup []∧σ'=upd σ K (some (.row sv 56 4 ((Go.Sort.pdq stLt d a0 b0 lim0 true true).toList.map tqA) 0)):=by
 rw [Go.Pol.pdq_ins (by omega)];refine Zda (args':=[.own (K+1000) sv,iv a0,iv b0,iv lim0,.fn 119 []]) Tryz.func170 rfl Tryz.ntmps170 Tryz.results170 Tryz.call170 (by rfl) (by simp) (.cons (Sub.own _ _ _) (.cons (Sub.refl _) (.cons (Sub.refl _) (.cons (Sub.refl _) (.cons (Sub.refl _) .nil))))) ?_;have hL:∀k,lent σ (k+1000)=σ k:=λk=>by unfold lent;rw [if_neg (by omega),Nat.add_sub_cancel]
 generalize lent σ=m0 at *;have m0K:m0 (K+1000)=some (.row sv 56 4 ((d).toList.map tqA) 0):=by rw [hL,hK]
 have ci:=fun(m:Mem) h=>stIns m (K+1000) sv d a0 b0 h0 h1 h (by omega);have hc:(b0:Int) - (a0:Int)=(n:Int):=by omega
 have h12:(n:Int)≤12:=by omega
 (focus (refine wkax (w_2 hc h12) w_t w_t w_t w_t w_t (w_r 2) ?_;(repeat' first|exact w_t|apply w_l);all_goals intros));refine Zga (ci _ (by(simp (disch:=omega) only [go_sem,m0K]<;>repeat' first|rfl|refine⟨?_,?_⟩))) ?_;(focus (refine wkad w_t w_t w_t ?_;(repeat' first|exact w_t|apply w_l);all_goals intros));simp (disch:=omega) only [go_sem];refine Zfs (Sub.refl _) ⟨rfl,rfl⟩ λk hk=>?_;by_cases e:k=K
 ·subst e;simp only [Zaj,if_pos]
 ·simp only [Zaj,if_neg e,if_neg (show ¬k+1000=K+1000 by omega)];exact hL k
theorem stSortA (σ:Mem) (K:Nat) (sv:Value) (d:Array TQ) (hK:σ K=some (.row sv 56 4 ((d).toList.map tqA) 0)) (hz:d.size≤12):ACall Tryz.prog 118 [.own K sv,.fn 119 []] σ λr σ'=>r=.tup []∧σ'=upd σ K (some (.row sv 56 4 ((Go.Sort.pdq stLt d 0 d.size (Go.Sort.bitsLen d.size) true true).toList.map tqA) 0)):=by
 refine Zda (args':=[.own (K+1000) sv,.fn 119 []]) Tryz.func118 rfl Tryz.ntmps118 Tryz.results118 Tryz.call118 (by rfl) (by simp) (.cons (Sub.own _ _ _) (.cons (Sub.refl _) .nil)) ?_;have hL:∀k,lent σ (k+1000)=σ k:=λk=>by unfold lent;rw [if_neg (by omega),Nat.add_sub_cancel]
 generalize lent σ=m0 at *;have m0K:m0 (K+1000)=some (.row sv 56 4 ((d).toList.map tqA) 0):=by rw [hL,hK]
 have cb:=bLen d.size (by omega);have hb:=Zl1 (x:=d.size) (by omega);have ci:=fun(σ:Mem) h=>stPdq' d.size σ (K+1000) sv d 0 d.size (Go.Sort.bitsLen d.size) (Nat.sub_zero _) (Nat.zero_le _) (Nat.le_refl _) (by omega) hz (Or.inl rfl) h;generalize Go.Sort.pdq stLt d 0 d.size (Go.Sort.bitsLen d.size) true true=V at *;have hml:=Znm tqA d;generalize Go.Sort.bitsLen d.size=lim at *;have ci:∀(σ:Mem),σ (K+1000)=some (.row sv 56 4 ((d).toList.map tqA) 0)→ACall Tryz.prog 170 [.own (K+1000) sv,iv 0,iv d.size,iv lim,.fn 119 []] σ _:=ci;(focus (refine wkap (w_2 m0K hml) (w_1 cb) (w_r 0) ?_;(repeat' first|exact w_t|apply w_l);all_goals intros))
 refine Zga (ci _ (by(simp (disch:=omega) only [go_sem,m0K]<;>repeat' first|rfl|refine⟨?_,?_⟩))) ?_;(focus (refine wkap w_t w_t (w_r 0) ?_;(repeat' first|exact w_t|apply w_l);all_goals intros));simp (disch:=omega) only [go_sem];refine Zfs (Sub.refl _) ⟨rfl,rfl⟩ λk hk=>?_;by_cases e:k=K
 ·subst e;rw [Zaj,if_pos rfl,Zaj,if_pos rfl]
 ·rw [Zaj,if_neg (by omega),Zaj,if_neg e,hL]
theorem stSortN (σ:Mem) (K:Nat) (sv:Value) (L:List (Rat × List Qt)) (hK:σ K=some (.row sv 56 4 (L.map qtA) 0)) (hl:L.length≤12) (hq:∀t∈L,t.2.length≤1000000) (hd:Dst L):ACall Tryz.prog 118 [.own K sv,.fn 119 []] σ λr σ'=>r=.tup []∧σ'=upd σ K (some (.row sv 56 4 ((srtQ ordT L).map qtA) 0)):=by
 obtain⟨L',hL'⟩:∃L':List TQ,L=L'.map λs=>s.1:=⟨L.pmap Subtype.mk hq,by rw [List.map_pmap];simp⟩;have ha:∀M:List TQ,(M.map λs=>s.1).map qtA=M.map tqA:=λM=>by rw [List.map_map];rfl
 have hK2:σ K=some (.row sv 56 4 (L'.toArray.toList.map tqA) 0):=by rw [hK,hL',ha]
 have hll:L'.length=L.length:=by rw [hL',List.length_map]
 have h:=stSortA σ K sv L'.toArray hK2 (by simpa [hll] using hl);have e:=Zwj Zbp (λs:Rat × List Qt=>s.2) (λs:TQ=>s.1) L' (by rw [←hL'];exact dst_inj hd) (Go.Sort.bitsLen L'.length);rw [show L'.toArray.size=L'.length by simp,←ha] at h;rw [←hL'] at e;have e:(Go.Sort.pdq stLt L'.toArray 0 L'.length (Go.Sort.bitsLen L'.length) true true).toList.map (λs=>s.1)=srtQ ordT L:=e;rw [e] at h;exact h
def maxQ:Nat:=12
theorem Zkl:maxQ≤1000:=by unfold maxQ;omega
theorem Zxc:12≤maxQ:=by unfold maxQ;omega
def maxT:Nat:=12
theorem Zmz:maxT≤100000000:=by unfold maxT;omega
theorem Zxb:12≤maxT:=by unfold maxT;omega
theorem stSortT (σ:Mem) (K:Nat) (sv:Value) (L:List (Rat × List Qt)) (hK:σ K=some (.row sv 56 4 (L.map qtA) 0)) (hl:L.length≤maxT) (hq:∀t∈L,t.2.length≤1000000) (hd:Dst L):ACall Tryz.prog 118 [.own K sv,.fn 119 []] σ λr σ'=>r=.tup []∧σ'=upd σ K (some (.row sv 56 4 ((srtQ ordT L).map qtA) 0)):=stSortN σ K sv L hK (by unfold maxT at hl;omega) hq hd
end Go.Proofs.YtjgdomdhjphgbaaGreatDoor
namespace Go.Proofs.YtjgdomdhjphgbaaGreatDoor
open Go Go.RowKit Go.Pg
attribute [-bool_to_prop] Bool.and_eq_decide Bool.or_eq_decide Bool.decide_beq_decide decide_eq_decide
theorem zSum:Za0 Tryz.prog 145=some (.agg #[.map none,.slice none 0 0]):=by kernel_rfl
theorem zMap:Za0 Tryz.prog 143=some (.map none):=by kernel_rfl
end Go.Proofs.YtjgdomdhjphgbaaGreatDoor
namespace Go.Pg
open Go Go.RowKit
section
variable {P:Program} {all rest:List Oper} {K:St→Prop} {e:Nat→AV} {m:Mem} {dst:Option Nat} {d t j:Nat} {op:Op} {ty:TypeId} {pos:String} {af:Array Edge} {r:Res} {rs:Nat→AV} {bar:List Nat} {fu k:Nat} {σs:Mem}
theorem gy5d (hb:bar.contains k=true) (hs:(bar.contains (k+1000) || bar.contains (k+3000))=false) (h2:bar.contains (k+2000)=true) (ho:all[k]?=some ⟨some d,op,ty,pos,af,none⟩) (h:Ev (Zai P ⟨e,m⟩ op=r)) (hkp:Ev (Za1 Zae r)) (hk:aRes P d (some d) r (Zbt P 0 all rs bar Zae fu (k+1) K) ⟨e,m⟩):Zbt P 0 all rs bar σs (fu+1) k K ⟨e,m⟩:=by
 rw [Zcd];unfold Zds;rw [ho];simp only [Bool.or_eq_false_iff] at hs;simp only [Zb1,hb,hs,h2,if_true,Bool.false_eq_true,if_false];have h:Zai P ⟨e,m⟩ op=r:=h;refine⟨?_,λ_=>⟨rfl,by rw [h];exact hkp,λh=>by cases h⟩⟩;unfold Zfo;rw [Zdb,h,Option.getD_some,Nat.zero_add];exact hk
end
end Go.Pg
namespace Go.Proofs.YtjgdomdhjphgbaaGreatDoor
open Go Go.RowKit Go.Pg Go.Pol
attribute [-bool_to_prop] Bool.and_eq_decide Bool.or_eq_decide Bool.decide_beq_decide decide_eq_decide
attribute [local go_sem] Tryz.underlying3 Tryz.underlying4 Tryz.underlying160 Tryz.underlying49 Tryz.underlying51 Tryz.underlying53 Tryz.underlying27 Tryz.underlying54 Tryz.underlying56 Tryz.underlying30 Tryz.underlying31 sz3 by3 z3 szB zB Zax zRat Za3 zInt Za2 zNat Zag Zaq Zah Bool.and_self Zal Zbh zSlQ szQT byQT zQT Zbj zSlT szQP zQP Tryz.underlying9 Tryz.underlying145 Tryz.underlying107 Tryz.underlying143 Zn0 Zi3 Znt Zn1 Zbq zStr zSum zMap
def mpN:QTs→Nat→List (ByteArray × AV)
 | [],_=>[]
 | t :: l,n=>(keyS t.2,iv n) :: mpN l (n+1)
abbrev mpE (T:QTs):List (ByteArray × AV):=mpN T 0
def B8 (T:QTs):Prop:=∀t∈T,∀q∈t.2,q.b8
theorem Zw4 (l:QTs) (t:Rat × List Qt):∀n,mpN (l++[t]) n=mpN l n++[(keyS t.2,iv ((n+l.length:Nat)))]:=by
 induction l with
 | nil=>intro n;rfl
 | cons a l ih =>
   intro n;show(keyS a.2,iv n) :: mpN (l++[t]) (n+1)=_;rw [ih];show _=(keyS a.2,iv n) :: (mpN l (n+1)++_);rw [show n+1+l.length=n+(a :: l).length by simp only [List.length_cons];omega]
theorem Zsa {l m:QTs} (h:l.map (λt=>t.2)=m.map λt=>t.2):∀n,mpN l n=mpN m n:=by
 induction l generalizing m with
 | nil=>intro n;cases m with
   | nil=>rfl
   | cons b m=>simp at h
 | cons a l ih=>intro n;cases m with
   | nil=>simp at h
   | cons b m =>
     simp only [List.map_cons,List.cons.injEq] at h;show(keyS a.2,iv n) :: mpN l (n+1)=(keyS b.2,iv n) :: mpN m (n+1);rw [h.1,ih h.2]
theorem Zqm:∀{T:QTs} {p:List Qt} {i:Nat} (hi:i < T.length) (n:Nat),B8 T→(∀q∈p,q.b8)→T[i].2=p→(∀j (h:j < T.length),j < i→T[j].2≠p)→Zht (keyS p) (mpN T n)=some (iv ((n+i:Nat)))
 | [],p,i,hi,_,_,_,_,_=>by simp at hi
 | t :: T,p,0,hi,n,hb,hp,he,_=>by
   show(if keyS t.2=keyS p then _ else _)=_;have he:t.2=p:=he;rw [if_pos (by rw [he])];rfl
 | t :: T,p,i+1,hi,n,hb,hp,he,hn=>by
   show(if keyS t.2=keyS p then _ else Zht (keyS p) (mpN T (n+1)))=_;have h0:t.2≠p:=hn 0 (by simp) (by omega);rw [if_neg (λh=>h0 (Zse (hb t (.head _)) hp h)),Zqm (by simpa using hi) (n+1) (λu hu=>hb u (.tail _ hu)) hp he (λj h hj=>hn (j+1) (by simpa using h) (by omega))];rw [show n+1+i=n+(i+1) by omega]
theorem Zki:∀{T:QTs} {p:List Qt} (n:Nat),B8 T→(∀q∈p,q.b8)→(∀j (h:j < T.length),T[j].2≠p)→Zht (keyS p) (mpN T n)=none∧∀x,Zh6 (keyS p) x (mpN T n)=mpN T n++[(keyS p,x)]
 | [],p,_,_,_,_=>⟨rfl,λ_=>rfl⟩
 | t :: T,p,n,hb,hp,hn=>by
   have h0:t.2≠p:=hn 0 (by simp);have hk:¬keyS t.2=keyS p:=λh=>h0 (Zse (hb t (.head _)) hp h);obtain⟨h1,h2⟩:=Zki (n+1) (λu hu=>hb u (.tail _ hu)) hp (λj h=>hn (j+1) (by simpa using h));refine⟨?_,λx=>?_⟩
   ·show(if keyS t.2=keyS p then _ else Zht (keyS p) (mpN T (n+1)))=_;rw [if_neg hk,h1]
   ·show(if keyS t.2=keyS p then _ else _ :: Zh6 (keyS p) x (mpN T (n+1)))=_;rw [if_neg hk,h2];rfl
theorem Zyw:∀{T:QTs} {t:Rat × List Qt} {i:Nat} (hi:i < T.length),T[i].2=t.2→(∀j (h:j < T.length),j < i→T[j].2≠t.2)→addC T t=T.set i (T[i].1+t.1,T[i].2)
 | [],t,i,hi,_,_=>by simp at hi
 | s :: T,t,0,hi,he,_=>by
   have he:s.2=t.2:=he;show(if s.2=t.2 then _ else _)=_;rw [if_pos he];rfl
 | s :: T,t,i+1,hi,he,hn=>by
   show(if s.2=t.2 then _ else s :: addC T t)=_;have h0:s.2≠t.2:=hn 0 (by simp) (by omega);rw [if_neg h0,Zyw (i:=i) (by simpa using hi) he (λj h hj=>hn (j+1) (by simpa using h) (by omega))];rfl
theorem Zyx:∀{T:QTs} {t:Rat × List Qt},(∀j (h:j < T.length),T[j].2≠t.2)→addC T t=T++[t]
 | [],t,_=>rfl
 | s :: T,t,hn=>by
   show(if s.2=t.2 then _ else s :: addC T t)=_;have h0:s.2≠t.2:=hn 0 (by simp);rw [if_neg h0,Zyx (λj h=>hn (j+1) (by simpa using h))];rfl
theorem Zsn (T:QTs) (p:List Qt):(∃i,∃h:i < T.length,T[i].2=p∧∀j (h:j < T.length),j < i→T[j].2≠p)∨∀j (h:j < T.length),T[j].2≠p:=by
 induction T with
 | nil=>exact .inr λj h=>by simp at h
 | cons t T ih =>
   by_cases h:t.2=p
   ·exact .inl ⟨0,by simp,h,λj _ hj=>by omega⟩
   ·rcases ih with⟨i,hi,h1,h2⟩ | h2
    ·refine .inl ⟨i+1,by simpa using hi,h1,λj hj hji=>?_⟩
     cases j with
     | zero=>exact h
     | succ j=>exact h2 j (by simpa using hj) (by omega)
    ·refine .inr λj hj=>?_
     cases j with
     | zero=>exact h
     | succ j=>exact h2 j (by simpa using hj)
theorem exNew (σ:Mem) (KB KM:Nat) (hne:KM≠KB):ACall Tryz.prog 58 [] σ λr σ'=>∃g h,r=.pbox KB g 0∧σ'=upd (upd σ KM (some (.map h []))) KB (some (.box g 145 [.mp KM h,.v (.slice none 0 0)] false)):=by
 refine Zq4 (args':=[]) Tryz.func58 rfl Tryz.ntmps58 Tryz.results58 Tryz.call58 (by rfl) (by simp) .nil ?_;have hL:∀k,lent σ (k+1000)=σ k:=λk=>by unfold lent;rw [if_neg (by omega),Nat.add_sub_cancel]
 generalize lent σ=m0 at *;(focus (refine wkap w_t w_t (w_r 0) ?_;(repeat' first|exact w_t|apply w_l);all_goals intros));simp (disch:=omega) only [go_sem];rename_i h g;refine⟨.pbox KB g 0,_,λk=>if k=KB then 3 else if k=KM then 1 else k+1000,Sub.pbox _ _ _ _,⟨g,h,rfl,rfl⟩,λk e hk=>?_,λk k' _ _ he=>?_⟩
 ·by_cases h1:k=KB
  ·subst h1;rw [Zaj,if_pos rfl] at hk;injection hk with hk
   subst hk;refine⟨.box g 145 [.mp 1 h,.v (.slice none 0 0)] false,by simp (disch:=omega) only [go_sem,if_pos];rfl,EntSub.box rfl (λx hx=>?_) λj a b ha hb=>?_⟩
   ·simp only [List.mem_cons,List.not_mem_nil,or_false] at hx;rcases hx with rfl | rfl<;>rfl
   ·match j,ha,hb with
    | 0,ha,hb=>simp only [List.getElem?_cons_zero,Option.some.injEq] at ha hb;subst ha;subst hb;exact Sub.mp _ _ _
    | 1,ha,hb=>simp only [List.getElem?_cons_succ,List.getElem?_cons_zero,Option.some.injEq] at ha hb;subst ha;subst hb;exact Sub.refl _
    | j+2,ha,hb=>simp at ha
  ·rw [Zaj,if_neg h1] at hk;simp only [if_neg h1];by_cases h2:k=KM
   ·subst h2;rw [Zaj,if_pos rfl] at hk;injection hk with hk
    subst hk;simp only [if_true];exact⟨.map h [],by simp (disch:=omega) only [go_sem,if_pos,if_neg],EntSub.refl _⟩
   ·rw [Zaj,if_neg h2] at hk;simp only [if_neg h2];exact⟨e,by rw [←hk,←hL k];simp (disch:=omega) only [go_sem,if_neg],EntSub.refl _⟩
 ·simp only at he;split at he<;>split at he<;>(try split at he)<;>(try split at he)<;>first|omega|(subst_vars;rfl)
theorem exAdd (σ:Mem) (KB KM KT g h:Nat) (sv:Value) (T:QTs) (a:Rat) (p:List Qt) {j k:Nat} (hB:σ KB=some (.box g 145 [.mp KM h,.own KT sv] false)) (hM:σ KM=some (.map h (mpE T))) (hT:σ KT=some (.row sv 56 4 (T.map qtA) 0))
 (n1:KB≠KM) (n2:KB≠KT) (n3:KM≠KT) (hl:T.length≤100000000) (hp:p.length≤1000) (b1:B8 T) (b2:∀q∈p,q.b8) (hs:∀t∈T,Sz t.1 j) (ha:Sz a k) (hj:j≤1000000) (hk:k≤1000000) :
 ACall Tryz.prog 59 [.pbox KB g 0,ratQ a,qsA p] σ λr σ'=>∃sv',r=.tup []∧σ'=upd (upd (upd σ KM (some (.map h (mpE (addC T (a,p)))))) KT (some (.row sv' 56 4 ((addC T (a,p)).map qtA) 0))) KB (some (.box g 145 [.mp KM h,.own KT sv'] false)):=by
 have mB:=Zcn hB;have mM:=Zcn hM;have mT:=Zcn hT;simp only [Ent.sh,AV.shL,AV.sh] at mB mM mT;have ck:=exKey p hp;have hlT:(T.map qtA).length=T.length:=List.length_map ..;rcases Zsn T p with⟨i,hi,he,hf⟩ | hf
 ·have hget:Zht (keyS p) (mpE T)=some (iv i):=by have:=Zqm hi 0 b1 b2 he hf;rwa [Nat.zero_add] at this
  have hadd:=Zyw (t:=(a,p)) hi he hf
  have hkeys:mpE (addC T (a,p))=mpE T:=by
   refine Zsa ?_ 0;rw [hadd,List.map_set];show(T.map _).set i T[i].2=_;rw [←List.getElem_map (f:=λt:Rat × List Qt=>t.2) (h:=by rw [List.length_map];exact hi)];exact List.set_getElem_self _
  have hgi:(T.map qtA).getD i .u=qtA T[i]:=Zap qtA hi;have hst:(T.map qtA).set i (qtA (T[i].1+a,T[i].2))=(addC T (a,p)).map qtA:=by rw [hadd,List.map_set]
  have ca:=Zv5 T[i].1 a (hs _ (List.getElem_mem hi)) ha (by omega) (by omega);rw [hkeys];clear hs ha b1 b2 hf hadd hkeys;generalize T[i]=t at *;obtain⟨t1,t2⟩:=t;simp only at *;refine Zdo Tryz.func59 rfl Tryz.ntmps59 Tryz.results59 Tryz.call59 (by rfl) (by simp) ?_;generalize hRR:(addC T (a,p)).map qtA=R at *;generalize T.map qtA=TA at *;generalize mpE T=es at *;(focus (refine wkad (w_8 mB mM mT @Zcm @Zb7 hget hgi hlT) (w_2 ck ca) (w_1 (w_d 4 [(14,ratQ (t1+a))] [17] [])) ?_;(repeat' first|exact w_t|apply w_l);all_goals intros));simp (disch:=omega) only [go_sem];have e1:upd σ KM (some (.map h es))=σ:=Zge hM
  have e2:upd (upd σ KT (some (.row sv 56 4 R 0))) KB (some (.box g 145 [.mp KM h,.own KT sv] false))=upd σ KT (some (.row sv 56 4 R 0)):=Zge (by rw [Zaj,if_neg n2];exact hB);refine Zue (Sub.refl _) ⟨sv,rfl,rfl⟩ ?_;rw [e1,e2];exact((Agr.start σ).own (by omega)).put rfl (by rw [←hst];rfl)
 ·have hget:Zht (keyS p) (mpE T)=none:=(Zki 0 b1 b2 hf).1;have hput:∀x,Zh6 (keyS p) x (mpE T)=mpE T++[(keyS p,x)]:=(Zki 0 b1 b2 hf).2;have hadd:=Zyx (t:=(a,p)) hf;have hmp:mpE (addC T (a,p))=mpE T++[(keyS p,iv T.length)]:=by rw [hadd];show mpN _ 0=_;rw [Zw4,Nat.zero_add]
  have hrow:(addC T (a,p)).map qtA=T.map qtA++[.agg [.v (.bool (decide (a.num < 0))),lim (toL a.num.natAbs),lim (toL a.den),.sl 4 (p.map Qt.av)]]:=by rw [hadd,List.map_append];rfl
  rw [hmp,hrow];clear hs ha b1 b2 hf hadd hmp hrow;refine Zdo Tryz.func59 rfl Tryz.ntmps59 Tryz.results59 Tryz.call59 (by rfl) (by simp) ?_;generalize T.map qtA=TA at *;generalize mpE T=es at *
  (repeat' (first|((with_reducible apply gy5d);iterate 4 focus rfl)|(with_reducible first|refine stp ?_|apply gx1|apply gx2|apply gx3|apply gx4|apply gx5|apply gx6|apply gx7|apply gy8|apply gz2|apply gz3|refine gw0 (ck) ?_ ?_|refine gw3 (ck) ?_ ?_ ?_)|(with_reducible refine Zbb ?_;intro _)|((with_reducible refine gE ?_);(try simp (disch:=omega) only [go_sem,mB,mM,mT,Zcm,Zb7,hget,hput,hlT,decide_eq_true,decide_eq_false,if_pos,if_neg,Int.reduceAdd,Int.reduceSub,Int.reduceToNat,Int.zero_add])<;>first|rfl|omega)|with_reducible refine Zab (by decide) ?_|((with_reducible apply gy1);iterate 3 focus rfl)|((with_reducible apply gy2);iterate 3 focus rfl)|((with_reducible apply gy3);iterate 2 focus rfl)|((with_reducible apply gy4);iterate 1 focus rfl)|((with_reducible apply gy5);iterate 4 focus rfl)|((with_reducible apply gy5c);iterate 4 focus rfl)|((with_reducible apply gy6);iterate 4 focus rfl)|((with_reducible apply Zb8);iterate 3 focus rfl)|((with_reducible apply Zb6);iterate 1 focus rfl)|((with_reducible apply gy7);iterate 1 focus rfl)|((with_reducible apply gy9);(focus ((with_reducible refine gE ?_);(try simp (disch:=omega) only [go_sem,mB,mM,mT,Zcm,Zb7,hget,hput,hlT,decide_eq_true,decide_eq_false,if_pos,if_neg,Int.reduceAdd,Int.reduceSub,Int.reduceToNat,Int.zero_add])<;>rfl)))|((with_reducible apply gz1);(focus first|rfl|(simp (disch:=omega) only [go_sem,mB,mM,mT,Zcm,Zb7,hget,hput,hlT,decide_eq_true,decide_eq_false,if_pos,if_neg,Int.reduceAdd,Int.reduceSub,Int.reduceToNat,Int.zero_add];done)))|((with_reducible apply Zan (id:=5) (Zbi []) [10] []);(focus kernel_rfl);(focus rfl);(focus kernel_rfl);(focus (simp only [List.length_cons,List.length_nil,Nat.reduceAdd];rfl)))|((with_reducible apply Zan (id:=6) (Zbi []) [9,2009,12] []);(focus kernel_rfl);(focus rfl);(focus kernel_rfl);(focus (simp only [List.length_cons,List.length_nil,Nat.reduceAdd];rfl)))|((with_reducible first|apply Zay|apply Za5|apply Zaz);all_goals (intro hc;(try simp only [bool_to_prop] at hc);try (exfalso;omega)))))
  simp (disch:=omega) only [go_sem];rename_i x1 x2 x3;refine Zue (Sub.refl _) ⟨x3,rfl,rfl⟩ ?_;refine Agr.put ?_ rfl rfl;refine Agr.put ?_ rfl rfl;refine Agr.own ?_ (by omega);refine Agr.put ?_ rfl rfl;refine Agr.own ?_ (by omega);exact Agr.start σ
end Go.Proofs.YtjgdomdhjphgbaaGreatDoor
namespace Go.Pg
open Go Go.RowKit
theorem EntSub.of_sh (e:Ent):EntSub e.sh e:=⟨(Ent.sh_blk e).symm,λ_ _ _ h=>Ent.of_sh h⟩
theorem Zgx {P:Program} {f n:Nat} {fn:Func} {code:Code} {rs:List ResultVar} {args:List AV} {σ:Mem} {R:AV→Mem→Prop} (hf:P.funcs[f]?=some fn) (hb:fn.body=some code) (hn:fn.ntmps=n) (hrs:fn.results=rs.toArray)
 (hc:∀(vs:Array Value) (w:World),(callFunc f vs).run P w=.ok (.enter f vs) w) (hfit:Zbo n code=true) (hal:args.length≤n)
 (h:Za8 P 0 n code (Done P rs λst b=>Zy2 R b st.mem) ⟨λt=>(AV.shL args).getD t .u,Zdz σ⟩):ACall P f args σ R:=by
 have key:=Zbz (σ:=Zdz σ) (R:=Zy2 R) hf hb hn hrs hc hfit (by rw [AV.shL_len];exact hal) h;refine⟨hc,λc w imm vs hm hl hr=>?_⟩
 have hm':Mx c (Zdz σ) w imm:=by
  refine⟨⟨λk e hk=>?_,λk k' e e' b h1 h2 h3 h4=>?_,hm.ok.lt,hm.ok.spot⟩,hm.below,hm.lt,hm.old,hm.new,hm.cells⟩
  ·unfold Zdz at hk;split at hk
   ·cases hk
   ·obtain⟨e0,h0,rfl⟩:=Option.map_eq_some_iff.1 hk;exact Ent.sh_ok (hm.ok.ent _ _ h0)
  ·unfold Zdz at h1 h2;split at h1
   ·cases h1
   ·split at h2
    ·cases h2
    ·obtain⟨e0,k0,rfl⟩:=Option.map_eq_some_iff.1 h1;obtain⟨e1,k1,rfl⟩:=Option.map_eq_some_iff.1 h2;rw [Ent.sh_blk] at h3 h4;have:=hm.ok.apart _ _ _ _ b k0 k1 h3 h4;omega
 refine(key.2 c w imm vs hm' (by rw [AV.shL_len];exact hl) λj a x h1 h2=>?_).mono λe w' he=>?_
 ·rw [AV.shL_at] at h1;obtain⟨y,hy,rfl⟩:=Option.map_eq_some_iff.1 h1;exact(AV.sub_sh y).1 w imm x (hr j y x hy h2)
 ·obtain⟨b,m,imm',x,rfl,⟨r,σ',ρ,h1,h2,h3,h4⟩,h5,h6,h7⟩:=he;exact⟨r,σ',imm',x,rfl,h2,h1 _ _ _ h5,h6.renameG ρ h3 h4,h7⟩
theorem Zig {R:AV→Mem→Prop} {b r:AV} {m σ σ':Mem} (d t:Nat) (hd:d < 1000) (hs:Sub b r) (hR:R r σ') (ht:m d=σ' t) (hm:∀k,k≠t→σ' k≠none→m (k+1000)=(σ' k).map Ent.sh):Zy2 R b m :=
 ⟨r,σ',λk=>if k=t then d else k+1000,hs,hR,λk e h=>by
  by_cases hk:k=t
  ·subst hk;simp only [if_true];exact⟨e,by rw [ht,h],EntSub.refl _⟩
  ·simp only [if_neg hk];exact⟨e.sh,by rw [hm k hk (by rw [h];simp),h];rfl,EntSub.of_sh e⟩,λk k' _ _ h=>by
  by_cases hk:k=t<;>by_cases hk':k'=t
  ·rw [hk,hk']
  ·simp only [if_pos hk,if_neg hk'] at h;omega
  ·simp only [if_neg hk,if_pos hk'] at h;omega
  ·simp only [if_neg hk,if_neg hk'] at h;omega⟩
end Go.Pg
namespace Go.Proofs.YtjgdomdhjphgbaaGreatDoor
open Go Go.RowKit Go.Pg Go.Pol
attribute [-bool_to_prop] Bool.and_eq_decide Bool.or_eq_decide Bool.decide_beq_decide decide_eq_decide
attribute [local go_sem] Tryz.underlying3 Tryz.underlying4 Tryz.underlying160 Tryz.underlying49 Tryz.underlying51 Tryz.underlying53 Tryz.underlying27 Tryz.underlying54 Tryz.underlying56 Tryz.underlying30 Tryz.underlying31 sz3 by3 z3 szB zB Zax zRat Za3 zInt Za2 zNat Zag Zaq Zah Bool.and_self Zal Zbh zSlQ szQT byQT zQT Zbj zSlT szQP zQP Tryz.underlying9 Tryz.underlying145 Tryz.underlying107 Tryz.underlying143 Zn0 Zi3 Znt Zn1 Zbq zStr zSum zMap
def nzT (T:QTs):QTs:=T.filter λt=>decide (t.1≠0)
theorem nzT_y {T:QTs} {i:Nat} (h:i < T.length) (h0:T[i].1≠0):nzT (T.take (i+1))=nzT (T.take i)++[T[i]]:=by
 unfold nzT;rw [List.take_add_one,List.getElem?_eq_getElem h,List.filter_append];show _++List.filter _ [T[i]]=_;rw [List.filter_cons,if_pos (decide_eq_true h0)];rfl
theorem nzT_n {T:QTs} {i:Nat} (h:i < T.length) (h0:T[i].1=0):nzT (T.take (i+1))=nzT (T.take i):=by
 unfold nzT;rw [List.take_add_one,List.getElem?_eq_getElem h,List.filter_append];show _++List.filter _ [T[i]]=_;rw [List.filter_cons,if_neg (by simp [h0])];simp
theorem Zwy (T:QTs):(nzT T).length≤T.length:=List.length_filter_le _ _
theorem exExpr (σ:Mem) (KB KM KT KP g h:Nat) (sv:Value) (T:QTs) {j n:Nat} (hB:σ KB=some (.box g 145 [.mp KM h,.own KT sv] false)) (hT:σ KT=some (.row sv 56 4 (T.map qtA) 0))
 (hl:T.length≤maxT) (hd:Dst T) (hs:QK T j n) (hj:j≤1000000) (hn:n≤1000000) :
 ACall Tryz.prog 62 [.pbox KB g 0] σ λr σ'=>∃sv',r=.own KP sv'∧σ'=upd σ KP (some (.row sv' 56 4 ((srtQ ordT (nzT T)).map qtA) 0)):=by
 have hMT:=Zmz;have mB:=Zcn hB;have mT:=Zcn hT;simp only [Ent.sh,AV.shL,AV.sh] at mB mT;have hlT:(T.map qtA).length=T.length:=List.length_map ..;have hg:∀i (h:i < T.length),(T.map qtA).getD i .u=qtA T[i]:=λi h=>Zap qtA h;refine Zgx Tryz.func62 rfl Tryz.ntmps62 Tryz.results62 Tryz.call62 (by rfl) (by simp) ?_;have hL:∀k,Zdz σ (k+1000)=(σ k).map Ent.sh:=Agr.start σ;have h0:∀k,k < 1000→Zdz σ k=none:=λk hk=>Zcm hk;generalize Zdz σ=m0 at *;generalize T.map qtA=A at *;(focus (refine wkap (w_3 mB mT hlT) w_t (w_r 0) ?_;(repeat' first|exact w_t|apply w_l);all_goals intros))
 refine Zeu (Frz.nilOwn (d:=3) 22 4 56 (by exact gC)) ?_;refine Zac (ι:=Nat) (λi e m=>i≤T.length∧e 9=.own (KT+1000) sv∧e 10=iv T.length∧e 11=iv i∧m (KT+1000)=some (.row sv 56 4 A 0)∧(∀k,m (k+1000)=m0 (k+1000))∧∃sv,e 3=.own 22 sv∧m 22=some (.row sv 56 4 ((nzT (T.take i)).map qtA) 0)) (λi=>T.length - i) 0 (by rfl) ?_ ?_
 ·rintro i e m ⟨hi,e9,e10,e11,mT,hm,sv',e3,m22⟩
  have hol:((nzT (T.take i)).map qtA).length≤100000000:=by rw [List.length_map];have:=Zwy (T.take i);rw [List.length_take] at this;omega
  by_cases hlt:i < T.length
  ·have hgi:=hg i hlt;have ms:=hs _ (List.getElem_mem hlt);have hy:=nzT_y hlt;have hnn:=nzT_n hlt;clear hg hs;generalize T[i]=t at *;have cz:=Zeo t.1 ms.1 (by omega);by_cases hz:t.1=0
   ·have hnz:=hnn hz;clear hnn;have hz2:t.1.num.sign=0:=by rw [Zel];exact hz
    rw [hz2] at cz;clear hy ms hz2;obtain⟨t1,t2⟩:=t;simp only at *;generalize hO:(nzT (T.take i)).map qtA=O at *;generalize t2.map Qt.av=S2 at *;generalize toL t1.num.natAbs=a at *;generalize toL t1.den=b at *;(focus (refine wkap (w_8 e9 e10 e11 mT e3 m22 hlT hgi) (w_1 cz) (w_r 0) ?_;(repeat' first|exact w_t|apply w_l);all_goals intros));exact⟨i+1,⟨by omega,by exact gW e9,by exact gW e10,by exact gS,by(simp (disch:=omega) only [go_sem,mT]<;>repeat' first|rfl|refine⟨?_,?_⟩),λk=>by rw [←hm k];try simp (disch:=omega) [Zaj,marks,mark],_,by exact gW e3,by rw [hnz,hO];exact gW m22⟩,by omega⟩
   ·have hy:=hy hz;have hz2:¬t.1.num.sign=0:=by rw [Zel];exact hz
    have hmp:(nzT (T.take (i+1))).map qtA=(nzT (T.take i)).map qtA++[qtA t]:=by rw [hy,List.map_append];rfl
    clear hnn ms hy;obtain⟨t1,t2⟩:=t;simp only at *;generalize t1.num.sign=z at *;generalize (nzT (T.take i)).map qtA=O at *;have hmp:(nzT (T.take (i+1))).map qtA=O++[.agg [.v (.bool (decide (t1.num < 0))),lim (toL t1.num.natAbs),lim (toL t1.den),.sl 4 (t2.map Qt.av)]]:=hmp;have hgi:A.getD i .u=.agg [.v (.bool (decide (t1.num < 0))),lim (toL t1.num.natAbs),lim (toL t1.den),.sl 4 (t2.map Qt.av)]:=hgi;have cz:Pure Tryz.prog 41 [.agg [.v (.bool (decide (t1.num < 0))),lim (toL t1.num.natAbs),lim (toL t1.den)]] (iv z):=cz;generalize t2.map Qt.av=S2 at *;generalize toL t1.num.natAbs=a at *;generalize toL t1.den=b at *
    (focus (refine wkap (w_9 e9 e10 e11 mT e3 m22 hlT hgi hz2) (w_1 cz) (w_r 0) ?_;(repeat' first|exact w_t|apply w_l);all_goals intros));exact⟨i+1,⟨by omega,by exact gW e9,by exact gW e10,by exact gS,by(simp (disch:=omega) only [go_sem,mT]<;>repeat' first|rfl|refine⟨?_,?_⟩),λk=>by rw [←hm k];try simp (disch:=omega) [Zaj,marks,mark],_,by exact gC,by rw [hmp];exact gC⟩,by omega⟩
  ·have hil:i=T.length:=by omega
   subst hil;rw [List.take_length] at m22 hol;rw [List.length_map] at hol;have hmem:∀t,t∈nzT T→t∈T:=λt ht=>(List.mem_filter.1 ht).1;have ci:=fun(m:Mem) h=>stSortT m 22 sv' (nzT T) h (by have:=Zwy T;omega) (λt ht=>by have:=(hs t (hmem t ht)).2;omega) (hd.sublist List.filter_sublist);clear hg hs;(focus (refine wkap (w_7 e9 e10 e11 mT e3 m22 hlT) w_t (w_r 0) ?_;(repeat' first|exact w_t|apply w_l);all_goals intros));refine Zga (ci _ (by exact gW m22)) ?_;(focus (refine wkap (w_1 e3) w_t (w_r 0) ?_;(repeat' first|exact w_t|apply w_l);all_goals intros));simp (disch:=omega) only [go_sem];refine Zig (σ:=σ) (r:=.own KP sv') 22 KP (by omega) (Sub.own _ _ _) ⟨sv',rfl,rfl⟩ ?_ ?_
   ·simp only [Zaj,if_pos]
   ·intro k hk _;rw [Zaj,if_neg (by omega),hm k,hL k,Zaj,if_neg hk]
 ·exact⟨Nat.zero_le _,by exact gC,by exact gC,by exact gC,by(simp (disch:=omega) only [go_sem,mT]<;>repeat' first|rfl|refine⟨?_,?_⟩),λk=>by try simp (disch:=omega) [Zaj,marks,mark],_,by exact gC,by exact gC⟩
attribute [local go_sem] Tryz.underlying179
theorem exGrow (σ:Mem) (KP n:Nat) (h0:0 < n) (hn:n≤2000000) :
 ACall Tryz.prog 169 [.v (.slice none 0 0),iv n] σ λr σ'=>∃sv L,r=.view KP sv 4 0 0∧σ'=upd σ KP (some (.row sv 27 4 L 0)):=by
 refine Zgx Tryz.func169 rfl Tryz.ntmps169 Tryz.results169 Tryz.call169 (by rfl) (by simp) ?_;have h1:¬((n:Nat):Int) < 0:=by omega
 have h2:(0:Int) < ((n:Nat):Int):=by omega
 have hm:∀k,Zdz σ (k+1000)=(σ k).map Ent.sh:=λk=>by unfold Zdz;rw [if_neg (by omega)];rfl
 generalize Zdz σ=m0 at *;(focus (refine wkap (w_2 h1 h2) w_t (w_r 0) ?_;(repeat' first|exact w_t|apply w_l);all_goals intros));simp (disch:=omega) only [go_sem];rename_i sv;refine Zig (σ:=σ) (σ':=upd σ KP (some (.row sv 27 4 (List.replicate ((n:Int) - 0).toNat (.agg [iv 0,iv 0,iv 0,iv 0])) 0))) 22 KP (by omega) (Sub.view _ _ _ _ _ _) ⟨_,_,rfl,rfl⟩ ?_ ?_
 ·simp only [Zaj,if_pos]
 ·intro k hk _;rw [Zaj,if_neg (by omega),hm k,Zaj,if_neg hk]
theorem exGrow0:Pure Tryz.prog 169 [.v (.slice none 0 0),iv 0] (.v (.slice none 0 0)):=by
 refine Zaa (tok:=0) Tryz.func169 rfl Tryz.ntmps169 Tryz.results169 Tryz.call169 (by rfl) (by simp) ?_;(focus (refine wkap w_t w_t (w_r 0) ?_;(repeat' first|exact w_t|apply w_l);all_goals intros));all_goals exact gL
theorem exConcat (σ:Mem) (KC KP:Nat) (svc:Value) (A B:List AV) (hC:σ KC=some (.row svc 54 1 [.sl 4 A,.sl 4 B] 0)) (hk:KC≠KP) (ha:A.length≤1000000) (hb:B.length≤1000000) :
 ACall Tryz.prog 117 [.own KC svc] σ λr σ'=>∃sv,r=.own KP sv∧σ'=upd σ KP (some (.row sv 27 4 (A++B) 0)):=by
 have mC:=Zcn hC;simp only [Ent.sh,AV.shL,AV.sh] at mC;have hm:∀k,Zdz σ (k+1000)=(σ k).map Ent.sh:=λk=>by unfold Zdz;rw [if_neg (by omega)];rfl
 refine Zgx Tryz.func117 rfl Tryz.ntmps117 Tryz.results117 Tryz.call117 (by rfl) (by simp) ?_;generalize Zdz σ=m0 at *;have h1:¬((A.length:Nat):Int) < 0:=by omega
 have h2:¬((A.length:Nat):Int)+(B.length:Int) < 0:=by omega
 have e1:(0:Int)+((A.length:Nat):Int)=(A.length:Int):=by omega
 have e2:((A.length:Nat):Int)+(B.length:Int)=((A.length+B.length:Nat):Int):=by omega
 by_cases hn:0 < A.length+B.length
 ·have cg:=fun(m:Mem)=>exGrow m 40 (A.length+B.length) hn (by omega);(focus (refine wkap (w_5 mC h1 h2 e1 e2) w_t (w_r 3) ?_;(repeat' first|exact w_t|apply w_l);all_goals intros));refine Zdg (cg _) ?_
  rintro _ _ ⟨sv,L,rfl,rfl⟩
  have hz:(L.take 0++A)=A:=rfl;(focus (refine wkap (w_2 mC hz) w_t (w_r 3) ?_;(repeat' first|exact w_t|apply w_l);all_goals intros));simp (disch:=omega) only [go_sem];rename_i sv1 sv2;refine Zig (σ:=σ) (σ':=upd σ KP (some (.row sv2 27 4 (A++B) 0))) 40 KP (by omega) (Sub.own _ _ _) ⟨_,rfl,rfl⟩ ?_ ?_
  ·simp (disch:=omega) only [go_sem,if_pos]
  ·intro k hk _;rw [show upd σ KP (some (.row sv2 27 4 (A++B) 0)) k=σ k from by rw [Zaj,if_neg hk],←hm k];simp (disch:=omega) only [go_sem]
 ·have hA:A=[]:=List.length_eq_zero_iff.1 (by omega);have hB:B=[]:=List.length_eq_zero_iff.1 (by omega);subst hA hB;have cg:=exGrow0;have e4:((0:Nat):Int)+((0:Nat):Int)=0:=rfl;have e5:(0:Int)+((0:Nat):Int)=((0:Nat):Int):=rfl;(focus (refine wkap (w_3 mC e4 e5) w_t (w_r 3) ?_;(repeat' first|exact w_t|apply w_l);all_goals intros));refine o_c cg rfl ?_;(focus (refine wkap (w_1 mC) w_t (w_r 0) ?_;(repeat' first|exact w_t|apply w_l);all_goals intros));refine Zeu (Frz.nilOwn (d:=6) 40 4 27 (by exact gC)) ?_;(focus (refine wkap (w_1 mC) w_t (w_r 3) ?_;(repeat' first|exact w_t|apply w_l);all_goals intros))
  simp (disch:=omega) only [go_sem];rename_i sv1 sv2;refine Zig (σ:=σ) (σ':=upd σ KP (some (.row sv2 27 4 [] 0))) 40 KP (by omega) (Sub.own _ _ _) ⟨_,rfl,rfl⟩ ?_ ?_
  ·simp (disch:=omega) only [go_sem,if_pos]
  ·intro k hk _;rw [show upd σ KP (some (.row sv2 27 4 [] 0)) k=σ k from by rw [Zaj,if_neg hk],←hm k];simp (disch:=omega) only [go_sem]
abbrev muQ (a b:List Qt):List Qt:=srtQ Qt.cmp (a++b)
theorem exTimes (a b:List Qt) (hm:a.length+b.length≤maxQ):Pure Tryz.prog 61 [qsA a,qsA b] (qsA (muQ a b)):=by
 have hM:=Zkl;have cs:=fun(m:Mem) (sv:Value) h=>qSort m 300 sv (a++b) h (by rw [List.length_append];exact hm);have cc:=fun(m:Mem) (svc:Value) h=>exConcat m 8 300 svc (a.map Qt.av) (b.map Qt.av) h (by omega) (by rw [List.length_map];omega) (by rw [List.length_map];omega);rw [←List.map_append] at cc;show Pure _ _ [.sl 4 (a.map Qt.av),.sl 4 (b.map Qt.av)] (.sl 4 ((muQ a b).map Qt.av));generalize (muQ a b).map Qt.av=R at *;generalize (a++b).map Qt.av=AB at *;generalize a.map Qt.av=A at *;generalize b.map Qt.av=B at *;refine Zaa (tok:=0) Tryz.func61 rfl Tryz.ntmps61 Tryz.results61 Tryz.call61 (by rfl) (by simp) ?_
 (focus (refine wkap w_t w_t (w_r 0) ?_;(repeat' first|exact w_t|apply w_l);all_goals intros));refine Zdg (cc _ _ (by exact gC)) ?_
 rintro _ _ ⟨sv,rfl,rfl⟩
 (focus (refine wkap w_t w_t (w_r 0) ?_;(repeat' first|exact w_t|apply w_l);all_goals intros));refine Zga (cs _ _ (by exact gC)) ?_;(focus (refine wkap w_t w_t (w_r 0) ?_;(repeat' first|exact w_t|apply w_l);all_goals intros));all_goals exact gL
end Go.Proofs.YtjgdomdhjphgbaaGreatDoor
namespace Go.Proofs.YtjgdomdhjphgbaaGreatDoor
attribute [-bool_to_prop] Bool.and_eq_decide Bool.or_eq_decide Bool.decide_beq_decide decide_eq_decide
section
open Go Go.RowKit Go.Pg
end
end Go.Proofs.YtjgdomdhjphgbaaGreatDoor
namespace Go.Proofs.YtjgdomdhjphgbaaGreatDoor
open Go Go.RowKit Go.Pg
attribute [-bool_to_prop] Bool.and_eq_decide Bool.or_eq_decide Bool.decide_beq_decide decide_eq_decide
theorem r_frzD {P:Program} {n:Nat} {Q:AE→St→Prop} {id:Nat} {ops:Array Oper} {st st':St} (h:Frz n st st') (k:Za8 P 0 n (.region id ops true) Q st'):Za8 P 0 n (.region id ops true) Q st:=λc a w imm hr=>by
 obtain⟨i,h1⟩:=h c a w imm hr;exact k c a w i h1
end Go.Proofs.YtjgdomdhjphgbaaGreatDoor
namespace Go.Proofs.YtjgdomdhjphgbaaGreatDoor
open Go Go.RowKit Go.Pg Go.Pol
attribute [-bool_to_prop] Bool.and_eq_decide Bool.or_eq_decide Bool.decide_beq_decide decide_eq_decide
attribute [local go_sem] Tryz.underlying3 Tryz.underlying4 Tryz.underlying160 Tryz.underlying49 Tryz.underlying51 Tryz.underlying53 Tryz.underlying27 Tryz.underlying54 Tryz.underlying56 Tryz.underlying30 Tryz.underlying31 sz3 by3 z3 szB zB Zax zRat Za3 zInt Za2 zNat Zag Zaq Zah Bool.and_self Zal Zbh zSlQ szQT byQT zQT Zbj zSlT szQP zQP Tryz.underlying9 Tryz.underlying145 Tryz.underlying107 Tryz.underlying143 Zn0 Zi3 Znt Zn1 Zbq zStr zSum zMap
theorem exAddO (σ:Mem) (KB KM KT KP g h:Nat) (sv svP:Value) (T:QTs) (a:Rat) (p:List Qt) {j k:Nat} (hB:σ KB=some (.box g 145 [.mp KM h,.own KT sv] false)) (hM:σ KM=some (.map h (mpE T))) (hT:σ KT=some (.row sv 56 4 (T.map qtA) 0)) (hP:σ KP=some (.row svP 27 4 (p.map Qt.av) 0)) (n4:KP≠KB) (n5:KP≠KM) (n6:KP≠KT)
 (n1:KB≠KM) (n2:KB≠KT) (n3:KM≠KT) (hl:T.length≤100000000) (hp:p.length≤1000) (b1:B8 T) (b2:∀q∈p,q.b8) (hs:∀t∈T,Sz t.1 j) (ha:Sz a k) (hj:j≤1000000) (hk:k≤1000000) :
 ACall Tryz.prog 59 [.pbox KB g 0,ratQ a,.own KP svP] σ λr σ'=>∃sv' eP,r=.tup []∧σ'=upd (upd (upd (upd σ KP eP) KM (some (.map h (mpE (addC T (a,p)))))) KT (some (.row sv' 56 4 ((addC T (a,p)).map qtA) 0))) KB (some (.box g 145 [.mp KM h,.own KT sv'] false)):=by
 have mB:=Zcn hB;have mM:=Zcn hM;have mT:=Zcn hT;have mP:=Zcn hP;simp only [Ent.sh,AV.shL,AV.sh] at mB mM mT mP;have ck:=exKey p hp;have ck:Pure Tryz.prog 113 [.sl 4 (p.map Qt.av)] (strA (keyS p)):=ck;have hlT:(T.map qtA).length=T.length:=List.length_map ..;rcases Zsn T p with⟨i,hi,he,hf⟩ | hf
 ·have hget:Zht (keyS p) (mpE T)=some (iv i):=by have:=Zqm hi 0 b1 b2 he hf;rwa [Nat.zero_add] at this
  have hadd:=Zyw (t:=(a,p)) hi he hf
  have hkeys:mpE (addC T (a,p))=mpE T:=by
   refine Zsa ?_ 0;rw [hadd,List.map_set];show(T.map _).set i T[i].2=_;rw [←List.getElem_map (f:=λt:Rat × List Qt=>t.2) (h:=by rw [List.length_map];exact hi)];exact List.set_getElem_self _
  have hgi:(T.map qtA).getD i .u=qtA T[i]:=Zap qtA hi;have hst:(T.map qtA).set i (qtA (T[i].1+a,T[i].2))=(addC T (a,p)).map qtA:=by rw [hadd,List.map_set]
  have ca:=Zv5 T[i].1 a (hs _ (List.getElem_mem hi)) ha (by omega) (by omega);rw [hkeys];clear hs ha b1 b2 hf hadd hkeys;generalize T[i]=t at *;obtain⟨t1,t2⟩:=t;simp only at *;refine Zdo Tryz.func59 rfl Tryz.ntmps59 Tryz.results59 Tryz.call59 (by rfl) (by simp) ?_;generalize hRR:(addC T (a,p)).map qtA=R at *;generalize T.map qtA=TA at *;generalize mpE T=es at *;generalize hPA:p.map Qt.av=PA at *
  (repeat' (first|(with_reducible first|refine stp ?_|apply gx1|apply gx2|apply gx3|apply gx4|apply gx5|apply gx6|apply gx7|apply gy8|apply gz2|apply gz3|apply gw2 (ck)|refine gw0 (ca) ?_ ?_|refine gw3 (ca) ?_ ?_ ?_)|(with_reducible refine Zbb ?_;intro _)|((with_reducible refine gE ?_);(try simp (disch:=omega) only [go_sem,mB,mM,mT,mP,Zcm,Zb7,hget,hgi,hlT,decide_eq_true,decide_eq_false,if_pos,if_neg,Int.reduceAdd,Int.reduceSub,Int.reduceToNat,Int.zero_add])<;>first|rfl|omega)|with_reducible refine Zab (by decide) ?_|((with_reducible apply gy1);iterate 3 focus rfl)|((with_reducible apply gy2);iterate 3 focus rfl)|((with_reducible apply gy3);iterate 2 focus rfl)|((with_reducible apply gy4);iterate 1 focus rfl)|((with_reducible apply gy5);iterate 4 focus rfl)|((with_reducible apply gy5c);iterate 4 focus rfl)|((with_reducible apply gy6);iterate 4 focus rfl)|((with_reducible apply Zb8);iterate 3 focus rfl)|((with_reducible apply Zb6);iterate 1 focus rfl)|((with_reducible apply gy7);iterate 1 focus rfl)|((with_reducible apply gy9);(focus ((with_reducible refine gE ?_);(try simp (disch:=omega) only [go_sem,mB,mM,mT,mP,Zcm,Zb7,hget,hgi,hlT,decide_eq_true,decide_eq_false,if_pos,if_neg,Int.reduceAdd,Int.reduceSub,Int.reduceToNat,Int.zero_add])<;>rfl)))|((with_reducible apply gz1);(focus first|rfl|(simp (disch:=omega) only [go_sem,mB,mM,mT,mP,Zcm,Zb7,hget,hgi,hlT,decide_eq_true,decide_eq_false,if_pos,if_neg,Int.reduceAdd,Int.reduceSub,Int.reduceToNat,Int.zero_add];done)))|((with_reducible apply Zan (id:=4) (Zbi [(14,ratQ (t1+a))]) [17] []);(focus kernel_rfl);(focus rfl);(focus kernel_rfl);(focus (simp only [List.length_cons,List.length_nil,Nat.reduceAdd];rfl)))|((with_reducible first|apply Zay|apply Za5|apply Zaz);all_goals (intro hc;(try simp only [bool_to_prop] at hc);try (exfalso;omega)))))
  simp (disch:=omega) only [go_sem];have e1:upd σ KM (some (.map h es))=σ:=Zge hM;have e2:upd (upd σ KT (some (.row sv 56 4 R 0))) KB (some (.box g 145 [.mp KM h,.own KT sv] false))=upd σ KT (some (.row sv 56 4 R 0)):=Zge (by rw [Zaj,if_neg n2];exact hB);refine Zue (Sub.refl _) ⟨sv,some (.row svP 27 4 PA 0),rfl,rfl⟩ ?_;have e0:upd σ KP (some (.row svP 27 4 PA 0))=σ:=Zge hP;rw [e0,e1,e2];exact((Agr.start σ).own (by omega)).put rfl (by rw [←hst];rfl)
 ·have hget:Zht (keyS p) (mpE T)=none:=(Zki 0 b1 b2 hf).1;have hput:∀x,Zh6 (keyS p) x (mpE T)=mpE T++[(keyS p,x)]:=(Zki 0 b1 b2 hf).2;have hadd:=Zyx (t:=(a,p)) hf;have hmp:mpE (addC T (a,p))=mpE T++[(keyS p,iv T.length)]:=by rw [hadd];show mpN _ 0=_;rw [Zw4,Nat.zero_add]
  have hrow:(addC T (a,p)).map qtA=T.map qtA++[.agg [.v (.bool (decide (a.num < 0))),lim (toL a.num.natAbs),lim (toL a.den),.sl 4 (p.map Qt.av)]]:=by rw [hadd,List.map_append];rfl
  rw [hmp,hrow];clear hs ha b1 b2 hf hadd hmp hrow;refine Zdo Tryz.func59 rfl Tryz.ntmps59 Tryz.results59 Tryz.call59 (by rfl) (by simp) ?_;generalize T.map qtA=TA at *;generalize mpE T=es at *;generalize hPA:p.map Qt.av=PA at *
  (repeat' (first|(with_reducible first|refine stp ?_|apply gx1|apply gx2|apply gx3|apply gx4|apply gx5|apply gx6|apply gx7|apply gy8|apply gz2|apply gz3|apply gw2 (ck))|(with_reducible refine Zbb ?_;intro _)|((with_reducible refine gE ?_);(try simp (disch:=omega) only [go_sem,mB,mM,mT,mP,Zcm,Zb7,hget,hput,hlT,decide_eq_true,decide_eq_false,if_pos,if_neg,Int.reduceAdd,Int.reduceSub,Int.reduceToNat,Int.zero_add])<;>first|rfl|omega)|with_reducible refine Zab (by decide) ?_|((with_reducible apply gy1);iterate 3 focus rfl)|((with_reducible apply gy2);iterate 3 focus rfl)|((with_reducible apply gy3);iterate 2 focus rfl)|((with_reducible apply gy4);iterate 1 focus rfl)|((with_reducible apply gy5);iterate 4 focus rfl)|((with_reducible apply gy5c);iterate 4 focus rfl)|((with_reducible apply gy6);iterate 4 focus rfl)|((with_reducible apply Zb8);iterate 3 focus rfl)|((with_reducible apply Zb6);iterate 1 focus rfl)|((with_reducible apply gy7);iterate 1 focus rfl)|((with_reducible apply gy9);(focus ((with_reducible refine gE ?_);(try simp (disch:=omega) only [go_sem,mB,mM,mT,mP,Zcm,Zb7,hget,hput,hlT,decide_eq_true,decide_eq_false,if_pos,if_neg,Int.reduceAdd,Int.reduceSub,Int.reduceToNat,Int.zero_add])<;>rfl)))|((with_reducible apply gz1);(focus first|rfl|(simp (disch:=omega) only [go_sem,mB,mM,mT,mP,Zcm,Zb7,hget,hput,hlT,decide_eq_true,decide_eq_false,if_pos,if_neg,Int.reduceAdd,Int.reduceSub,Int.reduceToNat,Int.zero_add];done)))|((with_reducible apply Zan (id:=4) (Zbi []) [] []);(focus kernel_rfl);(focus rfl);(focus kernel_rfl);(focus (simp only [List.length_cons,List.length_nil,Nat.reduceAdd];rfl)))|((with_reducible first|apply Zay|apply Za5|apply Zaz);all_goals (intro hc;(try simp only [bool_to_prop] at hc);try (exfalso;omega)))))
  refine r_frzD (Frz.own (d:=2) (k:=KP+1000) (sv:=svP) (ty:=27) (mm:=4) (es:=PA) (pub:=0) (by exact gC) (by(simp (disch:=omega) only [go_sem,mP]<;>repeat' first|rfl|refine⟨?_,?_⟩))) ?_
  (repeat' (first|((with_reducible apply gy5d);iterate 4 focus rfl)|(with_reducible first|refine stp ?_|apply gx1|apply gx2|apply gx3|apply gx4|apply gx5|apply gx6|apply gx7|apply gy8|apply gz2|apply gz3)|(with_reducible refine Zbb ?_;intro _)|((with_reducible refine gE ?_);(try simp (disch:=omega) only [go_sem,mB,mM,mT,mP,Zcm,Zb7,hget,hput,hlT,decide_eq_true,decide_eq_false,if_pos,if_neg,Int.reduceAdd,Int.reduceSub,Int.reduceToNat,Int.zero_add])<;>first|rfl|omega)|with_reducible refine Zab (by decide) ?_|((with_reducible apply gy1);iterate 3 focus rfl)|((with_reducible apply gy2);iterate 3 focus rfl)|((with_reducible apply gy3);iterate 2 focus rfl)|((with_reducible apply gy4);iterate 1 focus rfl)|((with_reducible apply gy5);iterate 4 focus rfl)|((with_reducible apply gy5c);iterate 4 focus rfl)|((with_reducible apply gy6);iterate 4 focus rfl)|((with_reducible apply Zb8);iterate 3 focus rfl)|((with_reducible apply Zb6);iterate 1 focus rfl)|((with_reducible apply gy7);iterate 1 focus rfl)|((with_reducible apply gy9);(focus ((with_reducible refine gE ?_);(try simp (disch:=omega) only [go_sem,mB,mM,mT,mP,Zcm,Zb7,hget,hput,hlT,decide_eq_true,decide_eq_false,if_pos,if_neg,Int.reduceAdd,Int.reduceSub,Int.reduceToNat,Int.zero_add])<;>rfl)))|((with_reducible apply gz1);(focus first|rfl|(simp (disch:=omega) only [go_sem,mB,mM,mT,mP,Zcm,Zb7,hget,hput,hlT,decide_eq_true,decide_eq_false,if_pos,if_neg,Int.reduceAdd,Int.reduceSub,Int.reduceToNat,Int.zero_add];done)))|((with_reducible apply Zan (id:=5) (Zbi []) [10] []);(focus kernel_rfl);(focus rfl);(focus kernel_rfl);(focus (simp only [List.length_cons,List.length_nil,Nat.reduceAdd];rfl)))|((with_reducible apply Zan (id:=6) (Zbi []) [9,2009,12] []);(focus kernel_rfl);(focus rfl);(focus kernel_rfl);(focus (simp only [List.length_cons,List.length_nil,Nat.reduceAdd];rfl)))|((with_reducible first|apply Zay|apply Za5|apply Zaz);all_goals (intro hc;(try simp only [bool_to_prop] at hc);try (exfalso;omega)))))
  simp (disch:=omega) only [go_sem];rename_i x1 x2 x3;refine Zue (Sub.refl _) ⟨x3,some (.row svP 27 4 PA PA.length),rfl,rfl⟩ ?_;refine Agr.put ?_ rfl rfl;refine Agr.put ?_ rfl rfl;refine Agr.own ?_ (by omega);refine Agr.put ?_ rfl rfl;rw [mP];refine Agr.put ?_ rfl rfl;refine Agr.own ?_ (by omega);exact Agr.start σ
def nsP (l:List Qt):List Qt:=l.map λq=>q.norm.1
abbrev accS (L:QTs):QTs:=L.foldl addC []
theorem sgP_ne {l:List Qt} (h:sgP l≠0):∀q∈l,q.norm.2≠0:=by
 have key:∀(l:List Qt) (s:Int),l.foldl (λs q=>s*q.norm.2) s≠0→s≠0∧∀q∈l,q.norm.2≠0:=by
  intro l
  induction l with
  | nil=>intro s h;exact⟨h,λq hq=>by cases hq⟩
  | cons a l ih =>
    intro s h;obtain⟨h1,h2⟩:=ih _ h;have ha:a.norm.2≠0:=λe=>h1 (by show s*a.norm.2=0;rw [e,Int.mul_zero]);have hs:s≠0:=λe=>h1 (by show s*a.norm.2=0;rw [e,Int.zero_mul]);exact⟨hs,λq hq=>by rcases List.mem_cons.1 hq with rfl | hq;exact ha;exact h2 q hq⟩
 exact(key l 1 h).2
theorem Zu3 {l:List Qt} (h:sgP l≠0):srtQ Qt.cmp (nsP l)=putP l:=by
 unfold putP;rw [Zo9 qtO];congr 1;unfold nzP nsP;rw [List.filter_eq_self.2 λq hq=>decide_eq_true (sgP_ne h q hq)]
theorem norm_b8 {q:Qt} (h:q.ok=true):q.norm.1.b8:=by
 have hb:=ok_b8 h;unfold Qt.b8 at hb;unfold Qt.norm Zdy Zev;rw [if_pos h]
 repeat' split
 all_goals (unfold Qt.b8;simp only;omega)
theorem Zwa {l:List Qt} (h:l.all Qt.ok=true):∀q∈putP l,q.b8:=by
 intro q hq;unfold putP at hq;have:=(Zfc (cmp:=Qt.cmp) (nzP l) []).mem_iff.1 hq;rw [List.append_nil] at this;unfold nzP at this;obtain⟨x,hx,rfl⟩:=List.mem_map.1 this;exact norm_b8 (List.all_eq_true.1 h x (List.mem_filter.1 hx).1)
theorem Zk4 (L:QTs) (t:Rat × List Qt):accS (L++[t])=addC (accS L) t:=by unfold accS;rw [List.foldl_append];rfl
theorem Zsz (l:QTs) (t:Rat × List Qt):(addC l t).length≤l.length+1:=by
 induction l with
 | nil=>exact Nat.le_refl _
 | cons s l ih=>unfold addC;split<;>simp only [List.length_cons]<;>omega
theorem Znq {l:QTs} {t u:Rat × List Qt} (h:u∈addC l t):u∈l∨u=t∨∃s∈l,u=(s.1+t.1,s.2):=by
 induction l with
 | nil=>exact .inr (.inl (List.mem_singleton.1 h))
 | cons s l ih =>
   unfold addC at h;split at h
   ·rcases List.mem_cons.1 h with rfl | h
    ·exact .inr (.inr ⟨s,.head _,rfl⟩)
    ·exact .inl (.tail _ h)
   ·rcases List.mem_cons.1 h with rfl | h
    ·exact .inl (.head _)
    ·rcases ih h with h | h | ⟨v,hv,e⟩
     ·exact .inl (.tail _ h)
     ·exact .inr (.inl h)
     ·exact .inr (.inr ⟨v,.tail _ hv,e⟩)
structure AccOk (S:QTs) (i j n:Nat):Prop where
 len:S.length≤i
 b8:B8 S
 qk:QK S (i*(j+2)) n
theorem AccOk.nil (j n:Nat):AccOk [] 0 j n:=⟨Nat.le_refl _,λt ht=>by(cases ht),λt ht=>by(cases ht)⟩
theorem AccOk.mono {S:QTs} {i k j n:Nat} (h:AccOk S i j n) (hk:i≤k):AccOk S k j n:=⟨Nat.le_trans h.len hk,h.b8,h.qk.mono (Nat.mul_le_mul_right _ hk) (Nat.le_refl _)⟩
theorem AccOk.add {S:QTs} {i j n:Nat} (h:AccOk S i j n) {t:Rat × List Qt} (h1:Sz t.1 j) (h2:t.2.length≤n) (h3:∀q∈t.2,q.b8):AccOk (addC S t) (i+1) j n:=by
 have e:(i+1)*(j+2)=i*(j+2)+(j+2):=Nat.succ_mul _ _;refine⟨Nat.le_trans (Zsz S t) (by have:=h.len;omega),λu hu=>?_,λu hu=>?_⟩
 ·rcases Znq hu with hu | rfl | ⟨s,hs,rfl⟩
  ·exact h.b8 u hu
  ·exact h3
  ·exact h.b8 s hs
 ·rcases Znq hu with hu | rfl | ⟨s,hs,rfl⟩
  ·exact⟨(h.qk u hu).1.mono (by omega),(h.qk u hu).2⟩
  ·exact⟨h1.mono (by omega),h2⟩
  ·exact⟨((h.qk s hs).1.add h1).mono (by omega),(h.qk s hs).2⟩
theorem acc_fin (L:QTs):srtQ ordT (nzT (accS (nzT L)))=gatM L:=by
 have h1:srtQ ordT (nzT (accS (nzT L)))=Go.Pol.sumC ordQ (nzT L):=rfl;rw [h1,Zl9 Zbp];refine Zmb Zbp.ko (Zl7 Zbp _) (Zl7 Zbp _) λx=>?_;rw [Zl8 Zbp,Zl8 Zbp];exact Zlz L x
theorem Zv3 {z:Int} (h:z=-1∨z=0∨z=1):Pure Tryz.prog 47 [iv z] (ratQ (z:Rat)):=by
 rcases h with rfl | rfl | rfl
 ·exact ratOfM
 ·exact Ztf 0 (by omega)
 ·exact Ztf 1 (by omega)
theorem exNormGT (l:List RE) {J JA nQ:Nat} (hl:l.length≤1000000) (hr:∀t∈l,t.r.lm J) (hq:∀t∈l,t.q.length≤nQ) (hnQ:nQ≤maxQ) (hJ:J≤900000) (hJA:JA≤1000000)
 (hA:∀i,i≤l.length→(l.take i).all RE.ok=true→QK (accS (nzT ((l.take i).map RE.t))) JA nQ∧B8 (accS (nzT ((l.take i).map RE.t)))∧(accS (nzT ((l.take i).map RE.t))).length≤maxT):Pure Tryz.prog 46 [.sl 4 (l.map RE.av)] (nrmR l):=by
 have hMq0:=Zkl;have hMT:=Zmz;have hlm:(l.map RE.av).length=l.length:=List.length_map ..;have hg:∀i (h:i < l.length),(l.map RE.av).getD i .u=RE.av l[i]:=λi h=>Zap RE.av h;generalize l.map RE.av=A at *;refine Zaa (tok:=0) Tryz.func46 rfl Tryz.ntmps46 Tryz.results46 Tryz.call46 (by rfl) (by simp) ?_;(focus (refine wkad w_t w_t w_t ?_;(repeat' first|exact w_t|apply w_l);all_goals intros));refine Zdg (exNew _ 200 201 (by omega)) ?_
 rintro _ _ ⟨g,h,rfl,rfl⟩
 (focus (refine wkad (w_1 hlm) w_t w_t ?_;(repeat' first|exact w_t|apply w_l);all_goals intros));refine Zeu (Frz.nilBox (k:=200) 1 202 4 56 (by exact gC) rfl (by omega)) ?_;refine Zac (ι:=Nat) (λi e m=>i≤l.length∧(l.take i).all RE.ok=true∧e 3=.pbox 200 g 0∧m 201=some (.map h (mpE (accS (nzT ((l.take i).map RE.t)))))∧(∃sv,m 200=some (.box g 145 [.mp 201 h,.own 202 sv] false)∧m 202=some (.row sv 56 4 ((accS (nzT ((l.take i).map RE.t))).map qtA) 0))∧e 13=.sl 4 A∧e 14=iv l.length∧e 15=iv i) (λi=>l.length - i) 0 (by rfl) ?_ ?_
 ·rintro i e m ⟨hi,ha,e3,m201,⟨sv,m200,m202⟩,e13,e14,e15⟩
  have hacc:=hA i hi ha;by_cases hlt:i < l.length
  ·have hgi:=hg i hlt;have hri:=hr _ (List.getElem_mem hlt);have hqi:=hq _ (List.getElem_mem hlt);have hta:(l.take (i+1)).map RE.t=(l.take i).map RE.t++[l[i].t]:=by rw [List.take_add_one,List.getElem?_eq_getElem hlt,List.map_append];rfl
   have hok:=Zii (p:=RE.ok) hlt ha;have hbr:RE.ok l[i]=false→nrmR l=.v (.slice none 0 0):=λh=>by unfold nrmR;rw [Zjv (p:=RE.ok) hlt h];rfl
   have hny:(l[i].t).1≠0→accS (nzT ((l.take (i+1)).map RE.t))=addC (accS (nzT ((l.take i).map RE.t))) l[i].t:=λh=>by
    rw [hta];unfold nzT;rw [List.filter_append];rw [show List.filter (λt:Rat × List Qt=>decide (t.1≠0)) [l[i].t]=[l[i].t] from by rw [List.filter_cons,if_pos (decide_eq_true h)];rfl];exact Zk4 _ _
   have hnn:(l[i].t).1=0→accS (nzT ((l.take (i+1)).map RE.t))=accS (nzT ((l.take i).map RE.t)):=λh=>by
    rw [hta];unfold nzT;rw [List.filter_append];rw [show List.filter (λt:Rat × List Qt=>decide (t.1≠0)) [l[i].t]=[] from by rw [List.filter_cons,if_neg (by simp [h])];rfl,List.append_nil]
   clear hg hr hq ha hta;generalize l[i]=t at *;generalize hNR:nrmR l=NR at *;generalize accS (nzT ((l.take i).map RE.t))=S at *;obtain⟨r,q⟩:=t;simp only at hri hqi;have hgi:A.getD i .u=.agg [.v (.bool r.s),lim r.l,lim r.d,.sl 4 (q.map Qt.av)]:=hgi;have crq:=rtRight r ⟨hri.1,hri.2.1,by have:=hri.2.2.1;omega,by have:=hri.2.2.2;omega⟩;have crq:Pure Tryz.prog 96 [.agg [.v (.bool r.s),lim r.l,lim r.d]] (.v (.bool r.ok)):=crq
   cases hro:r.ok with
   | false =>
     rw [hro] at crq;rw [hbr (by unfold RE.ok;rw [hro];rfl)];clear hbr hok hny hnn hacc;obtain⟨s,x,d⟩:=r;simp only at *;generalize q.map Qt.av=Q at *;(focus (refine wkad (w_9 e3 m200 m201 m202 e13 e14 e15 hlm hgi) (w_1 crq) w_t ?_;(repeat' first|exact w_t|apply w_l);all_goals intros));all_goals exact gL
   | true =>
     rw [hro] at crq;have hz:=(RQ.ok_av hri hro).2;have hre:=RQ.ok_eq hri hro;have hqm:(q.map Qt.av).length=q.length:=List.length_map ..;have hgq:∀k (h:k < q.length),(q.map Qt.av).getD k .u=Qt.av q[k]:=λk h=>Zap Qt.av h;have hbq:∀k (h:k < q.length),Qt.ok q[k]=false→NR=.v (.slice none 0 0):=λk h h2=>hbr (by unfold RE.ok;rw [Zjv (p:=Qt.ok) h h2,Bool.and_false]);have hqk:q.all Qt.ok=true→RE.ok ⟨r,q⟩=true:=λh=>by unfold RE.ok;rw [hro,h];rfl
     have het1:(RE.t ⟨r,q⟩).1=r.q*(sgP q:Rat):=rfl;have het:RE.t ⟨r,q⟩=(r.q*(sgP q:Rat),putP q):=rfl;rw [het] at hny;rw [het1] at hnn;clear het het1 hbr;generalize hx:r.q=x at *;subst hre;clear hro;simp only at *;generalize hQ:q.map Qt.av=Q at *;(focus (refine wkad (w_10 e3 m200 m201 m202 e13 e14 e15 hlm hgi hqm) (w_1 crq) w_t ?_;(repeat' first|exact w_t|apply w_l);all_goals intros));rename_i g5 g6 s28;clear crq;have hw0:x*((sgP (q.take 0):Int):Rat)=x:=by show x*((1:Int):Rat)=x;exact Rat.mul_one x
     refine Zac (ι:=Nat) (λk e m=>k≤q.length∧(q.take k).all Qt.ok=true∧(e 3=.pbox 200 g 0∧m 201=some (.map h (mpE S))∧m 200=some (.box g 145 [.mp 201 h,.own 202 sv] false)∧m 202=some (.row sv 56 4 (S.map qtA) 0))∧(e 13=.sl 4 A∧e 14=iv l.length∧e 15=iv i)∧(e 30=.sl 4 Q∧e 31=iv q.length∧e 32=iv k)∧(e 6=.pbox 6 g6 0∧m 6=some (.box g6 53 [.v (.bool (decide ((x*((sgP (q.take k):Int):Rat)).num < 0))),lim (toL (x*((sgP (q.take k):Int):Rat)).num.natAbs),lim (toL (x*((sgP (q.take k):Int):Rat)).den)] false))∧∃sv,e 7=.own 28 sv∧m 28=some (.row sv 27 4 ((nsP (q.take k)).map Qt.av) 0)) (λk=>q.length - k) 0 (by rfl) ?_ ?_
     ·rintro k e m ⟨hk,hak,⟨e3,m201,m200,m202⟩,⟨e13,e14,e15⟩,⟨e30,e31,e32⟩,⟨e6,m6⟩,s7,e7,m28⟩
      have hwz:Sz (x*((sgP (q.take k):Int):Rat)) (J+1):=hz.mul (Zme (Zlf _));have hnl:((nsP (q.take k)).map Qt.av).length=k:=by unfold nsP;rw [List.length_map,List.length_map,List.length_take];omega
      by_cases hkt:k < q.length
      ·have hgk:=hgq k hkt;have hok2:=Zii (p:=Qt.ok) hkt hak;have hbk:=hbq k hkt;have htk:q.take (k+1)=q.take k++[q[k]]:=by rw [List.take_add_one,List.getElem?_eq_getElem hkt];rfl
       have s1:x*((sgP (q.take (k+1)):Int):Rat)=x*((sgP (q.take k):Int):Rat)*(q[k].norm.2:Rat):=by rw [htk,Zri,Rat.intCast_mul,Rat.mul_assoc]
       have s2:(nsP (q.take (k+1))).map Qt.av=(nsP (q.take k)).map Qt.av++[Qt.av q[k].norm.1]:=by rw [htk];unfold nsP;rw [List.map_append,List.map_append];rfl
       have hns:=Zhs q[k];have c1:=Zke q[k].k q[k].a q[k].b q[k].c;have c2:=quNorm q[k].k q[k].a q[k].b q[k].c;have c3:=Zv3 hns;have c4:=ratMul _ _ hwz (Zme hns) (by omega) (by omega);have c4:Pure Tryz.prog 60 [.agg [.v (.bool (decide ((x*((sgP (q.take k):Int):Rat)).num < 0))),lim (toL (x*((sgP (q.take k):Int):Rat)).num.natAbs),lim (toL (x*((sgP (q.take k):Int):Rat)).den)],ratQ (q[k].norm.2:Rat)] (ratQ (x*((sgP (q.take k):Int):Rat)*(q[k].norm.2:Rat))):=c4;rw [←s1] at c4;clear hgq hbq hqk hny hnn hok htk hak s1 hwz;generalize q[k]=y at *;generalize hW1:x*((sgP (q.take (k+1)):Int):Rat)=w1 at *
       generalize x*((sgP (q.take k):Int):Rat)=w0 at *;generalize (nsP (q.take k)).map Qt.av=PR at *;generalize toL w0.num.natAbs=wn at *;generalize toL w0.den=wd at *;generalize decide (w0.num < 0)=ws at *;generalize S.map qtA=SA at *;generalize mpE S=SM at *;generalize hn1:y.norm.1=nn at *;generalize hn2:y.norm.2=ns at *;obtain⟨y1,y2,y3,y4⟩:=y;simp only at *
       cases hyo:Qt.ok ⟨y1,y2,y3,y4⟩with
       | false =>
         rw [hyo] at c1;rw [hbk hyo];clear s2 c2 c3 c4 hok2 hbk;(focus (refine wkad (w_16 e3 m200 m201 m202 e13 e14 e15 e30 e31 e32 e6 m6 e7 m28 hqm hgk) (w_1 c1) w_t ?_;(repeat' first|exact w_t|apply w_l);all_goals intros));all_goals exact gL
       | true =>
         rw [hyo] at c1;have hok3:=hok2 hyo;clear hbk hok2;obtain⟨n1,n2,n3,n4⟩:=nn;(focus (refine wkad (w_17 e3 m200 m201 m202 e13 e14 e15 e30 e31 e32 e6 m6 e7 m28 hqm hgk hnl) (w_4 c1 c2 c3 c4) (w_1 (w_d 15 [(2,ratQ (ns:Rat)),(3,ratQ w1)] [4] [])) ?_;(repeat' first|exact w_t|apply w_l);all_goals intros));exact⟨k+1,⟨by omega,hok3,⟨by exact gW e3,by exact gW m201,by exact gW m200,by exact gW m202⟩,⟨by exact gW e13,by exact gW e14,by exact gW e15⟩,⟨by exact gW e30,by exact gW e31,by exact gS⟩,⟨by exact gW e6,by rw [hW1];exact gC⟩,_,by exact gC,by rw [s2];exact gC⟩,by omega⟩
      ·have hkl:k=q.length:=by omega
       subst hkl;rw [List.take_length] at hak m6 m28 hwz;have hok3:=hok (hqk hak);clear hgq hbq hqk hok;have cz:=Zeo _ hwz (by omega);generalize hW:x*((sgP q:Int):Rat)=w at *;have cz:Pure Tryz.prog 41 [.agg [.v (.bool (decide (w.num < 0))),lim (toL w.num.natAbs),lim (toL w.den)]] (iv w.num.sign):=cz;by_cases hw:w=0
       ·have hnn:=hnn hw;have hz2:w.num.sign=0:=by rw [Zel];exact hw
        rw [hz2] at cz;clear hny hz2;rw [←hnn] at m201 m202;generalize toL w.num.natAbs=wn at *;generalize toL w.den=wd at *;generalize decide (w.num < 0)=ws at *;(focus (refine wkad (w_15 e3 m200 m201 m202 e13 e14 e15 e30 e31 e32 e6 m6 e7 m28 hqm) (w_1 cz) w_t ?_;(repeat' first|exact w_t|apply w_l);all_goals intros));exact⟨i+1,⟨by omega,hok3,by exact gW e3,by exact gW m201,⟨sv,by exact gW m200,by exact gW m202⟩,by exact gW e13,by exact gW e14,by exact gS⟩,by omega⟩
       ·have hny:=hny hw;have hz2:¬w.num.sign=0:=by rw [Zel];exact hw
        have hsg:sgP q≠0:=λe=>hw (by rw [←hW,e];exact Rat.mul_zero x);have hsr:=Zu3 hsg;have hpl:=Zjo q;have hbb:=Zwa hak;have hSl:=hacc.2.2;have hSq:=λt ht=>(hacc.1 t ht).1;have hSb:=hacc.2.1;have hMq:=Zkl;have ci:=fun(m:Mem) h=>qSort m 28 s7 (nsP q) h (by unfold nsP;rw [List.length_map];exact(show q.length≤maxQ by omega));rw [hsr] at ci;clear hnn hsg hak hacc;have cad:=fun(m:Mem) a b c d=>exAddO m 200 201 202 28 g h sv s7 S w (putP q) a b c d (by omega) (by omega) (by omega) (by omega) (by omega) (by omega) (by omega) (by omega) hSb hbb hSq hwz (by omega) (by omega);rw [←hny] at cad
        have cad:∀(m:Mem),m 200=some (.box g 145 [.mp 201 h,.own 202 sv] false)→m 201=some (.map h (mpE S))→m 202=some (.row sv 56 4 (S.map qtA) 0)→m 28=some (.row s7 27 4 ((putP q).map Qt.av) 0)→ACall Tryz.prog 59 [.pbox 200 g 0,.agg [.v (.bool (decide (w.num < 0))),lim (toL w.num.natAbs),lim (toL w.den)],.own 28 s7] m _:=cad;generalize w.num.sign=z at *;generalize toL w.num.natAbs=wn at *;generalize toL w.den=wd at *;generalize decide (w.num < 0)=ws at *;(focus (refine wkad (w_16 e3 m200 m201 m202 e13 e14 e15 e30 e31 e32 e6 m6 e7 m28 hqm hz2) (w_1 cz) w_t ?_;(repeat' first|exact w_t|apply w_l);all_goals intros))
        refine Zga (ci _ (by exact gW m28)) ?_;(focus (refine wkad (w_11 e3 m200 m201 m202 e13 e14 e15 e6 m6 e7 hqm) w_t w_t ?_;(repeat' first|exact w_t|apply w_l);all_goals intros));refine Zdg (cad _ (by exact gW m200) (by exact gW m201) (by exact gW m202) (by exact gC)) ?_
        rintro _ _ ⟨sv2,eP,rfl,rfl⟩
        (focus (refine wkad (w_4 e3 e13 e14 e15) w_t w_t ?_;(repeat' first|exact w_t|apply w_l);all_goals intros));exact⟨i+1,⟨by omega,hok3,by exact gW e3,by exact gC,⟨sv2,by exact gC,by exact gC⟩,by exact gW e13,by exact gW e14,by exact gS⟩,by omega⟩
     ·exact⟨Nat.zero_le _,rfl,⟨by exact gW e3,by exact gW m201,by exact gW m200,by exact gW m202⟩,⟨by exact gW e13,by exact gW e14,by exact gW e15⟩,⟨by exact gC,by exact gW hqm,by exact gC⟩,⟨by exact gC,by rw [hw0];exact gC⟩,_,by exact gC,by exact gC⟩
  ·have hil:i=l.length:=by omega
   subst hil;have hacc:=hA l.length (Nat.le_refl _) ha;rw [List.take_length] at ha hacc m201 m202;have hfin:nrmR l=.sl 4 ((srtQ ordT (nzT (accS (nzT (l.map RE.t))))).map qtA):=by unfold nrmR;rw [if_pos ha,acc_fin]
   have hlen:=hacc.2.2;have hMq:=Zkl;have ce:=fun(m:Mem) a b=>exExpr m 200 201 202 300 g h sv (accS (nzT (l.map RE.t))) a b (by omega) (Zfd _ [] .nil) hacc.1 (by omega) (by omega);rw [hfin];clear hg hr hq ha hacc hfin;generalize accS (nzT (l.map RE.t))=S at *;generalize (srtQ ordT (nzT S)).map qtA=R at *;(focus (refine wkad (w_8 e3 m200 m201 m202 e13 e14 e15 hlm) w_t w_t ?_;(repeat' first|exact w_t|apply w_l);all_goals intros));refine Zwx (ce _ (by exact gW m200) (by exact gW m202)) ?_;intro sv3;(focus (refine wkad w_t w_t w_t ?_;(repeat' first|exact w_t|apply w_l);all_goals intros))
   all_goals exact gL
 ·refine⟨Nat.zero_le _,rfl,by exact gC,by exact gC,⟨_,by exact gC,by exact gC⟩,by exact gC,by exact gW hlm,by exact gC⟩
theorem Zyy (l:List RE) {J:Nat} (hr:∀t∈l,t.r.lm J) (hq:∀t∈l,t.q.length≤12):∀i,i≤l.length→(l.take i).all RE.ok=true→AccOk (accS (nzT ((l.take i).map RE.t))) i (J+1) 12
 | 0,_,_=>AccOk.nil _ _
 | i+1,hi,ha=>by
   have hlt:i < l.length:=hi;have hta:l.take (i+1)=l.take i++[l[i]]:=by rw [List.take_succ_eq_append_getElem hlt]
   rw [hta,List.all_append,Bool.and_eq_true] at ha;have ih:=Zyy l hr hq i (by omega) ha.1;have hok:RE.ok l[i]=true:=by have:=ha.2;simpa using this
   have hri:=hr _ (List.getElem_mem hlt);have hqi:=hq _ (List.getElem_mem hlt);rw [hta,List.map_append];unfold nzT at *;rw [List.filter_append];unfold RE.ok at hok;rw [Bool.and_eq_true] at hok;by_cases h0:(RE.t l[i]).1=0
   ·rw [List.map_cons,List.map_nil,List.filter_cons_of_neg (by simpa using h0),List.filter_nil,List.append_nil];exact ih.mono (by omega)
   ·rw [List.map_cons,List.map_nil,List.filter_cons_of_pos (by simpa using h0),List.filter_nil,Zk4];exact ih.add (((RQ.ok_av hri hok.1).2).mul (Zme (Zlf _))) (Nat.le_trans (Zjo _) hqi) (Zwa hok.2)
theorem exNorm (l:List RE) {J:Nat} (hl:l.length≤12) (hr:∀t∈l,t.r.lm J) (hq:∀t∈l,t.q.length≤12) (hJ:J≤1000):Pure Tryz.prog 46 [.sl 4 (l.map RE.av)] (nrmR l) :=
 exNormGT l (J:=J) (JA:=12*(J+1+2)) (nQ:=12) (by omega) hr hq Zxc (by omega) (by omega) λi hi ha=>by
  have h:=Zyy l hr hq i hi ha;have h2:i*(J+1+2)≤12*(J+1+2):=Nat.mul_le_mul_right _ (by omega);exact⟨h.qk.mono h2 (Nat.le_refl _),h.b8,by have:=h.len;have:=Zxb;omega⟩
end Go.Proofs.YtjgdomdhjphgbaaGreatDoor
namespace Go.Proofs.YtjgdomdhjphgbaaGreatDoor
open Go Go.RowKit Go.Pg
attribute [-bool_to_prop] Bool.and_eq_decide Bool.or_eq_decide Bool.decide_beq_decide decide_eq_decide
theorem szOpn:szOf Tryz.prog 142=some 1:=by kernel_rfl
theorem zOpn:Za0 Tryz.prog 142=some (.agg #[.nilFunc]):=by kernel_rfl
theorem szFnR:szOf Tryz.prog 110=some 1:=by kernel_rfl
theorem zFnR:Za0 Tryz.prog 110=some (.nilFunc):=by kernel_rfl
theorem undFnR:Tryz.prog.underlying 110=some (.func #[53,53] #[53] false):=by kernel_rfl
end Go.Proofs.YtjgdomdhjphgbaaGreatDoor
namespace Go.Proofs.YtjgdomdhjphgbaaGreatDoor
open Go Go.RowKit Go.Pg Go.Pol
attribute [-bool_to_prop] Bool.and_eq_decide Bool.or_eq_decide Bool.decide_beq_decide decide_eq_decide
attribute [local go_sem] Tryz.underlying3 Tryz.underlying4 Tryz.underlying160 Tryz.underlying49 Tryz.underlying51 Tryz.underlying53 Tryz.underlying27 Tryz.underlying54 Tryz.underlying56 Tryz.underlying30 Tryz.underlying31 sz3 by3 z3 szB zB Zax zRat Za3 zInt Za2 zNat Zag Zaq Zah Bool.and_self Zal Zbh zSlQ szQT byQT zQT Zbj zSlT szQP zQP Tryz.underlying142 szOpn zOpn szFnR zFnR undFnR
abbrev subT (p q:QTs):QTs:=Zav p (q.map λt=>(-t.1,t.2))
structure OpF (f:Nat) (s:Rat):Prop where
 pm:s=1∨s=-1
 ct:∀(a b:Rat) {j k:Nat},Sz a j→Sz b k→j≤1000000→k≤1000000→Pure Tryz.prog f [ratQ a,ratQ b] (ratQ (a+s*b))
theorem opAdd:OpF 104 1:=⟨.inl rfl,λa b _ _ ha hb hj hk=>by rw [Rat.one_mul];exact Zv5 a b ha hb (by omega) (by omega)⟩
theorem opSub:OpF 102 (-1):=⟨.inr rfl,λa b _ _ ha hb hj hk=>by
 have:a+-1*b=a - b:=by grind
 rw [this];exact ratSub a b ha hb (by omega) (by omega)⟩
def sclT (s:Rat) (q:QTs):QTs:=q.map λt=>(s*t.1,t.2)
theorem Zcz (s:Rat) (q:QTs):(sclT s q).length=q.length:=List.length_map ..
theorem Zu8 (s:Rat) (q:QTs) {i:Nat} (h:i < q.length):(sclT s q)[i]'(by rw [Zcz];exact h)=(s*q[i].1,q[i].2):=List.getElem_map ..
theorem Zxq (f:Nat) (s:Rat) (op:OpF f s) (p q:QTs) {j k n:Nat} (hp:QK p j n) (hq:QK q k n) (np:∀t∈p,t.1≠0) (nq:∀t∈q,t.1≠0) (lp:p.length≤100000000) (lq:q.length≤100000000) (hj:j≤900000) (hk:k≤900000) (hn:n≤1000000) :
 Pure Tryz.prog 103 [.agg [.fn f []],qpA p,qpA q] (qpA (Zav p (sclT s q))):=by
 have hz0:ratQ ((0:Nat):Rat)=.agg [.v (.bool false),lim [],lim (toL 1)]:=by
  show AV.agg [.v (.bool (decide ((0:Rat).num < 0))),lim (toL (0:Rat).num.natAbs),lim (toL (0:Rat).den)]=_;rw [show(0:Rat).num=0 from rfl,show(0:Rat).den=1 from rfl,show(0:Int).natAbs=0 from rfl,Zaw];rfl
 have hz1:ratQ (0:Rat)=.agg [.v (.bool false),lim [],lim (toL 1)]:=hz0;have c0:Pure Tryz.prog 47 [iv 0] (.agg [.v (.bool false),lim [],lim (toL 1)]):=by rw [←hz0];exact Ztf 0 (by omega)
 have sz0:Sz (0:Rat) 1:=Zme (.inr (.inl rfl));have hsn:s≠0:=by rcases op.pm with h | h<;>rw [h]<;>decide
 show Pure _ _ [.agg [.fn f []],.sl 4 (p.map qtA),.sl 4 (q.map qtA)] _;refine Zaa (tok:=0) Tryz.func103 rfl Tryz.ntmps103 Tryz.results103 Tryz.call103 (by rfl) (by simp) ?_;(focus (refine wkad w_t (w_1 c0) w_t ?_;(repeat' first|exact w_t|apply w_l);all_goals intros));rename_i g3 g8;generalize toL 1=one at *;refine Zeu (Frz.nilOwn (d:=7) 79 4 56 (by exact gC)) ?_;refine Zac (ι:=Nat × Nat) (λx e m=>x.1≤p.length∧x.2≤q.length∧e 1=.sl 4 ((p.drop x.1).map qtA)∧e 2=.sl 4 ((q.drop x.2).map qtA)∧e 3=.pbox 3 g3 0∧m 3=some (.box g3 142 [.fn f []] false)∧e 8=.pbox 8 g8 0∧m 8=some (.box g8 53 [.v (.bool false),lim [],lim one] false)∧∃sv out,e 7=.own 79 sv∧m 79=some (.row sv 56 4 (out.map qtA) 0)∧out.length≤x.1+x.2∧Zav p (sclT s q)=out++Zav (p.drop x.1) ((sclT s q).drop x.2)) (λx=>p.length+q.length - (x.1+x.2)) (0,0) (by rfl) ?_ ?_
 ·rintro ⟨i,l⟩ e m ⟨hi,hl,e1,e2,e3,m3,e8,m8,sv,out,e7,m79,ho,hs⟩
  simp only at hi hl e1 e2 ho hs;have hlen:(out.map qtA).length=out.length:=List.length_map ..;by_cases hi2:i < p.length
  ·have hd:(p.drop i).map qtA=qtA p[i] :: (p.drop (i+1)).map qtA:=by rw [List.drop_eq_getElem_cons hi2];rfl
   have hdl:((p.drop (i+1)).map qtA).length=p.length - (i+1):=by rw [List.length_map,List.length_drop]
   have ms:=hp _ (List.getElem_mem hi2);have ns:=np _ (List.getElem_mem hi2);rw [hd] at e1;have hdp:=hd;clear hd;by_cases hl2:l < q.length
   ·have hd:(q.drop l).map qtA=qtA q[l] :: (q.drop (l+1)).map qtA:=by rw [List.drop_eq_getElem_cons hl2];rfl
    have hel:((q.drop (l+1)).map qtA).length=q.length - (l+1):=by rw [List.length_map,List.length_drop]
    have mt:=hq _ (List.getElem_mem hl2);have nt:=nq _ (List.getElem_mem hl2);have st:=Zo5 (p:=p) (q:=sclT s q) hi2 (show l < (sclT s q).length by rw [Zcz];exact hl2);rw [Zu8 s q hl2] at st;rw [hd] at e2;have hdq:=hd;clear hd hp hq np nq;generalize p[i]=u at *;generalize q[l]=v at *;have cl:=exCmpP u.2 v.2 (by have:=ms.2;omega) (by have:=mt.2;omega);have h3:=Zok u.2 v.2;have hou:∀x:Rat × List Qt,(out++[x]).map qtA=out.map qtA++[.agg [.v (.bool (decide (x.1.num < 0))),lim (toL x.1.num.natAbs),lim (toL x.1.den),.sl 4 (x.2.map Qt.av)]]:=λx=>by rw [List.map_append];rfl
    rw [st] at hs;clear st;have ca1:=op.ct u.1 0 ms.1 sz0 (by omega) (by omega);have ca2:=op.ct 0 v.1 sz0 mt.1 (by omega) (by omega);have ca3:=op.ct u.1 v.1 ms.1 mt.1 (by omega) (by omega);rw [show u.1+s*0=u.1 by rw [Rat.mul_zero,Rat.add_zero],hz1] at ca1;rw [show 0+s*v.1=s*v.1 by rw [Rat.zero_add],hz1] at ca2;have hpm:=op.pm;have zs1:=Zeo u.1 ms.1 (by omega)
    have hsz:Sz (s*v.1) (k+1):=by
     rcases hpm with h | h
     ·rw [h,Rat.one_mul];exact mt.1.mono (by omega)
     ·rw [h,show -1*v.1=- v.1 by grind];exact mt.1.neg.mono (by omega)
    have zs2:=Zeo (s*v.1) hsz (by omega);have zs3:=Zeo (u.1+s*v.1) (ms.1.add hsz) (by omega);have nz1:¬u.1.num.sign=0:=by rw [Zel];exact ns
    have nz2:¬(s*v.1).num.sign=0:=by rw [Zel];exact λh=>by rcases Rat.mul_eq_zero.1 h with h | h;exact hsn h;exact nt h
    have hou1:=hou u;have hou2:=hou (s*v.1,v.2);have hou3:=hou (u.1+s*v.1,v.2);clear hou ms mt hsz hpm;obtain⟨u1,u2⟩:=u;obtain⟨v1,v2⟩:=v;simp only at *;have cl:Pure Tryz.prog 120 [.sl 4 (u2.map Qt.av),.sl 4 (v2.map Qt.av)] (iv (ordQ u2 v2)):=cl;have e1:e 1=.sl 4 (.agg [.v (.bool (decide (u1.num < 0))),lim (toL u1.num.natAbs),lim (toL u1.den),.sl 4 (u2.map Qt.av)] :: (p.drop (i+1)).map qtA):=e1;have hdp:(p.drop i).map qtA=.agg [.v (.bool (decide (u1.num < 0))),lim (toL u1.num.natAbs),lim (toL u1.den),.sl 4 (u2.map Qt.av)] :: (p.drop (i+1)).map qtA:=hdp;have e2:e 2=.sl 4 (.agg [.v (.bool (decide (v1.num < 0))),lim (toL v1.num.natAbs),lim (toL v1.den),.sl 4 (v2.map Qt.av)] :: (q.drop (l+1)).map qtA):=e2
    have hdq:(q.drop l).map qtA=.agg [.v (.bool (decide (v1.num < 0))),lim (toL v1.num.natAbs),lim (toL v1.den),.sl 4 (v2.map Qt.av)] :: (q.drop (l+1)).map qtA:=hdq;have ca1:Pure Tryz.prog f [.agg [.v (.bool (decide (u1.num < 0))),lim (toL u1.num.natAbs),lim (toL u1.den)],.agg [.v (.bool false),lim [],lim one]] (.agg [.v (.bool (decide (u1.num < 0))),lim (toL u1.num.natAbs),lim (toL u1.den)]):=ca1;have ca2:Pure Tryz.prog f [.agg [.v (.bool false),lim [],lim one],.agg [.v (.bool (decide (v1.num < 0))),lim (toL v1.num.natAbs),lim (toL v1.den)]] (ratQ (s*v1)):=ca2;have ca3:Pure Tryz.prog f [.agg [.v (.bool (decide (u1.num < 0))),lim (toL u1.num.natAbs),lim (toL u1.den)],.agg [.v (.bool (decide (v1.num < 0))),lim (toL v1.num.natAbs),lim (toL v1.den)]] (ratQ (u1+s*v1)):=ca3
    have zs1:Pure Tryz.prog 41 [.agg [.v (.bool (decide (u1.num < 0))),lim (toL u1.num.natAbs),lim (toL u1.den)]] (iv u1.num.sign):=zs1;rcases h3 with⟨h1,h2⟩ | ⟨h1,h2,h4⟩ | ⟨h1,h2,h4⟩
    ·rw [if_pos h2] at hs;rw [h1] at cl;clear ca2 ca3 zs2 zs3 nz2 hou2 hou3 h1 h2;generalize u1.num.sign=z at *;generalize hO:out.map qtA=O at *;generalize hPd:(p.drop (i+1)).map qtA=PD at *;have htp:PD.take (p.length - (i+1))=PD:=List.take_of_length_le (by omega);generalize hQd:(q.drop (l+1)).map qtA=QD at *;have htq:QD.take (q.length - (l+1))=QD:=List.take_of_length_le (by omega);generalize u2.map Qt.av=U2 at *;generalize v2.map Qt.av=V2 at *;(focus (refine wkax (w_14 e1 e2 e3 m3 e8 m8 e7 m79 hlen hdl hel htp htq nz1) (w_3 cl ca1 zs1) (w_3 (w_d 8 [(8,iv (-1))] [] []) (w_d 9 [] [] [10,11]) (w_d 12 [] [] [10])) w_t w_t w_t (w_r 0) ?_;(repeat' first|exact w_t|apply w_l);all_goals intros))
     refine⟨(i+1,l),⟨by simp only;omega,by simp only;omega,by rw [hPd];exact gC,by rw [hdq];exact gW e2,by exact gW e3,by exact gW m3,by exact gW e8,by exact gW m8,_,out++[(u1,u2)],by exact gC,by rw [hou1];exact gC,by simp only [List.length_append,List.length_cons,List.length_nil];omega,by rw [hs,List.append_assoc];rfl⟩,by simp only;omega⟩
    ·rw [if_neg h2,if_neg h4] at hs;have huv:u2=v2:=Zbp.eqz _ _ h1;rw [h1] at cl;clear ca1 ca2 zs1 zs2 nz1 nz2 hou1 hou2 h2 h4;by_cases hz:u1+s*v1=0
     ·rw [if_pos hz] at hs;have hz2:(u1+s*v1).num.sign=0:=by rw [Zel];exact hz
      rw [hz2] at zs3;clear hou3 h1 huv hz hz2;generalize u1+s*v1=w at *;generalize hO:out.map qtA=O at *;generalize hPd:(p.drop (i+1)).map qtA=PD at *;have htp:PD.take (p.length - (i+1))=PD:=List.take_of_length_le (by omega);generalize hQd:(q.drop (l+1)).map qtA=QD at *;have htq:QD.take (q.length - (l+1))=QD:=List.take_of_length_le (by omega);generalize u2.map Qt.av=U2 at *;generalize v2.map Qt.av=V2 at *
      (repeat' (first|(with_reducible first|refine stp ?_|apply gx1|apply gx2|apply gx3|apply gx4|apply gx5|apply gx6|apply gx7|apply gy8|apply gz2|apply gz3|refine gw0 (cl) ?_ ?_|refine gw3 (cl) ?_ ?_ ?_|refine gw0 (ca3) ?_ ?_|refine gw3 (ca3) ?_ ?_ ?_|refine gw0 (zs3) ?_ ?_|refine gw3 (zs3) ?_ ?_ ?_)|(with_reducible refine Zbb ?_;intro _)|((with_reducible refine gE ?_);(try simp (disch:=omega) only [go_sem,e1,e2,e3,m3,e8,m8,e7,m79,hlen,hdl,hel,htp,htq,decide_eq_true,decide_eq_false,if_pos,if_neg,Int.reduceAdd,Int.reduceSub,Int.reduceToNat,Int.zero_add])<;>first|rfl|omega)|with_reducible refine Zab (by decide) ?_|((with_reducible apply gy1);iterate 3 focus rfl)|((with_reducible apply gy2);iterate 3 focus rfl)|((with_reducible apply gy3);iterate 2 focus rfl)|((with_reducible apply gy4);iterate 1 focus rfl)|((with_reducible apply gy5);iterate 4 focus rfl)|((with_reducible apply gy5c);iterate 4 focus rfl)|((with_reducible apply gy6);iterate 4 focus rfl)|((with_reducible apply Zb8);iterate 3 focus rfl)|((with_reducible apply Zb6);iterate 1 focus rfl)|((with_reducible apply gy7);iterate 1 focus rfl)|((with_reducible apply gy9);(focus ((with_reducible refine gE ?_);(try simp (disch:=omega) only [go_sem,e1,e2,e3,m3,e8,m8,e7,m79,hlen,hdl,hel,htp,htq,decide_eq_true,decide_eq_false,if_pos,if_neg,Int.reduceAdd,Int.reduceSub,Int.reduceToNat,Int.zero_add])<;>rfl)))|((with_reducible apply gz1);(focus first|rfl|(simp (disch:=omega) only [go_sem,e1,e2,e3,m3,e8,m8,e7,m79,hlen,hdl,hel,htp,htq,decide_eq_true,decide_eq_false,if_pos,if_neg,Int.reduceAdd,Int.reduceSub,Int.reduceToNat,Int.zero_add];done)))|((with_reducible apply Zan (id:=8) (Zbi [(8,iv 0)]) [] []);(focus kernel_rfl);(focus rfl);(focus kernel_rfl);(focus (simp only [List.length_cons,List.length_nil,Nat.reduceAdd];rfl)))|((with_reducible apply Zan (id:=9) (Zbi []) [] [10,11]);(focus kernel_rfl);(focus rfl);(focus kernel_rfl);(focus (simp only [List.length_cons,List.length_nil,Nat.reduceAdd];rfl)))|((with_reducible apply Zan (id:=12) (Zbi []) [] [10]);(focus kernel_rfl);(focus rfl);(focus kernel_rfl);(focus (simp only [List.length_cons,List.length_nil,Nat.reduceAdd];rfl)))|((with_reducible apply Zan (id:=14) (Zbi []) [] [11]);(focus kernel_rfl);(focus rfl);(focus kernel_rfl);(focus (simp only [List.length_cons,List.length_nil,Nat.reduceAdd];rfl)))|((with_reducible first|apply Zay|apply Za5|apply Zaz);all_goals (intro hc;(try simp only [bool_to_prop] at hc);try (exfalso;omega)))))
      refine⟨(i+1,l+1),⟨by simp only;omega,by simp only;omega,by rw [hPd];exact gC,by rw [hQd];exact gC,by exact gW e3,by exact gW m3,by exact gW e8,by exact gW m8,_,out,by exact gW e7,by rw [hO];exact gW m79,by simp only;omega,hs⟩,by simp only;omega⟩
     ·rw [if_neg hz] at hs;have hz2:¬(u1+s*v1).num.sign=0:=by rw [Zel];exact hz
      have hs:Zav p (sclT s q)=out++(u1+s*v1,v2) :: Zav (p.drop (i+1)) ((sclT s q).drop (l+1)):=by rw [←huv];exact hs
      clear h1 huv hz;generalize (u1+s*v1).num.sign=z at *;generalize u1+s*v1=w at *;generalize hO:out.map qtA=O at *;generalize hPd:(p.drop (i+1)).map qtA=PD at *;have htp:PD.take (p.length - (i+1))=PD:=List.take_of_length_le (by omega);generalize hQd:(q.drop (l+1)).map qtA=QD at *;have htq:QD.take (q.length - (l+1))=QD:=List.take_of_length_le (by omega);generalize u2.map Qt.av=U2 at *;generalize v2.map Qt.av=V2 at *
      (repeat' (first|(with_reducible first|refine stp ?_|apply gx1|apply gx2|apply gx3|apply gx4|apply gx5|apply gx6|apply gx7|apply gy8|apply gz2|apply gz3|refine gw0 (cl) ?_ ?_|refine gw3 (cl) ?_ ?_ ?_|refine gw0 (ca3) ?_ ?_|refine gw3 (ca3) ?_ ?_ ?_|refine gw0 (zs3) ?_ ?_|refine gw3 (zs3) ?_ ?_ ?_)|(with_reducible refine Zbb ?_;intro _)|((with_reducible refine gE ?_);(try simp (disch:=omega) only [go_sem,e1,e2,e3,m3,e8,m8,e7,m79,hlen,hdl,hel,htp,htq,hz2,decide_eq_true,decide_eq_false,if_pos,if_neg,Int.reduceAdd,Int.reduceSub,Int.reduceToNat,Int.zero_add])<;>first|rfl|omega)|with_reducible refine Zab (by decide) ?_|((with_reducible apply gy1);iterate 3 focus rfl)|((with_reducible apply gy2);iterate 3 focus rfl)|((with_reducible apply gy3);iterate 2 focus rfl)|((with_reducible apply gy4);iterate 1 focus rfl)|((with_reducible apply gy5);iterate 4 focus rfl)|((with_reducible apply gy5c);iterate 4 focus rfl)|((with_reducible apply gy6);iterate 4 focus rfl)|((with_reducible apply Zb8);iterate 3 focus rfl)|((with_reducible apply Zb6);iterate 1 focus rfl)|((with_reducible apply gy7);iterate 1 focus rfl)|((with_reducible apply gy9);(focus ((with_reducible refine gE ?_);(try simp (disch:=omega) only [go_sem,e1,e2,e3,m3,e8,m8,e7,m79,hlen,hdl,hel,htp,htq,hz2,decide_eq_true,decide_eq_false,if_pos,if_neg,Int.reduceAdd,Int.reduceSub,Int.reduceToNat,Int.zero_add])<;>rfl)))|((with_reducible apply gz1);(focus first|rfl|(simp (disch:=omega) only [go_sem,e1,e2,e3,m3,e8,m8,e7,m79,hlen,hdl,hel,htp,htq,hz2,decide_eq_true,decide_eq_false,if_pos,if_neg,Int.reduceAdd,Int.reduceSub,Int.reduceToNat,Int.zero_add];done)))|((with_reducible apply Zan (id:=8) (Zbi [(8,iv 0)]) [] []);(focus kernel_rfl);(focus rfl);(focus kernel_rfl);(focus (simp only [List.length_cons,List.length_nil,Nat.reduceAdd];rfl)))|((with_reducible apply Zan (id:=9) (Zbi []) [] [10,11]);(focus kernel_rfl);(focus rfl);(focus kernel_rfl);(focus (simp only [List.length_cons,List.length_nil,Nat.reduceAdd];rfl)))|((with_reducible apply Zan (id:=12) (Zbi []) [] [10]);(focus kernel_rfl);(focus rfl);(focus kernel_rfl);(focus (simp only [List.length_cons,List.length_nil,Nat.reduceAdd];rfl)))|((with_reducible apply Zan (id:=14) (Zbi []) [] [11]);(focus kernel_rfl);(focus rfl);(focus kernel_rfl);(focus (simp only [List.length_cons,List.length_nil,Nat.reduceAdd];rfl)))|((with_reducible first|apply Zay|apply Za5|apply Zaz);all_goals (intro hc;(try simp only [bool_to_prop] at hc);try (exfalso;omega)))))
      refine⟨(i+1,l+1),⟨by simp only;omega,by simp only;omega,by rw [hPd];exact gC,by rw [hQd];exact gC,by exact gW e3,by exact gW m3,by exact gW e8,by exact gW m8,_,out++[(w,v2)],by exact gC,by rw [hou3];exact gC,by simp only [List.length_append,List.length_cons,List.length_nil];omega,by rw [hs,List.append_assoc];rfl⟩,by simp only;omega⟩
    ·rw [if_neg h2,if_pos h4] at hs;rw [h1] at cl;clear ca1 ca3 zs1 zs3 nz1 hou1 hou3 h1 h2 h4;generalize (s*v1).num.sign=z at *;generalize s*v1=w at *;generalize hO:out.map qtA=O at *;generalize hPd:(p.drop (i+1)).map qtA=PD at *;have htp:PD.take (p.length - (i+1))=PD:=List.take_of_length_le (by omega);generalize hQd:(q.drop (l+1)).map qtA=QD at *;have htq:QD.take (q.length - (l+1))=QD:=List.take_of_length_le (by omega);generalize u2.map Qt.av=U2 at *;generalize v2.map Qt.av=V2 at *;(focus (refine wkax (w_14 e1 e2 e3 m3 e8 m8 e7 m79 hlen hdl hel htp htq nz2) (w_3 cl ca2 zs2) (w_3 (w_d 8 [(8,iv 1)] [] []) (w_d 9 [] [] [10,11]) (w_d 14 [] [] [11])) w_t w_t w_t (w_r 0) ?_;(repeat' first|exact w_t|apply w_l);all_goals intros))
     refine⟨(i,l+1),⟨by simp only;omega,by simp only;omega,by rw [hdp];exact gW e1,by rw [hQd];exact gC,by exact gW e3,by exact gW m3,by exact gW e8,by exact gW m8,_,out++[(w,v2)],by exact gC,by rw [hou2];exact gC,by simp only [List.length_append,List.length_cons,List.length_nil];omega,by rw [hs,List.append_assoc];rfl⟩,by simp only;omega⟩
   ·have hl3:l=q.length:=by omega
    subst hl3;rw [Ze4 (.inr (by rw [Zcz];exact Nat.le_refl _)),List.drop_of_length_le (l:=sclT s q) (by rw [Zcz];exact Nat.le_refl _),List.append_nil,List.drop_eq_getElem_cons hi2] at hs
    have hs:Zav p (sclT s q)=(out++[p[i]])++Zav (p.drop (i+1)) ((sclT s q).drop q.length):=by
     rw [Ze4 (.inr (by rw [Zcz];exact Nat.le_refl _)),hs,List.drop_of_length_le (l:=sclT s q) (by rw [Zcz];exact Nat.le_refl _)];simp
    rw [show q.drop q.length=[] from List.drop_of_length_le (Nat.le_refl _)] at e2;have e2:e 2=.sl 4 []:=e2;have hq0:(q.drop q.length).map qtA=[]:=by rw [List.drop_of_length_le (Nat.le_refl _)];rfl
    clear hp hq np nq;generalize p[i]=u at *;have hou1:(out++[u]).map qtA=out.map qtA++[.agg [.v (.bool (decide (u.1.num < 0))),lim (toL u.1.num.natAbs),lim (toL u.1.den),.sl 4 (u.2.map Qt.av)]]:=by rw [List.map_append];rfl
    have ca1:=op.ct u.1 0 ms.1 sz0 (by omega) (by omega);rw [show u.1+s*0=u.1 by rw [Rat.mul_zero,Rat.add_zero],hz1] at ca1;have zs1:=Zeo u.1 ms.1 (by omega);have nz1:¬u.1.num.sign=0:=by rw [Zel];exact ns
    obtain⟨u1,u2⟩:=u;simp only at *;have e1:e 1=.sl 4 (.agg [.v (.bool (decide (u1.num < 0))),lim (toL u1.num.natAbs),lim (toL u1.den),.sl 4 (u2.map Qt.av)] :: (p.drop (i+1)).map qtA):=e1;have hdp:(p.drop i).map qtA=.agg [.v (.bool (decide (u1.num < 0))),lim (toL u1.num.natAbs),lim (toL u1.den),.sl 4 (u2.map Qt.av)] :: (p.drop (i+1)).map qtA:=hdp;have ca1:Pure Tryz.prog f [.agg [.v (.bool (decide (u1.num < 0))),lim (toL u1.num.natAbs),lim (toL u1.den)],.agg [.v (.bool false),lim [],lim one]] (.agg [.v (.bool (decide (u1.num < 0))),lim (toL u1.num.natAbs),lim (toL u1.den)]):=ca1;have zs1:Pure Tryz.prog 41 [.agg [.v (.bool (decide (u1.num < 0))),lim (toL u1.num.natAbs),lim (toL u1.den)]] (iv u1.num.sign):=zs1
    generalize u1.num.sign=z at *;generalize hO:out.map qtA=O at *;generalize hPd:(p.drop (i+1)).map qtA=PD at *;have htp:PD.take (p.length - (i+1))=PD:=List.take_of_length_le (by omega);generalize u2.map Qt.av=U2 at *;(focus (refine wkad (w_12 e1 e2 e3 m3 e8 m8 e7 m79 hlen hdl htp nz1) (w_2 ca1 zs1) (w_2 (w_d 9 [] [] [10,11]) (w_d 12 [] [] [10])) ?_;(repeat' first|exact w_t|apply w_l);all_goals intros));refine⟨(i+1,q.length),⟨by simp only;omega,by simp only;omega,by rw [hPd];exact gC,by rw [hq0];exact gW e2,by exact gW e3,by exact gW m3,by exact gW e8,by exact gW m8,_,out++[(u1,u2)],by exact gC,by rw [hou1];exact gC,by simp only [List.length_append,List.length_cons,List.length_nil];omega,hs⟩,by simp only;omega⟩
  ·have hi3:i=p.length:=by omega
   subst hi3;rw [show p.drop p.length=[] from List.drop_of_length_le (Nat.le_refl _)] at e1;have e1:e 1=.sl 4 []:=e1;have hp0:(p.drop p.length).map qtA=[]:=by rw [List.drop_of_length_le (Nat.le_refl _)];rfl
   by_cases hl2:l < q.length
   ·have hd:(q.drop l).map qtA=qtA q[l] :: (q.drop (l+1)).map qtA:=by rw [List.drop_eq_getElem_cons hl2];rfl
    have hel:((q.drop (l+1)).map qtA).length=q.length - (l+1):=by rw [List.length_map,List.length_drop]
    have mt:=hq _ (List.getElem_mem hl2);have nt:=nq _ (List.getElem_mem hl2);rw [hd] at e2;have hdq:=hd;have hsl:(sclT s q).drop l=(s*q[l].1,q[l].2) :: (sclT s q).drop (l+1):=by rw [List.drop_eq_getElem_cons (by rw [Zcz];exact hl2),Zu8 s q hl2]
    rw [Ze4 (.inl (Nat.le_refl _)),List.drop_of_length_le (Nat.le_refl _),List.nil_append,hsl] at hs
    have hs:Zav p (sclT s q)=(out++[(s*q[l].1,q[l].2)])++Zav (p.drop p.length) ((sclT s q).drop (l+1)):=by
     rw [Ze4 (.inl (Nat.le_refl _)),hs,List.drop_of_length_le (l:=p) (Nat.le_refl _)];simp
    clear hd hsl hp hq np nq;generalize q[l]=v at *;have ca2:=op.ct 0 v.1 sz0 mt.1 (by omega) (by omega);rw [show 0+s*v.1=s*v.1 by rw [Rat.zero_add],hz1] at ca2;have hpm:=op.pm
    have hsz:Sz (s*v.1) (k+1):=by
     rcases hpm with h | h
     ·rw [h,Rat.one_mul];exact mt.1.mono (by omega)
     ·rw [h,show -1*v.1=- v.1 by grind];exact mt.1.neg.mono (by omega)
    have zs2:=Zeo (s*v.1) hsz (by omega);have nz2:¬(s*v.1).num.sign=0:=by rw [Zel];exact λh=>by rcases Rat.mul_eq_zero.1 h with h | h;exact hsn h;exact nt h
    have hou2:(out++[(s*v.1,v.2)]).map qtA=out.map qtA++[.agg [.v (.bool (decide ((s*v.1).num < 0))),lim (toL (s*v.1).num.natAbs),lim (toL (s*v.1).den),.sl 4 (v.2.map Qt.av)]]:=by rw [List.map_append];rfl
    clear mt nt hsz hpm;obtain⟨v1,v2⟩:=v;simp only at *;have e2:e 2=.sl 4 (.agg [.v (.bool (decide (v1.num < 0))),lim (toL v1.num.natAbs),lim (toL v1.den),.sl 4 (v2.map Qt.av)] :: (q.drop (l+1)).map qtA):=e2;have hdq:(q.drop l).map qtA=.agg [.v (.bool (decide (v1.num < 0))),lim (toL v1.num.natAbs),lim (toL v1.den),.sl 4 (v2.map Qt.av)] :: (q.drop (l+1)).map qtA:=hdq;have ca2:Pure Tryz.prog f [.agg [.v (.bool false),lim [],lim one],.agg [.v (.bool (decide (v1.num < 0))),lim (toL v1.num.natAbs),lim (toL v1.den)]] (ratQ (s*v1)):=ca2;generalize (s*v1).num.sign=z at *;generalize s*v1=w at *;generalize hO:out.map qtA=O at *
    generalize hQd:(q.drop (l+1)).map qtA=QD at *;have htq:QD.take (q.length - (l+1))=QD:=List.take_of_length_le (by omega);generalize v2.map Qt.av=V2 at *;(focus (refine wkad (w_12 e1 e2 e3 m3 e8 m8 e7 m79 hlen hel htq nz2) (w_2 ca2 zs2) (w_2 (w_d 9 [] [] [10,11]) (w_d 14 [] [] [11])) ?_;(repeat' first|exact w_t|apply w_l);all_goals intros));refine⟨(p.length,l+1),⟨by simp only;omega,by simp only;omega,by rw [hp0];exact gW e1,by rw [hQd];exact gC,by exact gW e3,by exact gW m3,by exact gW e8,by exact gW m8,_,out++[(w,v2)],by exact gC,by rw [hou2];exact gC,by simp only [List.length_append,List.length_cons,List.length_nil];omega,hs⟩,by simp only;omega⟩
   ·have hl3:l=q.length:=by omega
    subst hl3;rw [show q.drop q.length=[] from List.drop_of_length_le (Nat.le_refl _)] at e2;have e2:e 2=.sl 4 []:=e2;rw [Ze4 (.inl (Nat.le_refl _)),List.drop_of_length_le (Nat.le_refl _),List.drop_of_length_le (l:=sclT s q) (by rw [Zcz];exact Nat.le_refl _),List.append_nil,List.append_nil] at hs;rw [hs];clear hp hq np nq hs;generalize hO:out.map qtA=O at *;rw [show qpA out=.sl 4 O from congrArg _ hO];(focus (refine wkad (w_9 e1 e2 e3 m3 e8 m8 e7 m79 hlen) w_t w_t ?_;(repeat' first|exact w_t|apply w_l);all_goals intros));all_goals (all_goals (try simp (disch:=omega) only [go_sem,m79,decide_eq_true,decide_eq_false,if_pos,if_neg,Int.reduceAdd,Int.reduceSub,Int.reduceToNat,Int.zero_add]));(all_goals first|done|rfl|(congr 2;first|done|omega|(rw [Bool.eq_iff_iff];simp only [bool_to_prop,Bool.false_eq_true,iff_true,true_iff,iff_false,false_iff];omega))|skip)
 ·exact⟨Nat.zero_le _,Nat.zero_le _,by exact gC,by exact gC,by exact gC,by exact gC,by exact gC,by exact gC,_,[],by exact gC,by exact gC,Nat.zero_le _,by simp⟩
attribute [local go_sem] Tryz.underlying9 Tryz.underlying145 Tryz.underlying107 Tryz.underlying143 Zn0 Zi3 Znt Zn1 Zbq zStr zSum zMap
def okQ (l:List Qt):Prop:=Asc Qt.cmp l∧∀q∈l,q.norm=(q,1)
theorem Zip {q:Qt} (h:q.norm=(q,1)):q.ok=true:=by
 cases e:q.ok with
 | true=>rfl
 | false =>
   unfold Qt.norm at h;rw [e,if_neg (by simp)] at h;have:=congrArg Prod.snd h;simp at this
theorem okQ.b8 {l:List Qt} (h:okQ l):∀q∈l,q.b8:=λq hq=>ok_b8 (Zip (h.2 q hq))
theorem rgQ:Go.Pol.RG okQ ordQ muQ [] where
 o:=Zbp
 comm a b:=Zf8 qtO (Zb5 qtO.cp _) (Zb5 qtO.cp _) ((Za7 _).trans (List.perm_append_comm.trans (Za7 _).symm))
 assoc a b c:=Zf8 qtO (Zb5 qtO.cp _) (Zb5 qtO.cp _) ((Za7 _).trans ((((Za7 _).append_right c).trans (by rw [List.append_assoc])).trans (((Za7 (b++c)).symm.append_left a).trans (Za7 _).symm)))
 one a ha:=Zf8 qtO (Zb5 qtO.cp _) ha.1 (by show(srtQ Qt.cmp (a++[])).Perm a;rw [List.append_nil];exact Za7 _)
 cl a b ha hb:=⟨Zb5 qtO.cp _,λq hq=>by
  rcases List.mem_append.1 ((Za7 _).mem_iff.1 hq) with h | h
  ·exact ha.2 q h
  ·exact hb.2 q h⟩
 de:=⟨.nil,λq hq=>by cases hq⟩
abbrev EX (p:QTs):Prop:=SQ okQ ordQ p
abbrev mulX (p q:QTs):QTs:=mlG ordQ muQ p q
def XB (p:QTs) (k n:Nat):Prop:=EX p∧(∀t∈p,t.2.length≤n)∧∃D B,D≠0∧D < 65536 ^ k∧B < 65536 ^ k∧NB D B p
theorem XB.mono {p:QTs} {k n j m:Nat} (h:XB p k n) (hk:k≤j) (hn:n≤m):XB p j m:=by
 obtain⟨a,b,D,B,c,d,e,f⟩:=h;have hp:65536 ^ k≤65536 ^ j:=Nat.pow_le_pow_right (by omega) hk;exact⟨a,λt ht=>Nat.le_trans (b t ht) hn,D,B,c,by omega,by omega,f⟩
theorem XB.qk {p:QTs} {k n:Nat} (h:XB p k n):QK p (k+k) n:=by
 obtain⟨a,b,D,B,c,d,e,f⟩:=h;exact nb_qk f c d e b
theorem XB.nz {p:QTs} {k n:Nat} (h:XB p k n):∀t∈p,t.1≠0:=λt ht=>(h.1.1 t ht).1
theorem mu_len (a b:List Qt):(muQ a b).length=a.length+b.length:=by rw [srtQ_len,List.length_append]
theorem Zh2 {p q:QTs} {m n:Nat} (hp:∀t∈p,t.2.length≤m) (hq:∀t∈q,t.2.length≤n):∀t∈prodL muQ p q,t.2.length≤m+n:=λu hu=>by
 obtain⟨s,hs,t,ht,rfl⟩:=Zfj hu;show(muQ s.2 t.2).length≤_;rw [mu_len];have:=hp s hs;have:=hq t ht;omega
theorem XB.mul {p q:QTs} {j k m n:Nat} (hp:XB p j m) (hq:XB q k n):XB (mulX p q) (j+k) (m+n):=by
 obtain⟨a,b,D,B,c,d,e,f⟩:=hp;obtain⟨a',b',D',B',c',d',e',f'⟩:=hq;refine⟨Zmy rgQ a a',Zic (Zh2 b b'),D*D',B*B',Nat.mul_ne_zero c c',?_,?_,(f.prodL f').sumG⟩
 ·rw [Nat.pow_add];exact Nat.mul_lt_mul_of_lt_of_lt d d'
 ·rw [Nat.pow_add];exact Nat.mul_lt_mul_of_lt_of_lt e e'
theorem XB.add {p q:QTs} {j k m n:Nat} (hp:XB p j m) (hq:XB q k n):XB (Zav p q) (j+k+1) (max m n):=by
 obtain⟨a,b,D,B,c,d,e,f⟩:=hp;obtain⟨a',b',D',B',c',d',e',f'⟩:=hq;have h1:65536 ^ j≤65536 ^ (j+k):=Nat.pow_le_pow_right (by omega) (by omega);have h2:65536 ^ k≤65536 ^ (j+k):=Nat.pow_le_pow_right (by omega) (by omega);have h3:65536 ^ (j+k+1)=65536 ^ (j+k)*65536:=Nat.pow_succ ..;have h4:D*D' < 65536 ^ (j+k):=by rw [Nat.pow_add];exact Nat.mul_lt_mul_of_lt_of_lt d d'
 refine⟨Zk3 Zbp a a',λt ht=>?_,D*D',B+B',Nat.mul_ne_zero c c',by omega,by omega,(f.mono (Nat.dvd_mul_right ..) (Nat.le_refl _)).addP (f'.mono (Nat.dvd_mul_left ..) (Nat.le_refl _))⟩;rcases Zgn ht with h | h | ⟨s,hs,u,hu,rfl⟩
 ·exact Nat.le_trans (b t h) (Nat.le_max_left ..)
 ·exact Nat.le_trans (b' t h) (Nat.le_max_right ..)
 ·exact Nat.le_trans (b s hs) (Nat.le_max_left ..)
theorem Ziq (p q:QTs):(mulX p q).length≤p.length*q.length:=by
 have:∀l:QTs,(gatM l).length≤l.length:=λl=>by
  obtain⟨j,hj⟩:∃j,QK l j ((l.map λt=>t.2.length).sum):=by
   induction l with
   | nil=>exact⟨0,λt ht=>by cases ht⟩
   | cons a l ih =>
     obtain⟨j,hj⟩:=ih;refine⟨max j (max (toL a.1.num.natAbs).length (toL a.1.den).length),λt ht=>?_⟩;rw [List.map_cons,List.sum_cons];rcases List.mem_cons.1 ht with rfl | ht
     ·exact⟨⟨by omega,by omega⟩,by omega⟩
     ·exact⟨(hj t ht).1.mono (by omega),by have:=(hj t ht).2;omega⟩
  exact(Zo7 _ l rfl hj).2
 have h:=this (prodL muQ p q)
 rwa [Zh3] at h
theorem Zmp {mu:List Qt→List Qt→List Qt} {q:QTs}:∀{p:QTs} {i j:Nat} (hi:i < p.length) (hj:j < q.length),(prodL mu p q)[i*q.length+j]?=some (p[i].1*q[j].1,mu p[i].2 q[j].2)
 | a :: p,0,j,_,hj=>by
   rw [Zfk,List.getElem?_append_left (by rw [List.length_map];omega),Nat.zero_mul,Nat.zero_add,List.getElem?_map,List.getElem?_eq_getElem hj];rfl
 | a :: p,i+1,j,hi,hj=>by
   rw [Zfk,List.getElem?_append_right (by rw [List.length_map,Nat.succ_mul];omega),List.length_map,show(i+1)*q.length+j - q.length=i*q.length+j by rw [Nat.succ_mul];omega];exact Zmp (by simpa using hi) hj
theorem Zj0 {α:Type} {l:List α} {c:Nat} {x:α} (h:l[c]?=some x):l.take (c+1)=l.take c++[x]:=by
 rw [List.take_add_one,h];rfl
theorem acc_nb {D:Nat} (L:QTs):∀{B C:Nat} (acc:QTs),NB D B acc→NB D C L→NB D (B+C) (L.foldl addC acc):=by
 induction L with
 | nil=>intro B C acc h _;exact h.mono (Nat.dvd_refl _) (Nat.le_add_right _ _)
 | cons t L ih =>
   intro B C acc h k;have h1:=h.addC (C:=cl t.1) (k.1 t (.head _)) (Nat.le_refl _);have h2:NB D (C - cl t.1) L:=⟨λu hu=>k.1 u (.tail _ hu),by have:=k.2;rw [Zbl] at this;omega⟩;have h3:cl t.1≤C:=by have:=k.2;rw [Zbl] at this;omega
   exact(ih _ h1 h2).mono (Nat.dvd_refl _) (by omega)
theorem Znr {P:List Qt→Prop} (L:QTs):∀(acc:QTs),(∀t∈acc,P t.2)→(∀t∈L,P t.2)→∀t∈L.foldl addC acc,P t.2:=by
 induction L with
 | nil=>intro acc h _;exact h
 | cons s L ih =>
   intro acc h k;refine ih _ (λt ht=>?_) λt ht=>k t (.tail _ ht);rcases Znq ht with h1 | rfl | ⟨v,hv,rfl⟩
   ·exact h t h1
   ·exact k _ (.head _)
   ·exact h v hv
theorem acc_len (L:QTs):∀(acc:QTs),(L.foldl addC acc).length≤acc.length+L.length:=by
 induction L with
 | nil=>intro acc;exact Nat.le_refl _
 | cons s L ih =>
   intro acc;refine Nat.le_trans (ih _) ?_;have:=Zsz acc s;rw [List.length_cons];omega
theorem Zql (L:QTs):srtQ ordT (nzT (accS L))=gatM L:=Zl9 Zbp L
theorem exMulT (p q:QTs) {j k m n:Nat} (hp:XB p j m) (hq:XB q k n) (hmn:m+n≤maxQ) (hl:p.length*q.length≤maxT) (hpl:p.length≤100000000) (hql:q.length≤100000000) (hj:j≤100000) (hk:k≤100000):Pure Tryz.prog 25 [qpA p,qpA q] (qpA (mulX p q)):=by
 have hMT:=Zmz;have hM:=Zkl;have hpm:(p.map qtA).length=p.length:=List.length_map ..;have hqm:(q.map qtA).length=q.length:=List.length_map ..;have gp:∀i (h:i < p.length),(p.map qtA).getD i .u=qtA p[i]:=λi h=>Zap qtA h;have gq:∀i (h:i < q.length),(q.map qtA).getD i .u=qtA q[i]:=λi h=>Zap qtA h;have kp:=hp.qk;have kq:=hq.qk;have hop:∀t∈p,okQ t.2:=hp.1.dom;have hoq:∀t∈q,okQ t.2:=hq.1.dom
 have hacc:∀c,c≤p.length*q.length→QK (accS ((prodL muQ p q).take c)) (j+k+(j+k)) (m+n)∧B8 (accS ((prodL muQ p q).take c))∧(accS ((prodL muQ p q).take c)).length≤maxT:=by
  intro c hc;obtain⟨a,b,D,B,c1,d,e,f⟩:=hp;obtain⟨a',b',D',B',c',d',e',f'⟩:=hq;have hn:=acc_nb ((prodL muQ p q).take c) [] (NB.nil _ 0) ((f.prodL f').take c);rw [Nat.zero_add] at hn;have hmem:∀t∈(prodL muQ p q).take c,t.2.length≤m+n∧okQ t.2:=λt ht=>by
   have ht:=List.mem_of_mem_take ht;refine⟨Zh2 b b' t ht,?_⟩;obtain⟨s,hs,u,hu,rfl⟩:=Zfj ht;exact rgQ.cl _ _ (hop s hs) (hoq u hu)
  refine⟨nb_qk hn (Nat.mul_ne_zero c1 c') (by rw [Nat.pow_add];exact Nat.mul_lt_mul_of_lt_of_lt d d') (by rw [Nat.pow_add];exact Nat.mul_lt_mul_of_lt_of_lt e e') ?_,?_,?_⟩
  ·exact Znr (P:=λx=>x.length≤m+n) _ [] (λt ht=>by cases ht) λt ht=>(hmem t ht).1
  ·exact Znr (P:=λx=>∀q∈x,q.b8) _ [] (λt ht=>by cases ht) λt ht=>(hmem t ht).2.b8
  ·refine Nat.le_trans (acc_len _ _) ?_;rw [List.length_nil,List.length_take,Zh3];omega
 have hstep:∀i l (h1:i < p.length) (h2:l < q.length),accS ((prodL muQ p q).take (i*q.length+l+1))=addC (accS ((prodL muQ p q).take (i*q.length+l))) (p[i].1*q[l].1,muQ p[i].2 q[l].2):=λi l h1 h2=>by
  rw [Zj0 (Zmp h1 h2)];exact Zk4 _ _
 have hfin:mulX p q=srtQ ordT (nzT (accS ((prodL muQ p q).take (p.length*q.length)))):=by
  rw [Zql,List.take_of_length_le (by rw [Zh3];exact Nat.le_refl _)];rfl
 have hdst:Dst (accS ((prodL muQ p q).take (p.length*q.length))):=Zfd _ [] .nil;have hac0:accS ((prodL muQ p q).take 0)=[]:=by rw [List.take_zero];rfl
 have hq0:∀t∈q,t.2.length≤n:=λt ht=>(kq t ht).2;rw [hfin];clear hfin hp hq;generalize hPR:(λc=>accS ((prodL muQ p q).take c))=PR at *;have hPR:∀c,accS ((prodL muQ p q).take c)=PR c:=λc=>by rw [←hPR]
 simp only [hPR] at hacc hstep hdst hac0 ⊢;clear hPR;show Pure _ _ [.sl 4 (p.map qtA),.sl 4 (q.map qtA)] (.sl 4 ((srtQ ordT (nzT (PR (p.length*q.length)))).map qtA));generalize p.map qtA=A at *;generalize q.map qtA=B at *;refine Zaa (tok:=0) Tryz.func25 rfl Tryz.ntmps25 Tryz.results25 Tryz.call25 (by rfl) (by simp) ?_;(focus (refine wkad w_t w_t w_t ?_;(repeat' first|exact w_t|apply w_l);all_goals intros));refine Zdg (exNew _ 200 201 (by omega)) ?_
 rintro _ _ ⟨g,h,rfl,rfl⟩
 (focus (refine wkad (w_1 hpm) w_t w_t ?_;(repeat' first|exact w_t|apply w_l);all_goals intros));refine Zeu (Frz.nilBox (k:=200) 1 202 4 56 (by exact gC) rfl (by omega)) ?_;refine Zac (ι:=Nat) (λi e M=>i≤p.length∧e 1=.sl 4 B∧e 5=.pbox 200 g 0∧M 201=some (.map h (mpE (PR (i*q.length))))∧(∃sv,M 200=some (.box g 145 [.mp 201 h,.own 202 sv] false)∧M 202=some (.row sv 56 4 ((PR (i*q.length)).map qtA) 0))∧e 11=.sl 4 A∧e 12=iv p.length∧e 13=iv i) (λi=>p.length - i) 0 (by rfl) ?_ ?_
 ·rintro i e M ⟨hi,e1,e5,m201,⟨sv,m200,m202⟩,e11,e12,e13⟩
  by_cases hlt:i < p.length
  ·have gpi:=gp i hlt;have kpi:=kp _ (List.getElem_mem hlt);have hsti:=λl h2=>hstep i l hlt h2;have hopi:=hop _ (List.getElem_mem hlt);have hci:∀l,l≤q.length→i*q.length+l≤p.length*q.length:=λl h=>by
    have:=Nat.mul_le_mul_right q.length (show i+1≤p.length from hlt);rw [Nat.succ_mul] at this;omega
   have hsucc:(i+1)*q.length=i*q.length+q.length:=Nat.succ_mul ..;clear gp kp hstep hop;generalize p[i]=u at *;generalize i*q.length=ci at *;obtain⟨u1,u2⟩:=u;simp only at kpi hsti hopi;have gpi:A.getD i .u=.agg [.v (.bool (decide (u1.num < 0))),lim (toL u1.num.natAbs),lim (toL u1.den),.sl 4 (u2.map Qt.av)]:=gpi;have cm0:=fun(v:Rat) (hv:Sz v (k+k))=>ratMul u1 v kpi.1 hv (by omega) (by omega);have cm0:∀v:Rat,Sz v (k+k)→Pure Tryz.prog 60 [.agg [.v (.bool (decide (u1.num < 0))),lim (toL u1.num.natAbs),lim (toL u1.den)],ratQ v] (ratQ (u1*v)):=cm0;have ct0:=fun(v:List Qt) (hv:v.length≤n)=>exTimes u2 v (by have:=kpi.2;omega)
   have ct0:∀v:List Qt,v.length≤n→Pure Tryz.prog 61 [.sl 4 (u2.map Qt.av),qsA v] (qsA (muQ u2 v)):=ct0;have hmq:∀v:List Qt,v.length≤n→(muQ u2 v).length≤1000:=λv hv=>by rw [mu_len];have:=kpi.2;omega
   have hmo:∀v:List Qt,okQ v→∀q∈muQ u2 v,q.b8:=λv hv=>(rgQ.cl _ _ hopi hv).b8;have hsu:∀v:Rat,Sz v (k+k)→Sz (u1*v) (j+j+(k+k)):=λv hv=>kpi.1.mul hv;clear kpi hopi;generalize toL u1.num.natAbs=un at *;generalize toL u1.den=ud at *;generalize decide (u1.num < 0)=us at *;generalize u2.map Qt.av=UQ at *;(focus (refine wkad (w_11 e1 e5 m200 m201 m202 e11 e12 e13 hpm hqm gpi) w_t w_t ?_;(repeat' first|exact w_t|apply w_l);all_goals intros));rename_i g7;refine Zac (ι:=Nat) (λl e M=>l≤q.length∧(e 1=.sl 4 B∧e 5=.pbox 200 g 0∧e 11=.sl 4 A∧e 12=iv p.length∧e 13=iv i)∧(M 201=some (.map h (mpE (PR (ci+l))))∧∃sv,M 200=some (.box g 145 [.mp 201 h,.own 202 sv] false)∧M 202=some (.row sv 56 4 ((PR (ci+l)).map qtA) 0))∧(e 7=.pbox 7 g7 0∧M 7=some (.box g7 56 [.v (.bool us),lim un,lim ud,.sl 4 UQ] false))∧e 17=.sl 4 B∧e 18=iv q.length∧e 19=iv l) (λl=>q.length - l) 0 (by rfl) ?_ ?_
   ·rintro l e M ⟨hl2,⟨e1,e5,e11,e12,e13⟩,⟨m201,sv,m200,m202⟩,⟨e7,m7⟩,e17,e18,e19⟩
    by_cases hlq:l < q.length
    ·have gql:=gq l hlq;have kql:=kq _ (List.getElem_mem hlq);have hst:=hsti l hlq;have hoql:=hoq _ (List.getElem_mem hlq);obtain⟨a1,a2,a3⟩:=hacc (ci+l) (by have:=hci (l+1) (by omega);omega);clear gq kq hsti hoq hacc hac0 hdst;generalize q[l]=v at *;obtain⟨v1,v2⟩:=v;simp only at kql hst hoql;have gql:B.getD l .u=.agg [.v (.bool (decide (v1.num < 0))),lim (toL v1.num.natAbs),lim (toL v1.den),.sl 4 (v2.map Qt.av)]:=gql;have cm:=cm0 v1 kql.1;have ct:=ct0 v2 kql.2;have hb:=hmo v2 hoql;have hsz:=hsu v1 kql.1;have hml:=hmq v2 kql.2;have cad:=fun(m:Mem) a b c=>exAdd m 200 201 202 g h sv (PR (ci+l)) (u1*v1) (muQ u2 v2) a b c (by omega) (by omega) (by omega) (Nat.le_trans a3 Zmz) hml a2 hb (λt ht=>(a1 t ht).1) hsz (by omega) (by omega)
     rw [←hst] at cad;have cm:Pure Tryz.prog 60 [.agg [.v (.bool us),lim un,lim ud],.agg [.v (.bool (decide (v1.num < 0))),lim (toL v1.num.natAbs),lim (toL v1.den)]] (ratQ (u1*v1)):=cm;have ct:Pure Tryz.prog 61 [.sl 4 UQ,.sl 4 (v2.map Qt.av)] (.sl 4 ((muQ u2 v2).map Qt.av)):=ct;have cad:∀m:Mem,m 200=some (.box g 145 [.mp 201 h,.own 202 sv] false)→m 201=some (.map h (mpE (PR (ci+l))))→m 202=some (.row sv 56 4 ((PR (ci+l)).map qtA) 0)→ACall Tryz.prog 59 [.pbox 200 g 0,ratQ (u1*v1),.sl 4 ((muQ u2 v2).map Qt.av)] m _:=cad;clear cm0 ct0 hmo hmq hsu a1 a2 a3 hst hb hml hsz kql;generalize u1*v1=w at *
     generalize (muQ u2 v2).map Qt.av=MQ at *;generalize toL v1.num.natAbs=vn at *;generalize toL v1.den=vd at *;generalize decide (v1.num < 0)=vs at *;generalize v2.map Qt.av=VQ at *;(focus (refine wkad (w_15 e1 e5 m200 m201 m202 e11 e12 e13 e7 m7 e17 e18 e19 hqm gql) (w_2 cm ct) (w_1 (w_d 8 [(5,ratQ w),(10,.sl 4 MQ)] [11] [])) ?_;(repeat' first|exact w_t|apply w_l);all_goals intros));refine Zdg (cad _ (by exact gW m200) (by exact gW m201) (by exact gW m202)) ?_
     rintro _ _ ⟨sv2,rfl,rfl⟩
     (focus (refine wkad (w_9 e1 e5 e11 e12 e13 e7 e17 e18 e19) w_t w_t ?_;(repeat' first|exact w_t|apply w_l);all_goals intros));exact⟨l+1,⟨by omega,⟨by exact gW e1,by exact gW e5,by exact gW e11,by exact gW e12,by exact gW e13⟩,⟨by exact gC,sv2,by exact gC,by exact gC⟩,⟨by exact gW e7,by exact gW m7⟩,by exact gW e17,by exact gW e18,by exact gS⟩,by omega⟩
    ·have hle:l=q.length:=by omega
     subst hle;rw [←hsucc] at m201 m202;(focus (refine wkad (w_14 e1 e5 m200 m201 m202 e11 e12 e13 e7 m7 e17 e18 e19 hqm) w_t w_t ?_;(repeat' first|exact w_t|apply w_l);all_goals intros));exact⟨i+1,⟨by omega,by exact gW e1,by exact gW e5,by exact gW m201,⟨sv,by exact gW m200,by exact gW m202⟩,by exact gW e11,by exact gW e12,by exact gS⟩,by omega⟩
   ·exact⟨Nat.zero_le _,⟨by exact gW e1,by exact gW e5,by exact gW e11,by exact gW e12,by exact gW e13⟩,⟨by exact gW m201,sv,by exact gW m200,by exact gW m202⟩,⟨by exact gC,by exact gC⟩,by exact gC,by exact gW hqm,by exact gC⟩
  ·have hil:i=p.length:=by omega
   subst hil;obtain⟨a1,a2,a3⟩:=hacc (p.length*q.length) (Nat.le_refl _);have ce:=fun(m:Mem) a b=>exExpr m 200 201 202 300 g h sv (PR (p.length*q.length)) a b a3 hdst a1 (by omega) (by omega);clear hacc hstep gp gq kp kq hop hoq;generalize PR (p.length*q.length)=S at *;generalize (srtQ ordT (nzT S)).map qtA=R at *;(focus (refine wkad (w_9 e1 e5 m200 m201 m202 e11 e12 e13 hpm) w_t w_t ?_;(repeat' first|exact w_t|apply w_l);all_goals intros));refine Zwx (ce _ (by exact gW m200) (by exact gW m202)) ?_;intro sv3;(focus (refine wkad w_t w_t w_t ?_;(repeat' first|exact w_t|apply w_l);all_goals intros))
   all_goals exact gL
 ·exact⟨Nat.zero_le _,by exact gC,by exact gC,by rw [Nat.zero_mul,hac0];exact gC,⟨_,by exact gC,by rw [Nat.zero_mul,hac0];exact gC⟩,by exact gC,by exact gW hpm,by exact gC⟩
end Go.Proofs.YtjgdomdhjphgbaaGreatDoor
namespace Go.Proofs.YtjgdomdhjphgbaaGreatDoor
open Go Go.RowKit Go.Pg
attribute [-bool_to_prop] Bool.and_eq_decide Bool.or_eq_decide Bool.decide_beq_decide decide_eq_decide
theorem szFr:szOf Tryz.prog 33=some 2:=by kernel_rfl
theorem byFr:Zhj Tryz.prog 33=some 48:=by kernel_rfl
theorem zFr:Za0 Tryz.prog 33=some (.agg #[.slice none 0 0,.slice none 0 0]):=by kernel_rfl
theorem Zce:szOf Tryz.prog 70=some 1:=by kernel_rfl
theorem Zcj:Zhj Tryz.prog 31=some 24:=by kernel_rfl
theorem zSQP:Za0 Tryz.prog 70=some (.slice none 0 0):=by kernel_rfl
end Go.Proofs.YtjgdomdhjphgbaaGreatDoor
namespace Go.Pg
open Go Go.RowKit
theorem Zhf {P:Program} {tok:Nat} {all:List Oper} {K K':St→Prop} (h:∀st,K st→K' st):∀(ops:List Oper) (st:St),Zbm P tok all ops K st→Zbm P tok all ops K' st
 | [],st,hk=>h st hk
 | ⟨d,op,t,pos,af,none⟩ :: r,st,hk=>Zfu (Zhf h r) _ _ _ _ hk
 | ⟨d,op,t,pos,af,some (j,want)⟩ :: r,st,hk=>by
   rw [Ziz] at hk ⊢;refine⟨hk.1,?_⟩;have h2:=hk.2;split at h2
   ·rename_i hc;rw [if_pos hc];exact Zfu (Zhf h r) _ _ _ _ h2
   ·rename_i hc;rw [if_neg hc];exact Zhf h r _ h2
theorem Zs1 {P:Program} {n:Nat} {code:Code} {Q Q':AE→St→Prop} {st:St} (h:∀ae st,Q ae st→Q' ae st) (k:AWP P n code Q st):AWP P n code Q' st :=
 λc a w imm hr=>Code.wp_mono (λ_ _ _ hp=>Zwh h hp) (k c a w imm hr)
theorem Zux {next next':St→Prop} {Q Q':AE→St→Prop} (h1:∀st,next st→next' st) (h:∀ae st,Q ae st→Q' ae st):∀ae st,AE.then next Q ae st→AE.then next' Q' ae st
 | .normal,st,k=>h1 st k
 | .exit _,st,k=>h _ st k
 | .ret,st,k=>h _ st k
theorem Zo6 {id:Nat} {Q Q':AE→St→Prop} (h:∀ae st,Q ae st→Q' ae st):∀ae st,AE.inBlock id Q ae st→AE.inBlock id Q' ae st
 | .normal,st,k=>h _ st k
 | .exit i,st,k=>by
   simp only [AE.inBlock] at k ⊢;split at k
   ·rename_i e;rw [if_pos e];exact h _ st k
   ·rename_i e;rw [if_neg e];exact h _ st k
 | .ret,st,k=>h _ st k
theorem Zi0 {P:Program} {n:Nat}:∀(code:Code) {Q Q':AE→St→Prop} (st:St),(∀ae st,Q ae st→Q' ae st)→Za8 P 0 n code Q st→Za8 P 0 n code Q' st:=by
 intro code
 induction code with
 | skip=>exact λst h k=>h _ _ k
 | region id ops d=>cases d with
   | false=>exact λst h k=>Zhf (h _) _ _ k
   | true=>exact λst h k=>Zs1 h k
 | seq x y ihx ihy=>exact λst h k=>ihx st (Zux (λst'=>ihy st' h) h) k
 | cond o x y ihx ihy =>
   intro Q Q' st h k;unfold Za8 at k ⊢;split at k
   ·exact⟨λe=>ihx st h (k.1 e),λe=>ihy st h (k.2 e)⟩
   ·exact k.elim
 | block id x ih=>exact λst h k=>ih st (Zo6 h) k
 | exit id=>exact λst h k=>h _ _ k
 | ret=>exact λst h k=>h _ _ k
 | _=>exact λst h k=>Zs1 h k
section
variable {P:Program} {n:Nat} {Q:AE→St→Prop} {e:Nat→AV} {m:Mem}
theorem r_loopX {body:Code} (J:(Nat→AV)→Mem→Prop) (k:Nat)
 (h1:Za8 P 0 n (.loop body) (λae st=>ae=.exit k∧J st.env st.mem) ⟨e,m⟩) (h2:∀e m,J e m→Q (.exit k) ⟨e,m⟩):Za8 P 0 n (.loop body) Q ⟨e,m⟩ :=
 Zi0 _ _ (λ_ _ ⟨h,j⟩=>by subst h;exact h2 _ _ j) h1
theorem r_cgX {t:Bool} {x y:Code} (J:(Nat→AV)→Mem→Prop)
 (h1:CG P n t x y (λae st=>ae=.normal∧J st.env st.mem) ⟨e,m⟩) (h2:∀e m,J e m→Q .normal ⟨e,m⟩):CG P n t x y Q ⟨e,m⟩:=by
 cases t with
 | true=>exact Zi0 x _ (λ_ _ ⟨h,j⟩=>by subst h;exact h2 _ _ j) h1
 | false=>exact Zi0 y _ (λ_ _ ⟨h,j⟩=>by subst h;exact h2 _ _ j) h1
end
end Go.Pg
namespace Go.Proofs.YtjgdomdhjphgbaaGreatDoor
open Go Go.RowKit Go.Pg Go.Pol
attribute [-bool_to_prop] Bool.and_eq_decide Bool.or_eq_decide Bool.decide_beq_decide decide_eq_decide
section
attribute [local go_sem] Tryz.underlying3 Tryz.underlying4 Tryz.underlying160 Tryz.underlying49 Tryz.underlying51 Tryz.underlying53 Tryz.underlying27 Tryz.underlying54 Tryz.underlying56 Tryz.underlying30 Tryz.underlying31 sz3 by3 z3 szB zB Zax zRat Za3 zInt Za2 zNat Zag Zaq Zah Bool.and_self Zal Zbh zSlQ szQT byQT zQT Zbj zSlT szQP zQP Tryz.underlying70 Tryz.underlying33 szFr byFr zFr Zce Zcj zSQP
end
attribute [local go_sem] Tryz.underlying3 Tryz.underlying4 Tryz.underlying160 Tryz.underlying49 Tryz.underlying51 Tryz.underlying53 Tryz.underlying27 Tryz.underlying54 Tryz.underlying56 Tryz.underlying30 Tryz.underlying31 sz3 by3 z3 szB zB Zax zRat Za3 zInt Za2 zNat Zag Zaq Zah Bool.and_self Zal Zbh zSlQ szQT byQT zQT Zbj zSlT szQP zQP Tryz.underlying142 szOpn zOpn szFnR zFnR undFnR
def rawQ (a:Rat):RQ:=⟨decide (a.num < 0),toL a.num.natAbs,toL a.den⟩
theorem Zmk {a:Rat} {k:Nat} (h:Sz a k):(rawQ a).lm k:=⟨Zao _,Zao _,h.1,h.2⟩
theorem Zv1 (a:Rat):(rawQ a).ok=true:=by
 unfold rawQ RQ.ok RQ.zok;simp only [Bool.and_eq_true,decide_eq_true_eq,Bool.not_eq_true',beq_iff_eq,Zam];refine⟨⟨⟨⟨(Zhy (Zao _)).2 (by rw [Zam]),?_⟩,(Zhy (Zao _)).2 (by rw [Zam])⟩,a.reduced⟩,Zbd.2 (Nat.pos_of_ne_zero a.den_nz)⟩;by_cases h:a.num < 0
 ·have:(toL a.num.natAbs).length≠0:=by have:=Zbd.2 (show 0 < a.num.natAbs by omega);omega
  simp [h,this]
 ·simp [h]
theorem rawQ_q (a:Rat):(rawQ a).q=a:=by
 unfold rawQ RQ.q;simp only [Zam];rw [show zI (decide (a.num < 0)) a.num.natAbs=a.num from by unfold zI;by_cases h:a.num < 0<;>simp [h]<;>omega];exact Rat.mkRat_self a
def cstE (a:Rat):List RE:=[⟨rawQ a,[]⟩]
def ofE (q:Qt):List RE:=[⟨rawQ 1,[q]⟩]
theorem Zr3 (l:List RE):(∃G,nrmR l=.sl 4 G)∨nrmR l=.v (.slice none 0 0):=by
 unfold nrmR;split
 ·exact .inl ⟨_,rfl⟩
 ·exact .inr rfl
theorem Zr4 {f:Nat} {s:Bool} {x d:List Nat} {NR:AV} (c:Pure Tryz.prog f [.sl 4 [RE.av ⟨⟨s,x,d⟩,[]⟩]] NR):Pure Tryz.prog f [.sl 4 [.agg [.v (.bool s),lim x,lim d,.v (.slice none 0 0)]]] NR:=by
 refine Zg5 c (.cons (Vk.slL rfl (λe he=>by rw [List.mem_singleton.1 he];rfl) (λe he=>by rw [List.mem_singleton.1 he];rfl) ?_) .nil);exact .cons (.refl _) (.cons (.refl _) (.cons (.refl _) (.cons (.nil 4) .nil)))
theorem exConst (a:Rat) {J:Nat} (ha:Sz a J) (hJ:J≤1000):Pure Tryz.prog 48 [ratQ a] (nrmR (cstE a)):=by
 have c:=Zr4 (exNorm (cstE a) (J:=J) (by simp [cstE]) (λt ht=>by rw [List.mem_singleton.1 ht];exact Zmk ha) (λt ht=>by rw [List.mem_singleton.1 ht];simp) hJ);show Pure _ _ [.agg [.v (.bool (decide (a.num < 0))),lim (toL a.num.natAbs),lim (toL a.den)]] _;rcases Zr3 (cstE a) with⟨G,h⟩ | h
 all_goals
  rw [h] at c ⊢;clear h ha;generalize toL a.num.natAbs=x at *;generalize toL a.den=d at *;refine Zaa (tok:=0) Tryz.func48 rfl Tryz.ntmps48 Tryz.results48 Tryz.call48 (by rfl) (by simp) ?_;(focus (refine wkax w_t w_t w_t (w_1 c) w_t w_t (w_r 0) ?_;(repeat' first|exact w_t|apply w_l);all_goals intros));all_goals exact gL
theorem rxConst (a:Rat) {J:Nat} (ha:Sz a J) (hJ:J≤800):Pure Tryz.prog 68 [ratQ a] (nrmR (cstE a)):=by
 have c:=Zr4 (rxNorm (cstE a) (J:=J) (by simp [cstE]) (λt ht=>by rw [List.mem_singleton.1 ht];exact Zmk ha) (λt ht=>by rw [List.mem_singleton.1 ht];simp) hJ);show Pure _ _ [.agg [.v (.bool (decide (a.num < 0))),lim (toL a.num.natAbs),lim (toL a.den)]] _;rcases Zr3 (cstE a) with⟨G,h⟩ | h
 all_goals
  rw [h] at c ⊢;clear h ha;generalize toL a.num.natAbs=x at *;generalize toL a.den=d at *;refine Zaa (tok:=0) Tryz.func68 rfl Tryz.ntmps68 Tryz.results68 Tryz.call68 (by rfl) (by simp) ?_;(focus (refine wkax w_t w_t w_t (w_1 c) w_t w_t (w_r 0) ?_;(repeat' first|exact w_t|apply w_l);all_goals intros));all_goals exact gL
theorem exOf (q:Qt):Pure Tryz.prog 19 [q.av] (nrmR (ofE q)):=by
 have c:Pure Tryz.prog 46 [.sl 4 [.agg [.v (.bool (decide ((1:Rat).num < 0))),lim (toL (1:Rat).num.natAbs),lim (toL (1:Rat).den),.sl 4 [.agg [iv q.k,iv q.a,iv q.b,iv q.c]]]]] (nrmR (ofE q)):=exNorm (ofE q) (J:=1) (by simp [ofE]) (λt ht=>by rw [List.mem_singleton.1 ht];exact Zmk (Zme (.inr (.inr rfl)))) (λt ht=>by rw [List.mem_singleton.1 ht];simp) (by omega);have c1:Pure Tryz.prog 47 [iv 1] (.agg [.v (.bool (decide ((1:Rat).num < 0))),lim (toL (1:Rat).num.natAbs),lim (toL (1:Rat).den)]):=Ztf 1 (by omega);generalize decide ((1:Rat).num < 0)=s1 at *;generalize toL (1:Rat).num.natAbs=x1 at *
 generalize toL (1:Rat).den=d1 at *;obtain⟨k,a,b,cc⟩:=q;simp only at *;rcases Zr3 (ofE ⟨k,a,b,cc⟩) with⟨G,h⟩ | h
 ·rw [h] at c ⊢;clear h;refine Zaa (tok:=0) Tryz.func19 rfl Tryz.ntmps19 Tryz.results19 Tryz.call19 (by rfl) (by simp) ?_;(focus (refine wkad w_t (w_2 c1 c) (w_1 (w_d 1 [(0,.agg [.v (.bool s1),lim x1,lim d1]),(2,.sl 4 [.agg [iv k,iv a,iv b,iv cc]]),(4,.sl 4 [.agg [.v (.bool s1),lim x1,lim d1,.sl 4 [.agg [iv k,iv a,iv b,iv cc]]]]),(5,.sl 4 G)] [] [])) ?_;(repeat' first|exact w_t|apply w_l);all_goals intros));all_goals exact gL
 ·rw [h] at c ⊢;clear h;refine Zaa (tok:=0) Tryz.func19 rfl Tryz.ntmps19 Tryz.results19 Tryz.call19 (by rfl) (by simp) ?_;(focus (refine wkad w_t (w_2 c1 c) (w_1 (w_d 1 [(0,.agg [.v (.bool s1),lim x1,lim d1]),(2,.sl 4 [.agg [iv k,iv a,iv b,iv cc]]),(4,.sl 4 [.agg [.v (.bool s1),lim x1,lim d1,.sl 4 [.agg [iv k,iv a,iv b,iv cc]]]]),(5,.v (.slice none 0 0))] [] [])) ?_;(repeat' first|exact w_t|apply w_l);all_goals intros));all_goals exact gL
theorem rxOf (q:Qt):Pure Tryz.prog 30 [q.av] (nrmR (ofE q)):=by
 have c:Pure Tryz.prog 67 [.sl 4 [.agg [.v (.bool (decide ((1:Rat).num < 0))),lim (toL (1:Rat).num.natAbs),lim (toL (1:Rat).den),.sl 4 [.agg [iv q.k,iv q.a,iv q.b,iv q.c]]]]] (nrmR (ofE q)):=rxNorm (ofE q) (J:=1) (by simp [ofE]) (λt ht=>by rw [List.mem_singleton.1 ht];exact Zmk (Zme (.inr (.inr rfl)))) (λt ht=>by rw [List.mem_singleton.1 ht];simp) (by omega);have c1:Pure Tryz.prog 34 [iv 1] (.agg [.v (.bool (decide ((1:Rat).num < 0))),lim (toL (1:Rat).num.natAbs),lim (toL (1:Rat).den)]):=qOf 1 (by omega);generalize decide ((1:Rat).num < 0)=s1 at *;generalize toL (1:Rat).num.natAbs=x1 at *
 generalize toL (1:Rat).den=d1 at *;obtain⟨k,a,b,cc⟩:=q;simp only at *;rcases Zr3 (ofE ⟨k,a,b,cc⟩) with⟨G,h⟩ | h
 ·rw [h] at c ⊢;clear h;refine Zaa (tok:=0) Tryz.func30 rfl Tryz.ntmps30 Tryz.results30 Tryz.call30 (by rfl) (by simp) ?_;(focus (refine wkad w_t (w_2 c1 c) (w_1 (w_d 1 [(0,.agg [.v (.bool s1),lim x1,lim d1]),(2,.sl 4 [.agg [iv k,iv a,iv b,iv cc]]),(4,.sl 4 [.agg [.v (.bool s1),lim x1,lim d1,.sl 4 [.agg [iv k,iv a,iv b,iv cc]]]]),(5,.sl 4 G)] [] [])) ?_;(repeat' first|exact w_t|apply w_l);all_goals intros));all_goals exact gL
 ·rw [h] at c ⊢;clear h;refine Zaa (tok:=0) Tryz.func30 rfl Tryz.ntmps30 Tryz.results30 Tryz.call30 (by rfl) (by simp) ?_;(focus (refine wkad w_t (w_2 c1 c) (w_1 (w_d 1 [(0,.agg [.v (.bool s1),lim x1,lim d1]),(2,.sl 4 [.agg [iv k,iv a,iv b,iv cc]]),(4,.sl 4 [.agg [.v (.bool s1),lim x1,lim d1,.sl 4 [.agg [iv k,iv a,iv b,iv cc]]]]),(5,.v (.slice none 0 0))] [] [])) ?_;(repeat' first|exact w_t|apply w_l);all_goals intros));all_goals exact gL
theorem Zrj (q:QTs):sclT 1 q=q:=by
 unfold sclT;have:(λt:Rat × List Qt=>((1*t.1,t.2):Rat × List Qt))=id:=by funext t;show(1*t.1,t.2)=t;rw [Rat.one_mul]
 rw [this,List.map_id]
theorem exPlus (p q:QTs) {j k n:Nat} (hp:QK p j n) (hq:QK q k n) (np:∀t∈p,t.1≠0) (nq:∀t∈q,t.1≠0) (lp:p.length≤100000000) (lq:q.length≤100000000) (hj:j≤900000) (hk:k≤900000) (hn:n≤1000000):Pure Tryz.prog 52 [qpA p,qpA q] (qpA (Zav p q)):=by
 have c:=Zxq _ _ opAdd p q hp hq np nq lp lq hj hk hn;rw [Zrj] at c;have c:Pure Tryz.prog 103 [.agg [.fn 104 []],.sl 4 (p.map qtA),.sl 4 (q.map qtA)] (.sl 4 ((Zav p q).map qtA)):=c;show Pure _ _ [.sl 4 (p.map qtA),.sl 4 (q.map qtA)] (.sl 4 ((Zav p q).map qtA));generalize (Zav p q).map qtA=R at *;generalize p.map qtA=A at *;generalize q.map qtA=B at *;refine Zaa (tok:=0) Tryz.func52 rfl Tryz.ntmps52 Tryz.results52 Tryz.call52 (by rfl) (by simp) ?_;(focus (refine wkap w_t (w_1 c) (w_r 0) ?_;(repeat' first|exact w_t|apply w_l);all_goals intros));all_goals exact gL
theorem exMinus (p q:QTs) {j k n:Nat} (hp:QK p j n) (hq:QK q k n) (np:∀t∈p,t.1≠0) (nq:∀t∈q,t.1≠0) (lp:p.length≤100000000) (lq:q.length≤100000000) (hj:j≤900000) (hk:k≤900000) (hn:n≤1000000):Pure Tryz.prog 50 [qpA p,qpA q] (qpA (Zav p (sclT (-1) q))):=by
 have c:=Zxq _ _ opSub p q hp hq np nq lp lq hj hk hn;have c:Pure Tryz.prog 103 [.agg [.fn 102 []],.sl 4 (p.map qtA),.sl 4 (q.map qtA)] (.sl 4 ((Zav p (sclT (-1) q)).map qtA)):=c;show Pure _ _ [.sl 4 (p.map qtA),.sl 4 (q.map qtA)] (.sl 4 ((Zav p (sclT (-1) q)).map qtA));generalize (Zav p (sclT (-1) q)).map qtA=R at *;generalize p.map qtA=A at *;generalize q.map qtA=B at *;refine Zaa (tok:=0) Tryz.func50 rfl Tryz.ntmps50 Tryz.results50 Tryz.call50 (by rfl) (by simp) ?_;(focus (refine wkap w_t (w_1 c) (w_r 0) ?_;(repeat' first|exact w_t|apply w_l);all_goals intros));all_goals exact gL
attribute [local go_sem] Tryz.underlying70 Tryz.underlying33 szFr byFr zFr Zce Zcj zSQP
theorem xbC (p:QTs) (n:Nat) (h:(∀t∈p,t.1≠0∧(t.2.Pairwise λa b=>Qt.cmp a b≤0)∧(∀q∈t.2,q.norm=(q,1))∧t.2.length≤n∧t.1.den ∣ 1)∧(p.Pairwise λs t=>ordQ s.2 t.2 < 0)∧n1 p≤65535):XB p 1 n :=
 ⟨⟨λt ht=>⟨(h.1 t ht).1,(h.1 t ht).2.1,(h.1 t ht).2.2.1⟩,h.2.1⟩,λt ht=>(h.1 t ht).2.2.2.1,1,65535,by decide,by decide,by decide,⟨λt ht=>(h.1 t ht).2.2.2.2,h.2.2⟩⟩
theorem nrm_ok {l:List RE} (h:l.all RE.ok=true):nrmR l=qpA (gatM (l.map RE.t)):=by unfold nrmR;rw [if_pos h]
theorem gat_C {l m:QTs} (h:Go.Pol.sumC ordQ l=m):gatM l=m:=by rw [←h];exact(Zl9 Zbp l).symm
theorem Zox {p q r:QTs} (h:Go.Pol.sumC ordQ (prodL muQ p q)=r):mulX p q=r:=gat_C h
theorem Zuh {p q r:QTs} (hp:EX p) (hq:EX q) (h:Go.Pol.sumC ordQ (p++q)=r):Zav p q=r:=by
 rw [←h,Zl9 Zbp];exact Zne (D:=okQ) Zbp (Zk3 Zbp hp hq) (Zhz Zbp λt ht=>(List.mem_append.1 ht).elim (hp.dom t) (hq.dom t)) λφ=>by rw [Zkt Zbp,Zso Zbp,Zxu]
theorem qtA_one (l:List Qt):qtA ((1:Rat),l)=.agg [.v (.bool false),lim [1],lim [1],qsA l]:=by
 show AV.agg [.v (.bool (decide ((1:Rat).num < 0))),lim (toL (1:Rat).num.natAbs),lim (toL (1:Rat).den),qsA l]=_;rw [show(1:Rat).num=1 from rfl,show(1:Rat).den=1 from rfl,show(1:Int).natAbs=1 from rfl,Zuu];rfl
theorem Zi2:Sz (1:Rat) 1:=Zme (.inr (.inr rfl))
abbrev oneE (q:List Qt):RE:=⟨rawQ 1,q⟩
end Go.Proofs.YtjgdomdhjphgbaaGreatDoor
namespace Go.Proofs.YtjgdomdhjphgbaaGreatDoor
open Go Go.RowKit Go.Pg
theorem ubSize:(Tryz.prog.info? 198).map (·.size)=some 2:=by kernel_rfl
theorem ubLies:liesAt Tryz.prog Tryz.prog.depth 198 (2/Tryz.prog.cellsOf 198) 0 198 1=true:=by kernel_rfl
theorem ubCells:Tryz.prog.cellsOf 5=1:=by kernel_rfl
theorem ubUsed (b:Nat) (w:World) (h0:w.cell? ⟨b,0,none⟩=some (.pointer (some ⟨b,0,none⟩))) :
 Calls Tryz.prog 221 #[.pointer (some ⟨b,0,none⟩)] w λe w'=>e=.returned (.tuple #[])∧w'=w:=by
 obtain⟨j,hj,_⟩:=Option.map_eq_some_iff.1 ubSize
 go_enter Tryz.func221,Tryz.ntmps221
 go_wp2
 rw [Lib.run_neq_ptr_same w _ Tryz.underlying196 hj]
 go_wp2
 go_end0
 exact⟨rfl,rfl⟩
theorem ubFresh (b:Nat) (w:World) (h0:w.cell? ⟨b,0,none⟩=some (.pointer none)) (hsh:w.shape? b=some (198,2)) (hfz:w.frozen? ⟨b,0,none⟩=false) :
 Calls Tryz.prog 221 #[.pointer (some ⟨b,0,none⟩)] w λe w'=>e=.returned (.tuple #[])∧w'=w.setCell ⟨b,0,none⟩ (.pointer (some ⟨b,0,none⟩)):=by
 obtain⟨j,hj,hjs⟩:=Option.map_eq_some_iff.1 ubSize
 go_enter Tryz.func221,Tryz.ntmps221
 go_wp2
 rw [Lib.run_to_unsafe w ⟨b,0,none⟩ Tryz.underlying196 Tryz.underlying236 hj (by rw [hjs];decide) hsh (Nat.zero_lt_succ 1)];simp only [Result.andThen];rw [Oper.upon_value]
 go_wp2
 rw [run_callFunc_extern Tryz.func238 (by kernel_rfl) (by kernel_rfl) (by kernel_rfl) (e:=Extern.AbiNoEscape.same) (by kernel_rfl)];rw [Lib.run_noEscape];simp only [Result.andThen];rw [Oper.upon_value]
 go_wp2
 rw [Lib.run_from_unsafe w ⟨b,0,none⟩ Tryz.underlying236 Tryz.underlying196 hj hsh ubLies];simp only [Result.andThen];rw [Oper.upon_value]
 go_wp2
 go_end0
 exact⟨rfl,rfl⟩
theorem ubString (b g cap:Nat) (p:Value) (cur:Array Value) (l:List UInt8) (w:World) (hbk:w.heap[b]?=some (.cells #[p,.slice (some ⟨g,0,none⟩) l.length cap] 198 (0,0)))
 (hg:w.heap[g]?=some (.cells cur 5 (0,0))) (h0:l≠[]) (hnc:l.length≤cap) (hcm:cap≤maxLen) (hcs:cur.size=cap) (hc:∀j x,l[j]?=some x→w.cell? ((⟨g,0,none⟩:Addr).add j)=some (.int .u8 x.toNat)) :
 Calls Tryz.prog 189 #[.pointer (some ⟨b,0,none⟩)] w λe w'=>e=.returned (.string ⟨l.toArray⟩)∧w'=w.drew.freeze ⟨g,0,none⟩ l.length:=by
 have hl0:l.length≠0:=by simpa using h0
 have c1:w.drew.cell? ⟨b,1,none⟩=some (.slice (some ⟨g,0,none⟩) l.length cap):=by
  have:w.drew.heap[b]?=some (.cells #[p,.slice (some ⟨g,0,none⟩) l.length cap] 198 (0,0)):=hbk;rw [Lib.cell_of_heap this];rfl
 have hSD:(Builtin.unsafeSliceData_ #[89] 224 #[.slice (some ⟨g,0,none⟩) l.length cap]).run Tryz.prog w.drew=.ok (.pointer (some ⟨g,0,none⟩)) w.drew :=
  Lib.run_unsafeSliceData_row _ _ _ _ _ _ (by omega)
 have hUS:(Builtin.unsafeString_ #[224,3] 9 #[.pointer (some ⟨g,0,none⟩),.int .i64 l.length]).run Tryz.prog w.drew=.ok (.string ⟨l.toArray⟩) (w.drew.freeze ⟨g,0,none⟩ l.length) :=
  Lib.run_unsafeString_row w.drew 224 3 9 5 Tryz.underlying224 ubCells g cur.size (by have hg':w.drew.heap[g]?=some (.cells cur 5 (0,0)):=hg;simp [World.shape?,hg']) l h0 (by omega) (by unfold maxLen at hcm;omega) hc
 have mixed:Tryz.prog.follows .mixedOrders=true:=by kernel_rfl
 go_enter Tryz.func189,Tryz.ntmps189
 go_wp2
 go_region_o
 all_goals (go_wp2;go_ret;exact⟨rfl,rfl⟩)
theorem szBld:szOf Tryz.prog 198=some 2:=by kernel_rfl
theorem zBld:Za0 Tryz.prog 198=some (.agg #[.pointer none,.slice none 0 0]):=by kernel_rfl
theorem szSl8:szOf Tryz.prog 89=some 1:=by kernel_rfl
theorem zSl8:Za0 Tryz.prog 89=some (.slice none 0 0):=by kernel_rfl
theorem szPB:szOf Tryz.prog 196=some 1:=by kernel_rfl
theorem zPB:Za0 Tryz.prog 196=some (.pointer none):=by kernel_rfl
theorem Zqw (w:World) (a:Addr) (n:Nat) (ad:Addr):(w.freeze a n).cell? ad=w.cell? ad:=by
 unfold World.freeze;split
 ·rfl
 ·unfold World.cell?;simp only [Array.getElem?_modify];by_cases h:a.block=ad.block
  ·rw [if_pos h]
   cases hh:w.heap[ad.block]? with
   | none=>rfl
   | some o=>cases o<;>rfl
  ·rw [if_neg h]
theorem Zo8 (w:World) (g n:Nat):w.grownBy (w.freeze ⟨g,0,none⟩ n) (some g):=by
 unfold World.freeze;split
 ·exact⟨rfl,rfl,rfl,Nat.le_refl _,λk _ _=>rfl⟩
 ·exact⟨rfl,rfl,rfl,by simp,λk _ hk=>by
   simp only [Array.getElem?_modify];rw [if_neg (λe=>hk (by rw [←e]))]⟩
theorem mem_drop {c:Cx} {σ:Mem} {w w':World} {imm:Imm} (h:Mx c σ w imm) {row:Option Nat} (hg:w.grownBy w' row) (hB:∀g,row=some g→c.B≤g) (hcell:∀ad,imm ad→w'.cell? ad=w.cell? ad)
 (k:Nat) (hoth:∀j e2 b,j≠k→σ j=some e2→e2.blk=some b→some b≠row):Mx c (upd σ k none) w' imm∧Keeps w imm w' imm:=by
 refine⟨⟨⟨λj e2 hj=>?_,λj j' e1 e2 b h1 h2 h3 h4=>?_,λad h1=>Nat.lt_of_lt_of_le (h.ok.lt ad h1) hg.size,λad h1=>h.ok.spot ad h1⟩,h.below.grown hg h.lt (λg hg'=>hB g hg'),Nat.le_trans h.lt hg.size,h.old,h.new,λad h1=>(hcell ad (h.old ad h1)).trans (h.cells ad h1)⟩,λad h1=>⟨h1,hcell ad h1⟩⟩
 ·rw [Zaj] at hj;by_cases hjk:j=k
  ·rw [if_pos hjk] at hj;cases hj
  ·rw [if_neg hjk] at hj;refine(h.ok.ent j e2 hj).keep hg ?_ (λ_ h1=>h1) hcell λad h1=>.inl h1;rcases hb:e2.blk with _ | b
   ·exact .inl rfl
   ·exact .inr (hoth j e2 b hjk hj hb)
 ·rw [Zaj] at h1 h2;by_cases hjk:j=k
  ·rw [if_pos hjk] at h1;cases h1
  ·by_cases hjk':j'=k
   ·rw [if_pos hjk'] at h2;cases h2
   ·rw [if_neg hjk] at h1;rw [if_neg hjk'] at h2;exact h.ok.apart j j' e1 e2 b h1 h2 h3 h4
theorem ubVs {w:World} {imm:Imm} {KB g:Nat} {vs:Array Value} (hl:[AV.pbox KB g 0].length=vs.size) (hr:∀(j:Nat) (a:AV) (x:Value),[AV.pbox KB g 0][j]?=some a→vs[j]?=some x→Rs w imm a x):vs=#[.pointer (some ⟨g,0,none⟩)]:=by
 have h1:vs.size=1:=hl.symm;have h2:=hr 0 _ vs[0] rfl (Array.getElem?_eq_getElem (by omega));have h3:=h2.pbox_inv;refine Array.ext (by simpa using h1) λi hi hj=>?_;have:i=0:=by omega
 subst this
 simpa using h3
theorem ubCur {cur:Array Value} (h:2=cur.size):∃x y,cur=#[x,y]:=by
 refine⟨cur[0],cur[1],Array.ext (by simpa using h.symm) λi hi hj=>?_⟩
 match i,hi,hj with
 | 0,_,_=>rfl
 | 1,_,_=>rfl
 | i+2,hi,_=>omega
theorem bldCheck (σ:Mem) (KB g:Nat) (c0 c1:AV) (hB:σ KB=some (.box g 198 [c0,c1] false)) (h0:c0=.v (.pointer none)∨c0=.pbox KB g 0) :
 ACall Tryz.prog 221 [.pbox KB g 0] σ λr σ'=>r=.tup []∧σ'=upd σ KB (some (.box g 198 [.pbox KB g 0,c1] false)):=by
 refine⟨Tryz.call221,λc w imm vs hm hl hr=>?_⟩;obtain rfl:=ubVs hl hr;obtain⟨cur,hh,hBg,hlen,hone,hrs,hp,hq⟩:=hm.ok.ent KB _ hB;obtain⟨x,y,rfl⟩:=ubCur hlen;have hx:=hrs 0 _ x rfl rfl;have hy:=hrs 1 _ y rfl rfl;have c0':w.cell? ⟨g,0,none⟩=some x:=by rw [Lib.cell_of_heap hh];rfl
 rcases h0 with rfl | rfl
 ·obtain rfl:=hx.v_inv;refine(ubFresh g w c0' (by simp [World.shape?,hh]) (by simp [World.frozen?,hh])).mono ?_
  rintro e w' ⟨rfl,rfl⟩
  have hgr:w.grownBy (w.setCell ⟨g,0,none⟩ (.pointer (some ⟨g,0,none⟩))) (some g):=⟨rfl,rfl,rfl,by simp,λk _ hk=>heap_setCell_other w ⟨g,0,none⟩ k _ (λe=>hk (by simp [e]))⟩;have hcell:∀ad,imm ad→(w.setCell ⟨g,0,none⟩ (.pointer (some ⟨g,0,none⟩))).cell? ad=w.cell? ad:=λad h2=>Zeh hgr (hm.ok.lt ad h2) (by
   have hne:ad.block≠g:=λe=>by have:=hp ad h2 e;cases this
   simpa using hne)
  have hkeep:Keeps w imm (w.setCell ⟨g,0,none⟩ (.pointer (some ⟨g,0,none⟩))) imm:=λad h2=>⟨h2,hcell ad h2⟩;refine⟨.tup [],_,imm,_,rfl,⟨rfl,rfl⟩,.pure (.tup [] #[] rfl λj a x h1 _=>by simp at h1),Zfa hm hgr (λg' hg'=>by cases hg';exact hBg) hcell KB _ ⟨_,heap_setCell_same w g 0 _ _ _ hh,hBg,rfl,λb hb=>?_,λj b z h2 h3=>?_,hp,λh2=>by cases h2⟩ λj e2 b h2 h3 h4=>?_⟩
  ·simp only [List.mem_cons,List.not_mem_nil,or_false] at hb;rcases hb with rfl | rfl
   ·rfl
   ·exact hone _ (by simp)
  ·match j,h2,h3 with
   | 0,h2,h3 =>
     simp only [List.getElem?_cons_zero,Option.some.injEq] at h2;subst h2;have:z=.pointer (some ⟨g,0,none⟩):=by simpa using h3.symm
     subst this;exact .pbox _ _ _
   | 1,h2,h3 =>
     simp only [List.getElem?_cons_succ,List.getElem?_cons_zero,Option.some.injEq] at h2;subst h2;have:z=y:=by simpa using h3.symm
     subst this;exact hkeep.rs hy
   | j+2,h2,h3=>simp at h2
  ·have:b≠g:=λe=>h2 (hm.ok.apart j KB e2 _ g h3 hB (e ▸ h4) rfl);exact⟨by simpa using this,by simpa [Ent.blk] using λe=>this e.symm⟩
 ·obtain rfl:=hx.pbox_inv;refine(ubUsed g w c0').mono ?_
  rintro e w' ⟨rfl,rfl⟩
  have he:upd σ KB (some (.box g 198 [.pbox KB g 0,c1] false))=σ:=by
   funext k
   rw [Zaj];split
   ·rename_i h;rw [h,hB]
   ·rfl
  exact⟨.tup [],_,imm,_,rfl,⟨rfl,rfl⟩,.pure (.tup [] #[] rfl λj a x h1 _=>by simp at h1),by rw [he];exact hm,Keeps.refl _ _⟩
theorem Zyn (σ:Mem) (KB KT g:Nat) (sv:Value) (c0:AV) (l:List UInt8) (hB:σ KB=some (.box g 198 [c0,.own KT sv] false)) (hT:σ KT=some (.row sv 5 1 (l.map λb=>.v (.int .u8 b.toNat)) 0)) (h0:l≠[]) :
 ACall Tryz.prog 189 [.pbox KB g 0] σ λr σ'=>r=.v (.string ⟨l.toArray⟩)∧σ'=upd σ KT none:=by
 refine⟨Tryz.call189,λc w imm vs hm hl hr=>?_⟩;obtain rfl:=ubVs hl hr;obtain⟨cur,hh,hBg,hlen,hone,hrs,hp,hq⟩:=hm.ok.ent KB _ hB;obtain⟨x,y,rfl⟩:=ubCur hlen;have hy:=hrs 1 _ y rfl rfl;obtain rfl:=hy.own_inv;obtain⟨xs,hown,-,-,hrd,-,hpi,-⟩:=hm.ok.ent KT _ hT;have hl0:l.length≠0:=by simpa using h0
 have hll:(l.map λb=>AV.v (.int .u8 b.toNat)).length=l.length:=List.length_map ..;rw [hll] at hown;rcases hown.2 with⟨_,h2⟩ | ⟨gr,cap,cur,rfl,hBr,hhr,hnc,hcm,hcs,htake⟩
 ·exact absurd h2 hl0
 have hxs:∀(j:Nat) (z:UInt8),l[j]?=some z→xs[j]?=some (Value.int .u8 z.toNat):=λj z hz=>by
  have hj:j < xs.length:=by rw [hown.1,Nat.mul_one];exact(List.getElem?_eq_some_iff.1 hz).1
  have:=hrd j (.v (.int .u8 z.toNat)) xs[j] (by rw [Ztx l λb:UInt8=>(.int .u8 b.toNat:Value),List.getElem?_map,hz];rfl) (List.getElem?_eq_getElem hj);have:=(Rs.pure this).v_inv;rw [List.getElem?_eq_getElem hj,this]
 refine(ubString g gr cap x cur l w hh hhr h0 hnc hcm (by rw [hcs,Nat.mul_one]) λj z hz=>?_).mono ?_
 ·have hj:=(List.getElem?_eq_some_iff.1 hz).1;have:=hown.cellAt j (by omega);rw [Addr.add_lit,Nat.zero_add,this,hxs j z hz]
 ·rintro e w' ⟨rfl,rfl⟩
  have hgr:w.grownBy (w.drew.freeze ⟨gr,0,none⟩ l.length) (some gr):=by
   have:=Zo8 w.drew gr l.length;exact⟨this.os,this.tape,this.output,this.size,this.block⟩
  have hcell:∀ad,imm ad→(w.drew.freeze ⟨gr,0,none⟩ l.length).cell? ad=w.cell? ad:=λad _=>by rw [Zqw];rfl
  obtain⟨h1,h2⟩:=mem_drop hm hgr (λg' hg'=>by cases hg';exact hBr) hcell KT λj e2 b h2 h3 h4 he=>h2 (hm.ok.apart j KT e2 _ gr h3 hT (by cases he;exact h4) rfl);exact⟨_,_,imm,_,rfl,⟨rfl,rfl⟩,.pure (.v _),h1,h2⟩
end Go.Proofs.YtjgdomdhjphgbaaGreatDoor
namespace Go.Proofs.YtjgdomdhjphgbaaGreatDoor
open Go Go.RowKit Go.Pg
attribute [-bool_to_prop] Bool.and_eq_decide Bool.or_eq_decide Bool.decide_beq_decide decide_eq_decide
attribute [local go_sem] Tryz.underlying3 Tryz.underlying4 Tryz.underlying160 Tryz.underlying5 Tryz.underlying49 Tryz.underlying9 Tryz.underlying89 Tryz.underlying198 Tryz.underlying196 Tryz.underlying48 sz3 by3 z3 szL byL zL szU8 byU8 zU8 szBld zBld szSl8 zSl8 szPB zPB
def by8 (b:UInt8):AV:=.v (.int .u8 b.toNat)
theorem bldLen (σ:Mem) (KB KT g:Nat) (sv:Value) (c0:AV) (l:List UInt8) (hB:σ KB=some (.box g 198 [c0,.own KT sv] false)) (hT:σ KT=some (.row sv 5 1 (l.map by8) 0)) :
 ACall Tryz.prog 187 [.pbox KB g 0] σ λr σ'=>r=iv l.length∧σ'=σ:=by
 have mB:=Zcn hB;have mT:=Zcn hT;simp only [Ent.sh,AV.shL,AV.sh] at mB mT;have hl:(l.map by8).length=l.length:=List.length_map ..;refine Zdo Tryz.func187 rfl Tryz.ntmps187 Tryz.results187 Tryz.call187 (by rfl) (by simp) ?_;generalize l.map by8=L at *;(focus (refine wkap (w_3 mB mT hl) w_t (w_r 0) ?_;(repeat' first|exact w_t|apply w_l);all_goals intros));simp (disch:=omega) only [go_sem];exact Zue (Sub.refl _) ⟨rfl,rfl⟩ (Agr.start σ)
theorem bldWrite (σ:Mem) (KB KT g:Nat) (sv:Value) (c0:AV) (l:List UInt8) (b:UInt8) (hB:σ KB=some (.box g 198 [c0,.own KT sv] false)) (hT:σ KT=some (.row sv 5 1 (l.map by8) 0))
 (h0:c0=.v (.pointer none)∨c0=.pbox KB g 0) (n2:KB≠KT) (hl:l.length≤100000000) :
 ACall Tryz.prog 188 [.pbox KB g 0,by8 b] σ λr σ'=>∃sv',r=.v .nilIface∧σ'=upd (upd σ KT (some (.row sv' 5 1 ((l++[b]).map by8) 0))) KB (some (.box g 198 [.pbox KB g 0,.own KT sv'] false)):=by
 have mB:=Zcn hB;have mT:=Zcn hT;simp only [Ent.sh,AV.shL,AV.sh] at mB mT;have hl1:(l.map by8).length=l.length:=List.length_map ..;rw [List.map_append];have hcc:=bldCheck (Zdz σ) (KB+1000) g c0.sh (.own (KT+1000) sv) mB (by rcases h0 with rfl | rfl;exact .inl rfl;exact .inr rfl);refine Zdo Tryz.func188 rfl Tryz.ntmps188 Tryz.results188 Tryz.call188 (by rfl) (by simp) ?_;generalize l.map by8=L at *;have hb8:by8 b=.v (.int .u8 b.toNat):=rfl;rw [hb8];simp only [AV.shL,AV.sh];(focus (refine wkap (w_3 mB mT hl1) w_t (w_r 0) ?_;(repeat' first|exact w_t|apply w_l);all_goals intros))
 refine Zga hcc ?_;(focus (refine wkap (w_2 mT hl1) w_t (w_r 0) ?_;(repeat' first|exact w_t|apply w_l);all_goals intros));simp (disch:=omega) only [go_sem];rename_i x1 x2;refine Zue (Sub.refl _) ⟨x2,rfl,rfl⟩ ?_;have he:∀a c d:Option Ent,upd (upd σ KT a) KB d=upd (upd (upd σ KB c) KT a) KB d:=λa c d=>by
  funext j
  simp only [Zaj];by_cases h:j=KB
  ·rw [if_pos h,if_pos h]
  ·rw [if_neg h,if_neg h,if_neg h]
 rw [he _ (some (.box g 198 [.pbox KB g 0,.own KT sv] false)) _];refine Agr.put ?_ rfl rfl;refine Agr.put ?_ rfl rfl;refine Agr.own ?_ (by omega);refine Agr.put ?_ rfl rfl;exact Agr.start σ
end Go.Proofs.YtjgdomdhjphgbaaGreatDoor
namespace Go.Proofs.YtjgdomdhjphgbaaGreatDoor
open Go Go.RowKit Go.Pg
def digF:Nat→Nat→List UInt8
 | 0,_=>[]
 | f+1,n=>if n=0 then [] else digF f (n/10)++[UInt8.ofNat (48+n%10)]
def dig (n:Nat):List UInt8:=digF n n
theorem Zpg:∀(f g n:Nat),n≤f→n≤g→digF f n=digF g n
 | 0,0,_,_,_=>rfl
 | 0,g+1,n,h,_=>by
   have:n=0:=by omega
   subst this;rfl
 | f+1,0,n,_,h=>by
   have:n=0:=by omega
   subst this;rfl
 | f+1,g+1,n,h1,h2=>by
   unfold digF;by_cases h:n=0
   ·rw [if_pos h,if_pos h]
   ·rw [if_neg h,if_neg h,Zpg f g _ (by omega) (by omega)]
theorem Zsr:dig 0=[]:=rfl
theorem Zjt {n:Nat} (h:n≠0):dig n=dig (n/10)++[UInt8.ofNat (48+n%10)]:=by
 obtain⟨m,rfl⟩:∃m,n=m+1:=⟨n - 1,by omega⟩;show digF (m+1) (m+1)=_;rw [digF,if_neg h];rw [Zpg m ((m+1)/10) _ (by omega) (by omega)];rfl
theorem Zss {n:Nat}:(dig n).length=0↔n=0:=by
 constructor
 ·intro h;rcases Nat.eq_zero_or_pos n with h1 | h1
  ·exact h1
  ·rw [Zjt (by omega)] at h;simp at h
 ·rintro rfl;rfl
theorem Zx7:∀{k n:Nat},n < 10 ^ k→(dig n).length≤k
 | 0,n,h=>by
   have:n=0:=by simpa using h
   subst this;simp [Zsr]
 | k+1,n,h=>by
   rcases Nat.eq_zero_or_pos n with h1 | h1
   ·subst h1;simp [Zsr]
   ·rw [Zjt (by omega),List.length_append];have:=Zx7 (k:=k) (n:=n/10) (by rw [Nat.pow_succ] at h;omega);simp only [List.length_cons,List.length_nil];omega
theorem dig_lg (n:Nat):(dig n).length≤5*(toL n).length:=by
 refine Zx7 ?_;have h1:=Zaf.1 (Nat.le_refl ((toL n).length))
 have h3:65536 ^ (toL n).length≤10 ^ (5*(toL n).length):=by
  rw [Nat.pow_mul];exact Nat.pow_le_pow_left (by decide) _
 omega
theorem decB_dig:∀(n:Nat) (s:ByteArray),decB n n s=⟨(dig n).toArray⟩++s:=by
 intro n
 induction n using Nat.strongRecOn with
 | ind n ih =>
   intro s;rcases Nat.eq_zero_or_pos n with h | h
   ·subst h;show s=ByteArray.empty++s;rw [ByteArray.empty_append]
   ·rw [Zya (by omega),ih (n/10) (by omega),Zjt (n:=n) (by omega),←ByteArray.append_assoc];congr 1
theorem decS_dig {n:Nat} (h:n≠0):decS n=⟨(dig n).toArray⟩:=by
 unfold decS;rw [if_neg h,decB_dig,ByteArray.append_empty]
def g4F:Nat→Nat→List Nat
 | 0,_=>[]
 | f+1,n=>if n=0 then [] else n%10000 :: g4F f (n/10000)
def g4 (n:Nat):List Nat:=g4F n n
theorem Zsl:∀(f g n:Nat),n≤f→n≤g→g4F f n=g4F g n
 | 0,0,_,_,_=>rfl
 | 0,g+1,n,h,_=>by
   have:n=0:=by omega
   subst this;rfl
 | f+1,0,n,_,h=>by
   have:n=0:=by omega
   subst this;rfl
 | f+1,g+1,n,h1,h2=>by
   unfold g4F;by_cases h:n=0
   ·rw [if_pos h,if_pos h]
   ·rw [if_neg h,if_neg h,Zsl f g _ (by omega) (by omega)]
theorem Zxn {n:Nat} (h:n≠0):g4 n=n%10000 :: g4 (n/10000):=by
 obtain⟨m,rfl⟩:∃m,n=m+1:=⟨n - 1,by omega⟩;show g4F (m+1) (m+1)=_;rw [g4F,if_neg h];rw [Zsl m ((m+1)/10000) _ (by omega) (by omega)];rfl
theorem Zx6 (n i:Nat):n/10000 ^ (i+1)=n/10000/10000 ^ i:=by
 rw [Nat.pow_succ,Nat.mul_comm,Nat.div_div_eq_div_mul]
theorem Zsq (n i:Nat):n/10000 ^ (i+1)=n/10000 ^ i/10000:=by
 rw [Nat.pow_succ,Nat.div_div_eq_div_mul]
theorem Ztw:∀(i n:Nat),i < (g4 n).length↔n/10000 ^ i≠0
 | i,n=>by
   rcases Nat.eq_zero_or_pos n with h | h
   ·subst h;simp [g4,g4F]
   ·rw [Zxn (by omega),List.length_cons]
    cases i with
    | zero=>simp;omega
    | succ i=>rw [Zx6,←Ztw i (n/10000)];omega
theorem Zxo:∀(i n:Nat) (h:i < (g4 n).length),(g4 n)[i]=n/10000 ^ i%10000
 | i,n,h=>by
   have h0:n≠0:=by rintro rfl;simp [g4,g4F] at h
   have e:=Zxn h0;have e2:(g4 n)[i]?=(n%10000 :: g4 (n/10000))[i]?:=by rw [e]
   rw [List.getElem?_eq_getElem h] at e2
   cases i with
   | zero =>
     simp only [List.getElem?_cons_zero,Option.some.injEq] at e2;rw [e2];simp
   | succ i =>
     have h2:i < (g4 (n/10000)).length:=by rw [e,List.length_cons] at h;omega
     rw [List.getElem?_cons_succ,List.getElem?_eq_getElem h2,Option.some.injEq,Zxo i _ h2,←Zx6] at e2;exact e2
theorem g4_len (n:Nat):(g4 n).length≤5*(toL n).length:=by
 rcases Nat.eq_zero_or_pos (g4 n).length with h | h
 ·omega
 ·have h0:=(Ztw ((g4 n).length - 1) n).1 (by omega);generalize (g4 n).length=L at *;have h1:=Zaf.1 (Nat.le_refl ((toL n).length))
  have h3:65536 ^ (toL n).length≤10000 ^ (2*(toL n).length):=by
   rw [Nat.pow_mul];exact Nat.pow_le_pow_left (by decide) _
  have h4:10000 ^ (L - 1)≤n:=by
   rcases Nat.lt_or_ge n (10000 ^ (L - 1)) with h5 | h5
   ·exact absurd (Nat.div_eq_of_lt h5) h0
   ·exact h5
  have h5:10000 ^ (L - 1) < 10000 ^ (2*(toL n).length):=by omega
  have:=(Nat.pow_lt_pow_iff_right (by decide:1 < 10000)).1 h5;omega
end Go.Proofs.YtjgdomdhjphgbaaGreatDoor
namespace Go.Proofs.YtjgdomdhjphgbaaGreatDoor
open Go Go.RowKit Go.Pg
attribute [-bool_to_prop] Bool.and_eq_decide Bool.or_eq_decide Bool.decide_beq_decide decide_eq_decide
attribute [local go_sem] Tryz.underlying3 Tryz.underlying4 Tryz.underlying160 Tryz.underlying5 Tryz.underlying49 Tryz.underlying9 Tryz.underlying89 Tryz.underlying198 Tryz.underlying196 Tryz.underlying48 sz3 by3 z3 szL byL zL szU8 byU8 zU8 szBld zBld szSl8 zSl8 szPB zPB
def w16 (x:Nat):AV:=.v (.int .u16 (x:Int))
theorem g4_take {n i:Nat} (h:n/10000 ^ i≠0):((g4 n).take (i+1)).map w16=((g4 n).take i).map w16++[.v (.int .u16 ((n/10000 ^ i%10000:Nat):Int))]:=by
 have hi:=(Ztw i n).2 h;rw [List.take_add_one,List.getElem?_eq_getElem hi,Zxo i n hi,List.map_append];rfl
theorem g4_all {n i:Nat} (hi:i≤(g4 n).length) (h:n/10000 ^ i=0):i=(g4 n).length:=by
 rcases Nat.lt_or_ge i (g4 n).length with h1 | h1
 ·exact absurd h ((Ztw i n).1 h1)
 ·omega
theorem dig_w8 (x:Nat) (h:x < 10):by8 (UInt8.ofNat (48+x))=.v (.int .u8 ((48+x:Nat):Int)):=by
 unfold by8;rw [show(UInt8.ofNat (48+x)).toNat=48+x from(UInt8.toNat_ofNat' ..).trans (by omega)]
def dl:Nat→Nat
 | 0=>1000 | 1=>100 | 2=>10 | 3=>1 | _=>0
def vl (V g:Nat):Nat→Nat
 | 0=>V | 1=>(V*10000+g)/1000 | 2=>(V*10000+g)/100 | 3=>(V*10000+g)/10 | _=>V*10000+g
theorem vl_step {V g j:Nat} (hg:g < 10000) (hj:j < 4):vl V g (j+1)=vl V g j*10+g/dl j%10∧(vl V g j=0→V=0)∧(vl V g j=0→(vl V g (j+1)=0↔g < dl j))∧dl j/10=dl (j+1)∧0 < dl j∧dl j≤1000∧vl V g j≤V*10000+g:=by
 match j,hj with
 | 0,_=>(show(V*10000+g)/1000=V*10+g/1000%10∧(V=0→V=0)∧(V=0→((V*10000+g)/1000=0↔g < 1000))∧1000/10=100∧0 < 1000∧1000≤1000∧V≤V*10000+g;omega)
 | 1,_=>(show(V*10000+g)/100=(V*10000+g)/1000*10+g/100%10∧((V*10000+g)/1000=0→V=0)∧((V*10000+g)/1000=0→((V*10000+g)/100=0↔g < 100))∧100/10=10∧0 < 100∧100≤1000∧(V*10000+g)/1000≤V*10000+g;omega)
 | 2,_=>(show(V*10000+g)/10=(V*10000+g)/100*10+g/10%10∧((V*10000+g)/100=0→V=0)∧((V*10000+g)/100=0→((V*10000+g)/10=0↔g < 10))∧10/10=1∧0 < 10∧10≤1000∧(V*10000+g)/100≤V*10000+g;omega)
 | 3,_=>(show V*10000+g=(V*10000+g)/10*10+g/1%10∧((V*10000+g)/10=0→V=0)∧((V*10000+g)/10=0→(V*10000+g=0↔g < 1))∧1/10=0∧0 < 1∧1≤1000∧(V*10000+g)/10≤V*10000+g;omega)
theorem dig_next {v x:Nat} (h:v*10+x≠0) (hx:x < 10):dig (v*10+x)=dig v++[UInt8.ofNat (48+x)]:=by
 rw [Zjt h,show(v*10+x)/10=v from by omega,show(v*10+x)%10=x from by omega]
theorem Zw0 (n:Nat) (hn:(toL n).length≤10000000):Pure Tryz.prog 147 [lim (toL n)] (.v (.string (decS n))):=by
 have cn:=Zot n (by omega);by_cases h0:n=0
 ·subst h0;have l0:(toL 0).length=0:=by rw [Zaw];rfl
  refine Zaa (tok:=0) Tryz.func147 rfl Tryz.ntmps147 Tryz.results147 Tryz.call147 (by rfl) (by simp) ?_;(focus (refine wkvp (w_2 l0 @Int.natCast_zero) (w_1 cn) ?_;(repeat' first|exact w_t|apply w_l);all_goals intros));simp (disch:=omega) only [go_sem];rfl
 ·have hp:=Zbd.2 (Nat.pos_of_ne_zero h0);have hG:=g4_len n;have hD:=decS_dig h0;rw [hD];refine Zaa (tok:=0) Tryz.func147 rfl Tryz.ntmps147 Tryz.results147 Tryz.call147 (by rfl) (by simp) ?_;(focus (refine wkvp w_t (w_1 cn) ?_;(repeat' first|exact w_t|apply w_l);all_goals intros));refine Zeu (Frz.nilOwn (d:=3) 500 1 160 (by exact gC)) ?_;refine Zac (ι:=Nat) (λi e m=>i≤(g4 n).length∧e 0=lim (toL (n/10000 ^ i))∧∃sv,e 3=.own 500 sv∧m 500=some (.row sv 160 1 (((g4 n).take i).map w16) 0)) (λi=>(g4 n).length - i) 0 (by rfl) ?_ ?_
  ·rintro i e m ⟨hi,e0,sv,e3,m500⟩
   have hlr:(((g4 n).take i).map w16).length≤100000000:=by rw [List.length_map,List.length_take];omega
   by_cases hk0:n/10000 ^ i=0
   ·have hiL:=g4_all hi hk0;rw [hk0] at e0;subst hiL;rw [List.take_length] at m500;clear hlr;have l0:(toL 0).length=0:=by rw [Zaw];rfl
    have hGl:((g4 n).map w16).length=(g4 n).length:=List.length_map ..;have hGp:0 < (g4 n).length:=(Ztw 0 n).2 (by simpa using h0);have gg:∀i (h:i < (g4 n).length),((g4 n).map w16).getD i .u=.v (.int .u16 ((n/10000 ^ i%10000:Nat):Int)):=λi h=>by
     rw [Zap w16 h,Zxo i n h];rfl
    generalize (g4 n).map w16=W at *;(focus (refine wkvp (w_6 e0 e3 m500 l0 @Int.natCast_zero hGl) w_t ?_;(repeat' first|exact w_t|apply w_l);all_goals intros));rename_i gB;refine Zeu (Frz.nilBox (k:=6) 1 501 1 5 (by exact gC) rfl (by omega)) ?_;refine Zac (ι:=Nat) (λi e m=>i≤(g4 n).length∧(e 3=.own 500 sv∧e 6=.pbox 6 gB 0∧e 7=.v (.int .i64 (((g4 n).length:Int) - 1 - (i:Int)))∧m 500=some (.row sv 160 1 W 0))∧∃c0 sv2,m 6=some (.box gB 198 [c0,.own 501 sv2] false)∧(c0=.v (.pointer none)∨c0=.pbox 6 gB 0)∧m 501=some (.row sv2 5 1 ((dig (n/10000 ^ ((g4 n).length - i))).map by8) 0)) (λi=>(g4 n).length - i) 0 (by rfl) ?_ ?_
    ·rintro i e m ⟨hi,⟨e3,e6,e7,m500⟩,c0,sv2,m6,hc0,m501⟩
     by_cases hlt:i < (g4 n).length
     ·obtain⟨p,hp⟩:∃p,(g4 n).length=p+1+i:=⟨(g4 n).length - 1 - i,by omega⟩;have ggp:=gg p (by omega);have hV:n/10000 ^ ((g4 n).length - i)=n/10000 ^ p/10000:=by rw [show(g4 n).length - i=p+1 from by omega,Zsq]
      have hV2:n/10000 ^ ((g4 n).length - (i+1))=n/10000 ^ p:=by rw [show(g4 n).length - (i+1)=p from by omega]
      have hT:n/10000 ^ p/10000*10000+n/10000 ^ p%10000=n/10000 ^ p:=by omega
      have hle:n/10000 ^ p≤n:=Nat.div_le_self _ _;have e7:e 7=iv p:=by rw [e7];congr 2;omega
      have hgl:n/10000 ^ p%10000 < 10000:=Nat.mod_lt _ (by omega);rw [hV] at m501;clear gg hV;generalize n/10000 ^ p%10000=g at *;generalize hVe:n/10000 ^ p/10000=V at *;(focus (refine wkap (w_7 e3 e6 e7 m500 m6 m501 hGl) w_t (w_r 0) ?_;(repeat' first|exact w_t|apply w_l);all_goals intros));refine Zac (ι:=Nat) (λj e m=>j≤4∧(e 3=.own 500 sv∧e 6=.pbox 6 gB 0∧e 7=iv p∧e 8=.v (.int .u16 (dl j:Nat))∧m 500=some (.row sv 160 1 W 0))∧∃c0 sv2,m 6=some (.box gB 198 [c0,.own 501 sv2] false)∧(c0=.v (.pointer none)∨c0=.pbox 6 gB 0)∧m 501=some (.row sv2 5 1 ((dig (vl V g j)).map by8) 0)) (λj=>4 - j) 0 (by rfl) ?_ ?_
      ·rintro j e m ⟨hj,⟨e3,e6,e7,e8,m500⟩,c0,sv2,m6,hc0,m501⟩
       by_cases hj4:j < 4
       ·obtain⟨s1,s2,s3,s4,s5,s6,s7⟩:=vl_step (V:=V) hgl hj4
        have hdl:(dig (vl V g j)).length≤100000000:=by
         have h1:=dig_lg (vl V g j);have h2:=Zc4 (n:=vl V g j) (m:=n) (by omega);omega
        have hdz:=Zss (n:=vl V g j);have hx:g/dl j%10 < 10:=Nat.mod_lt _ (by omega);have hdn:=dig_next (v:=vl V g j) (x:=g/dl j%10);rw [←s1] at hdn;obtain⟨v1,hv1⟩:∃v1,vl V g (j+1)=v1:=⟨_,rfl⟩;rw [hv1] at s1 s3 hdn;generalize vl V g j=v at *;generalize dl j=d at *
        have w0:IntKind.u16.wrap ((g/d:Nat):Int)=((g/d:Nat):Int):=by
         have:g/d≤g:=Nat.div_le_self _ _;show((g/d:Nat):Int)%65536=_;generalize g/d=z at *;omega
        have w1:IntKind.u16.wrap (48+(((g/d:Nat):Int)).tmod 10)=((48+g/d%10:Nat):Int):=by
         rw [Int.tmod_eq_emod_of_nonneg (Int.natCast_nonneg _)];show(48+((g/d:Nat):Int)%10)%65536=_;generalize g/d=z at *;omega
        have w3:IntKind.u16.wrap ((d:Int).tdiv 10)=((d/10:Nat):Int):=by
         rw [Int.tdiv_eq_ediv_of_nonneg (Int.natCast_nonneg _)];show((d:Int)/10)%65536=_;omega
        have w2:IntKind.u8.wrap ((48+g/d%10:Nat):Int)=((48+g/d%10:Nat):Int):=by
         show(((48+g/d%10:Nat):Int))%256=_;omega
        have hb8:=dig_w8 (g/d%10) hx;have cl:=fun(m:Mem) a b=>bldLen m 6 501 gB sv2 c0 (dig v) a b;have cw:=fun(m:Mem) a b=>bldWrite m 6 501 gB sv2 c0 (dig v) (UInt8.ofNat (48+g/d%10)) a b hc0 (by omega) hdl;rw [hb8] at cw;(focus (refine wkap (w_8 e3 e6 e7 e8 m500 m6 m501 hGl) w_t (w_r 0) ?_;(repeat' first|exact w_t|apply w_l);all_goals intros));refine Zdg (cl _ (by exact gW m6) (by exact gW m501)) ?_
        rintro _ _ ⟨rfl,rfl⟩
        by_cases hv:v=0
        ·have hl0:=hdz.2 hv;by_cases hgd:g < d
         ·(focus (refine wkap (w_16 e3 e6 e7 e8 m500 m6 m501 hGl ggp @Zdd w0 w1 w2 w3 hl0 @Int.natCast_zero) w_t (w_r 0) ?_;(repeat' first|exact w_t|apply w_l);all_goals intros));exact⟨j+1,⟨by omega,⟨by exact gW e3,by exact gW e6,by exact gW e7,by rw [←s4];exact gC,by exact gW m500⟩,c0,sv2,by exact gW m6,hc0,by rw [hv1,(s3 hv).2 hgd];rw [hv] at m501;exact gW m501⟩,by omega⟩
         ·have hne:=λh=>hgd ((s3 hv).1 h);(focus (refine wkap (w_16 e3 e6 e7 e8 m500 m6 m501 hGl ggp @Zdd w0 w1 w2 w3 hl0 @Int.natCast_zero) w_t (w_r 0) ?_;(repeat' first|exact w_t|apply w_l);all_goals intros));refine Zdg (cw _ (by exact gW m6) (by exact gW m501)) ?_
          rintro _ _ ⟨sv3,rfl,rfl⟩
          (focus (refine wkap (w_7 e3 e6 e7 e8 m500 hGl w3) w_t (w_r 0) ?_;(repeat' first|exact w_t|apply w_l);all_goals intros));exact⟨j+1,⟨by omega,⟨by exact gW e3,by exact gW e6,by exact gW e7,by rw [←s4];exact gC,by exact gW m500⟩,.pbox 6 gB 0,sv3,by exact gC,.inr rfl,by rw [hv1,hdn (by omega) hx];exact gC⟩,by omega⟩
        ·have hlp:0 < (dig v).length:=Nat.pos_of_ne_zero λh=>hv (hdz.1 h);(focus (refine wkap (w_14 e3 e6 e7 e8 m500 m6 m501 hGl ggp @Zdd w0 w1 w2 w3) w_t (w_r 0) ?_;(repeat' first|exact w_t|apply w_l);all_goals intros));refine Zdg (cw _ (by exact gW m6) (by exact gW m501)) ?_
         rintro _ _ ⟨sv3,rfl,rfl⟩
         (focus (refine wkap (w_7 e3 e6 e7 e8 m500 hGl w3) w_t (w_r 0) ?_;(repeat' first|exact w_t|apply w_l);all_goals intros));exact⟨j+1,⟨by omega,⟨by exact gW e3,by exact gW e6,by exact gW e7,by rw [←s4];exact gC,by exact gW m500⟩,.pbox 6 gB 0,sv3,by exact gC,.inr rfl,by rw [hv1,hdn (by omega) hx];exact gC⟩,by omega⟩
       ·have:j=4:=by omega
        subst this;have e8:e 8=.v (.int .u16 0):=e8;have h4:vl V g 4=n/10000 ^ p:=hT;rw [h4] at m501;(focus (refine wkap (w_8 e3 e6 e7 e8 m500 m6 m501 hGl) w_t (w_r 0) ?_;(repeat' first|exact w_t|apply w_l);all_goals intros));exact⟨i+1,⟨by omega,⟨by exact gW e3,by exact gW e6,by(simp (disch:=omega) only [go_sem,e7];congr 2;omega),by exact gW m500⟩,c0,sv2,by exact gW m6,hc0,by rw [hV2];exact gW m501⟩,by omega⟩
      ·exact⟨by omega,⟨by exact gW e3,by exact gW e6,by exact gW e7,by show _=AV.v (.int .u16 1000);exact gC,by exact gW m500⟩,c0,sv2,by exact gW m6,hc0,by show _=some (Ent.row sv2 5 1 ((dig V).map by8) 0);exact gW m501⟩
     ·have:i=(g4 n).length:=by omega
      subst this;have e7:e 7=.v (.int .i64 (-1)):=by rw [e7];congr 2;omega
      rw [Nat.sub_self,Nat.pow_zero,Nat.div_one] at m501;have hne:dig n≠[]:=λh=>h0 (Zss.1 (by rw [h];rfl));have cs:=fun(m:Mem) a (b:m 501=some (.row sv2 5 1 ((dig n).map by8) 0))=>Zyn m 6 501 gB sv2 c0 (dig n) a b hne;(focus (refine wkap (w_7 e3 e6 e7 m500 m6 m501 hGl) w_t (w_r 0) ?_;(repeat' first|exact w_t|apply w_l);all_goals intros));refine Zdg (cs _ (by exact gW m6) (by exact gW m501)) ?_
      rintro _ _ ⟨rfl,rfl⟩
      (focus (refine wkap w_t w_t (w_r 0) ?_;(repeat' first|exact w_t|apply w_l);all_goals intros));all_goals simp (disch:=omega) only [go_sem]
    ·exact⟨Nat.zero_le _,⟨by exact gW e3,by exact gC,by(simp (disch:=omega) only [go_sem];congr 2;omega),by exact gW m500⟩,.v (.pointer none),.slice none 0 0,by exact gC,.inl rfl,by rw [Nat.sub_zero,hk0];exact gC⟩
   ·have hkp:=Zbd.2 (Nat.pos_of_ne_zero hk0);have hilt:=(Ztw i n).2 hk0;have hlk:(toL (n/10000 ^ i)).length≤(toL n).length:=Zc4 (Nat.div_le_self _ _);have ht:=g4_take hk0;have hdp:=Zsq n i;have cb:=Zos (toL (n/10000 ^ i)) 10000 (by omega) (Zao _) (by omega) (by omega);rw [Zam,←hdp] at cb;clear hdp;generalize ((g4 n).take i).map w16=W at *;generalize n/10000 ^ i%10000=x at *;obtain⟨y,hy⟩:∃y,n/10000 ^ (i+1)=y:=⟨_,rfl⟩;rw [hy] at cb;generalize n/10000 ^ i=z at *;(focus (refine wkvp (w_3 e0 e3 m500) (w_1 cb) ?_;(repeat' first|exact w_t|apply w_l);all_goals intros));exact⟨i+1,⟨by omega,by rw [hy];exact gC,_,by exact gC,by rw [ht];exact gC⟩,by omega⟩
  ·exact⟨Nat.zero_le _,by rw [Nat.pow_zero,Nat.div_one];exact gC,_,by exact gC,by exact gC⟩
attribute [local go_sem] Tryz.underlying120 Tryz.underlying51 Tryz.underlying53 Tryz.underlying34 Tryz.underlying193 szB zB Za2 zNat Za3 zInt Zax zRat Zu1 zShape Zxv Tryz.underlying216 List.append_eq
theorem intText (z:Int) (hz:(toL z.natAbs).length≤10000000):Pure Tryz.prog 146 [intZ z] (.v (.string (decZ z))):=by
 have cs:=iSign z (by omega);have ct:=Zw0 z.natAbs hz;have hs:=Zfp z.natAbs;have h45:(Zgd [45]).size=1:=Zee _;unfold decZ;have e45:Zgd [45]=⟨#[45]⟩:=rfl;rw [e45] at h45 ⊢;generalize decS z.natAbs=s at *;by_cases h:z < 0
 ·rw [if_pos h];rw [Int.sign_eq_neg_one_of_neg h] at cs;rw [show intZ z=.agg [.v (.bool true),lim (toL z.natAbs)] from by unfold intZ intA;rw [decide_eq_true h]] at *;refine Zaa (tok:=0) Tryz.func146 rfl Tryz.ntmps146 Tryz.results146 Tryz.call146 (by rfl) (by simp) ?_;(focus (refine wkvp (w_1 h45) (w_2 cs ct) ?_;(repeat' first|exact w_t|apply w_l);all_goals intros));simp (disch:=omega) only [go_sem]
 ·rw [if_neg h];have h2:¬z.sign < 0:=by rw [Int.sign_neg_iff];exact h
  rw [show intZ z=.agg [.v (.bool false),lim (toL z.natAbs)] from by unfold intZ intA;rw [decide_eq_false h]] at *;generalize z.sign=x at *;refine Zaa (tok:=0) Tryz.func146 rfl Tryz.ntmps146 Tryz.results146 Tryz.call146 (by rfl) (by simp) ?_;(focus (refine wkvp w_t (w_2 cs ct) ?_;(repeat' first|exact w_t|apply w_l);all_goals intros));simp (disch:=omega) only [go_sem]
theorem ratText (q:Rat) {k:Nat} (h:Sz q k) (hk:k≤1000000):Pure Tryz.prog 91 [ratQ q] (.v (.string (decQ q))):=by
 have cp:=Zfy q h (by omega);have h1:=h.1;have h2:=h.2;have cr:=Zef (decide (q.num < 0)) q.num.natAbs q.den (by omega) (by omega) q.den_nz;rw [show zI (decide (q.num < 0)) q.num.natAbs=q.num from by unfold zI;by_cases hq:q.num < 0<;>simp [hq]<;>omega,Rat.mkRat_self] at cr;have co:=Zkc q.den (by omega);have cz:=intText q.num (by omega);have cd:=Zw0 q.den (by omega);have z1:=Zph q.num;have z2:=Zfp q.den;have e47:Zgd [47]=⟨#[47]⟩:=rfl;have h47:(Zgd [47]).size=1:=Zee _;rw [e47] at h47;unfold decQ;rw [e47];by_cases hd:q.den=1
 ·rw [if_pos hd];rw [decide_eq_true hd] at co;generalize decZ q.num=s at *;refine Zaa (tok:=0) Tryz.func91 rfl Tryz.ntmps91 Tryz.results91 Tryz.call91 (by rfl) (by simp) ?_;(focus (refine wkvd w_t (w_4 cp cr co cz) w_t ?_;(repeat' first|exact w_t|apply w_l);all_goals intros));simp (disch:=omega) only [go_sem]
 ·rw [if_neg hd];rw [decide_eq_false hd] at co;generalize decZ q.num=s at *;generalize decS q.den=t at *;have h3:(s++⟨#[47]⟩:ByteArray).size=s.size+1:=by rw [ByteArray.size_append,h47]
  refine Zaa (tok:=0) Tryz.func91 rfl Tryz.ntmps91 Tryz.results91 Tryz.call91 (by rfl) (by simp) ?_;(focus (refine wkvd (w_2 h47 h3) (w_5 cp cr co cz cd) (w_1 (w_d 5 [(2,.v (.string s)),(6,.v (.string t))] [] [])) ?_;(repeat' first|exact w_t|apply w_l);all_goals intros));simp (disch:=omega) only [go_sem]
end Go.Proofs.YtjgdomdhjphgbaaGreatDoor
