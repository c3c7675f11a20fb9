/- Contracts of the functions that the law reaches, and the rules by which they are walked. They say what a call hands back for every input within the bounds that each names; no other condition. -/
import Derived.Test.YtjbjejmmnbdbiaaGreatBd6
import Derived.Laws.RangeString
import Derived.Lib.OthersKept
import Derived.Laws.Strings
set_option linter.unusedSimpArgs false
set_option linter.unusedVariables false
set_option maxRecDepth 20000
set_option maxHeartbeats 16000000
namespace Go.Proofs.YtjbjejmmnbdbiaaGreat
open Go Go.RowKit Go.Pg Go.Pol Go.Proofs.Tryz
attribute [-bool_to_prop] Bool.and_eq_decide Bool.or_eq_decide Bool.decide_beq_decide decide_eq_decide
section
variable {N n:Nat} {cs:List AV}
theorem agInt:Zgd prog 3=false:=by kernel_rfl
theorem csInt:prog.cellsOf 3=1:=by kernel_rfl
theorem shIvs (h:Zci prog N n 53 cs):∃l:List Int,cs=[ivs l]∧l.length≤N:=by
 obtain⟨bs,rfl,hl,_⟩:=Zdo (g:=λk:Int=>[iv k]) (Q:=λ_=>True) underlying53 h λm x hx=>by
  obtain⟨i,rfl,_⟩:=Zgl underlying3 hx;exact⟨i,rfl,trivial⟩
 refine⟨bs,?_,hl⟩;rw [csInt];have:(bs.map λb:Int=>Zdc prog 3 [iv b])=bs.map iv:=ZBp λb _=>Zh9 agInt _;rw [this]
theorem shStep (h:Zci prog N n 78 cs):∃s:RS,cs=[iv s.k,strA s.nm,ivs s.ar,.v (.bool s.r.s),lim s.r.l,lim s.r.d]∧s.r.lm N∧s.nm.size≤N∧s.ar.length≤N:=by
 obtain⟨m,rfl,hs⟩:=Zcj underlying78 zk h;obtain⟨x,y,rfl,h1,hs⟩:=hs.inv;obtain⟨x2,y,rfl,h2,hs⟩:=hs.inv;obtain⟨x3,y,rfl,h3,hs⟩:=hs.inv;obtain⟨x4,y,rfl,h4,hs⟩:=hs.inv;obtain rfl:=hs.inv0;obtain⟨k,rfl,_⟩:=Zgl underlying3 h1;obtain⟨nm,rfl,hn⟩:=Zoc underlying9 h2;obtain⟨ar,rfl,ha⟩:=shIvs h3;obtain⟨r,rfl,hr⟩:=Zp8 h4;exact⟨⟨k,nm,ar,r⟩,rfl,hr,hn,ha⟩
theorem shFact (h:Zci prog N n 80 cs):∃g:RG,cs=[iv g.k,ivs g.ar,.v (.bool g.r.s),lim g.r.l,lim g.r.d]∧g.r.lm N∧g.ar.length≤N:=by
 obtain⟨m,rfl,hs⟩:=Zcj underlying80 zk h;obtain⟨x,y,rfl,h1,hs⟩:=hs.inv;obtain⟨x3,y,rfl,h3,hs⟩:=hs.inv;obtain⟨x4,y,rfl,h4,hs⟩:=hs.inv;obtain rfl:=hs.inv0;obtain⟨k,rfl,_⟩:=Zgl underlying3 h1;obtain⟨ar,rfl,ha⟩:=shIvs h3;obtain⟨r,rfl,hr⟩:=Zp8 h4;exact⟨⟨k,ar,r⟩,rfl,hr,ha⟩
theorem shSteps (h:Zci prog N n 46 cs):∃l:List RS,cs=[.sl 6 (l.map RS.av)]∧l.length≤N∧∀s∈l,s.r.lm N∧s.nm.size≤N∧s.ar.length≤N:=by
 obtain⟨bs,rfl,hl,hq⟩:=Zdo (g:=λs:RS=>[iv s.k,strA s.nm,ivs s.ar,.v (.bool s.r.s),lim s.r.l,lim s.r.d]) (Q:=λs=>s.r.lm N∧s.nm.size≤N∧s.ar.length≤N) underlying46 h λm x hx=>shStep hx;refine⟨bs,?_,hl,hq⟩;rw [show prog.cellsOf 78=6 from by kernel_rfl];have:(bs.map λs:RS=>Zdc prog 78 [iv s.k,strA s.nm,ivs s.ar,.v (.bool s.r.s),lim s.r.l,lim s.r.d])=bs.map RS.av:=ZBp λb _=>Zgj underlying78 _;rw [this]
theorem shFacts (h:Zci prog N n 47 cs):∃l:List RG,cs=[.sl 5 (l.map RG.av)]∧l.length≤N∧∀s∈l,s.r.lm N∧s.ar.length≤N:=by
 obtain⟨bs,rfl,hl,hq⟩:=Zdo (g:=λs:RG=>[iv s.k,ivs s.ar,.v (.bool s.r.s),lim s.r.l,lim s.r.d]) (Q:=λs=>s.r.lm N∧s.ar.length≤N) underlying47 h λm x hx=>shFact hx;refine⟨bs,?_,hl,hq⟩;rw [show prog.cellsOf 80=5 from by kernel_rfl];have:(bs.map λs:RG=>Zdc prog 80 [iv s.k,ivs s.ar,.v (.bool s.r.s),lim s.r.l,lim s.r.d])=bs.map RG.av:=ZBp λb _=>Zgj underlying80 _;rw [this]
theorem shFigure (h:Zci prog N n 49 cs):∃(ss:List RS) (gs:List RG),Zdc prog 49 cs=figA ss gs∧ss.length≤N∧gs.length≤N∧(∀s∈ss,s.r.lm N∧s.nm.size≤N∧s.ar.length≤N)∧∀s∈gs,s.r.lm N∧s.ar.length≤N:=by
 obtain⟨m,rfl,hs⟩:=Zcj underlying49 zk h;obtain⟨x,y,rfl,h1,hs⟩:=hs.inv;obtain⟨x3,y,rfl,h3,hs⟩:=hs.inv;obtain rfl:=hs.inv0;obtain⟨ss,rfl,hl,hq⟩:=shSteps h1;obtain⟨gs,rfl,kl,kq⟩:=shFacts h3;exact⟨ss,gs,Zgj underlying49 _,hl,kl,hq,kq⟩
end
end Go.Proofs.YtjbjejmmnbdbiaaGreat
namespace Go.Pg
open Go Go.RowKit Go.Lib
section
variable {P:Program} {n:Nat}
theorem Zrm {x y:Code} {Q:AE→St→Prop} {st:St} (h:AWP P n x (AE.then (AWP P n y Q) Q) st):AWP P n (.seq x y) Q st:=λc a w imm hr=>by
 refine wp_seq (ZCd (λe a' w' hp=>?_) (h c a w imm hr));obtain⟨ae,st',imm',rfl,h2,h3⟩:=hp
 cases ae with
 | normal=>exact h2 c a' w' imm' h3
 | exit id=>exact⟨.exit id,st',imm',rfl,h2,h3⟩
 | ret=>exact⟨.ret,st',imm',rfl,h2,h3⟩
theorem Zti {o:Oper} {a:Act} {w w':World} {ops:Array Oper} {Qp:Exit→Act→World→Prop} {l:List Oper} {y:Value} (hg:o.guard=none) (hr:(execOp a.eval o).run P w=.ok (.value y) w') (h:wpList P ops Qp l (a.put o.dst y) w'):wpList P ops Qp (o :: l) a w:=by
 unfold wpList;rw [Zy1 (by simp [Region.wanted,hg])];refine .inl ?_;unfold Oper.wp;rw [hr];exact h
theorem rebase {c:Cx} {e:Nat→AV} {a:Act} {w:World} {imm:Imm} (h:Rel c n ⟨e,Zad⟩ a w imm):Rel ⟨w.heap.size,w,imm,h.mem.tb.here⟩ n ⟨e,Zad⟩ a w imm :=
 ⟨h.env,h.size,h.defers,⟨⟨λk e hk=>by simp [Zad] at hk,λk k' e e' b hk=>by simp [Zad] at hk,h.mem.ok.lt,h.mem.ok.spot⟩,Blw.refl _ _,Zy5 _,λ_ h1=>h1,λ_ h1=>.inl h1,λ_ _=>rfl⟩⟩
theorem unbase {c:Cx} {st':St} {a':Act} {w w':World} {imm imm':Imm} (hm:Mx c Zad w imm) (h:Rel ⟨w.heap.size,w,imm,hm.tb.here⟩ n st' a' w' imm') (h0:st'.mem=Zad):Rel c n st' a' w' imm':=by
 refine⟨h.env,h.size,h.defers,?_⟩;have hm':=h.mem;rw [h0] at hm' ⊢;exact⟨⟨λk e hk=>by simp [Zad] at hk,λk k' e e' b hk=>by simp [Zad] at hk,hm'.ok.lt,hm'.ok.spot⟩,hm.below.trans (hm'.below.mono hm.lt),Zzg hm.lt hm'.lt,λad h1=>hm'.old ad (hm.old ad h1),λad h1=>(hm'.new ad h1).elim (hm.new ad) (λh2=>.inr (Zzg hm.lt h2)),λad h1=>(hm'.cells ad (hm.old ad h1)).trans (hm.cells ad h1)⟩
structure ItS (c:Cx) (n:Nat) (s:ByteArray) (tI:Nat) (J:Nat→(Nat→AV)→Prop) (pos:Nat) (a:Act) (w:World):Prop where
 h:∃e imm g,Rel c n ⟨e,Zad⟩ a w imm∧w.heap[g]?=some (.stringIter s pos)∧c.B≤g∧(∀ad,imm ad→ad.block≠g)∧e tI=.v (.pointer (some ⟨g,0,none⟩))∧J pos e
theorem Zyr {s:ByteArray} {id1 id2 bid d1 tI d2 d3:Nat} {x:Operand} {ty1 ty2 ty3 ty4 tys:TypeId} {p1 p2 p3 p4:String} {f1 f2 f3 f4:Array Edge} {r2:Code} {Q:AE→St→Prop} {e:Nat→AV}
 (hx:St.ev ⟨e,Zad⟩ x=.v (.string s)) (hty:P.underlying tys=some .string) (h1:d1 < n) (hI:tI < n) (h2:d2 < n) (h3:d3 < n) (hne:tI≠d2) (hne3:tI≠d3) (hne1:d2≠d3) (hf:Zax n r2=true)
 (J:Nat→(Nat→AV)→Prop) (h0:∀pv,J 0 (upd (upd e d1 (.v (.string s))) tI (.v pv)))
 (hstep:∀pos e pv,J pos e→e tI=.v pv→pos < s.size→Zaw P 0 n r2 (AE.then (λst'=>st'.mem=Zad∧J (pos+(Utf8.decode s pos).2) st'.env∧st'.env tI=.v pv) λae st'=>st'.mem=Zad∧AE.inBlock bid Q ae st')
  ⟨upd (upd e d2 (.tup [.v (.bool true),.v (.int .i64 pos),.v (.int .i32 (Utf8.decode s pos).1)])) d3 (.v (.bool true)),Zad⟩)
 (hw:∀pos,pos < s.size→0 < (Utf8.decode s pos).2)
 (hend:∀pos e pv,J pos e→e tI=.v pv→¬pos < s.size→Zaw P 0 n r2 (AE.then (λ_=>False) λae st'=>st'.mem=Zad∧AE.inBlock bid Q ae st')
  ⟨upd (upd e d2 (.tup [.v (.bool false)])) d3 (.v (.bool false)),Zad⟩) :
 AWP P n (.seq (.region id1 #[⟨some d1,.move x,ty1,p1,f1,none⟩,⟨some tI,.range tys (.tmp d1),ty2,p2,f2,none⟩] false)
  (.block bid (.loop (.seq (.region id2 #[⟨some d2,.next (.tmp tI) true,ty3,p3,f3,none⟩,⟨some d3,.extract (.tmp d2) 0,ty4,p4,f4,none⟩] false) r2)))) Q ⟨e,Zad⟩:=by
 intro c a w imm hr;refine wp_seq (wp_region_list ?_);have ex:=hr.ev x;rw [hx] at ex;have ex:=ex.v_inv;refine Zti rfl (y:=.string s) (w':=w) (by simp [execOp,ex]) ?_;have r1:=hr.step (dst:=some d1) (av:=.v (.string s)) (x:=.string s) (Keeps.refl w imm) hr.mem (λd hd=>by cases hd;exact h1) (.pure (.v _));have e1:=(r1.ev (.tmp d1))
 have e1:(a.put (some d1) (.string s)).eval (.tmp d1)=.string s:=by
  have h9:St.ev (St.put ⟨e,Zad⟩ (some d1) (.v (.string s))) (.tmp d1)=.v (.string s):=by simp [St.ev,St.put,Zal]
  rw [h9] at e1;exact e1.v_inv
 refine Zti rfl (y:=.pointer (some ⟨w.heap.size,0,none⟩)) (w':=w.iter s 0) (by
  simp only [execOp,e1];exact Zh0 (run_range_string w tys s hty)) ?_
 have hcell:∀ad,imm ad→(w.iter s 0).cell? ad=w.cell? ad:=λad h9=>ZCs w _ ad (hr.mem.ok.lt ad h9);have hm2:Mx c Zad (w.iter s 0) imm:=⟨⟨λk e hk=>by simp [Zad] at hk,λk k' e e' b hk=>by simp [Zad] at hk,λad h9=>ZA9 (hr.mem.ok.lt ad h9) (ZCt w (.stringIter s 0) none).size,hr.mem.ok.spot⟩,
  hr.mem.below.grown (ZCt w (.stringIter s 0) none) (Zy5 _) hr.mem.lt (λg hg=>by cases hg),Zzg hr.mem.lt (ZCt w (.stringIter s 0) none).size,hr.mem.old,hr.mem.new,λad h9=>(hcell ad (hr.mem.old ad h9)).trans (hr.mem.cells ad h9)⟩
 have r2':=r1.step (dst:=some tI) (av:=.v (.pointer (some ⟨w.heap.size,0,none⟩))) (x:=.pointer (some ⟨w.heap.size,0,none⟩)) (w':=w.iter s 0) (imm':=imm) (λad h9=>⟨h9,hcell ad h9⟩) hm2 (λd hd=>by cases hd;exact hI) (.pure (.v _));show(Code.block bid _).wp P (post c n Q) _ _;refine wp_block ?_;have start:ItS c n s tI J 0 ((a.put (some d1) (.string s)).put (some tI) (.pointer (some ⟨w.heap.size,0,none⟩))) (w.iter s 0) :=
  ⟨_,imm,w.heap.size,r2',World.iter_heap w s 0,hr.mem.lt,λad h9=>Nat.ne_of_lt (hr.mem.ok.lt ad h9),by simp [St.put,Zal],h0 _⟩
 generalize (a.put (some d1) (.string s)).put (some tI) (.pointer (some ⟨w.heap.size,0,none⟩))=a1 at start;generalize w.iter s 0=w1 at start;clear r2' r1 hm2 hcell e1 ex hr
 let Qp:Exit→Act→World→Prop:=Exit.inBlock bid (post c n Q)
 have lift:∀(ae:AE) (st':St) (a':Act) (w w':World) (imm imm':Imm) (hm:Mx c Zad w imm),Rel ⟨w.heap.size,w,imm,hm.tb.here⟩ n st' a' w' imm'→st'.mem=Zad→AE.inBlock bid Q ae st'→ae≠.normal→Qp ae.to a' w':=by
  intro ae st' a' w w' imm imm' hm hr h9 hq hn;have hr':=unbase hm hr h9
  cases ae with
  | normal=>exact absurd rfl hn
  | exit i =>
    show Exit.inBlock bid (post c n Q) (.exit i) a' w';simp only [AE.inBlock] at hq;by_cases hi:i=bid
    ·subst hi;rw [Zy1 rfl] at hq;simp only [Exit.inBlock,Zzt];exact⟨.normal,st',imm',rfl,hq,hr'⟩
    ·rw [Zy0 hi] at hq;simp only [Exit.inBlock,Zy0 hi];exact⟨.exit i,st',imm',rfl,hq,hr'⟩
  | ret=>exact⟨.ret,st',imm',rfl,hq,hr'⟩
 have round:∀pos a w,ItS c n s tI J pos a w→(Code.seq (.region id2 #[⟨some d2,.next (.tmp tI) true,ty3,p3,f3,none⟩,⟨some d3,.extract (.tmp d2) 0,ty4,p4,f4,none⟩] false) r2).wp P
  (Exit.then (λa w=>∃pos',ItS c n s tI J pos' a w∧s.size - pos' < s.size - pos) Qp) a w:=by
  rintro pos a w ⟨e,imm,g,hr,hg,hB,hng,heI,hJ⟩
  have eI:=hr.ev (.tmp tI)
  have eI:a.eval (.tmp tI)=.pointer (some ⟨g,0,none⟩):=by
   rw [show St.ev ⟨e,Zad⟩ (.tmp tI)=_ from heI] at eI;exact eI.v_inv
  refine wp_seq (wp_region_list ?_);have glt:g < w.heap.size:=(Array.getElem?_eq_some_iff.1 hg).1;by_cases hp:pos < s.size
  ·refine Zti rfl (y:=.tuple #[.bool true,.int .i64 pos,.int .i32 (Utf8.decode s pos).1]) (w':=w.iterAt g s (pos+(Utf8.decode s pos).2)) (by
    simp only [execOp,eI];exact Zh0 (run_next_any_at w g s pos _ hg hp)) ?_
   have hgrow:w.grownBy (w.iterAt g s (pos+(Utf8.decode s pos).2)) (some g):=by
    refine⟨rfl,rfl,rfl,?_,λk hk hne=>?_⟩
    ·simp [World.iterAt]
    ·simp only [World.iterAt];rw [ZDy (λh9=>hne (by rw [h9]))]
   have hcell:∀ad,imm ad→(w.iterAt g s (pos+(Utf8.decode s pos).2)).cell? ad=w.cell? ad:=λad h9=>Zd3 hgrow (hr.mem.ok.lt ad h9) (λh8=>hng ad h9 (by cases h8;rfl));have hm2:Mx c Zad (w.iterAt g s (pos+(Utf8.decode s pos).2)) imm:=⟨⟨λk e hk=>by simp [Zad] at hk,λk k' e e' b hk=>by simp [Zad] at hk,λad h9=>ZA9 (hr.mem.ok.lt ad h9) hgrow.size,hr.mem.ok.spot⟩,
    hr.mem.below.grown hgrow (Zy5 _) hr.mem.lt (λg' hg'=>by cases hg';exact hB),Zzg hr.mem.lt hgrow.size,hr.mem.old,hr.mem.new,λad h9=>(hcell ad (hr.mem.old ad h9)).trans (hr.mem.cells ad h9)⟩
   have q1:=hr.step (dst:=some d2) (av:=.tup [.v (.bool true),.v (.int .i64 pos),.v (.int .i32 (Utf8.decode s pos).1)]) (x:=.tuple #[.bool true,.int .i64 pos,.int .i32 (Utf8.decode s pos).1]) (imm':=imm) (λad h9=>⟨h9,hcell ad h9⟩) hm2 (λd hd=>by cases hd;exact h2)
    (.pure (.tup _ _ rfl λj a x k1 k2=>by
     match j with
     | 0=>simp at k1 k2;subst k1;subst k2;exact .v _
     | 1=>simp at k1 k2;subst k1;subst k2;exact .v _
     | 2=>simp at k1 k2;subst k1;subst k2;exact .v _
     | j+3=>simp at k1))
   have v2:=q1.env d2
   have v2:(a.put (some d2) (.tuple #[.bool true,.int .i64 pos,.int .i32 (Utf8.decode s pos).1])).eval (.tmp d2)=.tuple #[.bool true,.int .i64 pos,.int .i32 (Utf8.decode s pos).1]:=by
    show(a.put (some d2) _).tmps.getD d2 undef=_;rw [Act.put_getD a d2 _ (by rw [hr.size];exact h2),Zy1 rfl]
   refine Zti rfl (y:=.bool true) (w':=w.iterAt g s (pos+(Utf8.decode s pos).2)) (by
    simp only [execOp,v2];simp [Instr.extract]) ?_
   have q2:=q1.step (dst:=some d3) (av:=.v (.bool true)) (x:=.bool true) (Keeps.refl _ imm) hm2 (λd hd=>by cases hd;exact h3) (.pure (.v _));have hst:=hstep pos e _ hJ heI hp;have q3:=rebase q2;refine ZCd (λee a' w' hpost=>?_) (Za2 r2 _ _ hf hst _ _ _ _ q3);obtain⟨ae,st',imm',rfl,hq,hrel⟩:=hpost
   cases ae with
   | normal =>
     obtain⟨hm,hJ',hpv⟩:=hq;have hr':=unbase hm2 hrel hm;refine⟨pos+(Utf8.decode s pos).2,⟨st'.env,imm',g,?_,?_,hB,λad h9=>?_,hpv,hJ'⟩,by have:=hw pos hp;omega⟩
     ·obtain⟨en,me⟩:=st';simp only at hm;subst hm;exact hr'
     ·rw [hrel.mem.below.block g (ZA9 glt hgrow.size)];exact iterAt_heap w g s pos _ hg
     ·rcases hrel.mem.new ad h9 with h8 | h8
      ·exact hng ad h8
      ·have:(w.iterAt g s (pos+(Utf8.decode s pos).2)).heap.size≤ad.block:=h8;have:=hgrow.size;omega
   | exit i=>exact lift (.exit i) st' a' _ w' imm imm' hm2 hrel hq.1 hq.2 zs
   | ret=>exact lift .ret st' a' _ w' imm imm' hm2 hrel hq.1 hq.2 zs
  ·refine Zti rfl (y:=.tuple #[.bool false]) (w':=w) (by
    simp only [execOp,eI];exact Zh0 (run_next_end_at w g s pos _ hg hp)) ?_
   have q1:=hr.step (dst:=some d2) (av:=.tup [.v (.bool false)]) (x:=.tuple #[.bool false]) (Keeps.refl w imm) hr.mem (λd hd=>by cases hd;exact h2)
    (.pure (.tup _ _ rfl λj a x k1 k2=>by
     match j with
     | 0=>simp at k1 k2;subst k1;subst k2;exact .v _
     | j+1=>simp at k1))
   have v2:(a.put (some d2) (.tuple #[.bool false])).eval (.tmp d2)=.tuple #[.bool false]:=by
    show(a.put (some d2) _).tmps.getD d2 undef=_;rw [Act.put_getD a d2 _ (by rw [hr.size];exact h2),Zy1 rfl]
   refine Zti rfl (y:=.bool false) (w':=w) (by
    simp only [execOp,v2];simp [Instr.extract]) ?_
   have q2:=q1.step (dst:=some d3) (av:=.v (.bool false)) (x:=.bool false) (Keeps.refl _ imm) hr.mem (λd hd=>by cases hd;exact h3) (.pure (.v _));have hst:=hend pos e _ hJ heI hp;have q3:=rebase q2;refine ZCd (λee a' w' hpost=>?_) (Za2 r2 _ _ hf hst _ _ _ _ q3);obtain⟨ae,st',imm',rfl,hq,hrel⟩:=hpost
   cases ae with
   | normal=>exact hq.elim
   | exit i=>exact lift (.exit i) st' a' _ w' imm imm' hr.mem hrel hq.1 hq.2 zs
   | ret=>exact lift .ret st' a' _ w' imm imm' hr.mem hrel hq.1 hq.2 zs
 intro b k cs;have key:∀m pos a w,s.size - pos=m→ItS c n s tI J pos a w →
  ∃ee a' w',Qp ee a' w'∧Arrives P (lone (b.at a (.code (Code.seq (.region id2 #[⟨some d2,.next (.tmp tI) true,ty3,p3,f3,none⟩,⟨some d3,.extract (.tmp d2) 0,ty4,p4,f4,none⟩] false) r2) :: .inLoop (Code.seq (.region id2 #[⟨some d2,.next (.tmp tI) true,ty3,p3,f3,none⟩,⟨some d3,.extract (.tmp d2) 0,ty4,p4,f4,none⟩] false) r2) :: k)) cs w) b k cs ee a' w':=by
  intro m
  induction m using Nat.strongRecOn with
  | _ m ih =>
    intro pos a w hm hI';obtain⟨ee,a₁,w₁,hq,harr⟩:=round pos a w hI' b (.inLoop _ :: k) cs
    cases ee with
    | normal =>
      obtain⟨pos',h8,h9⟩:=hq;obtain⟨e₂,a₂,w₂,hq₂,harr₂⟩:=ih (s.size - pos') (hm ▸ h9) pos' a₁ w₁ rfl h8;exact⟨e₂,a₂,w₂,hq₂,.of_steps (Steps.trans harr (.one step_inLoop)) harr₂⟩
    | exit id=>exact⟨.exit id,a₁,w₁,hq,.pass (x:=.inLoop _) rfl (λ_ _=>.inl zs) harr⟩
    | goto l=>exact⟨.goto l,a₁,w₁,hq,.pass (x:=.inLoop _) rfl (λ_ _=>.inl zs) harr⟩
    | ret=>exact⟨.ret,a₁,w₁,hq,.pass (x:=.inLoop _) rfl (λ_ _=>.inl zs) harr⟩
    | panic ch=>exact⟨.panic ch,a₁,w₁,hq,.pass (x:=.inLoop _) rfl (λ_ _=>.inl zs) harr⟩
    | outgrown=>exact⟨.outgrown,a₁,w₁,hq,.pass (x:=.inLoop _) rfl (λ_ _=>.inl zs) harr⟩
 obtain⟨ee,a',w',hq,harr⟩:=key _ 0 a1 w1 rfl start;exact⟨ee,a',w',hq,.of_steps (.one step_loop) harr⟩
theorem Zqo {f:FuncId} {fn:Func} {code:Code} {rs:List ResultVar} {args:List AV} {r:AV} (hf:P.funcs[f]?=some fn) (hb:fn.body=some code) (hn:fn.ntmps=n) (hrs:fn.results=rs.toArray)
 (hc:∀(vs:Array Value) (w:World),(callFunc f vs).run P w=.ok (.enter f vs) w) (hal:args.length≤n)
 (h:AWP P n code (Done P rs λst=>Zl8 st r) ⟨λt=>args.getD t .u,Zad⟩):Pure P f args r:=by
 refine⟨hc,λw imm vs himm hl hr=>?_⟩;refine calls_of_wp hf hb ?_
 let c:Cx:=⟨w.heap.size,w,imm,himm.tb.here⟩
 have hrel:Rel c n ⟨λt=>args.getD t .u,Zad⟩ { tmps:=vs++Array.replicate (fn.ntmps - vs.size) undef,defers:=[] } w imm:=by
  refine⟨λt=>?_,by simp [hn];omega,rfl,⟨⟨λk e hk=>by simp [Zad] at hk,λk k' e e' b hk=>by simp [Zad] at hk,λad h1=>(himm.at_ ad h1).1,λad h1=>(himm.at_ ad h1).2⟩,Blw.refl _ _,Zy5 _,λ_ h1=>h1,λ_ h1=>.inl h1,λ_ _=>rfl⟩⟩;simp only [Zzc];rcases Zzo t args.length with ht | ht
  ·have ht2:t < vs.size:=zo;rw [Zy4 ht,ZA2,ZCn ht2,Zz2 ht2];exact .pure (hr t _ _ (Zy4 ht) (Zz2 ht2))
  ·rw [ZAf ht];exact .pure (.u _)
 refine ZCd (λe a' w' hp=>?_) (h c _ w imm hrel);obtain⟨ae,st',imm',rfl,hdone,hrel'⟩:=hp;have hret:=Znx hdone;have hae:∀id,ae≠.exit id:=by rintro id rfl;exact hdone
 obtain⟨y,b,hrun,⟨hpo,hpv⟩,hrs'⟩:=Zm1 hrs hrel' hret;obtain⟨i2,hm2,hk2⟩:=Zc4 b.toks hrel'.mem;have hrd:=Zgf hm2 (hk2.rs hrs') hpo;rw [hpv] at hrd;have fin:a'.defers=[]∧∃v,(results fn a'.tmps).run P w'=.ok v w'∧(λe w'=>∃x imm',e=Ending.returned x∧Rd w' imm' r x∧(∀ad,imm ad→imm' ad)∧(∀ad,imm' ad→(imm ad∨w.heap.size≤ad.block)∧ad.block < w'.heap.size∧ad.spot=none)∧Blw w.heap.size w w') (Ending.returned v) w' :=
  ⟨hrel'.defers,y,hrun,y,i2,rfl,hrd,hm2.old,λad h1=>⟨hm2.new ad h1,hm2.ok.lt ad h1,hm2.ok.spot ad h1⟩,hm2.below⟩
 cases ae with
 | normal=>exact fin
 | ret=>exact fin
 | exit id=>exact absurd rfl (hae id)
theorem Zun (s:ByteArray) (i:Nat):0 < (Utf8.decode s i).2:=by
 unfold Utf8.decode;simp only
 repeat' split
 all_goals simp
end
end Go.Pg
namespace Go.Proofs.YtjbjejmmnbdbiaaGreat
open Go Go.RowKit Go.Pg Go.Proofs.Tryz
attribute [-bool_to_prop] Bool.and_eq_decide Bool.or_eq_decide Bool.decide_beq_decide decide_eq_decide
attribute [go_sem] underlying135 zStr
attribute [local go_sem] Zbm Zbo
def kwL:List ByteArray:=[
 ⟨#[97,110,103,108,101]⟩,
 ⟨#[97,112,101,120]⟩,
 ⟨#[98,105,115,101,99,116,111,114]⟩,
 ⟨#[99,101,110,116,101,114]⟩,
 ⟨#[99,105,114,99,108,101]⟩,
 ⟨#[99,105,114,99,117,109]⟩,
 ⟨#[99,111,108,108,105,110,101,97,114]⟩,
 ⟨#[99,111,109,109,111,110]⟩,
 ⟨#[99,111,110,99,121,99,108,105,99]⟩,
 ⟨#[99,111,110,103,114,117,101,110,116]⟩,
 ⟨#[99,114,111,115,115]⟩,
 ⟨#[99,117,116]⟩,
 ⟨#[100,105,118,105,100,101]⟩,
 ⟨#[102,111,111,116]⟩,
 ⟨#[108,105,110,101]⟩,
 ⟨#[109,101,101,116]⟩,
 ⟨#[109,105,100,112,111,105,110,116]⟩,
 ⟨#[109,105,114,114,111,114]⟩,
 ⟨#[111,110]⟩,
 ⟨#[111,116,104,101,114]⟩,
 ⟨#[112,97,114,97,108,108,101,108]⟩,
 ⟨#[112,101,114,112,101,110,100,105,99,117,108,97,114]⟩,
 ⟨#[112,111,105,110,116,115]⟩,
 ⟨#[112,114,111,118,101]⟩,
 ⟨#[114,97,116,105,111]⟩,
 ⟨#[114,101,102,108,101,99,116]⟩,
 ⟨#[115,97,109,101]⟩,
 ⟨#[115,104,105,102,116]⟩,
 ⟨#[116,117,114,110]⟩]
def letB (c:Nat):Bool:=decide (97≤c∧c≤122) || decide (65≤c∧c≤90)
def digB (c:Nat):Bool:=decide (48≤c∧c≤57)
def gB (s:ByteArray) (k:Nat):Nat:=(s.data.toList.getD k 0).toNat
theorem Zjw (s:ByteArray) (k:Nat):gB s k < 256:=UInt8.toNat_lt _
def namB (s:ByteArray):Bool:=decide (0 < s.size∧s.size≤20) && (letB (gB s 0) && ((List.range s.size).all (λk=>letB (gB s k) || digB (gB s k)) && !(kwL.any λw=>w.toList == s.toList)))
theorem Zi0 (s:ByteArray):(s.toList == (⟨#[]⟩:ByteArray).toList)=decide (s.size=0):=by
 rw [ByteArray.toList_eq,ByteArray.toList_eq,Zzy,ZA6,Zzu];constructor
 ·intro h;have:=congrArg List.length h;exact this
 ·intro h;exact List.length_eq_zero_iff.1 h
theorem Zi5 (s:ByteArray) (k:Nat):((s.data.toList.getD k 0).toNat:Int)=(gB s k:Int):=rfl
theorem Zi7 (s:ByteArray):∀n,n≤s.size→∃k,k≤n∧(∀j,j < k→(letB (gB s j) || digB (gB s j))=true)∧(k < n→(letB (gB s k) || digB (gB s k))=false)
 | 0,_=>⟨0,zo,λj h=>zo,λh=>zo⟩
 | n+1,h=>by
   obtain⟨k,h1,h2,h3⟩:=Zi7 s n zo;by_cases hk:k < n
   ·exact⟨k,zo,h2,λ_=>h3 hk⟩
   ·have:k=n:=zo;subst this
    cases hb:(letB (gB s k) || digB (gB s k)) with
    | true=>exact⟨k+1,zo,λj hj=>by by_cases e:j=k;rw [e];exact hb;exact h2 j zo,λh=>zo⟩
    | false=>exact⟨k,zo,h2,λ_=>hb⟩
def kinB (c:Nat):Int:=if c=32∨c=9∨c=13∨c=10 then 1 else if letB c=true then 2 else if digB c=true then 3 else if c=40∨c=41∨c=44∨c=59∨c=47∨c=45 then 4 else if c=58 then 5 else if c=35 then 6 else 0
theorem Zss (c:Nat):kinB c=2↔letB c=true:=by
 unfold kinB letB;simp only [ZAn,Zzu]
 repeat' split
 all_goals omega
theorem kinB_dig (c:Nat):kinB c=3↔digB c=true:=by
 unfold kinB letB digB;simp only [ZAn,Zzu]
 repeat' split
 all_goals omega
theorem nmKind (c:Nat) (hc:c < 256):Pure prog 162 [.v (.int .u8 (c:Int))] (iv (kinB c)):=by
 unfold kinB letB digB;simp only [ZAn,Zzu];refine pI func162 rfl ntmps162 results162 call162 ?_;(focus (refine wklp w_t w_t w_t (w_r 0) ?_;(repeat' first|exact w_t|apply w_l);all_goals intros));all_goals (congr 2;repeat' split)
 all_goals (first|rfl|omega)
theorem nmEnd (s:ByteArray) (hs:s.size≤9223372036854775807):∃n:Nat,Pure prog 163 [strA s,iv 0,.v (.bool true)] (iv n)∧n≤s.size∧(n=s.size↔(List.range s.size).all (λk=>letB (gB s k) || digB (gB s k))=true):=by
 obtain⟨n,h1,h2,h3⟩:=Zi7 s s.size (Zy5 _);refine⟨n,?_,h1,?_⟩
 ·refine pI func163 rfl ntmps163 results163 call163 ?_;(focus (refine wkap w_t w_t (w_r 0) ?_;(repeat' first|exact w_t|apply w_l);all_goals intros));refine Zab (ι:=Nat) (λi e m=>i≤n∧e 0=strA s∧e 1=iv i∧e 2=.v (.bool true)) (λi=>n - i) 0 zr ?_ ?_
  ·rintro i e m ⟨hi,e0,e1,e2⟩
   have hk:=nmKind (gB s i) (Zjw s i);have kl:=Zss (gB s i);have kd:=kinB_dig (gB s i);by_cases hlt:i < n
   ·have hb:=h2 i hlt;rw [ZAn,←kl,←kd] at hb;clear kl kd;have hg:=Zi5 s i;generalize kinB (gB s i)=x at *;rcases hb with hb | hb
    ·subst hb;(focus (refine wkap (w_4 e0 e1 e2 hg) (w_1 hk) (w_r 0) ?_;(repeat' first|exact w_t|apply w_l);all_goals intros));exact⟨i+1,⟨zo,gW e0,gS,gW e2⟩,zo⟩
    ·subst hb;(focus (refine wkap (w_4 e0 e1 e2 hg) (w_1 hk) (w_r 0) ?_;(repeat' first|exact w_t|apply w_l);all_goals intros));exact⟨i+1,⟨zo,gW e0,gS,gW e2⟩,zo⟩
   ·have hin:i=n:=zo;subst hin;by_cases hsz:i < s.size
    ·have hb:=h3 hsz;rw [ZBq] at hb;have b1:kinB (gB s i)≠2:=λh=>by rw [kl.1 h] at hb;exact absurd hb.1 zd
     have b2:kinB (gB s i)≠3:=λh=>by rw [kd.1 h] at hb;exact absurd hb.2 zd
     clear kl kd;have hg:=Zi5 s i;generalize kinB (gB s i)=x at *;(focus (refine wklp (w_4 e0 e1 e2 hg) (w_1 hk) w_t (w_r 0) ?_;(repeat' first|exact w_t|apply w_l);all_goals intros))
    ·(focus (refine wklp (w_3 e0 e1 e2) w_t w_t (w_r 0) ?_;(repeat' first|exact w_t|apply w_l);all_goals intros))
  ·exact⟨Zzb _,gC,gC,gC⟩
 ·rw [ZBb];constructor
  ·intro h x hx;exact h2 x (by rw [h];exact List.mem_range.1 hx)
  ·intro h;rcases Zzo n s.size with h4 | h4
   ·have:=h n (List.mem_range.2 h4);rw [h3 h4] at this;cases this
   ·omega
theorem nmKeys:Pure prog 164 [] (.sl 1 (kwL.map strA)):=by
 unfold kwL;refine pI func164 rfl ntmps164 results164 call164 ?_;(focus (refine wklp w_t w_t w_t (w_r 0) ?_;(repeat' first|exact w_t|apply w_l);all_goals intros))
theorem rnKeys:Pure prog 113 [] (.sl 1 (kwL.map strA)):=by
 unfold kwL;refine pI func113 rfl ntmps113 results113 call113 ?_;exact wklp w_t w_t w_t (w_r 0) w_z
theorem Zif (c:Nat) (hc:c < 256):Pure prog 111 [.v (.int .u8 (c:Int))] (.v (.bool (letB c))):=by
 unfold letB;refine pI func111 rfl ntmps111 results111 call111 ?_;exact wklp w_t w_t w_t (w_r 0) w_z
theorem Zqi (c:Nat) (hc:c < 256):Pure prog 112 [.v (.int .u8 (c:Int))] (.v (.bool (digB c))):=by
 unfold digB;refine pI func112 rfl ntmps112 results112 call112 ?_;exact wklp w_t w_t w_t (w_r 0) w_z
theorem Zeh:kwL.length=29:=rfl
theorem nmName (s:ByteArray) (hs:s.size≤9223372036854775807):Pure prog 119 [strA s] (.v (.bool (namB s))):=by
 have he:=Zi0 s;unfold namB;by_cases h0:0 < s.size∧s.size≤20
 ·rw [Zy6 h0,ZAz];have h00:(decide (s.size=0))=false:=Zy2 zo;rw [h00] at he;have hk:=nmKind (gB s 0) (Zjw s 0);have hg:=Zi5 s 0;have kl:=Zss (gB s 0)
  cases hl:letB (gB s 0) with
  | false =>
    have hx:kinB (gB s 0)≠2:=λh=>by rw [kl.1 h] at hl;cases hl
    clear kl;rw [Zzr];generalize kinB (gB s 0)=x at *;refine pI func119 rfl ntmps119 results119 call119 ?_;(focus (refine wklp (w_2 he hg) (w_1 hk) w_t (w_r 0) ?_;(repeat' first|exact w_t|apply w_l);all_goals intros))
  | true =>
    have hx:kinB (gB s 0)=2:=kl.2 hl;rw [hx] at hk;rw [ZAz];obtain⟨n,ce,hn,hall⟩:=nmEnd s hs
    cases ha:(List.range s.size).all (λk=>letB (gB s k) || digB (gB s k)) with
    | false =>
      have hlt:n < s.size:=by
       rcases Zzo n s.size with h | h
       ·exact h
       ·rw [hall.1 zo] at ha;cases ha
      rw [Zzr];clear hall ha;refine pI func119 rfl ntmps119 results119 call119 ?_;(focus (refine wklp (w_2 he hg) (w_2 hk ce) w_t (w_r 0) ?_;(repeat' first|exact w_t|apply w_l);all_goals intros))
    | true =>
      have hnn:n=s.size:=hall.2 ha;subst hnn;rw [ZAz];clear hall ha hl hx kl;have ck:=nmKeys;refine pI func119 rfl ntmps119 results119 call119 ?_;(focus (refine wkap (w_4 he hg @Zbq @Zeh) (w_3 hk ce ck) (w_r 0) ?_;(repeat' first|exact w_t|apply w_l);all_goals intros));refine Zab (ι:=Nat) (λi e m=>i≤29∧e 0=strA s∧e 25=.sl 1 (kwL.map strA)∧e 26=iv 29∧e 27=iv i∧(kwL.take i).any (λw=>w.toList == s.toList)=false) (λi=>29 - i) 0 zr ?_ ?_
      ·rintro i e m ⟨hi,e0,e25,e26,e27,hno⟩
       by_cases hlt:i < 29
       ·have hlt':i < kwL.length:=by rw [Zeh];exact hlt
        have hgk:=Zac strA hlt';have hsn:kwL.take (i+1)=kwL.take i++[kwL[i]]:=ZCe hlt';have hmem:kwL[i]∈kwL:=Zzm hlt';generalize kwL[i]=w at *
        cases hw:(w.toList == s.toList) with
        | true =>
          have:kwL.any (λw=>w.toList == s.toList)=true:=List.any_eq_true.2 ⟨w,hmem,hw⟩;rw [this];(focus (refine wklp (w_8 e0 e25 e26 e27 hgk hw @Zbq @Zeh) w_t (w_1 @ZCm) (w_r 0) ?_;(repeat' first|exact w_t|apply w_l);all_goals intros))
        | false =>
          (focus (refine wkap (w_8 e0 e25 e26 e27 hgk hw @Zbq @Zeh) w_t (w_r 0) ?_;(repeat' first|exact w_t|apply w_l);all_goals intros));exact⟨i+1,⟨zo,gW e0,gW e25,gW e26,gS,by rw [hsn,List.any_append,hno];simp [hw]⟩,zo⟩
       ·have hi2:i=29:=zo;subst hi2;rw [show kwL.take 29=kwL from by rw [←Zeh,ZAw]] at hno;rw [hno];(focus (refine wklp (w_4 e0 e25 e26 e27) w_t (w_1 @ZCw) (w_r 0) ?_;(repeat' first|exact w_t|apply w_l);all_goals intros))
      ·exact⟨Zzb _,gC,gC,by(simp (disch:=omega) only [go_sem,Zy3,Zeh]<;>repeat' first|rfl|refine⟨?_,?_⟩),gC,by simp⟩
 ·rw [Zy2 h0,Zzr];by_cases h1:s.size=0
  ·rw [Zy6 h1] at he;refine pI func119 rfl ntmps119 results119 call119 ?_;(focus (refine wklp (w_1 he) w_t w_t (w_r 0) ?_;(repeat' first|exact w_t|apply w_l);all_goals intros))
  ·rw [Zy2 h1] at he;refine pI func119 rfl ntmps119 results119 call119 ?_;(focus (refine wklp (w_1 he) w_t w_t (w_r 0) ?_;(repeat' first|exact w_t|apply w_l);all_goals intros))
theorem decode_1 (s:ByteArray) (k:Nat) (hk:k < s.size) (h:gB s k < 128):(Utf8.decode s k).2=1:=by
 have e:(s[k]'hk).toNat=gB s k:=by
  unfold gB;rw [Zzc,Zy4 (by simpa using hk)];rfl
 rw [decode_ascii s k hk zo]
theorem ld_ascii {c:Nat} (h:(letB c || digB c)=true):c < 128:=by
 unfold letB digB at h;simp only [ZAn,Zzu] at h;omega
theorem Zr2 (s:ByteArray) (hs:s.size≤9223372036854775807):Pure prog 71 [strA s] (.v (.bool (namB s))):=by
 have he:=Zi0 s;unfold namB;by_cases h0:0 < s.size∧s.size≤20
 ·rw [Zy6 h0,ZAz];have h00:(decide (s.size=0))=false:=Zy2 zo;rw [h00] at he;have hk:=Zif (gB s 0) (Zjw s 0);have hg:=Zi5 s 0
  cases hl:letB (gB s 0) with
  | false =>
    rw [hl] at hk;rw [Zzr];refine pI func71 rfl ntmps71 results71 call71 ?_;exact wklp (w_2 he hg) (w_1 hk) w_t (w_r 0) w_z
  | true =>
    rw [hl] at hk;rw [ZAz];obtain⟨n,h1,h2,h3⟩:=Zi7 s s.size (Zy5 _)
    have hall:(List.range s.size).all (λk=>letB (gB s k) || digB (gB s k))=decide (n=s.size):=by
     rw [Zzy,ZBb,Zzu];constructor
     ·intro h;rcases Zzo n s.size with h4 | h4
      ·have:=h n (List.mem_range.2 h4);rw [h3 h4] at this;cases this
      ·omega
     ·intro h x hx;exact h2 x (by rw [h];exact List.mem_range.1 hx)
    rw [hall];have ck:=rnKeys;refine Zqo (rs:=[.tmp 2]) func71 rfl ntmps71 results71 call71 zs ?_;refine Zrm (Za2 (tok:=0) _ _ _ zr ?_)
    (refine wkap w_t w_t (w_r 0) (w_s ?_);intros)
    refine Zrm (Za2 (tok:=0) _ _ _ zr ?_)
    (refine wkap (w_2 he hg) (w_1 hk) (w_r 0) (w_s ?_);intros)
    refine Zrm ?_;clear hk hg he hall;refine Zyr (s:=s) (gC) underlying9 zo zo zo zo zo zo zo zr (λpos e=>pos≤n∧e 0=strA s) ?_ ?_ (λpos _=>Zun s pos) ?_
    ·intro pv;exact⟨Zzb _,gC⟩
    ·rintro pos e pv ⟨hp,e0⟩ epv hlt
     have hkl:=Zif (gB s pos) (Zjw s pos);have hkd:=Zqi (gB s pos) (Zjw s pos);have hg:=Zi5 s pos;by_cases hpn:pos < n
     ·have hb:=h2 pos hpn;have hd:=decode_1 s pos hlt (ld_ascii hb);rw [hd];generalize (Utf8.decode s pos).1=cc
      cases hl2:letB (gB s pos) with
      | true =>
        rw [hl2] at hkl
        (refine wkap (w_2 e0 hg) (w_2 hkl hkd) (w_r 0) (w_s ?_);intros)
        exact⟨rfl,⟨zo,gW e0⟩,gW epv⟩
      | false =>
        rw [hl2,Bool.false_or] at hb;rw [hl2] at hkl;rw [hb] at hkd
        (refine wkap (w_2 e0 hg) (w_2 hkl hkd) (w_r 0) (w_s ?_);intros)
        exact⟨rfl,⟨zo,gW e0⟩,gW epv⟩
     ·have hpe:pos=n:=zo;subst hpe;have hb:=h3 hlt;rw [ZBq] at hb;rw [hb.1] at hkl;rw [hb.2] at hkd;have hne:decide (pos=s.size)=false:=Zy2 zo;rw [hne];generalize (Utf8.decode s pos).1=cc;generalize (Utf8.decode s pos).2=cw
      (refine wkap (w_2 e0 hg) (w_2 hkl hkd) (w_r 0) (w_s ?_);intros)
      refine⟨rfl,?_⟩;exact wklp w_t w_t w_t (w_r 0) w_z
    ·rintro pos e pv ⟨hp,e0⟩ epv hlt
     have hpe:n=s.size:=zo;rw [Zy6 hpe,ZAz]
     (refine wkap (w_1 e0) w_t (w_r 0) (w_s ?_);intros)
     refine⟨rfl,?_⟩;refine Zn9 (t_then ?_);refine Za2 (tok:=0) _ _ _ zr ?_
     (refine wkap (w_3 e0 @Zbq @Zeh) (w_1 ck) (w_r 0) (w_s ?_);intros)
     refine Zab (ι:=Nat) (λi e m=>i≤29∧e 0=strA s∧e 36=.sl 1 (kwL.map strA)∧e 37=iv 29∧e 38=iv i∧(kwL.take i).any (λw=>w.toList == s.toList)=false) (λi=>29 - i) 0 zr ?_ ?_
     ·rintro i e m ⟨hi,e0,e25,e26,e27,hno⟩
      by_cases hlt:i < 29
      ·have hlt':i < kwL.length:=by rw [Zeh];exact hlt
       have hgk:=Zac strA hlt';have hsn:kwL.take (i+1)=kwL.take i++[kwL[i]]:=ZCe hlt';have hmem:kwL[i]∈kwL:=Zzm hlt';generalize kwL[i]=w at *;have hsy:(s.toList == w.toList)=(w.toList == s.toList):=by rw [Zzy,ZA6,ZA6];exact eq_comm
       cases hw:(w.toList == s.toList) with
       | true =>
         have:kwL.any (λw=>w.toList == s.toList)=true:=List.any_eq_true.2 ⟨w,hmem,hw⟩;rw [this];rw [hw] at hsy;exact wklp (w_8 e0 e25 e26 e27 hgk hsy @Zbq @Zeh) w_t (w_1 @ZCm) (w_r 0) w_z
       | false =>
         rw [hw] at hsy
         (refine wkap (w_8 e0 e25 e26 e27 hgk hsy @Zbq @Zeh) w_t (w_r 0) (w_s ?_);intros)
         exact⟨i+1,⟨zo,gW e0,gW e25,gW e26,gS,by rw [hsn,List.any_append,hno];simp [hw]⟩,zo⟩
      ·have hi2:i=29:=zo;subst hi2;rw [show kwL.take 29=kwL from by rw [←Zeh,ZAw]] at hno;rw [hno];exact wklp (w_4 e0 e25 e26 e27) w_t (w_1 @ZCw) (w_r 0) w_z
     ·exact⟨Zzb _,gW e0,gC,by(simp (disch:=omega) only [go_sem,Zy3,Zeh]<;>repeat' first|rfl|refine⟨?_,?_⟩),gC,by simp⟩
 ·rw [Zy2 h0,Zzr];by_cases h1:s.size=0
  ·rw [Zy6 h1] at he;refine pI func71 rfl ntmps71 results71 call71 ?_;exact wklp (w_1 he) w_t w_t (w_r 0) w_z
  ·rw [Zy2 h1] at he;refine pI func71 rfl ntmps71 results71 call71 ?_;exact wklp (w_1 he) w_t w_t (w_r 0) w_z
theorem Zju:szOf prog 134=some 4:=by kernel_rfl
theorem Zjx:Zec prog 134=some 40:=by kernel_rfl
theorem zTok:Zaq prog 134=some (.agg #[.int .i64 0,.int .i64 0,.int .i64 0,.string ByteArray.empty]):=by kernel_rfl
theorem szEx:szOf prog 138=some 7:=by kernel_rfl
theorem byEx:Zec prog 138=some 112:=by kernel_rfl
theorem zEx:Zaq prog 138=some (.agg #[.int .i64 0,.string ByteArray.empty,.bool false,.slice none 0 0,.slice none 0 0,.slice none 0 0,.int .i64 0]):=by kernel_rfl
theorem Zlq:szOf prog 140=some 10:=by kernel_rfl
theorem Zly:Zec prog 140=some 152:=by kernel_rfl
theorem zStm:Zaq prog 140=some (.agg #[.int .i64 0,.slice none 0 0,.int .i64 0,.string ByteArray.empty,.bool false,.slice none 0 0,.slice none 0 0,.slice none 0 0,.int .i64 0,.int .i64 0]):=by kernel_rfl
theorem Zkc:szOf prog 99=some 1:=by kernel_rfl
theorem zPrg:Zaq prog 99=some (.agg #[.slice none 0 0]):=by kernel_rfl
theorem szRw:szOf prog 286=some 4:=by kernel_rfl
theorem byRw:Zec prog 286=some 56:=by kernel_rfl
theorem zRw:Zaq prog 286=some (.agg #[.int .i64 0,.int .i64 0,.string ByteArray.empty,.slice none 0 0]):=by kernel_rfl
theorem Ztp:szOf prog 196=some 3:=by kernel_rfl
theorem Zuv:Zec prog 196=some 48:=by kernel_rfl
theorem zKno:Zaq prog 196=some (.agg #[.string ByteArray.empty,.int .i64 0,.slice none 0 0]):=by kernel_rfl
theorem Zto:szOf prog 147=some 3:=by kernel_rfl
theorem zSta:Zaq prog 147=some (.agg #[.slice none 0 0,.slice none 0 0,.slice none 0 0]):=by kernel_rfl
theorem Zee:szOf prog 130=some 1:=by kernel_rfl
theorem Zge:Zaq prog 130=some (.slice none 0 0):=by kernel_rfl
theorem Zhn:szOf prog 136=some 1:=by kernel_rfl
theorem Zlp:Zaq prog 136=some (.slice none 0 0):=by kernel_rfl
theorem Zfm:szOf prog 97=some 1:=by kernel_rfl
theorem Zhm:Zaq prog 97=some (.slice none 0 0):=by kernel_rfl
theorem Zic:szOf prog 293=some 1:=by kernel_rfl
theorem Zmq:Zaq prog 293=some (.slice none 0 0):=by kernel_rfl
theorem Ziz:szOf prog 145=some 1:=by kernel_rfl
theorem Zlz:Zaq prog 145=some (.slice none 0 0):=by kernel_rfl
theorem Zkb {α:Type} {l:List α} {k:Nat} (h:k < l.length):l.take (k+1)=l.take k++[l[k]]:=by rw [ZCi,Zy4 h];rfl
abbrev nilS:AV:=.v (.slice none 0 0)
def tokA (k p e:Int) (t:ByteArray):AV:=.agg [iv k,iv p,iv e,strA t]
def exA (k:Int) (nm:ByteArray) (ar:AV) (p:Int):AV:=.agg [iv k,strA nm,.v (.bool false),nilS,nilS,ar,iv p]
def stmA (k:Int) (ns:AV) (x:List AV) (p:Int):AV:=.agg ([iv k,ns]++x++[iv p])
attribute [go_sem] zTok underlying134 underlying130 zErr
attribute [local go_sem] Zju Zjx Zee Zge Zbt
def blB (c:Nat):Bool:=decide (c=32) || decide (c=9) || decide (c=13) || decide (c=10)
theorem rxBlank (c:Nat) (hc:c < 256):Pure prog 176 [.v (.int .u8 (c:Int))] (.v (.bool (blB c))):=by
 unfold blB;refine pI func176 rfl ntmps176 results176 call176 ?_;(focus (refine wkld w_t w_t w_t w_t ?_;(repeat' first|exact w_t|apply w_l);all_goals intros))
def gapB (s:ByteArray) (i k:Nat):Bool:=decide (i≤k) && ((List.range (k - i)).all (λj=>blB (gB s (i+j)) && decide (gB s (i+j)≠35)) && (decide (k=s.size) || (decide (k < s.size) && (!blB (gB s k) && decide (gB s k≠35)))))
theorem rxSkip (s:ByteArray) (i k:Nat) (h:gapB s i k=true) (hs:s.size≤20000):Pure prog 129 [strA s,iv i] (iv k):=by
 unfold gapB at h;simp only [Zzn,ZAn,Zzu,ZBb,List.mem_range,ZAv] at h;obtain⟨hik,hb,he⟩:=h;have hks:k≤s.size:=zo;refine pI func129 rfl ntmps129 results129 call129 ?_;(focus (refine wkad w_t w_t w_t ?_;(repeat' first|exact w_t|apply w_l);all_goals intros));refine Zab (ι:=Nat) (λj e m=>i≤j∧j≤k∧e 0=strA s∧e 1=iv (j:Int)) (λj=>k - j) i zr ?_ ?_
 ·rintro j e m ⟨hj,hjk,e0,e1⟩
  have gc:=Zjw s j;have cB:=rxBlank (gB s j) gc;have gt:=Zi5 s j;by_cases hlt:j < k
  ·obtain⟨b1,b2⟩:=hb (j - i) zo;rw [show i+(j - i)=j by omega] at b1 b2;rw [b1] at cB;have hl:(j:Int) < (s.size:Int):=zo;(focus (refine wkad (w_5 e0 e1 gt hl b2) (w_1 cB) w_t ?_;(repeat' first|exact w_t|apply w_l);all_goals intros));exact⟨j+1,⟨zo,zo,gW e0,gS⟩,zo⟩
  ·have hjj:j=k:=zo;subst hjj;rcases he with he | ⟨h1,h2,h3⟩
   ·have hl:¬(j:Int) < (s.size:Int):=zo;(focus (refine wkad (w_3 e0 e1 hl) w_t w_t ?_;(repeat' first|exact w_t|apply w_l);all_goals intros));all_goals exact gL
   ·rw [h2] at cB;have hl:(j:Int) < (s.size:Int):=zo;(focus (refine wkad (w_5 e0 e1 gt hl h3) (w_1 cB) w_t ?_;(repeat' first|exact w_t|apply w_l);all_goals intros));all_goals exact gL
 ·exact⟨Zy5 _,hik,gC,gC⟩
theorem rxSign1 (s:ByteArray) (i:Nat) (hi:i < s.size) (hs:s.size≤20000) (hc:gB s i=40∨gB s i=41∨gB s i=44∨gB s i=59):Pure prog 130 [strA s,iv i] (.tup [tokA 3 i ((i+1:Nat):Int) (s.extract i (i+1)),iv 0]):=by
 have gt:=Zi5 s i;have gc:=Zjw s i;have hw:((i:Int)+1)=((i+1:Nat):Int):=zo;unfold tokA;rcases hc with h | h | h | h
 all_goals
  rw [h] at gt;refine pI func130 rfl ntmps130 results130 call130 ?_;(focus (refine wkad (w_2 gt hw) w_t w_t ?_;(repeat' first|exact w_t|apply w_l);all_goals intros));all_goals exact gM (w_1 hw)
theorem rxSign2 (s:ByteArray) (i:Nat) (hi:i+2≤s.size) (hs:s.size≤20000) (hc:gB s i=58) (hd:gB s (i+1)=61):Pure prog 130 [strA s,iv i] (.tup [tokA 3 i ((i+2:Nat):Int) (s.extract i (i+2)),iv 0]):=by
 have gt:=Zi5 s i;have gu:=Zi5 s (i+1);have hw:((i:Int)+1)=((i+1:Nat):Int):=zo;have hv:((i:Int)+2)=((i+2:Nat):Int):=zo;unfold tokA;rw [hc] at gt;rw [hd] at gu;refine pI func130 rfl ntmps130 results130 call130 ?_;(focus (refine wkad (w_4 gt hw hv gu) w_t w_t ?_;(repeat' first|exact w_t|apply w_l);all_goals intros));all_goals exact gM (w_2 hw hv)
theorem rxSignN (s:ByteArray) (i:Nat) (hi:i < s.size) (hs:s.size≤20000) (hc:letB (gB s i)=true):Pure prog 130 [strA s,iv i] (.tup [tokA 3 i ((i+1:Nat):Int) ByteArray.empty,iv 5]):=by
 have gt:=Zi5 s i;have hw:((i:Int)+1)=((i+1:Nat):Int):=zo;unfold letB at hc;simp only [ZAn,Zzu] at hc;unfold tokA;generalize gB s i=c at *;refine pI func130 rfl ntmps130 results130 call130 ?_;(focus (refine wkad (w_2 gt hw) w_t w_t ?_;(repeat' first|exact w_t|apply w_l);all_goals intros));all_goals exact gM (w_1 hw)
theorem let_dig {c:Nat} (h:letB c=true):digB c=false:=by
 unfold letB at h;unfold digB;simp only [ZAn,Zzu] at h;exact Zy2 zo
theorem rxWord (s:ByteArray) (i n:Nat) (h1:1≤n) (h20:n≤20) (hl:∀j,j < n→letB (gB s (i+j))=true) (hn:i+n≤s.size) (he:i+n=s.size∨(letB (gB s (i+n))=false∧digB (gB s (i+n))=false)) (hs:s.size≤20000):Pure prog 131 [strA s,iv i] (.tup [tokA 1 i ((i+n:Nat):Int) (s.extract i (i+n)),iv 0]):=by
 have cL0:=Zif (gB s i) (Zjw s i);have h0:=hl 0 zo;rw [Zz3] at h0;rw [h0] at cL0;have gt0:=Zi5 s i;have hwn:IntKind.i64.wrap (((i+n:Nat):Int) - (i:Int))=(n:Int):=by rw [Zdl zo zo];omega
 have hsn:((i+n:Nat):Int).toNat=i+n:=ZAm _;unfold tokA;generalize hN:i+n=N at *;refine pI func131 rfl ntmps131 results131 call131 ?_;(focus (refine wkad (w_1 gt0) (w_1 cL0) w_t ?_;(repeat' first|exact w_t|apply w_l);all_goals intros));rename_i g4 g6;refine Zab (ι:=Nat) (λj e m=>i≤j∧j≤N∧e 0=strA s∧e 1=iv i∧(e 6=.pbox 6 g6 0∧m 6=some (.box g6 134 [iv 1,iv i,iv j,strA ByteArray.empty] false))∧e 4=.pbox 4 g4 0∧m 4=some (.box g4 134 [iv 0,iv 0,iv 0,strA ByteArray.empty] false)) (λj=>N - j) i zr ?_ ?_
 ·rintro j e m ⟨hij,hj,e0,e1,⟨e6,m6⟩,e4,m4⟩
  have gt:=Zi5 s j;have cL:=Zif (gB s j) (Zjw s j);have cD:=Zqi (gB s j) (Zjw s j);by_cases hlt:j < N
  ·have hb:=hl (j - i) zo;rw [show i+(j - i)=j by omega] at hb;rw [hb] at cL;rw [let_dig hb] at cD;have hl2:(j:Int) < (s.size:Int):=zo;(focus (refine wkad (w_8 e0 e1 e6 m6 e4 m4 gt hl2) (w_2 cD cL) w_t ?_;(repeat' first|exact w_t|apply w_l);all_goals intros));exact⟨j+1,⟨zo,zo,gW e0,gW e1,⟨gW e6,gS⟩,gW e4,gW m4⟩,zo⟩
  ·have hjj:j=N:=zo;subst hjj;rcases he with he | ⟨k1,k2⟩
   ·have hl2:¬(j:Int) < (s.size:Int):=zo;(focus (refine wkad (w_8 e0 e1 e6 m6 e4 m4 hl2 hwn) w_t w_t ?_;(repeat' first|exact w_t|apply w_l);all_goals intros));all_goals exact gM (w_1 e4)
   ·rw [k1] at cL;rw [k2] at cD;by_cases hsz:j < s.size
    ·have hl2:(j:Int) < (s.size:Int):=zo;(focus (refine wkad (w_9 e0 e1 e6 m6 e4 m4 gt hl2 hwn) (w_2 cD cL) w_t ?_;(repeat' first|exact w_t|apply w_l);all_goals intros));all_goals exact gM (w_1 e4)
    ·have hl2:¬(j:Int) < (s.size:Int):=zo;(focus (refine wkad (w_8 e0 e1 e6 m6 e4 m4 hl2 hwn) w_t w_t ?_;(repeat' first|exact w_t|apply w_l);all_goals intros));all_goals exact gM (w_1 e4)
 ·exact⟨Zy5 _,zo,gC,gC,⟨gC,gC⟩,gC,gC⟩
structure Tk where
 k:Nat
 p:Nat
 e:Nat
def tkA (s:ByteArray) (t:Tk):AV:=tokA t.k t.p t.e (s.extract t.p t.e)
def signB (c:Nat):Bool:=decide (c=40) || decide (c=41) || decide (c=44) || decide (c=59)
def tkB (s:ByteArray) (t:Tk):Bool:=decide (t.e≤s.size) && ((decide (t.k=3) && decide (t.e=t.p+1) && signB (gB s t.p)) || (decide (t.k=3) && decide (t.e=t.p+2) && decide (gB s t.p=58) && decide (gB s (t.p+1)=61)) ||
 (decide (t.k=1) && decide (t.p < t.e) && decide (t.e - t.p≤20) && (List.range (t.e - t.p)).all (λj=>letB (gB s (t.p+j))) && (decide (t.e=s.size) || (!letB (gB s t.e) && !digB (gB s t.e)))))
theorem tkB_ok {s:ByteArray} {t:Tk} (h:tkB s t=true) (hs:s.size≤20000):t.p < s.size∧t.e≤s.size ∧
 ((letB (gB s t.p)=false∧digB (gB s t.p)=false∧Pure prog 130 [strA s,iv t.p] (.tup [tkA s t,iv 0])) ∨
  (letB (gB s t.p)=true∧Pure prog 130 [strA s,iv t.p] (.tup [tokA 3 t.p ((t.p+1:Nat):Int) ByteArray.empty,iv 5])∧Pure prog 131 [strA s,iv t.p] (.tup [tkA s t,iv 0]))):=by
 obtain⟨k,p,e⟩:=t;unfold tkB at h;simp only [Zzn,ZAn,Zzu,ZBb,List.mem_range,ZAv] at h;unfold tkA;simp only;obtain⟨he,h⟩:=h;rcases h with(⟨⟨rfl,rfl⟩,h3⟩ | ⟨⟨⟨rfl,rfl⟩,h3⟩,h4⟩) | ⟨⟨⟨⟨rfl,h2⟩,h3⟩,h4⟩,h5⟩
 ·unfold signB at h3;simp only [ZAn,Zzu] at h3;refine⟨zo,he,.inl ⟨?_,?_,rxSign1 s p zo hs zo⟩⟩
  ·unfold letB;rw [Zy2 zo,Zy2 zo];rfl
  ·unfold digB;exact Zy2 zo
 ·refine⟨zo,he,.inl ⟨?_,?_,rxSign2 s p he hs h3 h4⟩⟩
  ·unfold letB;rw [Zy2 zo,Zy2 zo];rfl
  ·unfold digB;exact Zy2 zo
 ·have h0:=h4 0 zo;rw [Zz3] at h0;have hw:=rxWord s p (e - p) zo h3 h4 zo (by rw [show p+(e - p)=e by omega];exact h5) hs;rw [show p+(e - p)=e by omega] at hw;exact⟨zo,he,.inr ⟨h0,rxSignN s p zo hs h0,hw⟩⟩
def sttN (s:ByteArray) (TK:List Tk) (j:Nat):Nat:=match TK[j]? with | some t=>t.p | none=>s.size
def lexB (s:ByteArray) (TK:List Tk):Bool:=TK.all (tkB s) && (gapB s 0 (sttN s TK 0) && (List.range TK.length).all (λj=>match TK[j]? with | some t=>gapB s t.e (sttN s TK (j+1)) | none=>true))
def endA (s:ByteArray):AV:=tokA 0 s.size s.size ByteArray.empty
theorem rxAll (s:ByteArray) (TK:List Tk) (h:lexB s TK=true) (hs:s.size≤20000) (hl:TK.length≤20000):Pure prog 86 [strA s] (.tup [.sl 4 (TK.map (tkA s)++[endA s]),iv 0,iv 0]):=by
 unfold lexB at h;simp only [Zzn,ZBb,List.mem_range] at h;obtain⟨hT,hG0,hG⟩:=h;have c0:=rxSkip s 0 _ hG0 hs;have hst:∀j (h:j < TK.length),sttN s TK j=TK[j].p:=λj h=>by unfold sttN;rw [Zy4 h]
 have hse:sttN s TK TK.length=s.size:=by unfold sttN;rw [ZAf (Zy5 _)]
 have hGj:∀j (h:j < TK.length),gapB s TK[j].e (sttN s TK (j+1))=true:=λj h=>by have:=hG j h;rw [Zy4 h] at this;exact this
 have hTj:∀j (h:j < TK.length),tkB s TK[j]=true:=λj h=>hT _ (Zzm h);have htk:∀j (h:j < TK.length),(TK.take (j+1)).map (tkA s)=(TK.take j).map (tkA s)++[tkA s TK[j]]:=λj h=>by rw [Zkb h,Zzz];rfl
 clear hT hG hG0;unfold endA tokA;refine pI func86 rfl ntmps86 results86 call86 ?_;(focus (refine wkad w_t (w_1 c0) w_t ?_;(repeat' first|exact w_t|apply w_l);all_goals intros));refine Zc7 (Frz.nilOwn (d:=2) 302 4 134 (gC)) ?_;refine Zab (ι:=Nat) (λj e m=>j≤TK.length∧e 0=strA s∧e 5=iv (sttN s TK j:Nat)∧∃sv,e 2=.own 302 sv∧m 302=some (.row sv 134 4 ((TK.take j).map (tkA s)) 0)) (λj=>TK.length - j) 0 zr ?_ ?_
 ·rintro j e m ⟨hj,e0,e5,sv,e2,m2⟩
  by_cases hlt:j < TK.length
  ·obtain⟨p1,p2,hc⟩:=tkB_ok (hTj j hlt) hs;have cG:=rxSkip s _ _ (hGj j hlt) hs;have hk:=htk j hlt;have hl3:((TK.take j).map (tkA s)).length≤20000:=by rw [Zy3,Zzh];omega
   rw [hst j hlt] at e5;clear hTj hGj htk hst c0;generalize hQ:sttN s TK (j+1)=q at *;generalize (TK.take j).map (tkA s)=Z at *;generalize TK[j]=t at *;obtain⟨k,p,en⟩:=t;unfold tkA tokA at *;simp only at p1 p2 hc hk cG e5;have gt:=Zi5 s p;have cL:=Zif (gB s p) (Zjw s p);have cD:=Zqi (gB s p) (Zjw s p);have hl2:(p:Int) < (s.size:Int):=zo;rcases hc with⟨k1,k2,cS⟩ | ⟨k1,cS,cW⟩
   ·rw [k1] at cL;rw [k2] at cD;(focus (refine wkad (w_7 e0 e2 m2 e5 gt hl2 hl3) (w_4 cS cL cD cG) w_t ?_;(repeat' first|exact w_t|apply w_l);all_goals intros));exact⟨j+1,⟨zo,gW e0,by rw [hQ];exact gC,_,gC,by rw [hk];exact gC⟩,zo⟩
   ·rw [k1] at cL;(focus (refine wkad (w_7 e0 e2 m2 e5 gt hl2 hl3) (w_4 cS cL cW cG) w_t ?_;(repeat' first|exact w_t|apply w_l);all_goals intros));exact⟨j+1,⟨zo,gW e0,by rw [hQ];exact gC,_,gC,by rw [hk];exact gC⟩,zo⟩
  ·have hjj:j=TK.length:=zo;subst hjj;rw [hse] at e5;rw [ZAw] at m2;have hl3:(TK.map (tkA s)).length≤20000:=by rw [Zy3];omega
   have hl2:¬(s.size:Int) < (s.size:Int):=zo;clear hTj hGj htk hst c0;generalize TK.map (tkA s)=Z at *;(focus (refine wkad (w_6 e0 e2 m2 e5 hl2 hl3) w_t w_t ?_;(repeat' first|exact w_t|apply w_l);all_goals intros));all_goals exact gM (w_1 m2)
 ·exact⟨Zzb _,gC,gC,_,gC,gC⟩
attribute [go_sem] szRw byRw zRw underlying286 underlying293 zSlI
attribute [local go_sem] Zic Zmq Zbx
structure Rw where
 k:Int
 s:Int
 w:ByteArray
 p:List Int
abbrev Rw.av (r:Rw):AV:=.agg [iv r.k,iv r.s,strA r.w,ivs r.p]
def rwL:List Rw:=[⟨10,1,⟨#[109,105,100,112,111,105,110,116]⟩,[1,1]⟩,
 ⟨11,1,⟨#[100,105,118,105,100,101]⟩,[1,1]⟩,
 ⟨12,1,⟨#[114,101,102,108,101,99,116]⟩,[1,1]⟩,
 ⟨13,1,⟨#[109,105,114,114,111,114]⟩,[1,2]⟩,
 ⟨14,1,⟨#[102,111,111,116]⟩,[1,2]⟩,
 ⟨15,1,⟨#[109,101,101,116]⟩,[2,2]⟩,
 ⟨16,1,⟨#[111,110]⟩,[0]⟩,
 ⟨17,1,⟨#[111,116,104,101,114]⟩,[1,1,1]⟩,
 ⟨18,1,⟨#[99,111,109,109,111,110]⟩,[1,1,1]⟩,
 ⟨19,1,⟨#[99,101,110,116,101,114]⟩,[1,1,1]⟩,
 ⟨20,1,⟨#[115,104,105,102,116]⟩,[1,1,1]⟩,
 ⟨21,1,⟨#[116,117,114,110]⟩,[1,1]⟩,
 ⟨22,1,⟨#[99,117,116]⟩,[2,3]⟩,
 ⟨23,1,⟨#[99,114,111,115,115]⟩,[3,3]⟩,
 ⟨24,1,⟨#[97,112,101,120]⟩,[1,1]⟩,
 ⟨40,2,⟨#[108,105,110,101]⟩,[1,1]⟩,
 ⟨41,2,⟨#[112,97,114,97,108,108,101,108]⟩,[1,2]⟩,
 ⟨42,2,⟨#[112,101,114,112,101,110,100,105,99,117,108,97,114]⟩,[1,2]⟩,
 ⟨43,2,⟨#[98,105,115,101,99,116,111,114]⟩,[1,1]⟩,
 ⟨50,3,⟨#[99,105,114,99,108,101]⟩,[1,1]⟩,
 ⟨51,3,⟨#[99,105,114,99,117,109]⟩,[1,1,1]⟩,
 ⟨60,4,⟨#[99,111,108,108,105,110,101,97,114]⟩,[1,1,1]⟩,
 ⟨61,4,⟨#[112,97,114,97,108,108,101,108]⟩,[2,2]⟩,
 ⟨62,4,⟨#[112,101,114,112,101,110,100,105,99,117,108,97,114]⟩,[2,2]⟩,
 ⟨63,4,⟨#[99,111,110,103,114,117,101,110,116]⟩,[1,1,1,1]⟩,
 ⟨64,4,⟨#[109,105,100,112,111,105,110,116]⟩,[1,1,1]⟩,
 ⟨65,4,⟨#[99,111,110,99,121,99,108,105,99]⟩,[1,1,1,1]⟩,
 ⟨66,4,⟨#[97,110,103,108,101]⟩,[1,1,1,1,1,1]⟩,
 ⟨67,4,⟨#[115,97,109,101]⟩,[1,1]⟩,
 ⟨68,4,⟨#[114,97,116,105,111]⟩,[1,1,1,1]⟩]
set_option maxRecDepth 100000 in
theorem Zvp:Pure prog 244 [] (.sl 4 (rwL.map Rw.av)):=by
 unfold rwL;simp only [ZAj,ZAg,Rw.av];refine pI func244 rfl ntmps244 results244 call244 ?_;(focus (refine wkad w_t w_t w_t ?_;(repeat' first|exact w_t|apply w_l);all_goals intros));simp only [List.append_eq,ZB1,ZCk];(focus (refine wkad w_t w_t w_t ?_;(repeat' first|exact w_t|apply w_l);all_goals intros));all_goals exact gL
def wsN (w:ByteArray) (s:Int):List Rw→Int
 | []=>0
 | x :: r=>if x.w.toList == w.toList && x.s == s then x.k else wsN w s r
theorem wsN_drop (w:ByteArray) (s:Int) (l:List Rw) (i:Nat) (h:i < l.length):wsN w s (l.drop i)=if l[i].w.toList == w.toList && l[i].s == s then l[i].k else wsN w s (l.drop (i+1)):=by
 rw [ZBy h];rfl
theorem Ztx (w:ByteArray) (s:Int):Pure prog 230 [strA w,iv s] (iv (wsN w s rwL)):=by
 have cR:=Zvp;have hl:(rwL.map Rw.av).length=rwL.length:=Zy3 ..;have h30:rwL.length=30:=rfl;have kR:∀i (h:i < rwL.length),(rwL.map Rw.av).getD i .u=rwL[i].av:=λi h=>Zac Rw.av h;have hd:∀i (h:i < rwL.length),wsN w s (rwL.drop i)=if rwL[i].w.toList == w.toList && rwL[i].s == s then rwL[i].k else wsN w s (rwL.drop (i+1)):=λi h=>wsN_drop w s rwL i h;have he:wsN w s (rwL.drop rwL.length)=0:=by rw [ZCz];rfl
 have h0:wsN w s rwL=wsN w s (rwL.drop 0):=rfl;rw [h0];generalize hR:rwL=R at *;clear hR;generalize R.map Rw.av=M at *;refine pI func230 rfl ntmps230 results230 call230 ?_;(focus (refine wkad (w_1 hl) (w_1 cR) w_t ?_;(repeat' first|exact w_t|apply w_l);all_goals intros));refine Zab (ι:=Nat) (λi e m=>i≤R.length∧wsN w s (R.drop 0)=wsN w s (R.drop i)∧e 0=strA w∧e 1=iv s∧e 7=.sl 4 M∧e 8=iv R.length∧e 9=iv i) (λi=>R.length - i) 0 zr ?_ ?_
 ·rintro i e m ⟨hi,hq,e0,e1,e7,e8,e9⟩
  by_cases hlt:i < R.length
  ·have gi:=kR i hlt;have hdi:=hd i hlt;generalize R[i]=x at *;obtain⟨k,so,wo,ps⟩:=x;simp only at hdi;have gi:M.getD i .u=.agg [iv k,iv so,strA wo,ivs ps]:=gi;clear kR hd cR
   cases hb:(wo.toList == w.toList) with
   | true =>
     rw [hb,ZAz] at hdi
     cases hc:(so == s) with
     | true =>
       rw [hc] at hdi;rw [hq,hdi];(focus (refine wkad (w_9 e0 e1 e7 e8 e9 gi hl hb hc) w_t w_t ?_;(repeat' first|exact w_t|apply w_l);all_goals intros));all_goals exact gL
     | false =>
       rw [hc] at hdi;(focus (refine wkad (w_9 e0 e1 e7 e8 e9 gi hl hb hc) w_t w_t ?_;(repeat' first|exact w_t|apply w_l);all_goals intros));exact⟨i+1,⟨zo,by rw [hq,hdi];rfl,gW e0,gW e1,gW e7,gW e8,gS⟩,zo⟩
   | false =>
     rw [hb,Zzr] at hdi;(focus (refine wkad (w_8 e0 e1 e7 e8 e9 gi hl hb) w_t w_t ?_;(repeat' first|exact w_t|apply w_l);all_goals intros));exact⟨i+1,⟨zo,by rw [hq,hdi];rfl,gW e0,gW e1,gW e7,gW e8,gS⟩,zo⟩
  ·have hii:i=R.length:=zo;subst hii;rw [hq,he];(focus (refine wkad (w_5 e0 e1 e7 e8 e9) w_t w_t ?_;(repeat' first|exact w_t|apply w_l);all_goals intros));all_goals exact gL
 ·exact⟨Zzb _,rfl,gC,gC,gC,gW hl,gC⟩
theorem Zvt (k:Int) (j:Nat) (hj:j < rwL.length) (hk:rwL[j].k=k) (hf:∀i (h:i < rwL.length),i < j→rwL[i].k≠k):Pure prog 231 [iv k] rwL[j].av:=by
 have cR:=Zvp;have hl:(rwL.map Rw.av).length=rwL.length:=Zy3 ..;have h30:rwL.length=30:=rfl;have kR:∀i (h:i < rwL.length),(rwL.map Rw.av).getD i .u=rwL[i].av:=λi h=>Zac Rw.av h;generalize hR:rwL=R at *;clear hR;generalize R.map Rw.av=M at *;have gj:=kR j hj;generalize hx:R[j]=x at *;obtain⟨k1,so,wo,ps⟩:=x;simp only at hk;subst hk;refine pI func231 rfl ntmps231 results231 call231 ?_;(focus (refine wkad (w_1 hl) (w_1 cR) w_t ?_;(repeat' first|exact w_t|apply w_l);all_goals intros));rename_i g2;refine Zab (ι:=Nat) (λi e m=>i≤j∧e 0=iv k1∧e 5=.sl 4 M∧e 6=iv R.length∧e 7=iv i∧e 2=.pbox 2 g2 0∧∃cs,cs.length=4∧m 2=some (.box g2 286 cs false)) (λi=>j - i) 0 zr ?_ ?_
 ·rintro i e m ⟨hi,e0,e5,e6,e7,e2,cs,hcs,m2⟩
  have hlt:i < R.length:=zo;have gi:=kR i hlt;have hfi:=hf i hlt;by_cases hij:i < j
  ·have hne:=hfi hij;generalize R[i]=y at *;obtain⟨k2,so2,wo2,ps2⟩:=y;simp only at hne;have gi:M.getD i .u=.agg [iv k2,iv so2,strA wo2,ivs ps2]:=gi;clear kR hf hfi cR gj;have hl2:(i:Int) < (R.length:Int):=zo;(focus (refine wkad (w_8 e0 e5 e6 e7 gi hl hl2 hne) w_t w_t ?_;(repeat' first|exact w_t|apply w_l);all_goals intros));exact⟨i+1,⟨zo,gW e0,gW e5,gW e6,gS,gW e2,cs,hcs,gW m2⟩,zo⟩
  ·have hii:i=j:=zo;subst hii;have gi:M.getD i .u=.agg [iv k1,iv so,strA wo,ivs ps]:=gj;have hl2:(i:Int) < (R.length:Int):=zo;clear kR hf hfi cR gj
   obtain⟨c0,c1,c2,c3,rfl⟩:∃a b c d,cs=[a,b,c,d]:=by
    match cs,hcs with
    | [a,b,c,d],_=>exact⟨a,b,c,d,rfl⟩
   (focus (refine wkad (w_9 e0 e5 e6 e7 e2 m2 gi hl hl2) w_t w_t ?_;(repeat' first|exact w_t|apply w_l);all_goals intros));all_goals exact gM (w_1 e2)
 ·exact⟨Zzb _,gC,gC,gW hl,gC,gC,_,rfl,gC⟩
theorem Zid (k:Int) (j:Nat) (hj:j < rwL.length) (hk:rwL[j].k=k) (hf:∀i (h:i < rwL.length),i < j→rwL[i].k≠k):Pure prog 213 [iv k] (ivs rwL[j].p):=by
 have c:=Zvt k j hj hk hf;generalize rwL[j]=x at *;obtain⟨k1,so,wo,ps⟩:=x;have c:Pure prog 231 [iv k] (.agg [iv k1,iv so,strA wo,ivs ps]):=c;refine pI func213 rfl ntmps213 results213 call213 ?_;(focus (refine wkld w_t (w_1 c) w_t w_t ?_;(repeat' first|exact w_t|apply w_l);all_goals intros))
theorem rxSort (k:Int) (j:Nat) (hj:j < rwL.length) (hk:rwL[j].k=k) (hf:∀i (h:i < rwL.length),i < j→rwL[i].k≠k):Pure prog 221 [iv k] (iv rwL[j].s):=by
 have c:=Zvt k j hj hk hf;generalize rwL[j]=x at *;obtain⟨k1,so,wo,ps⟩:=x;have c:Pure prog 231 [iv k] (.agg [iv k1,iv so,strA wo,ivs ps]):=c;refine pI func221 rfl ntmps221 results221 call221 ?_;(focus (refine wkld w_t (w_1 c) w_t w_t ?_;(repeat' first|exact w_t|apply w_l);all_goals intros))
theorem Zvs (k:Int) (h:k≠11∧k≠68):Pure prog 215 [iv k] (.v (.bool false)):=by
 obtain⟨h1,h2⟩:=h;refine pI func215 rfl ntmps215 results215 call215 ?_;(focus (refine wkld (w_2 h1 h2) w_t w_t w_t ?_;(repeat' first|exact w_t|apply w_l);all_goals intros))
theorem Zdy (k:Int) (s:Int) (h:(k=2∧s=1)∨(k=5∧s=4)):Pure prog 140 [iv k] (iv s):=by
 rcases h with⟨rfl,rfl⟩ | ⟨rfl,rfl⟩
 all_goals
  refine pI func140 rfl ntmps140 results140 call140 ?_;(focus (refine wkad w_t w_t w_t ?_;(repeat' first|exact w_t|apply w_l);all_goals intros));all_goals exact gL
attribute [go_sem] szEx byEx zEx underlying138 underlying136 zStm underlying140 underlying97 zPrg underlying99
attribute [local go_sem] Zhn Zlp Zlq Zly Zfm Zhm Zkc Zey Zgi Za6
structure Exq where
 k:Int
 nm:ByteArray
 l:List AV
 p:Int
abbrev Exq.av (x:Exq):AV:=.agg [iv x.k,strA x.nm,.v (.bool false),nilS,nilS,.sl 7 x.l,iv x.p]
structure Stq where
 k:Int
 ns:List ByteArray
 x:Exq
 p:Int
abbrev Stq.av (x:Stq):AV:=.agg [iv x.k,.sl 1 (x.ns.map strA),iv x.x.k,strA x.x.nm,.v (.bool false),nilS,nilS,.sl 7 x.x.l,iv x.x.p,iv x.p]
theorem rxHas (l:List ByteArray) (w:ByteArray) (hl:l.length≤1000):Pure prog 182 [.sl 1 (l.map strA),strA w] (.v (.bool (l.any λx=>x.toList == w.toList))):=by
 have hll:(l.map strA).length=l.length:=Zy3 ..;have kL:∀i (h:i < l.length),(l.map strA).getD i .u=strA l[i]:=λi h=>Zac strA h;have hd:∀i (h:i < l.length),(l.drop i).any (λx=>x.toList == w.toList)=((l[i].toList == w.toList) || (l.drop (i+1)).any λx=>x.toList == w.toList):=λi h=>by rw [ZBy h];rfl
 have h0:(l.any λx=>x.toList == w.toList)=(l.drop 0).any λx=>x.toList == w.toList:=rfl;have he:(l.drop l.length).any (λx=>x.toList == w.toList)=false:=by rw [ZCz];rfl
 rw [h0];generalize l.map strA=M at *;refine pI func182 rfl ntmps182 results182 call182 ?_;(focus (refine wkad (w_1 hll) w_t w_t ?_;(repeat' first|exact w_t|apply w_l);all_goals intros));refine Zab (ι:=Nat) (λi e m=>i≤l.length∧(l.drop 0).any (λx=>x.toList == w.toList)=(l.drop i).any (λx=>x.toList == w.toList)∧e 1=strA w∧e 7=.sl 1 M∧e 8=iv l.length∧e 9=iv i) (λi=>l.length - i) 0 zr ?_ ?_
 ·rintro i e m ⟨hi,hq,e1,e7,e8,e9⟩
  by_cases hlt:i < l.length
  ·have gi:=kL i hlt;have hdi:=hd i hlt;generalize l[i]=x at *
   cases hb:(x.toList == w.toList) with
   | true =>
     rw [hb,Bool.true_or] at hdi;rw [hq,hdi];(focus (refine wkad (w_7 e1 e7 e8 e9 gi hll hb) w_t w_t ?_;(repeat' first|exact w_t|apply w_l);all_goals intros));all_goals exact gL
   | false =>
     rw [hb,Bool.false_or] at hdi;(focus (refine wkad (w_7 e1 e7 e8 e9 gi hll hb) w_t w_t ?_;(repeat' first|exact w_t|apply w_l);all_goals intros));exact⟨i+1,⟨zo,by rw [hq,hdi],gW e1,gW e7,gW e8,gS⟩,zo⟩
  ·have hii:i=l.length:=zo;subst hii;rw [hq,he];(focus (refine wkad (w_4 e1 e7 e8 e9) w_t w_t ?_;(repeat' first|exact w_t|apply w_l);all_goals intros));all_goals exact gL
 ·exact⟨Zzb _,rfl,gC,gC,gW hll,gC⟩
def isNm (k:Int) (t:ByteArray):Bool:=decide (k=1) && !(kwL.any λx=>x.toList == t.toList)
theorem Zr0 (k p e:Int) (t:ByteArray):Pure prog 177 [tokA k p e t] (.v (.bool (isNm k t))):=by
 have c1:=rnKeys;have c2:=rxHas kwL t zd;unfold isNm tokA;generalize (kwL.any λx=>x.toList == t.toList)=b at *;generalize kwL.map strA=K at *;by_cases h:k=1
 ·rw [Zy6 h,ZAz];refine pI func177 rfl ntmps177 results177 call177 ?_;(focus (refine wkad (w_1 h) (w_2 c1 c2) (w_1 (w_d 1 [(4,.sl 1 K),(7,.v (.bool b))] [] [])) ?_;(repeat' first|exact w_t|apply w_l);all_goals intros));all_goals exact gL
 ·rw [Zy2 h,Zzr];refine pI func177 rfl ntmps177 results177 call177 ?_;(focus (refine wkad (w_1 h) (w_2 c1 c2) (w_1 (w_d 1 [(4,.sl 1 K),(7,.v (.bool b))] [] [])) ?_;(repeat' first|exact w_t|apply w_l);all_goals intros));all_goals exact gL
theorem Zcl (T:List AV) (i:Nat) (k p e:Int) (t w:ByteArray) (hi:i < T.length) (hl:T.length≤20000) (hT:T.getD i .u=tokA k p e t) (hk:k≠0) (hw:(t.toList == w.toList)=true):Pure prog 134 [.sl 4 T,iv i,strA w] (.tup [iv ((i+1:Nat):Int),iv 0]):=by
 unfold tokA at hT;have hc:((i:Int)+1)=((i+1:Nat):Int):=zo;refine pI func134 rfl ntmps134 results134 call134 ?_;(focus (refine wkad (w_4 hT hk hw hc) w_t w_t ?_;(repeat' first|exact w_t|apply w_l);all_goals intros));all_goals exact gM (w_1 hc)
theorem Zrz (p e:Int) (t:ByteArray) (s:Int) (hs:s≠0):Pure prog 212 [tokA 1 p e t,iv s] (iv (wsN t s rwL)):=by
 have c:=Ztx t s;unfold tokA;generalize wsN t s rwL=r at *;refine pI func212 rfl ntmps212 results212 call212 ?_;(focus (refine wkad (w_1 hs) (w_1 c) w_t ?_;(repeat' first|exact w_t|apply w_l);all_goals intros));all_goals exact gL
theorem Zkl (T:List AV) (i:Nat) (p e s:Int) (d:Nat) (t:ByteArray) (hi:i < T.length) (hl:T.length≤20000) (hd:d≤20) (hT:T.getD i .u=tokA 1 p e t) (hn:isNm 1 t=true):Pure prog 214 [.sl 4 T,iv i,iv s,iv d] (.tup [(Exq.mk 1 t [] p).av,iv ((i+1:Nat):Int),iv 0]):=by
 have c:=Zr0 1 p e t;rw [hn] at c;unfold tokA at *;have hc:((i:Int)+1)=((i+1:Nat):Int):=zo;refine Zcm (r:=.tup [.agg [iv 1,strA t,.v (.bool false),nilS,nilS,nilS,iv p],iv ((i+1:Nat):Int),iv 0]) ?_ (Vk.tupL (.cons (Vk.aggL (.cons (.refl _) (.cons (.refl _) (.cons (.refl _) (.cons (.refl _) (.cons (.refl _) (.cons (.nil 7) (.cons (.refl _) .nil)))))))) (.cons (.refl _) (.cons (.refl _) .nil))));refine pI func214 rfl ntmps214 results214 call214 ?_;(focus (refine wkad (w_2 hT hc) (w_1 c) (w_1 (w_d 6 [] [] [8])) ?_;(repeat' first|exact w_t|apply w_l);all_goals intros));all_goals exact gM (w_1 hc)
theorem rxArgC (T:List AV) (i:Nat) (p e s:Int) (d:Nat) (t:ByteArray) (x:Exq) (z:Int) (hi:i < T.length) (hl:T.length≤20000) (hd:d≤20) (hT:T.getD i .u=tokA 1 p e t) (hn:isNm 1 t=false) (hs:s≠0) (hk:wsN t s rwL≠0)
 (cC:Pure prog 178 [.sl 4 T,iv i,iv s,iv d] (.tup [x.av,iv z,iv 0])):Pure prog 214 [.sl 4 T,iv i,iv s,iv d] (.tup [x.av,iv z,iv 0]):=by
 have c:=Zr0 1 p e t;rw [hn] at c;have cK:=Zrz p e t s hs;unfold tokA at *;generalize wsN t s rwL=r at *;obtain⟨xk,xn,xl,xp⟩:=x;refine pI func214 rfl ntmps214 results214 call214 ?_;(focus (refine wkad (w_2 hT hk) (w_3 c cK cC) w_t ?_;(repeat' first|exact w_t|apply w_l);all_goals intros));all_goals exact gL
def stQ (i:Nat) (A:List (Nat × Exq)):Nat→Nat
 | 0=>i+1
 | q+1=>match A[q]? with | some a=>a.1 | none=>0
def exQ (A:List (Nat × Exq)) (q:Nat):Exq:=match A[q]? with | some a=>a.2 | none=>⟨0,ByteArray.empty,[],0⟩
theorem exQ_take {A:List (Nat × Exq)} {q:Nat} (h:q < A.length):(A.take (q+1)).map (λa=>a.2.av)=(A.take q).map (λa=>a.2.av)++[(exQ A q).av]:=by
 unfold exQ;rw [Zkb h,Zzz,Zy4 h];rfl
set_option maxRecDepth 100000 in
theorem Zvu (T:List AV) (i:Nat) (p e s:Int) (d:Nat) (t:ByteArray) (k:Int) (j:Nat) (A:List (Nat × Exq)) (ps:List Int) (hi:i < T.length) (hl:T.length≤20000) (hd:d≤20) (hT:T.getD i .u=tokA 1 p e t) (hs:s≠0) (hk:wsN t s rwL=k) (h0:k≠0) (hr:k≠11∧k≠68)
 (cP:Pure prog 213 [iv k] (ivs ps)) (hA:A.length=ps.length) (hA2:ps.length≤10) (hb:∀q,q≤ps.length→stQ i A q≤20000)
 (cE:∀q,q < ps.length→Pure prog 134 [.sl 4 T,iv (stQ i A q:Nat),strA (if q=0 then ⟨#[40]⟩ else ⟨#[44]⟩)] (.tup [iv ((stQ i A q+1:Nat):Int),iv 0]))
 (cA:∀q,q < ps.length→Pure prog 214 [.sl 4 T,iv ((stQ i A q+1:Nat):Int),iv (ps.getD q 0),iv ((d+1:Nat):Int)] (.tup [(exQ A q).av,iv (stQ i A (q+1):Nat),iv 0]))
 (cZ:Pure prog 134 [.sl 4 T,iv (stQ i A ps.length:Nat),strA ⟨#[41]⟩] (.tup [iv ((stQ i A ps.length+1:Nat):Int),iv 0])) (hne:ps≠[]) :
 Pure prog 178 [.sl 4 T,iv i,iv s,iv d] (.tup [(Exq.mk k ByteArray.empty (A.map λa=>a.2.av) p).av,iv ((stQ i A ps.length+1:Nat):Int),iv 0]):=by
 have cK:=Zrz p e t s hs;rw [hk] at cK;have cH:=Zvs k hr;have hll:(ps.map iv).length=ps.length:=Zy3 ..;have kP:∀q,q < ps.length→(ps.map iv).getD q .u=iv (ps.getD q 0):=λq h=>by rw [Zac iv h,Zzc,Zy4 h];rfl
 have htk:∀q,q < ps.length→(A.take (q+1)).map (λa=>a.2.av)=(A.take q).map (λa=>a.2.av)++[(exQ A q).av]:=λq h=>exQ_take zo;have hst0:stQ i A 0=i+1:=rfl;have hc:((i:Int)+1)=((i+1:Nat):Int):=zo;have hdc:((d:Int)+1)=((d+1:Nat):Int):=zo;have hbi:=hb 0 (Zzb _);rw [hst0] at hbi;unfold tokA at *;have cP:Pure prog 213 [iv k] (.sl 1 (ps.map iv)):=cP;generalize ps.map iv=P at *;refine pI func178 rfl ntmps178 results178 call178 ?_;(focus (refine wkad (w_4 hT h0 hll hc) (w_2 cK cP) (w_1 (w_d 1 [(5,iv k)] [] [])) ?_;(repeat' first|exact w_t|apply w_l);all_goals intros));rename_i g8 g11
 refine Zc7 (Frz.nilBox (k:=11) 5 311 7 138 (gC) rfl zo) ?_;refine Zab (ι:=Nat) (λq e m=>q≤ps.length∧e 0=.sl 4 T∧e 1=iv (stQ i A q:Nat)∧e 3=iv d∧(e 8=.pbox 8 g8 0∧m 8=some (.box g8 138 [iv 0,strA ByteArray.empty,.v (.bool false),nilS,nilS,nilS,iv 0] false))∧e 45=.sl 1 P∧e 46=iv ps.length∧e 47=iv q∧e 11=.pbox 11 g11 0∧∃sv,m 11=some (.box g11 138 [iv k,strA ByteArray.empty,.v (.bool false),nilS,nilS,.own 311 sv,iv p] false)∧m 311=some (.row sv 138 7 ((A.take q).map λa=>a.2.av) 0)) (λq=>ps.length - q) 0 zr ?_ ?_
 ·rintro q e m ⟨hq,e0,e1,e3,⟨e8,m8⟩,e45,e46,e47,e11,sv,m11,m311⟩
  by_cases hlt:q < ps.length
  ·have c1:=cE q hlt;have c2:=cA q hlt;have gq:=kP q hlt;have hk2:=htk q hlt;have hq2:=hb (q+1) zo;have hl3:((A.take q).map λa=>a.2.av).length≤10:=by rw [Zy3,Zzh];omega
   clear cE cA kP htk cZ cP cK hb;generalize (A.take q).map (λa=>a.2.av)=Z at *;generalize ps.getD q 0=s1 at *;generalize hZ2:stQ i A (q+1)=z2 at *;generalize stQ i A q=z1 at *;generalize exQ A q=x at *;obtain⟨xk,xn,xl,xp⟩:=x;by_cases h00:q=0
   ·rw [Zy1 h00] at c1;have hqp:¬(0:Int) < (q:Int):=zo;(focus (refine wkad (w_16 e0 e1 e3 e8 m8 e45 e46 e47 e11 m11 m311 gq hll hl3 hdc hqp) (w_2 c1 c2) w_t ?_;(repeat' first|exact w_t|apply w_l);all_goals intros));exact⟨q+1,⟨zo,gW e0,by rw [hZ2];exact gC,gW e3,⟨gW e8,gW m8⟩,gW e45,gW e46,gS,gW e11,_,gC,by rw [hk2];exact gC⟩,zo⟩
   ·rw [Zy0 h00] at c1;have hqp:(0:Int) < (q:Int):=zo;(focus (refine wkad (w_16 e0 e1 e3 e8 m8 e45 e46 e47 e11 m11 m311 gq hll hl3 hdc hqp) (w_2 c1 c2) w_t ?_;(repeat' first|exact w_t|apply w_l);all_goals intros));exact⟨q+1,⟨zo,gW e0,by rw [hZ2];exact gC,gW e3,⟨gW e8,gW m8⟩,gW e45,gW e46,gS,gW e11,_,gC,by rw [hk2];exact gC⟩,zo⟩
  ·have hqq:q=ps.length:=zo;subst hqq;rw [show A.take ps.length=A by rw [←hA,ZAw]] at m311;clear cE cA kP htk cP cK hb;generalize A.map (λa=>a.2.av)=Z at *;(focus (refine wkad (w_11 e0 e1 e3 e8 m8 e45 e46 e47 e11 m11 m311) (w_2 cH cZ) w_t ?_;(repeat' first|exact w_t|apply w_l);all_goals intros));all_goals exact gM (w_3 e8 m11 m311)
 ·exact⟨Zzb _,gC,by rw [hst0];exact gC,gC,⟨gC,gC⟩,gC,gW hll,gC,gC,_,gC,gC⟩
theorem rxNames (T:List AV) (i n:Nat) (NM:List ByteArray) (hn:NM.length=n) (h1:1≤n) (hl:T.length≤20000) (hb:i+2*n≤T.length)
 (hN:∀q (h:q < n),∃p e,T.getD (i+2*q) .u=tokA 1 p e (NM[q]'zo)∧isNm 1 (NM[q]'zo)=true) (hC:∀q,q < n→∃k p e t,T.getD (i+2*q+1) .u=tokA k p e t∧(t.toList == (⟨#[44]⟩:ByteArray).toList)=decide (q+1 < n)) :
 Pure prog 132 [.sl 4 T,iv i] (.tup [.sl 1 (NM.map strA),iv ((i+2*n - 1:Nat):Int),iv 0]):=by
 have htk:∀q (h:q < n),(NM.take (q+1)).map strA=(NM.take q).map strA++[strA (NM[q]'zo)]:=λq h=>by rw [Zkb zo,Zzz];rfl
 refine pI func132 rfl ntmps132 results132 call132 ?_;(focus (refine wkad w_t w_t w_t ?_;(repeat' first|exact w_t|apply w_l);all_goals intros));refine Zc7 (Frz.nilOwn (d:=7) 307 1 9 (gC)) ?_;refine Zab (ι:=Nat) (λq e m=>q < n∧e 0=.sl 4 T∧e 1=iv ((i+2*q:Nat):Int)∧∃sv,e 7=.own 307 sv∧m 307=some (.row sv 9 1 ((NM.take q).map strA) 0)) (λq=>n - q) 0 zr ?_ ?_
 ·rintro q e m ⟨hq,e0,e1,sv,e7,m7⟩
  obtain⟨p,en,g1,n1⟩:=hN q hq;obtain⟨k2,p2,en2,t2,g2,n2⟩:=hC q hq;have hk:=htk q hq;have hl3:((NM.take q).map strA).length≤20000:=by rw [Zy3,Zzh];omega
  have c:=Zr0 1 p en (NM[q]'zo);rw [n1] at c;have hc1:(((i+2*q:Nat):Int)+1)=((i+2*q+1:Nat):Int):=zo;have hc2:(((i+2*q+1:Nat):Int)+1)=((i+2*(q+1):Nat):Int):=zo;have hb1:i+2*q < T.length:=zo;have hb2:i+2*q+1 < T.length:=zo;have hfin:NM.map strA=(NM.take n).map strA:=by rw [←hn,ZAw]
  have hqn:q+1=n→i+2*n - 1=i+2*q+1:=λh=>zo;clear hN hC htk;unfold tokA at *;generalize (NM[q]'zo)=nm at *;by_cases hlt:q+1 < n
  ·rw [Zy6 hlt] at n2;generalize (NM.take q).map strA=Z at *;generalize hY3:i+2*(q+1)=y3 at *;generalize i+2*q+1=y2 at *;generalize i+2*q=y1 at *;(focus (refine wkad (w_10 e0 e1 e7 m7 g1 g2 n2 hc1 hc2 hl3) (w_1 c) w_t ?_;(repeat' first|exact w_t|apply w_l);all_goals intros));exact⟨q+1,⟨hlt,gW e0,by rw [hY3];exact gW hc2,_,gC,by rw [hk];exact gC⟩,zo⟩
  ·have hqe:q+1=n:=zo;rw [Zy2 hlt] at n2;rw [hfin,←hqe,hk,hqe,hqn hqe];generalize (NM.take q).map strA=Z at *;generalize i+2*q+1=y2 at *;generalize i+2*q=y1 at *;(focus (refine wkad (w_9 e0 e1 e7 m7 g1 g2 n2 hc1 hl3) (w_1 c) w_t ?_;(repeat' first|exact w_t|apply w_l);all_goals intros));all_goals exact gM (w_1 hc1)
 ·exact⟨zo,gC,gC,_,gC,gC⟩
theorem rxDefP (T:List AV) (i:Nat) (p e:Int) (t:ByteArray) (x:Exq) (z:Int) (hi:i < T.length) (hl:T.length≤20000) (hT:T.getD i .u=tokA 1 p e t) (hn:isNm 1 t=true)
 (cE:Pure prog 134 [.sl 4 T,iv ((i+1:Nat):Int),strA ⟨#[58,61]⟩] (.tup [iv ((i+2:Nat):Int),iv 0])) (cC:Pure prog 178 [.sl 4 T,iv ((i+2:Nat):Int),iv 1,iv 1] (.tup [x.av,iv z,iv 0])) :
 Pure prog 133 [.sl 4 T,iv i,iv 2] (.tup [(Stq.mk 2 [t] x 0).av,iv z,iv 0]):=by
 have c:=Zr0 1 p e t;rw [hn] at c;have cS:=Zdy 2 1 (.inl ⟨rfl,rfl⟩);unfold tokA at *;have hc:((i:Int)+1)=((i+1:Nat):Int):=zo;obtain⟨xk,xn,xl,xp⟩:=x;refine pI func133 rfl ntmps133 results133 call133 ?_;(focus (refine wkad (w_2 hT hc) (w_4 c cE cS cC) w_t ?_;(repeat' first|exact w_t|apply w_l);all_goals intros));all_goals exact gL
theorem rxDefG (T:List AV) (i:Nat) (x:Exq) (z:Int) (hi:i < T.length) (hl:T.length≤20000) (cC:Pure prog 178 [.sl 4 T,iv i,iv 4,iv 1] (.tup [x.av,iv z,iv 0])) :
 Pure prog 133 [.sl 4 T,iv i,iv 5] (.tup [(Stq.mk 5 [] x 0).av,iv z,iv 0]):=by
 have cS:=Zdy 5 4 (.inr ⟨rfl,rfl⟩);obtain⟨xk,xn,xl,xp⟩:=x;refine Zcm (r:=.tup [.agg [iv 5,nilS,iv xk,strA xn,.v (.bool false),nilS,nilS,.sl 7 xl,iv xp,iv 0],iv z,iv 0]) ?_ (Vk.tupL (.cons (Vk.aggL (.cons (.refl _) (.cons (.nil 1) (.cons (.refl _) (.cons (.refl _) (.cons (.refl _) (.cons (.refl _) (.cons (.refl _) (.cons (.refl _) (.cons (.refl _) (.cons (.refl _) .nil))))))))))) (.cons (.refl _) (.cons (.refl _) .nil))));refine pI func133 rfl ntmps133 results133 call133 ?_;(focus (refine wkad w_t (w_2 cS cC) w_t ?_;(repeat' first|exact w_t|apply w_l);all_goals intros))
 all_goals exact gL
theorem rxStm1 (T:List AV) (i z:Nat) (p e:Int) (t:ByteArray) (NM:List ByteArray) (hi:i < T.length) (hl:T.length≤20000) (hz:z < T.length) (hT:T.getD i .u=tokA 1 p e t) (h1:(t.toList == (⟨#[112,111,105,110,116,115]⟩:ByteArray).toList)=true)
 (cN:Pure prog 132 [.sl 4 T,iv ((i+1:Nat):Int)] (.tup [.sl 1 (NM.map strA),iv z,iv 0])) (cE:Pure prog 134 [.sl 4 T,iv z,strA ⟨#[59]⟩] (.tup [iv ((z+1:Nat):Int),iv 0])) :
 Pure prog 87 [.sl 4 T,iv i] (.tup [(Stq.mk 1 NM ⟨0,ByteArray.empty,[],0⟩ p).av,iv ((z+1:Nat):Int),iv 0]):=by
 have hc:((i:Int)+1)=((i+1:Nat):Int):=zo;unfold tokA at *;refine Zcm (r:=.tup [.agg [iv 1,.sl 1 (NM.map strA),iv 0,strA ByteArray.empty,.v (.bool false),nilS,nilS,nilS,iv 0,iv p],iv ((z+1:Nat):Int),iv 0]) ?_ (Vk.tupL (.cons (Vk.aggL (.cons (.refl _) (.cons (.refl _) (.cons (.refl _) (.cons (.refl _) (.cons (.refl _) (.cons (.refl _) (.cons (.refl _) (.cons (.nil 7) (.cons (.refl _) (.cons (.refl _) .nil))))))))))) (.cons (.refl _) (.cons (.refl _) .nil))));generalize NM.map strA=Z at *;refine pI func87 rfl ntmps87 results87 call87 ?_;(focus (refine wkad (w_3 hT hc h1) (w_2 cN cE) w_t ?_;(repeat' first|exact w_t|apply w_l);all_goals intros))
 all_goals exact gL
theorem rxStm2 (T:List AV) (i z:Nat) (p e:Int) (t:ByteArray) (x:Stq) (hi:i < T.length) (hl:T.length≤20000) (hz:z < T.length) (hT:T.getD i .u=tokA 1 p e t) (h1:(t.toList == (⟨#[112,111,105,110,116,115]⟩:ByteArray).toList)=false) (h2:(t.toList == (⟨#[108,105,110,101]⟩:ByteArray).toList)=false) (h3:(t.toList == (⟨#[99,105,114,99,108,101]⟩:ByteArray).toList)=false) (h4:(t.toList == (⟨#[112,114,111,118,101]⟩:ByteArray).toList)=false)
 (cD:Pure prog 133 [.sl 4 T,iv i,iv 2] (.tup [x.av,iv z,iv 0])) (cE:Pure prog 134 [.sl 4 T,iv z,strA ⟨#[59]⟩] (.tup [iv ((z+1:Nat):Int),iv 0])) :
 Pure prog 87 [.sl 4 T,iv i] (.tup [(Stq.mk x.k x.ns x.x p).av,iv ((z+1:Nat):Int),iv 0]):=by
 have hc:((i:Int)+1)=((i+1:Nat):Int):=zo;unfold tokA at *;obtain⟨sk,ns,⟨xk,xn,xl,xp⟩,sp⟩:=x;simp only at *;generalize ns.map strA=Z at *;refine pI func87 rfl ntmps87 results87 call87 ?_;(focus (refine wkad (w_6 hT hc h1 h2 h3 h4) (w_2 cD cE) w_t ?_;(repeat' first|exact w_t|apply w_l);all_goals intros));all_goals exact gL
theorem rxStm5 (T:List AV) (i z:Nat) (p e:Int) (t:ByteArray) (x:Stq) (hi:i < T.length) (hl:T.length≤20000) (hz:z < T.length) (hT:T.getD i .u=tokA 1 p e t) (h1:(t.toList == (⟨#[112,111,105,110,116,115]⟩:ByteArray).toList)=false) (h2:(t.toList == (⟨#[108,105,110,101]⟩:ByteArray).toList)=false) (h3:(t.toList == (⟨#[99,105,114,99,108,101]⟩:ByteArray).toList)=false) (h4:(t.toList == (⟨#[112,114,111,118,101]⟩:ByteArray).toList)=true)
 (cD:Pure prog 133 [.sl 4 T,iv ((i+1:Nat):Int),iv 5] (.tup [x.av,iv z,iv 0])) (cE:Pure prog 134 [.sl 4 T,iv z,strA ⟨#[59]⟩] (.tup [iv ((z+1:Nat):Int),iv 0])) :
 Pure prog 87 [.sl 4 T,iv i] (.tup [(Stq.mk x.k x.ns x.x p).av,iv ((z+1:Nat):Int),iv 0]):=by
 have hc:((i:Int)+1)=((i+1:Nat):Int):=zo;unfold tokA at *;obtain⟨sk,ns,⟨xk,xn,xl,xp⟩,sp⟩:=x;simp only at *;generalize ns.map strA=Z at *;refine pI func87 rfl ntmps87 results87 call87 ?_;(focus (refine wkad (w_6 hT hc h1 h2 h3 h4) (w_2 cD cE) w_t ?_;(repeat' first|exact w_t|apply w_l);all_goals intros));all_goals exact gL
theorem rxProg (s:ByteArray) (T:List AV) (n:Nat) (P:Nat→Nat) (S:List Stq) (hn:S.length=n) (hl:T.length≤20000) (hP0:P 0=0) (cA:Pure prog 86 [strA s] (.tup [.sl 4 T,iv 0,iv 0]))
 (hK:∀q,q < n→P q < T.length∧∃p e t,T.getD (P q) .u=tokA 1 p e t) (hE:P n < T.length∧∃p e t,T.getD (P n) .u=tokA 0 p e t) (hn2:n≤1000)
 (cS:∀q (h:q < n),Pure prog 87 [.sl 4 T,iv (P q:Nat)] (.tup [(S[q]'zo).av,iv (P (q+1):Nat),iv 0])) :
 Pure prog 48 [strA s] (.tup [.agg [.sl 10 (S.map Stq.av)],iv 0,iv 0]):=by
 have htk:∀q (h:q < n),(S.take (q+1)).map Stq.av=(S.take q).map Stq.av++[(S[q]'zo).av]:=λq h=>by rw [Zkb zo,Zzz];rfl
 refine pI func48 rfl ntmps48 results48 call48 ?_;(focus (refine wkad w_t (w_1 cA) w_t ?_;(repeat' first|exact w_t|apply w_l);all_goals intros));rename_i g2;refine Zc7 (Frz.nilBox (k:=2) 0 302 10 140 (gC) rfl zo) ?_;refine Zab (ι:=Nat) (λq e m=>q≤n∧e 2=.pbox 2 g2 0∧e 5=.sl 4 T∧e 6=iv (P q:Nat)∧∃sv,m 2=some (.box g2 99 [.own 302 sv] false)∧m 302=some (.row sv 140 10 ((S.take q).map Stq.av) 0)) (λq=>n - q) 0 zr ?_ ?_
 ·rintro q e m ⟨hq,e2,e5,e6,sv,m2,m3⟩
  by_cases hlt:q < n
  ·obtain⟨hb,p,en,t,gT1⟩:=hK q hlt;have c:=cS q hlt;have hk:=htk q hlt;have hl3:((S.take q).map Stq.av).length≤1000:=by rw [Zy3,Zzh];omega
   clear hK hE cS htk cA;unfold tokA at gT1;generalize (S.take q).map Stq.av=Z at *;generalize (S[q]'zo)=x at *;generalize hZ2:P (q+1)=z2 at *;generalize P q=z1 at *;obtain⟨sk,ns,⟨xk,xn,xl,xp⟩,sp⟩:=x;(focus (refine wkad (w_7 e2 e5 e6 m2 m3 gT1 hl3) (w_1 c) w_t ?_;(repeat' first|exact w_t|apply w_l);all_goals intros));exact⟨q+1,⟨zo,gW e2,gW e5,by rw [hZ2];exact gC,_,gC,by rw [hk];exact gC⟩,zo⟩
  ·have hqq:q=n:=zo;subst hqq;obtain⟨hb,p,en,t,gT1⟩:=hE;rw [show S.take q=S by rw [←hn,ZAw]] at m3;clear hK cS htk cA;unfold tokA at gT1;generalize S.map Stq.av=Z at *;generalize P q=z1 at *;(focus (refine wkad (w_6 e2 e5 e6 m2 m3 gT1) w_t w_t ?_;(repeat' first|exact w_t|apply w_l);all_goals intros));all_goals exact gM (w_3 e2 m2 m3)
 ·exact⟨Zzb _,gC,gC,by rw [hP0];exact gC,_,gC,gC⟩
attribute [local go_sem] Zba Za9
theorem rxFindN (k:Int) (hf:∀i (h:i < rwL.length),rwL[i].k≠k):Pure prog 231 [iv k] (.agg [iv 0,iv 0,strA ByteArray.empty,nilS]):=by
 have cR:=Zvp;have hl:(rwL.map Rw.av).length=rwL.length:=Zy3 ..;have h30:rwL.length=30:=rfl;have kR:∀i (h:i < rwL.length),(rwL.map Rw.av).getD i .u=rwL[i].av:=λi h=>Zac Rw.av h;generalize hR:rwL=R at *;clear hR;generalize R.map Rw.av=M at *;refine pI func231 rfl ntmps231 results231 call231 ?_;(focus (refine wkad (w_1 hl) (w_1 cR) w_t ?_;(repeat' first|exact w_t|apply w_l);all_goals intros));rename_i g2;refine Zab (ι:=Nat) (λi e m=>i≤R.length∧e 0=iv k∧e 5=.sl 4 M∧e 6=iv R.length∧e 7=iv i∧e 2=.pbox 2 g2 0∧m 2=some (.box g2 286 [iv 0,iv 0,strA ByteArray.empty,nilS] false)) (λi=>R.length - i) 0 zr ?_ ?_
 ·rintro i e m ⟨hi,e0,e5,e6,e7,e2,m2⟩
  by_cases hlt:i < R.length
  ·have gi:=kR i hlt;have hne:=hf i hlt;generalize R[i]=y at *;obtain⟨k2,so2,wo2,ps2⟩:=y;simp only at hne;have gi:M.getD i .u=.agg [iv k2,iv so2,strA wo2,ivs ps2]:=gi;clear kR hf cR;have hl2:(i:Int) < (R.length:Int):=zo;(focus (refine wkad (w_8 e0 e5 e6 e7 gi hl hl2 hne) w_t w_t ?_;(repeat' first|exact w_t|apply w_l);all_goals intros));exact⟨i+1,⟨zo,gW e0,gW e5,gW e6,gS,gW e2,gW m2⟩,zo⟩
  ·have hii:i=R.length:=zo;subst hii;clear kR hf cR;(focus (refine wkad (w_6 e0 e5 e6 e7 e2 m2) w_t w_t ?_;(repeat' first|exact w_t|apply w_l);all_goals intros));all_goals exact gM (w_1 e2)
 ·exact⟨Zzb _,gC,gC,gW hl,gC,gC,gC⟩
theorem Zvq (k:Int) (hf:∀i (h:i < rwL.length),rwL[i].k≠k):Pure prog 213 [iv k] nilS:=by
 have c:=rxFindN k hf;refine pI func213 rfl ntmps213 results213 call213 ?_;(focus (refine wkld w_t (w_1 c) w_t w_t ?_;(repeat' first|exact w_t|apply w_l);all_goals intros))
theorem Zvr:Pure prog 235 [.agg [.v (.bool false),nilS,nilS]] (.v (.bool true)):=by
 refine pI func235 rfl ntmps235 results235 call235 ?_;(focus (refine wkld w_t w_t w_t w_t ?_;(repeat' first|exact w_t|apply w_l);all_goals intros))
def mxN (ds:List Nat):Nat→Nat
 | 0=>0
 | q+1=>max (mxN ds q) (ds.getD q 0)
theorem Zfn (x:Exq) (ds:List Nat) (hl:x.l.length≤10) (hb:∀q,mxN ds q≤100) (hx:∀q (h:q < x.l.length),∃y:Exq,x.l.getD q .u=y.av∧ds.getD q 0≤100∧Pure prog 236 [y.av] (iv (ds.getD q 0:Nat))):Pure prog 236 [x.av] (iv ((mxN ds x.l.length+1:Nat):Int)):=by
 obtain⟨xk,xn,xl,xp⟩:=x;simp only at hl hx;have hbl:=hb xl.length;refine pI func236 rfl ntmps236 results236 call236 ?_;(focus (refine wkad w_t w_t w_t ?_;(repeat' first|exact w_t|apply w_l);all_goals intros));refine Zab (ι:=Nat) (λq e m=>q≤xl.length∧e 3=iv (mxN ds q:Nat)∧e 7=.sl 7 xl∧e 8=iv xl.length∧e 9=iv q) (λq=>xl.length - q) 0 zr ?_ ?_
 ·rintro q e m ⟨hq,e3,e7,e8,e9⟩
  by_cases hlt:q < xl.length
  ·obtain⟨y,gq,hd,c⟩:=hx q hlt;have hs:mxN ds (q+1)=max (mxN ds q) (ds.getD q 0):=rfl;have hbq:=hb q;have hm:(if (mxN ds q:Int) < (ds.getD q 0:Int) then (ds.getD q 0:Int) else (mxN ds q:Int))=(mxN ds (q+1):Int):=by rw [hs];split<;>omega
   clear hx hs;generalize hA1:mxN ds (q+1)=a1 at *;generalize mxN ds q=a0 at *;generalize ds.getD q 0=d at *;obtain⟨yk,yn,yl,yp⟩:=y;have gq:xl.getD q .u=.agg [iv yk,strA yn,.v (.bool false),nilS,nilS,.sl 7 yl,iv yp]:=gq;(focus (refine wkad (w_6 e3 e7 e8 e9 gq hm) (w_1 c) w_t ?_;(repeat' first|exact w_t|apply w_l);all_goals intros));exact⟨q+1,⟨zo,by rw [hA1];exact gW hm,gW e7,gW e8,gS⟩,zo⟩
  ·have hqq:q=xl.length:=zo;subst hqq;clear hx;generalize mxN ds xl.length=a0 at *;have hc:((a0:Int)+1)=((a0+1:Nat):Int):=zo;(focus (refine wkad (w_5 e3 e7 e8 e9 hc) w_t w_t ?_;(repeat' first|exact w_t|apply w_l);all_goals intros));all_goals exact gM (w_1 hc)
 ·exact⟨Zzb _,by(simp (disch:=omega) only [go_sem,mxN]<;>repeat' first|rfl|refine⟨?_,?_⟩),gC,gC,gC⟩
theorem rxOfL (x:Exq) (s:Int) (hs:s≠0∧s≠4) (hk:x.k=1):Pure prog 246 [x.av,iv s] (.v (.bool true)):=by
 obtain⟨xk,xn,xl,xp⟩:=x;obtain⟨s1,s2⟩:=hs;simp only at hk;subst hk;refine pI func246 rfl ntmps246 results246 call246 ?_;(focus (refine wkad (w_2 s1 s2) w_t w_t ?_;(repeat' first|exact w_t|apply w_l);all_goals intros));all_goals (all_goals (try simp (disch:=omega) only [go_sem,s2,Zy6,Zy2,Zy1,Zy0,Int.reduceAdd,Int.reduceSub,Int.reduceToNat,Zzd]));(all_goals first|done|rfl|(congr 2;first|done|omega|(rw [Zzy];simp only [bool_to_prop,Zzf,Zz4,Zz5,Zz6,Zz7];omega))|skip)
theorem rxOfN (x:Exq) (j:Nat) (hj:j < rwL.length) (hk:rwL[j].k=x.k) (hf:∀i (h:i < rwL.length),i < j→rwL[i].k≠x.k) (h0:x.k≠0∧x.k≠1) (hs:rwL[j].s≠0):Pure prog 246 [x.av,iv rwL[j].s] (.v (.bool true)):=by
 have c1:=Zvt x.k j hj hk hf;have c2:=rxSort x.k j hj hk hf;obtain⟨xk,xn,xl,xp⟩:=x;obtain⟨n0,n1⟩:=h0;simp only at *;generalize rwL[j]=r at *;obtain⟨rk,rs,rw',rp⟩:=r;simp only at *;subst hk;have c1:Pure prog 231 [iv rk] (.agg [iv rk,iv rs,strA rw',ivs rp]):=c1;refine pI func246 rfl ntmps246 results246 call246 ?_;(focus (refine wkad (w_3 hs n0 n1) (w_2 c1 c2) w_t ?_;(repeat' first|exact w_t|apply w_l);all_goals intros));all_goals exact gL
theorem Zkk (x:Exq) (s:Int) (hs:s≠0∧s≠4) (hk:x.k=1) (hn:namB x.nm=true) (hz:x.nm.size≤1000) (hl:x.l=[]):Pure prog 237 [x.av,iv s] (iv 0):=by
 have c1:=rxOfL x s hs hk;have c2:=Zr2 x.nm zo;rw [hn] at c2;have c3:=Zvq 1 zd;have c4:=Zvs 1 zd;have c5:=Zvr;obtain⟨xk,xn,xl,xp⟩:=x;simp only at *;subst hk;subst hl;refine pI func237 rfl ntmps237 results237 call237 ?_;(focus (refine wkax w_t (w_5 c1 c2 c3 c4 c5) (w_1 (w_d 5 [(14,nilS)] [] [])) w_t w_t w_t w_y (w_r 2) ?_;(repeat' first|exact w_t|apply w_l);all_goals intros));all_goals exact gL
theorem Zvv (x:Exq) (j:Nat) (hj:j < rwL.length) (hk:rwL[j].k=x.k) (hf:∀i (h:i < rwL.length),i < j→rwL[i].k≠x.k) (h0:x.k≠0∧x.k≠1) (hs:rwL[j].s≠0) (hr:x.k≠11∧x.k≠68) (hn:x.nm=ByteArray.empty) (hl:x.l.length=rwL[j].p.length) (hl2:x.l.length≤10)
 (hx:∀q (h:q < x.l.length),∃y:Exq,x.l.getD q .u=y.av∧Pure prog 237 [y.av,iv (rwL[j].p.getD q 0)] (iv 0)):Pure prog 237 [x.av,iv rwL[j].s] (iv 0):=by
 have c1:=rxOfN x j hj hk hf h0 hs;have c3:=Zid x.k j hj hk hf;have c4:=Zvs x.k hr;have c5:=Zvr;have hst:=Zi0 ByteArray.empty;rw [show decide (ByteArray.empty.size=0)=true from rfl] at hst;obtain⟨xk,xn,xl,xp⟩:=x;obtain⟨n0,n1⟩:=h0;simp only at *;subst hn;generalize rwL[j]=r at *;obtain⟨rk,rs,rw',rp⟩:=r;simp only at *;have hlp:(rp.map iv).length=xl.length:=by rw [Zy3];omega
 have kP:∀q,q < rp.length→(rp.map iv).getD q .u=iv (rp.getD q 0):=λq h=>by rw [Zac iv h,Zzc,Zy4 h];rfl
 have c3:Pure prog 213 [iv xk] (.sl 1 (rp.map iv)):=c3;generalize rp.map iv=P at *;refine pI func237 rfl ntmps237 results237 call237 ?_;(focus (refine wkad (w_4 n0 n1 hst hlp) (w_4 c1 c3 c4 c5) (w_1 (w_d 5 [(14,.sl 1 P)] [] [])) ?_;(repeat' first|exact w_t|apply w_l);all_goals intros));rename_i g2;refine Zab (ι:=Nat) (λq e m=>q≤xl.length∧(e 2=.pbox 2 g2 0∧m 2=some (.box g2 138 [iv xk,strA ByteArray.empty,.v (.bool false),nilS,nilS,.sl 7 xl,iv xp] false))∧e 61=.sl 7 xl∧e 62=iv xl.length∧e 63=iv q) (λq=>xl.length - q) 0 zr ?_ ?_
 ·rintro q e m ⟨hq,⟨e2,m2⟩,e61,e62,e63⟩
  by_cases hlt:q < xl.length
  ·obtain⟨y,gq,c⟩:=hx q hlt;have gp:=kP q zo;clear hx kP c1;generalize rp.getD q 0=s1 at *;obtain⟨yk,yn,yl,yp⟩:=y;have gq:xl.getD q .u=.agg [iv yk,strA yn,.v (.bool false),nilS,nilS,.sl 7 yl,iv yp]:=gq;have c:Pure prog 237 [.agg [iv yk,strA yn,.v (.bool false),nilS,nilS,.sl 7 yl,iv yp],iv s1] (iv 0):=c;(focus (refine wkad (w_8 e2 m2 e61 e62 e63 gq gp hlp) (w_2 c3 c) (w_1 (w_d 12 [(3,.sl 1 P),(7,iv 0)] [] [])) ?_;(repeat' first|exact w_t|apply w_l);all_goals intros));exact⟨q+1,⟨zo,⟨gW e2,gW m2⟩,gW e61,gW e62,gS⟩,zo⟩
  ·have hqq:q=xl.length:=zo;subst hqq;clear hx kP c1;(focus (refine wkad (w_5 e2 m2 e61 e62 e63) w_t w_t ?_;(repeat' first|exact w_t|apply w_l);all_goals intros));all_goals exact gL
 ·exact⟨Zzb _,⟨gC,gC⟩,gC,gC,gC⟩
theorem Zvx (x:Exq) (s:Int) (d:Nat) (hd:d≤20) (hs:1≤s∧s≤4) (cD:Pure prog 236 [x.av] (iv d)) (cC:Pure prog 237 [x.av,iv s] (iv 0)):Pure prog 218 [x.av,iv s] (iv 0):=by
 obtain⟨xk,xn,xl,xp⟩:=x;obtain⟨s1,s2⟩:=hs;refine pI func218 rfl ntmps218 results218 call218 ?_;(focus (refine wkad w_t (w_2 cD cC) w_t ?_;(repeat' first|exact w_t|apply w_l);all_goals intros));all_goals exact gL
theorem rxEmpty (x:Exq) (hk:x.k=0) (hn:x.nm=ByteArray.empty) (hl:x.l=[]):Pure prog 217 [x.av] (.v (.bool true)):=by
 have c5:=Zvr;have hst:=Zi0 ByteArray.empty;rw [show decide (ByteArray.empty.size=0)=true from rfl] at hst;obtain⟨xk,xn,xl,xp⟩:=x;simp only at *;subst hk;subst hn;subst hl;refine pI func217 rfl ntmps217 results217 call217 ?_;(focus (refine wkad (w_1 hst) (w_1 c5) w_t ?_;(repeat' first|exact w_t|apply w_l);all_goals intros));all_goals exact gL
theorem rxCs1 (NM:List ByteArray) (p:Int) (h0:NM≠[]) (hl:NM.length≤1000) (hn:∀w∈NM,namB w=true∧w.size≤1000):Pure prog 179 [(Stq.mk 1 NM ⟨0,ByteArray.empty,[],0⟩ p).av] (iv 0):=by
 have hll:(NM.map strA).length=NM.length:=Zy3 ..;have hl1:1≤NM.length:=List.length_pos_iff.2 h0;have kN:∀q (h:q < NM.length),(NM.map strA).getD q .u=strA NM[q]:=λq h=>Zac strA h;have hN:∀q (h:q < NM.length),namB NM[q]=true∧NM[q].size≤1000:=λq h=>hn _ (Zzm h);have cE:Pure prog 217 [.agg [iv 0,strA ByteArray.empty,.v (.bool false),nilS,nilS,.sl 7 [],iv 0]] (.v (.bool true)):=rxEmpty ⟨0,ByteArray.empty,[],0⟩ rfl rfl rfl;clear hn;show Pure _ _ [.agg [iv 1,.sl 1 (NM.map strA),iv 0,strA ByteArray.empty,.v (.bool false),nilS,nilS,.sl 7 [],iv 0,iv p]] _;generalize NM.map strA=Z at *
 refine pI func179 rfl ntmps179 results179 call179 ?_;(focus (refine wkad (w_1 hll) w_t w_t ?_;(repeat' first|exact w_t|apply w_l);all_goals intros));rename_i g1;refine Zab (ι:=Nat) (λq e m=>q≤NM.length∧(e 1=.pbox 1 g1 0∧m 1=some (.box g1 140 [iv 1,.sl 1 Z,iv 0,strA ByteArray.empty,.v (.bool false),nilS,nilS,.sl 7 [],iv 0,iv p] false))∧e 46=.sl 1 Z∧e 47=iv NM.length∧e 48=iv q) (λq=>NM.length - q) 0 zr ?_ ?_
 ·rintro q e m ⟨hq,⟨e1,m1⟩,e46,e47,e48⟩
  by_cases hlt:q < NM.length
  ·have gq:=kN q hlt;obtain⟨n1,n2⟩:=hN q hlt;have c:=Zr2 NM[q] zo;rw [n1] at c;generalize NM[q]=w at *;(focus (refine wkad (w_7 e1 m1 e46 e47 e48 gq hll) (w_1 c) w_t ?_;(repeat' first|exact w_t|apply w_l);all_goals intros));exact⟨q+1,⟨zo,⟨gW e1,gW m1⟩,gW e46,gW e47,gS⟩,zo⟩
  ·have hqq:q=NM.length:=zo;subst hqq;clear kN hN;(focus (refine wkad (w_5 e1 m1 e46 e47 e48) (w_1 cE) w_t ?_;(repeat' first|exact w_t|apply w_l);all_goals intros));all_goals exact gL
 ·exact⟨Zzb _,⟨gC,gC⟩,gC,gW hll,gC⟩
theorem rxCs2 (w:ByteArray) (x:Exq) (p:Int) (hn:namB w=true∧w.size≤1000) (hx:x.k≠1) (cC:Pure prog 218 [x.av,iv 1] (iv 0)):Pure prog 179 [(Stq.mk 2 [w] x p).av] (iv 0):=by
 have cS:=Zdy 2 1 (.inl ⟨rfl,rfl⟩);have c:=Zr2 w zo;rw [hn.1] at c;obtain⟨xk,xn,xl,xp⟩:=x;simp only at hx;show Pure _ _ [.agg [iv 2,.sl 1 [strA w],iv xk,strA xn,.v (.bool false),nilS,nilS,.sl 7 xl,iv xp,iv p]] _;refine pI func179 rfl ntmps179 results179 call179 ?_;(focus (refine wkax (w_1 hx) (w_3 c cS cC) (w_1 (w_d 20 [(4,iv 1),(5,iv 0)] [] [])) w_t w_t w_t w_y (w_r 3) ?_;(repeat' first|exact w_t|apply w_l);all_goals intros));all_goals exact gL
theorem rxCs5 (x:Exq) (p:Int) (hx:x.k≠1) (cC:Pure prog 218 [x.av,iv 4] (iv 0)):Pure prog 179 [(Stq.mk 5 [] x p).av] (iv 0):=by
 have cS:=Zdy 5 4 (.inr ⟨rfl,rfl⟩);obtain⟨xk,xn,xl,xp⟩:=x;simp only at hx;show Pure _ _ [.agg [iv 5,.sl 1 [],iv xk,strA xn,.v (.bool false),nilS,nilS,.sl 7 xl,iv xp,iv p]] _;refine pI func179 rfl ntmps179 results179 call179 ?_;(focus (refine wkax (w_1 hx) (w_2 cS cC) (w_1 (w_d 20 [(4,iv 4),(5,iv 0)] [] [])) w_t w_t w_t w_y (w_r 2) ?_;(repeat' first|exact w_t|apply w_l);all_goals intros));all_goals exact gL
def srtN (k:Int):Int:=if k=1 then 1 else if k=2 then 1 else if k=3 then 2 else if k=4 then 3 else 0
theorem rxSortOf (k:Int):Pure prog 219 [iv k] (iv (srtN k)):=by
 unfold srtN;refine pI func219 rfl ntmps219 results219 call219 ?_;(focus (refine wkad w_t w_t w_t ?_;(repeat' first|exact w_t|apply w_l);all_goals intros));all_goals exact gL
def dfN (w:ByteArray):List Stq→Int
 | []=>0
 | s :: r=>if s.ns.any (λx=>x.toList == w.toList) then srtN s.k else dfN w r
theorem rxDefd (S:List Stq) (w:ByteArray) (hl:S.length≤1000) (hn:∀s∈S,s.ns.length≤1000):Pure prog 181 [.sl 10 (S.map Stq.av),strA w] (iv (dfN w S)):=by
 have hll:(S.map Stq.av).length=S.length:=Zy3 ..;have kS:∀i (h:i < S.length),(S.map Stq.av).getD i .u=S[i].av:=λi h=>Zac Stq.av h;have hd:∀i (h:i < S.length),dfN w (S.drop i)=if S[i].ns.any (λx=>x.toList == w.toList) then srtN S[i].k else dfN w (S.drop (i+1)):=λi h=>by rw [ZBy h];rfl
 have h0:dfN w S=dfN w (S.drop 0):=rfl;have he:dfN w (S.drop S.length)=0:=by rw [ZCz];rfl
 have hnn:∀i (h:i < S.length),S[i].ns.length≤1000:=λi h=>hn _ (Zzm h);clear hn;rw [h0];generalize S.map Stq.av=M at *;refine pI func181 rfl ntmps181 results181 call181 ?_;(focus (refine wkad (w_1 hll) w_t w_t ?_;(repeat' first|exact w_t|apply w_l);all_goals intros));refine Zab (ι:=Nat) (λi e m=>i≤S.length∧dfN w (S.drop 0)=dfN w (S.drop i)∧e 1=strA w∧e 7=.sl 10 M∧e 8=iv S.length∧e 9=iv i) (λi=>S.length - i) 0 zr ?_ ?_
 ·rintro i e m ⟨hi,hq,e1,e7,e8,e9⟩
  by_cases hlt:i < S.length
  ·have gi:=kS i hlt;have hdi:=hd i hlt;have hnl:=hnn i hlt;clear kS hd hnn;generalize S[i]=x at *;obtain⟨sk,ns,⟨xk,xn,xl,xp⟩,sp⟩:=x;simp only at hdi hnl;have cH:=rxHas ns w hnl;have cS:=rxSortOf sk;have gi:M.getD i .u=.agg [iv sk,.sl 1 (ns.map strA),iv xk,strA xn,.v (.bool false),nilS,nilS,.sl 7 xl,iv xp,iv sp]:=gi;generalize ns.map strA=NZ at *
   cases hb:(ns.any λx=>x.toList == w.toList) with
   | true =>
     rw [hb] at hdi cH;rw [hq,hdi];(focus (refine wkad (w_6 e1 e7 e8 e9 gi hll) (w_2 cH cS) w_t ?_;(repeat' first|exact w_t|apply w_l);all_goals intros));all_goals exact gL
   | false =>
     rw [hb] at hdi cH;(focus (refine wkad (w_6 e1 e7 e8 e9 gi hll) (w_2 cH cS) w_t ?_;(repeat' first|exact w_t|apply w_l);all_goals intros));exact⟨i+1,⟨zo,by rw [hq,hdi];rfl,gW e1,gW e7,gW e8,gS⟩,zo⟩
  ·have hii:i=S.length:=zo;subst hii;rw [hq,he];(focus (refine wkad (w_4 e1 e7 e8 e9) w_t w_t ?_;(repeat' first|exact w_t|apply w_l);all_goals intros));all_goals exact gL
 ·exact⟨Zzb _,rfl,gC,gC,gW hll,gC⟩
theorem Zhz (S:List Stq) (x:Exq) (s:Int) (hl:S.length≤1000) (hn:∀s∈S,s.ns.length≤1000) (hk:x.k=1) (hs:s≠0) (hd:dfN x.nm S=s):Pure prog 180 [.sl 10 (S.map Stq.av),x.av,iv s] (iv 0):=by
 have c:=rxDefd S x.nm hl hn;rw [hd] at c;clear hn;obtain⟨xk,xn,xl,xp⟩:=x;simp only at *;subst hk;generalize S.map Stq.av=M at *;refine pI func180 rfl ntmps180 results180 call180 ?_;(focus (refine wkad (w_1 hs) (w_1 c) w_t ?_;(repeat' first|exact w_t|apply w_l);all_goals intros));all_goals exact gL
theorem Zqc (M:List AV) (x:Exq) (s:Int) (j:Nat) (hj:j < rwL.length) (hk:rwL[j].k=x.k) (hf:∀i (h:i < rwL.length),i < j→rwL[i].k≠x.k) (h1:x.k≠1) (hl:x.l.length=rwL[j].p.length) (hl2:x.l.length≤10)
 (hx:∀q,q < x.l.length→∃y:Exq,x.l.getD q .u=y.av∧Pure prog 180 [.sl 10 M,y.av,iv (rwL[j].p.getD q 0)] (iv 0)):Pure prog 180 [.sl 10 M,x.av,iv s] (iv 0):=by
 have c3:=Zid x.k j hj hk hf;obtain⟨xk,xn,xl,xp⟩:=x;simp only at *;generalize rwL[j]=r at *;obtain⟨rk,rs,rw',rp⟩:=r;simp only at *;have hlp:(rp.map iv).length=xl.length:=by rw [Zy3];omega
 have kP:∀q,q < rp.length→(rp.map iv).getD q .u=iv (rp.getD q 0):=λq h=>by rw [Zac iv h,Zzc,Zy4 h];rfl
 have c3:Pure prog 213 [iv xk] (.sl 1 (rp.map iv)):=c3;generalize rp.map iv=P at *;refine pI func180 rfl ntmps180 results180 call180 ?_;(focus (refine wkad (w_2 h1 hlp) w_t w_t ?_;(repeat' first|exact w_t|apply w_l);all_goals intros));rename_i g4;refine Zab (ι:=Nat) (λq e m=>q≤xl.length∧e 0=.sl 10 M∧(e 4=.pbox 4 g4 0∧m 4=some (.box g4 138 [iv xk,strA xn,.v (.bool false),nilS,nilS,.sl 7 xl,iv xp] false))∧e 36=.sl 7 xl∧e 37=iv xl.length∧e 38=iv q) (λq=>xl.length - q) 0 zr ?_ ?_
 ·rintro q e m ⟨hq,e0,⟨e4,m4⟩,e36,e37,e38⟩
  by_cases hlt:q < xl.length
  ·obtain⟨y,gq,c⟩:=hx q hlt;have gp:=kP q zo;clear hx kP;generalize rp.getD q 0=s1 at *;obtain⟨yk,yn,yl,yp⟩:=y;have gq:xl.getD q .u=.agg [iv yk,strA yn,.v (.bool false),nilS,nilS,.sl 7 yl,iv yp]:=gq;have c:Pure prog 180 [.sl 10 M,.agg [iv yk,strA yn,.v (.bool false),nilS,nilS,.sl 7 yl,iv yp],iv s1] (iv 0):=c;(focus (refine wkad (w_9 e0 e4 m4 e36 e37 e38 gq gp hlp) (w_2 c3 c) (w_1 (w_d 11 [(4,.sl 1 P),(8,iv 0)] [] [])) ?_;(repeat' first|exact w_t|apply w_l);all_goals intros));exact⟨q+1,⟨zo,gW e0,⟨gW e4,gW m4⟩,gW e36,gW e37,gS⟩,zo⟩
  ·have hqq:q=xl.length:=zo;subst hqq;clear hx kP;(focus (refine wkad (w_6 e0 e4 m4 e36 e37 e38) w_t w_t ?_;(repeat' first|exact w_t|apply w_l);all_goals intros));all_goals exact gL
 ·exact⟨Zzb _,gC,⟨gC,gC⟩,gC,gC,gC⟩
def newB (S:List Stq) (ns:List ByteArray):Bool:=(List.range ns.length).all λq=>match ns[q]? with | some w=>decide (dfN w S=0) && !((ns.take q).any λx=>x.toList == w.toList) | none=>true
theorem Zqd (S:List Stq) (s:Stq) (so:Int) (hl:S.length≤1000) (hn:∀s∈S,s.ns.length≤1000) (hl2:s.ns.length≤1000) (hN:newB S s.ns=true) (cC:Pure prog 179 [s.av] (iv 0))
 (cU:s.k=1∨(s.k≠1∧Pure prog 140 [iv s.k] (iv so)∧Pure prog 180 [.sl 10 (S.map Stq.av),s.x.av,iv so] (iv 0))):Pure prog 135 [.sl 10 (S.map Stq.av),s.av] (iv 0):=by
 have cD:=λw=>rxDefd S w hl hn;obtain⟨sk,ns,⟨xk,xn,xl,xp⟩,sp⟩:=s;simp only at *;have hll:(ns.map strA).length=ns.length:=Zy3 ..;have kN:∀q (h:q < ns.length),(ns.map strA).getD q .u=strA ns[q]:=λq h=>Zac strA h;have hNq:∀q (h:q < ns.length),dfN ns[q] S=0∧((ns.take q).any λx=>x.toList == ns[q].toList)=false:=λq h=>by
  unfold newB at hN;rw [ZBb] at hN;have:=hN q (List.mem_range.2 h);rw [Zy4 h] at this;simp only [Zzn,Zzu,ZAv] at this;exact this
 have cH:∀q (h:q < ns.length),Pure prog 182 [.sl 1 ((ns.map strA).take q),strA ns[q]] (.v (.bool false)):=λq h=>by
  have:=rxHas (ns.take q) ns[q] (by rw [Zzh];omega);rw [(hNq q h).2,List.map_take] at this;exact this
 have cD:∀q (h:q < ns.length),Pure prog 181 [.sl 10 (S.map Stq.av),strA ns[q]] (iv 0):=λq h=>by
  have:=cD ns[q];rw [(hNq q h).1] at this;exact this
 clear hN hNq hn;have cC:Pure prog 179 [.agg [iv sk,.sl 1 (ns.map strA),iv xk,strA xn,.v (.bool false),nilS,nilS,.sl 7 xl,iv xp,iv sp]] (iv 0):=cC;show Pure _ _ [.sl 10 (S.map Stq.av),.agg [iv sk,.sl 1 (ns.map strA),iv xk,strA xn,.v (.bool false),nilS,nilS,.sl 7 xl,iv xp,iv sp]] _;generalize S.map Stq.av=M at *;generalize ns.map strA=Z at *;rcases cU with hk | ⟨hk,c1,c2⟩
 ·subst hk;refine pI func135 rfl ntmps135 results135 call135 ?_;(focus (refine wkad (w_1 hll) (w_1 cC) w_t ?_;(repeat' first|exact w_t|apply w_l);all_goals intros));rename_i g3;refine Zab (ι:=Nat) (λq e m=>q≤ns.length∧e 0=.sl 10 M∧(e 3=.pbox 3 g3 0∧m 3=some (.box g3 140 [iv 1,.sl 1 Z,iv xk,strA xn,.v (.bool false),nilS,nilS,.sl 7 xl,iv xp,iv sp] false))∧e 28=.sl 1 Z∧e 29=iv ns.length∧e 30=iv q) (λq=>ns.length - q) 0 zr ?_ ?_
  ·rintro q e m ⟨hq,e0,⟨e3,m3⟩,e28,e29,e30⟩
   by_cases hlt:q < ns.length
   ·have gq:=kN q hlt;have c3:=cD q hlt;have c4:=cH q hlt;clear kN cD cH cC;generalize ns[q]=w at *;(focus (refine wkad (w_8 e0 e3 m3 e28 e29 e30 gq hll) (w_2 c3 c4) w_t ?_;(repeat' first|exact w_t|apply w_l);all_goals intros));exact⟨q+1,⟨zo,gW e0,⟨gW e3,gW m3⟩,gW e28,gW e29,gS⟩,zo⟩
   ·have hqq:q=ns.length:=zo;subst hqq;clear kN cD cH;(focus (refine wkad (w_6 e0 e3 m3 e28 e29 e30) w_t w_t ?_;(repeat' first|exact w_t|apply w_l);all_goals intros));all_goals exact gL
  ·exact⟨Zzb _,gC,⟨gC,gC⟩,gC,gW hll,gC⟩
 ·have c2:Pure prog 180 [.sl 10 M,.agg [iv xk,strA xn,.v (.bool false),nilS,nilS,.sl 7 xl,iv xp],iv so] (iv 0):=c2;refine pI func135 rfl ntmps135 results135 call135 ?_;(focus (refine wkad (w_2 hk hll) (w_3 cC c1 c2) (w_1 (w_d 5 [(5,iv so),(6,iv 0)] [] [])) ?_;(repeat' first|exact w_t|apply w_l);all_goals intros));rename_i g3;refine Zab (ι:=Nat) (λq e m=>q≤ns.length∧e 0=.sl 10 M∧(e 3=.pbox 3 g3 0∧m 3=some (.box g3 140 [iv sk,.sl 1 Z,iv xk,strA xn,.v (.bool false),nilS,nilS,.sl 7 xl,iv xp,iv sp] false))∧e 28=.sl 1 Z∧e 29=iv ns.length∧e 30=iv q) (λq=>ns.length - q) 0 zr ?_ ?_
  ·rintro q e m ⟨hq,e0,⟨e3,m3⟩,e28,e29,e30⟩
   by_cases hlt:q < ns.length
   ·have gq:=kN q hlt;have c3:=cD q hlt;have c4:=cH q hlt;clear kN cD cH cC;generalize ns[q]=w at *;(focus (refine wkad (w_8 e0 e3 m3 e28 e29 e30 gq hll) (w_2 c3 c4) w_t ?_;(repeat' first|exact w_t|apply w_l);all_goals intros));exact⟨q+1,⟨zo,gW e0,⟨gW e3,gW m3⟩,gW e28,gW e29,gS⟩,zo⟩
   ·have hqq:q=ns.length:=zo;subst hqq;clear kN cD cH;(focus (refine wkad (w_6 e0 e3 m3 e28 e29 e30) w_t w_t ?_;(repeat' first|exact w_t|apply w_l);all_goals intros));all_goals exact gL
  ·exact⟨Zzb _,gC,⟨gC,gC⟩,gC,gW hll,gC⟩
theorem Zvw (S:List Stq) (hl:S.length≤1000) (hS:∀i (h:i < S.length),Pure prog 135 [.sl 10 ((S.take i).map Stq.av),S[i].av] (iv 0)):Pure prog 88 [.agg [.sl 10 (S.map Stq.av)]] (.tup [iv 0,iv 0]):=by
 have hll:(S.map Stq.av).length=S.length:=Zy3 ..;have kS:∀i (h:i < S.length),(S.map Stq.av).getD i .u=S[i].av:=λi h=>Zac Stq.av h;have hS:∀i (h:i < S.length),Pure prog 135 [.sl 10 ((S.map Stq.av).take i),S[i].av] (iv 0):=λi h=>by rw [←List.map_take];exact hS i h
 generalize S.map Stq.av=M at *;refine pI func88 rfl ntmps88 results88 call88 ?_;(focus (refine wkad (w_1 hll) w_t w_t ?_;(repeat' first|exact w_t|apply w_l);all_goals intros));rename_i g1;refine Zab (ι:=Nat) (λi e m=>i≤S.length∧(e 1=.pbox 1 g1 0∧m 1=some (.box g1 99 [.sl 10 M] false))∧e 8=.sl 10 M∧e 9=iv S.length∧e 10=iv i) (λi=>S.length - i) 0 zr ?_ ?_
 ·rintro i e m ⟨hi,⟨e1,m1⟩,e8,e9,e10⟩
  by_cases hlt:i < S.length
  ·have gi:=kS i hlt;have c:=hS i hlt;clear kS hS;generalize S[i]=x at *;obtain⟨sk,ns,⟨xk,xn,xl,xp⟩,sp⟩:=x;have gi:M.getD i .u=.agg [iv sk,.sl 1 (ns.map strA),iv xk,strA xn,.v (.bool false),nilS,nilS,.sl 7 xl,iv xp,iv sp]:=gi;have c:Pure prog 135 [.sl 10 (M.take i),.agg [iv sk,.sl 1 (ns.map strA),iv xk,strA xn,.v (.bool false),nilS,nilS,.sl 7 xl,iv xp,iv sp]] (iv 0):=c;generalize ns.map strA=NZ at *;(focus (refine wkad (w_7 e1 m1 e8 e9 e10 gi hll) (w_1 c) (w_1 (w_d 4 [(5,iv 0)] [] [])) ?_;(repeat' first|exact w_t|apply w_l);all_goals intros));exact⟨i+1,⟨zo,⟨gW e1,gW m1⟩,gW e8,gW e9,gS⟩,zo⟩
  ·have hii:i=S.length:=zo;subst hii;clear kS hS;(focus (refine wkad (w_5 e1 m1 e8 e9 e10) w_t w_t ?_;(repeat' first|exact w_t|apply w_l);all_goals intros));all_goals exact gL
 ·exact⟨Zzb _,⟨gC,gC⟩,gC,gW hll,gC⟩
attribute [go_sem] zKno zSta underlying196 underlying145 underlying147 underlying49 zFig underlying78 underlying46 zSlS underlying80 underlying47 zSlF
attribute [local go_sem] Ztp Zuv Zto Ziz Zlz Zca Za3 Za4 Zb8 Zb9 Zbz Zb1 Zdb Zdd
structure Kn where
 w:ByteArray
 s:Int
 l:List Int
abbrev Kn.av (x:Kn):AV:=.agg [strA x.w,iv x.s,.sl 1 (x.l.map iv)]
abbrev stA (KS KG KN:Nat) (a b c:Value):AV:=.agg [.own KS a,.own KG b,.own KN c]
theorem Zez (KS KG KN KS' KG' KN':Nat) (a b c:Value):Sub (stA KS KG KN a b c) (stA KS' KG' KN' a b c):=Sub.agg _ _ rfl λj x y h1 h2=>by
 match j,h1,h2 with
 | 0,h1,h2=>cases h1;cases h2;exact Sub.own _ _ _
 | 1,h1,h2=>cases h1;cases h2;exact Sub.own _ _ _
 | 2,h1,h2=>cases h1;cases h2;exact Sub.own _ _ _
 | j+3,h1,h2=>simp at h1
theorem Zjd {a b a' b':AV} (h:Sub a a') (k:Sub b b'):Sub (.tup [a,b]) (.tup [a',b']):=Sub.tup _ _ rfl λj x y h1 h2=>by
 match j,h1,h2 with
 | 0,h1,h2=>cases h1;cases h2;exact h
 | 1,h1,h2=>cases h1;cases h2;exact k
 | j+2,h1,h2=>simp at h1
abbrev knR (c:Value) (NN:List Kn):Ent:=.row c 196 3 (NN.map Kn.av) 0
def lkN (w:ByteArray):List Kn→Option Kn
 | []=>none
 | x :: r=>if x.w.toList == w.toList then some x else lkN w r
theorem rxLook (KS KG KN:Nat) (a b c:Value) (NN:List Kn) (w:ByteArray) (k:Kn) (hk:lkN w NN=some k) (hl:NN.length≤1000):RdC prog [(KN,knR c NN)] 183 [stA KS KG KN a b c,strA w] k.av:=by
 intro σ hL;have hN:σ KN=some (knR c NN):=hL.1;have hll:(NN.map Kn.av).length=NN.length:=Zy3 ..;have kN:∀i (h:i < NN.length),(NN.map Kn.av).getD i .u=NN[i].av:=λi h=>Zac Kn.av h;have hd:∀i (h:i < NN.length),lkN w (NN.drop i)=if NN[i].w.toList == w.toList then some NN[i] else lkN w (NN.drop (i+1)):=λi h=>by rw [ZBy h];rfl
 have he:lkN w (NN.drop NN.length)=none:=by rw [ZCz];rfl
 have mN:=Za8 hN;simp only [Ent.sh] at mN;generalize NN.map Kn.av=M at *;refine Za5 func183 rfl ntmps183 results183 call183 zr zs ?_;simp only [AV.shL,AV.sh];(focus (refine wkad (w_3 mN hll @Zaj) w_t w_t ?_;(repeat' first|exact w_t|apply w_l);all_goals intros));rename_i g2 g4;refine Zab (ι:=Nat) (λi e m=>i≤NN.length∧lkN w NN=lkN w (NN.drop i)∧e 1=strA w∧e 8=.own (KN+1000) c∧e 9=iv NN.length∧e 10=iv i∧e 4=.pbox 4 g4 0∧m 4=some (.box g4 196 [strA ByteArray.empty,iv 0,nilS] false)∧m (KN+1000)=some (.row c 196 3 M 0)∧Agr m σ) (λi=>NN.length - i) 0 zr ?_ ?_
 ·rintro i e m ⟨hi,hq,e1,e8,e9,e10,e4,m4,mN,hA⟩
  have hlt:i < NN.length:=by
   refine Nat.lt_of_not_le λh=>?_;have:i=NN.length:=zo;subst this;rw [hk,he] at hq;cases hq
  have gi:=kN i hlt;have hdi:=hd i hlt;clear kN hd he;generalize NN[i]=x at *;obtain⟨xw,xs,xl⟩:=x;simp only at hdi;have gi:M.getD i .u=.agg [strA xw,iv xs,.sl 1 (xl.map iv)]:=gi
  cases hb:(xw.toList == w.toList) with
  | true =>
    rw [hb] at hdi;rw [hk,hdi] at hq;simp only [Zzt,Option.some.injEq] at hq;subst hq;(focus (refine wkad (w_10 e1 e8 e9 e10 e4 m4 mN gi hll hb) w_t w_t ?_;(repeat' first|exact w_t|apply w_l);all_goals intros));simp (disch:=omega) only [go_sem,e4];refine Zfq (Sub.refl _) ⟨rfl,rfl⟩ ?_
    (repeat' (first|exact hA|(refine Agr.own ?_ zo)))
  | false =>
    rw [hb] at hdi;(focus (refine wkad (w_10 e1 e8 e9 e10 e4 m4 mN gi hll hb) w_t w_t ?_;(repeat' first|exact w_t|apply w_l);all_goals intros));exact⟨i+1,⟨zo,by rw [hq,hdi];rfl,gW e1,gW e8,gW e9,gS,gW e4,gW m4,by(simp (disch:=omega) only [go_sem,mN]<;>repeat' first|rfl|refine⟨?_,?_⟩),by(repeat' (first|exact hA|(refine Agr.own ?_ zo)))⟩,zo⟩
 ·exact⟨Zzb _,rfl,gC,gC,gW hll,gC,gC,gC,by(simp (disch:=omega) only [go_sem,mN]<;>repeat' first|rfl|refine⟨?_,?_⟩),by(repeat' (first|exact Agr.start σ|(refine Agr.own ?_ zo)))⟩
theorem rxValL (KS KG KN:Nat) (a b c:Value) (NN:List Kn) (x:Exq) (nm:ByteArray) (k:Kn) (hx:x.k=1) (hk:lkN x.nm NN=some k) (hl:NN.length≤1000):RdC prog [(KN,knR c NN)] 139 [stA KS KG KN a b c,x.av,strA nm] (.tup [stA KS KG KN a b c,.sl 1 (k.l.map iv)]):=by
 intro σ hL;have hN:σ KN=some (knR c NN):=hL.1;have mN:=Za8 hN;simp only [Ent.sh] at mN;have cL:=rxLook (KS+1000) (KG+1000) (KN+1000) a b c NN x.nm k hk hl;obtain⟨xk,xn,xl,xp⟩:=x;obtain⟨kw,ks,kl⟩:=k;simp only at *;subst hx;refine Za5 func139 rfl ntmps139 results139 call139 zr zs ?_;simp only [AV.shL,AV.sh];have hLs:∀m:Mem,m (KN+1000)=some (knR c NN)→hasAll m [(KN+1000,knR c NN)]:=λm h=>⟨h,trivial⟩;(focus (refine wkax (w_2 mN @Zaj) w_t (w_1 (w_d 2 [(4,.agg [strA kw,iv ks,.sl 1 (kl.map iv)])] [] [6])) w_t w_t (w_1 cL) w_y (w_r 0) ?_;(repeat' first|exact w_t|apply w_l);all_goals intros))
 simp (disch:=omega) only [go_sem];refine Zfq (Zjd (Zez _ _ _ _ _ _ _ _ _) (Sub.refl _)) ⟨rfl,rfl⟩ ?_
 (repeat' (first|exact Agr.start σ|(refine Agr.own ?_ zo)))
def catN (V:List (List Int)):Nat→List Int
 | 0=>[]
 | q+1=>catN V q++V.getD q []
theorem rxNumL (σ:Mem) (KS KG KN KA:Nat) (a b c:Value) (NN:List Kn) (x:Exq) (V:List (List Int)) (hN:σ KN=some (knR c NN)) (hA:KA≠KN) (hl:NN.length≤1000) (hl2:x.l.length≤10) (hb:∀q,(catN V q).length≤100)
 (hx:∀q,q < x.l.length→∃y:Exq,∃k:Kn,x.l.getD q .u=y.av∧y.k=1∧lkN y.nm NN=some k∧V.getD q []=k.l∧k.l.length≤100) :
 ACall prog 137 [stA KS KG KN a b c,x.av] σ λr σ'=>∃sv,r=.tup [stA KS KG KN a b c,.own KA sv]∧σ'=upd σ KA (some (.row sv 3 1 ((catN V x.l.length).map iv) 0)):=by
 have mN:=Za8 hN;simp only [Ent.sh] at mN;obtain⟨xk,xn,xl,xp⟩:=x;simp only at hl2 hx;refine Zfk func137 rfl ntmps137 results137 call137 zr zs ?_;simp only [AV.shL,AV.sh];(focus (refine wkad (w_2 mN @Zaj) w_t w_t ?_;(repeat' first|exact w_t|apply w_l);all_goals intros));rename_i g2 g3 g4;refine Zc7 (Frz.nilOwn (d:=6) 306 1 3 (gC)) ?_;refine Zab (ι:=Nat) (λq e m=>q≤xl.length∧(e 2=.pbox 2 g2 0∧m 2=some (.box g2 147 [.own (KS+1000) a,.own (KG+1000) b,.own (KN+1000) c] false))∧(e 4=.pbox 4 g4 0∧m 4=some (.box g4 147 [nilS,nilS,nilS] false))∧e 12=.sl 7 xl∧e 13=iv xl.length∧e 14=iv q∧(∃sv,e 6=.own 306 sv∧m 306=some (.row sv 3 1 ((catN V q).map iv) 0))∧m (KN+1000)=some (knR c NN)∧Agr m σ) (λq=>xl.length - q) 0 zr ?_ ?_
 ·rintro q e m ⟨hq,⟨e2,m2⟩,⟨e4,m4⟩,e12,e13,e14,⟨sv,e6,m6⟩,mN,hAg⟩
  by_cases hlt:q < xl.length
  ·obtain⟨y,k,gq,hy,hk,hv,hkl⟩:=hx q hlt;have cV:=rxValL (KS+1000) (KG+1000) (KN+1000) a b c NN y ⟨#[]⟩ k hy hk hl;have hs:(catN V (q+1)).map iv=(catN V q).map iv++k.l.map iv:=by rw [←hv,←Zzz];rfl
   have hl3:((catN V q).map iv).length≤100:=by rw [Zy3];exact hb q
   have hl4:(k.l.map iv).length≤100:=by rw [Zy3];exact hkl
   have hLs:hasAll m [(KN+1000,knR c NN)]:=⟨mN,trivial⟩;clear hx hv hb;generalize (catN V q).map iv=Z at *;generalize k.l.map iv=W at *;obtain⟨yk,yn,yl,yp⟩:=y;have gq:xl.getD q .u=.agg [iv yk,strA yn,.v (.bool false),nilS,nilS,.sl 7 yl,iv yp]:=gq;(focus (refine wkax (w_13 e2 m2 e4 m4 e12 e13 e14 e6 m6 mN gq hl3 hl4) w_t w_t w_t w_t (w_1 cV) w_y (w_r 0) ?_;(repeat' first|exact w_t|apply w_l);all_goals intros));exact⟨q+1,⟨zo,⟨gW e2,gW m2⟩,⟨gW e4,gW m4⟩,gW e12,gW e13,gS,⟨_,gC,by rw [hs];exact gC⟩,by(simp (disch:=omega) only [go_sem,mN]<;>repeat' first|rfl|refine⟨?_,?_⟩),by(repeat' (first|exact hAg|(refine Agr.own ?_ zo)))⟩,zo⟩
  ·have hqq:q=xl.length:=zo;subst hqq;clear hx;generalize (catN V xl.length).map iv=Z at *;(focus (refine wkad (w_9 e2 m2 e4 m4 e12 e13 e14 e6 m6) w_t w_t ?_;(repeat' first|exact w_t|apply w_l);all_goals intros));simp (disch:=omega) only [go_sem,e4];refine Ziv (σ:=σ) 306 KA zo (Zjd (Zez _ _ _ _ _ _ _ _ _) (Sub.own _ _ _)) ⟨sv,rfl,rfl⟩ (gW m6) ?_;intro k hk hne;simp only [Zal,Zy0 hk] at hne ⊢;have:=hAg k;simp (disch:=omega) only [Zal,Zy0];exact this
 ·exact⟨Zzb _,⟨gC,gC⟩,⟨gC,gC⟩,gC,gC,gC,⟨_,gC,gC⟩,by(simp (disch:=omega) only [go_sem,mN]<;>repeat' first|rfl|refine⟨?_,?_⟩),by(repeat' (first|exact Agr.start σ|(refine Agr.own ?_ zo)))⟩
abbrev stR (a:Value) (SS:List AV):Ent:=.row a 78 6 SS 0
theorem upd_00 (m:Mem) (a b:Nat) (x y:Option Ent) (h1:m a=x) (h2:m b=y):upd (upd m a x) b y=m:=by
 funext j
 simp only [Zal];by_cases h:j=b
 ·rw [Zy1 h,h,h2]
 ·rw [Zy0 h];by_cases h':j=a
  ·rw [Zy1 h',h',h1]
  ·rw [Zy0 h']
theorem upd_22s (m:Mem) (a b:Nat) (x y x' y':Option Ent):upd (upd (upd (upd m a x) b y) a x') b y'=upd (upd m a x') b y':=by
 funext j
 simp only [Zal];by_cases h:j=b
 ·simp only [h,Zzt]
 ·by_cases h':j=a
  ·simp only [h',Zzt,h,Zzp]
  ·simp only [h',Zzt,h,Zzp]
theorem beqN (a b:Nat) (h:a≠b):(a == b)=false:=by simpa using h
abbrev rat0:AV:=.agg [.v (.bool false),nilS,nilS]
theorem rxStep0 (σ:Mem) (KS KG KN:Nat) (a b c:Value) (SS:List AV) (k:Int) (nm:ByteArray) (hS:σ KS=some (stR a SS)) (hl:SS.length≤100) :
 ACall prog 136 [stA KS KG KN a b c,iv k,strA nm,rat0,nilS] σ λr σ'=>∃sv,r=.tup [stA KS KG KN sv b c,iv SS.length]∧σ'=upd σ KS (some (stR sv (SS++[.agg [iv k,strA nm,nilS,.v (.bool false),nilS,nilS]]))):=by
 have mS:=Za8 hS;simp only [Ent.sh] at mS;have hw:IntKind.i64.wrap (((SS.length+1:Nat):Int) - 1)=(SS.length:Int):=by rw [Zdl zo zo];omega
 have hcc:(KS+1000 == 10)=false:=beqN _ _ zo;refine Za5 func136 rfl ntmps136 results136 call136 zr zs ?_;simp only [AV.shL,AV.sh];(focus (refine wkad (w_6 mS @Zaj hl @l_app hw hcc) w_t (w_1 (w_d 2 [] [] [10])) ?_;(repeat' first|exact w_t|apply w_l);all_goals intros));simp (disch:=omega) only [go_sem];rename_i sv;refine Zfq (Zjd (Zez _ _ _ _ _ _ _ _ _) (Sub.refl _)) ⟨sv,rfl,rfl⟩ ?_
 (repeat' (first|exact Agr.start σ|(refine Agr.own ?_ zo)|(refine Agr.put ?_ rfl rfl)))
theorem rxStepO (σ:Mem) (KS KG KN KL:Nat) (a b c sL:Value) (SS:List AV) (k:Int) (nm:ByteArray) (ar:List AV) (hS:σ KS=some (stR a SS)) (hL:σ KL=some (.row sL 3 1 ar 0)) (hK:KL≠KS) (hl:SS.length≤100) :
 ACall prog 136 [stA KS KG KN a b c,iv k,strA nm,rat0,.own KL sL] σ λr σ'=>∃sv,r=.tup [stA KS KG KN sv b c,iv SS.length]∧σ'=upd (upd σ KL (some (.row sL 3 1 ar ar.length))) KS (some (stR sv (SS++[.agg [iv k,strA nm,.sl 1 ar,.v (.bool false),nilS,nilS]]))):=by
 have mS:=Za8 hS;have mL:=Za8 hL;simp only [Ent.sh] at mS mL;have hw:IntKind.i64.wrap (((SS.length+1:Nat):Int) - 1)=(SS.length:Int):=by rw [Zdl zo zo];omega
 have hcc:(KS+1000 == 10)=false:=beqN _ _ zo;refine Za5 func136 rfl ntmps136 results136 call136 zr zs ?_;simp only [AV.shL,AV.sh];(focus (refine wkad (w_7 mS mL @Zaj hl @l_app hw hcc) w_t (w_1 (w_d 2 [] [] [10])) ?_;(repeat' first|exact w_t|apply w_l);all_goals intros));simp (disch:=omega) only [go_sem];rename_i sv;refine Zfq (Zjd (Zez _ _ _ _ _ _ _ _ _) (Sub.refl _)) ⟨sv,rfl,rfl⟩ ?_
 (repeat' (first|exact Agr.start σ|(refine Agr.own ?_ zo)|(refine Agr.put ?_ rfl rfl)|rw [mL]))
theorem rxStepK:Pure prog 222 [iv 14] (iv 7):=by
 refine pI func222 rfl ntmps222 results222 call222 ?_;(focus (refine wkad w_t w_t w_t ?_;(repeat' first|exact w_t|apply w_l);all_goals intros));all_goals exact gL
abbrev elF (nm:ByteArray) (ar:List AV):AV:=.agg [iv 7,strA nm,.sl 1 ar,.v (.bool false),nilS,nilS]
theorem rxPointF (σ:Mem) (KS KG KN KL:Nat) (a b c sL:Value) (SS:List AV) (x:Exq) (nm:ByteArray) (ar:List AV) (hx:x.k=14) (hS:σ KS=some (stR a SS)) (hL:σ KL=some (.row sL 3 1 ar 0)) (hK:KL≠KS) (hl:SS.length≤100) :
 ACall prog 186 [stA KS KG KN a b c,x.av,strA nm,.own KL sL] σ λr σ'=>∃sv,r=.tup [stA KS KG KN sv b c,iv SS.length]∧σ'=upd (upd σ KL (some (.row sL 3 1 ar ar.length))) KS (some (stR sv (SS++[elF nm ar]))):=by
 have mS:=Za8 hS;have mL:=Za8 hL;simp only [Ent.sh] at mS mL;have c1:=rxStepK;obtain⟨xk,xn,xl,xp⟩:=x;simp only at hx;subst hx;refine Za5 func186 rfl ntmps186 results186 call186 zr zs ?_;simp only [AV.shL,AV.sh];(focus (refine wkad (w_3 mS mL @Zaj) (w_1 c1) (w_1 (w_d 15 [(3,iv 7)] [7,10] [])) ?_;(repeat' first|exact w_t|apply w_l);all_goals intros));refine Zcp (rxStepO _ (KS+1000) (KG+1000) (KN+1000) (KL+1000) a b c sL SS 7 nm ar (by(simp (disch:=omega) only [go_sem,mS,Zaj]<;>repeat' first|rfl|refine⟨?_,?_⟩)) (by(simp (disch:=omega) only [go_sem,mL,Zaj]<;>repeat' first|rfl|refine⟨?_,?_⟩)) zo hl) ?_
 intro sv;(focus (refine wkad (w_1 @Zaj) w_t w_t ?_;(repeat' first|exact w_t|apply w_l);all_goals intros));simp (disch:=omega) only [go_sem];refine Zfq (Zjd (Zez _ _ _ _ _ _ _ _ _) (Sub.refl _)) ⟨sv,rfl,rfl⟩ ?_
 (repeat' (first|exact Agr.start σ|(refine Agr.own ?_ zo)|(refine Agr.put ?_ rfl rfl)))
theorem Zlm {m σ:Mem} (hA:Agr m σ) (t:Nat) (x:Option Ent):∀k,k≠t→upd σ t x k≠none→m (k+1000)=(upd σ t x k).map Ent.sh:=λk hk _=>by
 rw [Zal,Zy0 hk];exact hA k
abbrev intR (sv:Value) (l:List Int):Ent:=.row sv 3 1 (l.map iv) 0
theorem rxValN (σ:Mem) (KS KG KN KA:Nat) (a b c:Value) (NN:List Kn) (x:Exq) (nm:ByteArray) (V:List (List Int)) (hx0:x.k=40) (hN:σ KN=some (knR c NN)) (hA:KA≠KN) (hl:NN.length≤1000) (hl2:x.l.length≤10) (hb:∀q,(catN V q).length≤100)
 (hx:∀q,q < x.l.length→∃y:Exq,∃k:Kn,x.l.getD q .u=y.av∧y.k=1∧lkN y.nm NN=some k∧V.getD q []=k.l∧k.l.length≤100) :
 ACall prog 139 [stA KS KG KN a b c,x.av,strA nm] σ λr σ'=>∃sv,r=.tup [stA KS KG KN a b c,.own KA sv]∧σ'=upd σ KA (some (intR sv (catN V x.l.length))):=by
 have mN:=Za8 hN;simp only [Ent.sh] at mN;have hw:=fun(m:Mem) (h:m (KN+1000)=some (knR c NN))=>rxNumL m (KS+1000) (KG+1000) (KN+1000) 700 a b c NN x V h zo hl hl2 hb hx;obtain⟨xk,xn,xl,xp⟩:=x;simp only at hx0 hw;subst hx0;refine Zfk func139 rfl ntmps139 results139 call139 zr zs ?_;simp only [AV.shL,AV.sh];clear hx hb;generalize catN V xl.length=W at *;(focus (refine wkad (w_2 mN @Zaj) w_t w_t ?_;(repeat' first|exact w_t|apply w_l);all_goals intros));refine Zcp (hw _ (by(simp (disch:=omega) only [go_sem,mN,Zaj]<;>repeat' first|rfl|refine⟨?_,?_⟩))) ?_
 intro sv;(focus (refine wkad (w_1 @Zaj) w_t w_t ?_;(repeat' first|exact w_t|apply w_l);all_goals intros));simp (disch:=omega) only [go_sem];refine Ziv (σ:=σ) 700 KA zo (Zjd (Zez _ _ _ _ _ _ _ _ _) (Sub.own _ _ _)) ⟨sv,rfl,rfl⟩ (by(simp (disch:=omega) only [go_sem,Zaj]<;>repeat' first|rfl|refine⟨?_,?_⟩)) (Zlm ?_ _ _)
 (repeat' (first|exact Agr.start σ|(refine Agr.own ?_ zo)))
theorem rxNumF (σ:Mem) (KS KG KN KA:Nat) (a b c:Value) (NN:List Kn) (x y1 y2:Exq) (k1:Kn) (V:List (List Int)) (hN:σ KN=some (knR c NN)) (hA:KA≠KN) (hl:NN.length≤1000) (hx:x.l=[y1.av,y2.av]) (hy1:y1.k=1) (hk1:lkN y1.nm NN=some k1) (hk2:k1.l.length≤100)
 (hy2:y2.k=40) (hl2:y2.l.length≤10) (hb:∀q,(catN V q).length≤100) (hx2:∀q,q < y2.l.length→∃y:Exq,∃k:Kn,y2.l.getD q .u=y.av∧y.k=1∧lkN y.nm NN=some k∧V.getD q []=k.l∧k.l.length≤100) :
 ACall prog 137 [stA KS KG KN a b c,x.av] σ λr σ'=>∃sv,r=.tup [stA KS KG KN a b c,.own KA sv]∧σ'=upd σ KA (some (intR sv (k1.l++catN V y2.l.length))):=by
 have mN:=Za8 hN;simp only [Ent.sh] at mN;have hbl:=hb y2.l.length;have hw:=fun(m:Mem) (h:m (KN+1000)=some (knR c NN))=>rxValN m (KS+1000) (KG+1000) (KN+1000) 701 a b c NN y2 ⟨#[]⟩ V hy2 h zo hl hl2 hb hx2;have cV:=rxValL (KS+1000) (KG+1000) (KN+1000) a b c NN y1 ⟨#[]⟩ k1 hy1 hk1 hl;obtain⟨xk,xn,xl,xp⟩:=x;simp only at hx;subst hx;have e1:((k1.l++catN V y2.l.length).map iv)=k1.l.map iv++(catN V y2.l.length).map iv:=Zzz;have h1:(k1.l.map iv).length≤100:=by rw [Zy3];exact hk2
 have h2:((catN V y2.l.length).map iv).length≤100:=by rw [Zy3];exact hbl
 clear hx2 hb hbl;unfold intR at *;rw [e1];generalize (catN V y2.l.length).map iv=W2 at *;generalize k1.l.map iv=W1 at *;obtain⟨ak,an,al,ap⟩:=y1;obtain⟨bk,bn,bl,bp⟩:=y2;refine Zfk func137 rfl ntmps137 results137 call137 zr zs ?_;simp only [AV.shL,AV.sh];(focus (refine wkad (w_2 mN @Zaj) w_t w_t ?_;(repeat' first|exact w_t|apply w_l);all_goals intros));refine Zc7 (Frz.nilOwn (d:=6) 306 1 3 (gC)) ?_;(focus (refine wkax (w_4 mN @Zaj h1 h2) w_t w_t w_t w_t (w_1 cV) w_y (w_r 3) ?_;(repeat' first|exact w_t|apply w_l);all_goals intros));refine Zcp (hw _ (by(simp (disch:=omega) only [go_sem,mN,Zaj]<;>repeat' first|rfl|refine⟨?_,?_⟩))) ?_
 intro sv;(focus (refine wkax (w_4 mN @Zaj h1 h2) w_t w_t w_t w_t w_t w_y (w_r 3) ?_;(repeat' first|exact w_t|apply w_l);all_goals intros));simp (disch:=omega) only [go_sem];rename_i sv2;refine Ziv (σ:=σ) 306 KA zo (Zjd (Zez _ _ _ _ _ _ _ _ _) (Sub.own _ _ _)) ⟨sv2,rfl,rfl⟩ (by(simp (disch:=omega) only [go_sem,Zaj]<;>repeat' first|rfl|refine⟨?_,?_⟩)) (Zlm ?_ _ _)
 (repeat' (first|exact Agr.start σ|(refine Agr.own ?_ zo)))
theorem rxValF (σ:Mem) (KS KG KN KA:Nat) (a b c:Value) (SS:List AV) (NN:List Kn) (x y1 y2:Exq) (nm:ByteArray) (k1:Kn) (V:List (List Int)) (hx0:x.k=14) (hS:σ KS=some (stR a SS)) (hN:σ KN=some (knR c NN)) (hA:KA≠KN) (hA2:KA≠KS) (hKN:KN≠KS) (hSl:SS.length≤100) (hl:NN.length≤1000) (hx:x.l=[y1.av,y2.av]) (hy1:y1.k=1) (hk1:lkN y1.nm NN=some k1) (hk2:k1.l.length≤100)
 (hy2:y2.k=40) (hl2:y2.l.length≤10) (hb:∀q,(catN V q).length≤100) (hx2:∀q,q < y2.l.length→∃y:Exq,∃k:Kn,y2.l.getD q .u=y.av∧y.k=1∧lkN y.nm NN=some k∧V.getD q []=k.l∧k.l.length≤100) :
 ACall prog 139 [stA KS KG KN a b c,x.av,strA nm] σ λr σ'=>∃sv sA,r=.tup [stA KS KG KN sv b c,.own KA sA]∧σ'=upd (upd σ KS (some (stR sv (SS++[elF nm ((k1.l++catN V y2.l.length).map iv)])))) KA (some (intR sA [(SS.length:Int)])):=by
 have mN:=Za8 hN;have mS:=Za8 hS;simp only [Ent.sh] at mN mS;have hw:=fun(m:Mem) (h:m (KN+1000)=some (knR c NN))=>rxNumF m (KS+1000) (KG+1000) (KN+1000) 700 a b c NN x y1 y2 k1 V h zo hl hx hy1 hk1 hk2 hy2 hl2 hb hx2;clear hx2 hb hx;obtain⟨xk,xn,xl,xp⟩:=x;simp only at hx0;subst hx0;unfold intR at *;generalize (k1.l++catN V y2.l.length).map iv=W at *;have hp:=fun(m:Mem) (sL:Value) (h1:m (KS+1000)=some (stR a SS)) (h2:m 700=some (.row sL 3 1 W 0))=>rxPointF m (KS+1000) (KG+1000) (KN+1000) 700 a b c sL SS ⟨14,xn,xl,xp⟩ nm W rfl h1 h2 zo hSl;refine Zfk func139 rfl ntmps139 results139 call139 zr zs ?_
 simp only [AV.shL,AV.sh];(focus (refine wkad (w_3 mN mS @Zaj) w_t w_t ?_;(repeat' first|exact w_t|apply w_l);all_goals intros));refine Zcp (hw _ (by(simp (disch:=omega) only [go_sem,mN,Zaj]<;>repeat' first|rfl|refine⟨?_,?_⟩))) ?_;intro sv;(focus (refine wkad (w_2 mS @Zaj) w_t w_t ?_;(repeat' first|exact w_t|apply w_l);all_goals intros));refine Zcp (hp _ sv (by(simp (disch:=omega) only [go_sem,mS,Zaj]<;>repeat' first|rfl|refine⟨?_,?_⟩)) (by(simp (disch:=omega) only [go_sem,Zaj]<;>repeat' first|rfl|refine⟨?_,?_⟩))) ?_;intro sv1;(focus (refine wkad (w_1 @Zaj) w_t w_t ?_;(repeat' first|exact w_t|apply w_l);all_goals intros))
 simp (disch:=omega) only [go_sem];rename_i sA;refine Ziv (σ:=σ) 111 KA zo (Zjd (Zez _ _ _ _ _ _ _ _ _) (Sub.own _ _ _)) ⟨sv1,sA,rfl,rfl⟩ (by(simp (disch:=omega) only [go_sem,Zaj]<;>repeat' first|rfl|refine⟨?_,?_⟩)) (Zlm ?_ _ _)
 (repeat' (first|exact Agr.start σ|(refine Agr.own ?_ zo)|(refine Agr.put ?_ rfl rfl)))
abbrev fcA (k:Int) (W:List AV):AV:=.agg [iv k,.sl 1 W,.v (.bool false),nilS,nilS]
theorem rxGoal (x:Exq) (W:List AV) (k:Int) (hk:x.k=k+59) (h1:1≤k) (h2:k≤9) (h3:k≠7):Pure prog 138 [x.av,.sl 1 W] (fcA k W):=by
 obtain⟨xk,xn,xl,xp⟩:=x;simp only at hk;subst hk;have w1:IntKind.i64.wrap (k+59 - 60)=k - 1:=by rw [Zdl zo zo];omega
 have w2:IntKind.i64.wrap (k - 1+1)=k:=by rw [Zdl zo zo];omega
 have hn:¬k+59=66:=zo;refine pI func138 rfl ntmps138 results138 call138 ?_;(focus (refine wkad (w_3 w1 w2 hn) w_t w_t ?_;(repeat' first|exact w_t|apply w_l);all_goals intros));all_goals exact gL
abbrev gaR (b:Value) (GG:List AV):Ent:=.row b 80 5 GG 0
def ptsS (NM:List ByteArray):List AV:=NM.map λw=>.agg [iv 1,strA w,nilS,.v (.bool false),nilS,nilS]
def ptsK (o:Nat) (NM:List ByteArray):Nat→List Kn
 | 0=>[]
 | q+1=>ptsK o NM q++(match NM[q]? with | some w=>[⟨w,1,[((o+q:Nat):Int)]⟩] | none=>[])
theorem Zor {o:Nat} {NM:List ByteArray} {q:Nat} (h:q < NM.length):ptsK o NM (q+1)=ptsK o NM q++[⟨NM[q],1,[((o+q:Nat):Int)]⟩]:=by
 show ptsK o NM q++_=_;rw [Zy4 h]
theorem Zsd {o:Nat} {NM:List ByteArray}:∀q,q≤NM.length→(ptsK o NM q).length=q
 | 0,_=>rfl
 | q+1,h=>by rw [Zor zo,Zzq,Zsd q zo];rfl
theorem rxSt1 (σ:Mem) (KS KG KN:Nat) (a b c:Value) (SS:List AV) (NN:List Kn) (NM:List ByteArray) (p:Int) (hS:σ KS=some (stR a SS)) (hN:σ KN=some (knR c NN)) (hSN:KN≠KS) (hl:SS.length+NM.length≤90) (hl2:NN.length≤90) :
 ACall prog 89 [stA KS KG KN a b c,(Stq.mk 1 NM ⟨0,ByteArray.empty,[],0⟩ p).av] σ λr σ'=>∃sa sc,r=stA KS KG KN sa b sc∧σ'=upd (upd σ KS (some (stR sa (SS++ptsS NM)))) KN (some (knR sc (NN++ptsK SS.length NM NM.length))):=by
 have mN:=Za8 hN;have mS:=Za8 hS;simp only [Ent.sh] at mN mS;have hll:(NM.map strA).length=NM.length:=Zy3 ..;have kM:∀q (h:q < NM.length),(NM.map strA).getD q .u=strA NM[q]:=λq h=>Zac strA h;have hss:∀q (h:q < NM.length),SS++ptsS (NM.take (q+1))=(SS++ptsS (NM.take q))++[.agg [iv 1,strA NM[q],nilS,.v (.bool false),nilS,nilS]]:=λq h=>by unfold ptsS;rw [Zkb h,Zzz,ZAa];rfl
 have hkk:∀q (h:q < NM.length),(NN++ptsK SS.length NM (q+1)).map Kn.av=(NN++ptsK SS.length NM q).map Kn.av++[.agg [strA NM[q],iv 1,.sl 1 [iv ((SS.length+q:Nat):Int)]]]:=λq h=>by rw [Zor h,←ZAa,Zzz];rfl
 have hsl:∀q,q≤NM.length→(SS++ptsS (NM.take q)).length=SS.length+q:=λq h=>by unfold ptsS;rw [Zzq,Zy3,Zzh,ZAy h]
 have hkl:∀q,q≤NM.length→((NN++ptsK SS.length NM q).map Kn.av).length≤1000:=λq h=>by rw [Zy3,Zzq,Zsd q h];omega
 have hs0:SS++ptsS (NM.take 0)=SS:=by unfold ptsS;rw [ZBx,ZAg,ZAh]
 have hk0:NN++ptsK SS.length NM 0=NN:=ZAh _;have hsn:SS++ptsS NM=SS++ptsS (NM.take NM.length):=by rw [ZAw]
 have h00:=upd_00 σ KS KN _ _ hS hN;rw [hsn];show ACall _ _ [.agg [.own KS a,.own KG b,.own KN c],.agg [iv 1,.sl 1 (NM.map strA),iv 0,strA ByteArray.empty,.v (.bool false),nilS,nilS,.sl 7 [],iv 0,iv p]] _ _;generalize NM.map strA=Z at *;refine Za5 func89 rfl ntmps89 results89 call89 zr zs ?_;simp only [AV.shL,AV.sh];(focus (refine wkad (w_4 mN mS @Zaj hll) w_t w_t ?_;(repeat' first|exact w_t|apply w_l);all_goals intros));rename_i g2 g3 g4;refine Zab (ι:=Nat) (λq e m=>q≤NM.length∧e 2=.pbox 2 g2 0∧(e 4=.pbox 4 g4 0∧m 4=some (.box g4 147 [nilS,nilS,nilS] false))∧e 40=.sl 1 Z∧e 41=iv NM.length∧e 42=iv q∧∃sa sc,m 2=some (.box g2 147 [.own (KS+1000) sa,.own (KG+1000) b,.own (KN+1000) sc] false)∧m (KS+1000)=some (stR sa (SS++ptsS (NM.take q)))∧m (KN+1000)=some (knR sc (NN++ptsK SS.length NM q))∧Agr m (upd (upd σ KS (some (stR sa (SS++ptsS (NM.take q))))) KN (some (knR sc (NN++ptsK SS.length NM q))))) (λq=>NM.length - q) 0 zr ?_ ?_
 ·rintro q e m ⟨hq,e2,⟨e4,m4⟩,e40,e41,e42,sa,sc,m2,mS,mN,hAg⟩
  by_cases hlt:q < NM.length
  ·have gq:=kM q hlt;have h1:=hss q hlt;have h2:=hkk q hlt;have h3:=hsl q hq;have h4:=hkl q hq;have hst:=fun(m:Mem) (h:m (KS+1000)=some (stR sa (SS++ptsS (NM.take q))))=>rxStep0 m (KS+1000) (KG+1000) (KN+1000) sa b sc (SS++ptsS (NM.take q)) 1 NM[q] h zo;rw [h3] at hst;clear kM hss hkk hsl hkl hs0 hk0 hsn h00;generalize hSS0:SS++ptsS (NM.take q)=SS0 at *;generalize hw:NM[q]=w at *;have mN:m (KN+1000)=some (.row sc 196 3 ((NN++ptsK SS.length NM q).map Kn.av) 0):=mN;generalize hN0:(NN++ptsK SS.length NM q).map Kn.av=N0 at *;(focus (refine wkad (w_12 e2 m2 e4 m4 e40 e41 e42 mS mN gq hll h4) w_t w_t ?_;(repeat' first|exact w_t|apply w_l);all_goals intros))
   refine Zcp (hst _ (by(simp (disch:=omega) only [go_sem,mS]<;>repeat' first|rfl|refine⟨?_,?_⟩))) ?_;intro sa1;(focus (refine wkad (w_11 e2 m2 e4 m4 e40 e41 e42 mN gq hll h4) w_t w_t ?_;(repeat' first|exact w_t|apply w_l);all_goals intros));rename_i sc1;refine⟨q+1,⟨zo,gW e2,⟨gW e4,gW m4⟩,gW e40,gW e41,gS,sa1,sc1,gC,by rw [h1];(simp (disch:=omega) only [go_sem,Zy0,Zy1]<;>repeat' first|rfl|refine⟨?_,?_⟩),?_,?_⟩,zo⟩
   ·show _=some (Ent.row sc1 196 3 ((NN++ptsK SS.length NM (q+1)).map Kn.av) 0);rw [h2]
    (simp (disch:=omega) only [go_sem,Zy0,Zy1]<;>repeat' first|rfl|refine⟨?_,?_⟩)
   ·rw [←upd_22s σ KS KN (some (stR sa SS0)) (some (knR sc (NN++ptsK SS.length NM q)))];have hg:some (knR sc1 (NN++ptsK SS.length NM (q+1)))=some (Ent.row sc1 196 3 (N0++[.agg [strA w,iv 1,.sl 1 [iv ((SS.length+q:Nat):Int)]]]) 0):=by rw [←h2]
    rw [hg,h1]
    (repeat' (first|exact hAg|(refine Agr.own ?_ zo)|(refine Agr.put ?_ rfl rfl)))
  ·have hqq:q=NM.length:=zo;subst hqq;clear kM hss hkk hsl hkl;(focus (refine wkad (w_7 e2 m2 e4 m4 e40 e41 e42) w_t w_t ?_;(repeat' first|exact w_t|apply w_l);all_goals intros));simp (disch:=omega) only [go_sem,e4];refine Zfq (Zez _ _ _ _ _ _ _ _ _) ⟨sa,sc,rfl,rfl⟩ ?_
   (repeat' (first|exact hAg|(refine Agr.own ?_ zo)))
 ·refine⟨Zzb _,gC,⟨gC,gC⟩,gC,gW hll,gC,a,c,gC,by rw [hs0];(simp (disch:=omega) only [go_sem,mS]<;>repeat' first|rfl|refine⟨?_,?_⟩),by rw [hk0];(simp (disch:=omega) only [go_sem,mN]<;>repeat' first|rfl|refine⟨?_,?_⟩),?_⟩;rw [hs0,hk0,h00]
  (repeat' (first|exact Agr.start σ|(refine Agr.own ?_ zo)))
theorem Znc {P:Program} {f:FuncId} {args:List AV} {e:Nat→AV} {m:Mem} {t d:Nat} {K:St→Prop} {R:AV→Mem→Prop} (c:ACall P f args m R) (h:∀r σ',R r σ'→K ⟨upd e d r,σ'⟩):aRes P t (some d) (.call f args) K ⟨e,m⟩:=c.mono h
theorem r_frzS {P:Program} {n:Nat} {Q:AE→St→Prop} {id:Nat} {ops:Array Oper} {st st':St} (h:Frz n st st') (k:Zaw P 0 n (.region id ops true) Q st'):Zaw P 0 n (.region id ops true) Q st:=λc a w imm hr=>by
 obtain⟨i,h1⟩:=h c a w imm hr;exact k c a w i h1
def StS (KS KG KN:Nat) (SS GG:List AV) (NN:List Kn) (σ:Mem) (r:AV) (σ':Mem):Prop:=∃a b c,r=stA KS KG KN a b c∧σ'=upd (upd (upd σ KS (some (stR a SS))) KG (some (gaR b GG))) KN (some (knR c NN))
theorem upd_3 (m:Mem) (i j k:Nat) (x y z:Option Ent) (h1:j≠i) (h2:j≠k) (hy:m j=y):upd (upd m i x) k z=upd (upd (upd m i x) j y) k z:=by
 funext t
 simp only [Zal];by_cases a:t=k
 ·rw [Zy1 a,Zy1 a]
 ·rw [Zy0 a,Zy0 a];by_cases b:t=j
  ·rw [Zy1 b,b,Zy0 h1,hy]
  ·rw [Zy0 b]
theorem stS1 (σ:Mem) (KS KG KN:Nat) (a b c:Value) (SS GG:List AV) (NN:List Kn) (NM:List ByteArray) (p:Int) (hS:σ KS=some (stR a SS)) (hG:σ KG=some (gaR b GG)) (hN:σ KN=some (knR c NN)) (h1:KN≠KS) (h2:KG≠KS) (h3:KG≠KN) (hl:SS.length+NM.length≤90) (hl2:NN.length≤90) :
 ACall prog 89 [stA KS KG KN a b c,(Stq.mk 1 NM ⟨0,ByteArray.empty,[],0⟩ p).av] σ (StS KS KG KN (SS++ptsS NM) GG (NN++ptsK SS.length NM NM.length) σ) :=
 (rxSt1 σ KS KG KN a b c SS NN NM p hS hN h1 hl hl2).mono λr σ' ⟨sa,sc,e1,e2⟩=>⟨sa,b,sc,e1,by rw [e2];exact upd_3 _ _ _ _ _ _ _ h2 h3 hG⟩
theorem Zrp {m:Mem} {i:Nat} {x:Option Ent} (h:m i=x):upd m i x=m:=by
 funext t
 rw [Zal];split
 ·rename_i e;rw [e,h]
 ·rfl
theorem stS2 (σ:Mem) (KS KG KN:Nat) (a b c:Value) (SS GG:List AV) (NN:List Kn) (x y1 y2:Exq) (nm:ByteArray) (p:Int) (k1:Kn) (V:List (List Int)) (hx0:x.k=14) (hS:σ KS=some (stR a SS)) (hG:σ KG=some (gaR b GG)) (hN:σ KN=some (knR c NN)) (h1:KN≠KS) (h2:KG≠KS) (h3:KG≠KN) (hSl:SS.length≤100) (hl:NN.length≤100) (hx:x.l=[y1.av,y2.av]) (hy1:y1.k=1) (hk1:lkN y1.nm NN=some k1) (hk2:k1.l.length≤100)
 (hy2:y2.k=40) (hl2:y2.l.length≤10) (hb:∀q,(catN V q).length≤100) (hx2:∀q,q < y2.l.length→∃y:Exq,∃k:Kn,y2.l.getD q .u=y.av∧y.k=1∧lkN y.nm NN=some k∧V.getD q []=k.l∧k.l.length≤100) :
 ACall prog 89 [stA KS KG KN a b c,(Stq.mk 2 [nm] x p).av] σ (StS KS KG KN (SS++[elF nm ((k1.l++catN V y2.l.length).map iv)]) GG (NN++[⟨nm,1,[(SS.length:Int)]⟩]) σ):=by
 have mN:=Za8 hN;have mS:=Za8 hS;simp only [Ent.sh] at mN mS;have hw:=fun(m:Mem) (h:m (KS+1000)=some (stR a SS)) (h':m (KN+1000)=some (knR c NN))=>rxValF m (KS+1000) (KG+1000) (KN+1000) 700 a b c SS NN x y1 y2 nm k1 V hx0 h h' zo zo zo hSl zo hx hy1 hk1 hk2 hy2 hl2 hb hx2;have cS:=Zdy 2 1 (.inl ⟨rfl,rfl⟩);have hll:(NN.map Kn.av).length≤100:=by rw [Zy3];exact hl
 have hNe:(NN++[Kn.mk nm 1 [(SS.length:Int)]]).map Kn.av=NN.map Kn.av++[.agg [strA nm,iv 1,.sl 1 [iv SS.length]]]:=by rw [Zzz];rfl
 unfold StS;clear hx2 hb hx;obtain⟨xk,xn,xl,xp⟩:=x;simp only at hx0;subst hx0;unfold intR at hw;generalize (k1.l++catN V y2.l.length).map iv=W at *;unfold knR at *;rw [hNe];generalize NN.map Kn.av=N0 at *;show ACall _ _ [.agg [.own KS a,.own KG b,.own KN c],.agg [iv 2,.sl 1 [strA nm],iv 14,strA xn,.v (.bool false),nilS,nilS,.sl 7 xl,iv xp,iv p]] _ _;refine Za5 func89 rfl ntmps89 results89 call89 zr zs ?_;simp only [AV.shL,AV.sh];(focus (refine wkax (w_3 mN mS @Zaj) w_t (w_1 (w_d 3 [] [7] [])) w_t w_t w_t w_t (w_r 0) ?_;(repeat' first|exact w_t|apply w_l);all_goals intros))
 refine Znc (hw _ (by(simp (disch:=omega) only [go_sem,mS,Zaj]<;>repeat' first|rfl|refine⟨?_,?_⟩)) (by(simp (disch:=omega) only [go_sem,mN,Zaj]<;>repeat' first|rfl|refine⟨?_,?_⟩))) ?_
 rintro _ _ ⟨sv,sA,rfl,rfl⟩
 (focus (refine wkax (w_2 mN @Zaj) w_t w_t w_t w_t w_t w_t (w_r 0) ?_;(repeat' first|exact w_t|apply w_l);all_goals intros));refine r_frzS (Frz.own (d:=5) (k:=700) (sv:=sA) (ty:=3) (mm:=1) (es:=[iv SS.length]) (pub:=0) (gC) (by(simp (disch:=omega) only [go_sem,Zaj]<;>repeat' first|rfl|refine⟨?_,?_⟩))) ?_;(focus (refine wkax (w_3 mN @Zaj hll) (w_1 cS) (w_1 (w_d 4 [(8,iv 1),(11,.sl 3 [.agg [strA nm,iv 1,.sl 1 [iv SS.length]]])] [12,14] [])) w_t w_t w_t w_t (w_r 0) ?_;(repeat' first|exact w_t|apply w_l);all_goals intros));(focus (refine wkad (w_3 mN @Zaj hll) w_t w_t ?_;(repeat' first|exact w_t|apply w_l);all_goals intros))
 simp (disch:=omega) only [go_sem];rename_i sc;refine Zfq (Zez _ _ _ _ _ _ _ _ _) ⟨sv,b,sc,rfl,upd_3 _ _ _ _ _ _ _ h2 h3 hG⟩ ?_
 (repeat' (first|exact Agr.start σ|(refine Agr.own ?_ zo)|(refine Agr.put ?_ rfl rfl)))
theorem stS5 (σ:Mem) (KS KG KN:Nat) (a b c:Value) (SS GG:List AV) (NN:List Kn) (x:Exq) (p k:Int) (V:List (List Int)) (hS:σ KS=some (stR a SS)) (hG:σ KG=some (gaR b GG)) (hN:σ KN=some (knR c NN)) (h1:KN≠KS) (h2:KG≠KS) (h3:KG≠KN) (hGl:GG.length≤100) (hl:NN.length≤100) (hk:x.k=k+59) (hk1:1≤k) (hk2:k≤9) (hk3:k≠7)
 (hl2:x.l.length≤10) (hb:∀q,(catN V q).length≤100) (hx:∀q,q < x.l.length→∃y:Exq,∃k:Kn,x.l.getD q .u=y.av∧y.k=1∧lkN y.nm NN=some k∧V.getD q []=k.l∧k.l.length≤100) :
 ACall prog 89 [stA KS KG KN a b c,(Stq.mk 5 [] x p).av] σ (StS KS KG KN SS (GG++[fcA k ((catN V x.l.length).map iv)]) NN σ):=by
 have mN:=Za8 hN;have mG:=Za8 hG;simp only [Ent.sh] at mN mG;have hw:=fun(m:Mem) (h':m (KN+1000)=some (knR c NN))=>rxNumL m (KS+1000) (KG+1000) (KN+1000) 700 a b c NN x V h' zo zo hl2 hb hx;have cG:=rxGoal x ((catN V x.l.length).map iv) k hk hk1 hk2 hk3;unfold StS;clear hx hb;obtain⟨xk,xn,xl,xp⟩:=x;simp only at hk hw cG;generalize (catN V xl.length).map iv=W at *;show ACall _ _ [.agg [.own KS a,.own KG b,.own KN c],.agg [iv 5,.sl 1 [],iv xk,strA xn,.v (.bool false),nilS,nilS,.sl 7 xl,iv xp,iv p]] _ _;refine Za5 func89 rfl ntmps89 results89 call89 zr zs ?_;simp only [AV.shL,AV.sh]
 (focus (refine wkax (w_3 mN mG @Zaj) w_t w_t w_t w_t w_t w_t (w_r 0) ?_;(repeat' first|exact w_t|apply w_l);all_goals intros));refine Zcp (hw _ (by(simp (disch:=omega) only [go_sem,mN,Zaj]<;>repeat' first|rfl|refine⟨?_,?_⟩))) ?_;intro sA;(focus (refine wkax (w_2 mG @Zaj) w_t w_t w_t w_t w_t w_t (w_r 0) ?_;(repeat' first|exact w_t|apply w_l);all_goals intros));refine r_frzS (Frz.own (d:=5) (k:=700) (sv:=sA) (ty:=3) (mm:=1) (es:=W) (pub:=0) (gC) (by(simp (disch:=omega) only [go_sem,Zaj]<;>repeat' first|rfl|refine⟨?_,?_⟩))) ?_;(focus (refine wkax (w_3 mG @Zaj hGl) (w_1 cG) (w_1 (w_d 15 [(6,fcA k W),(7,.sl 5 [fcA k W])] [8,11] [])) w_t w_t w_t w_t (w_r 0) ?_;(repeat' first|exact w_t|apply w_l);all_goals intros))
 (focus (refine wkad (w_3 mG @Zaj hGl) w_t w_t ?_;(repeat' first|exact w_t|apply w_l);all_goals intros));simp (disch:=omega) only [go_sem];rename_i sb;refine Zfq (σ':=upd (upd (upd σ KS (some (stR a SS))) KG (some (gaR sb (GG++[fcA k W])))) KN (some (knR c NN))) (Zez _ _ _ _ _ _ _ _ _) ⟨a,sb,c,rfl,rfl⟩ ?_;rw [Zrp hS,Zrp (show upd σ KG (some (gaR sb (GG++[fcA k W]))) KN=some (knR c NN) from by rw [Zal,Zy0 (ZBd h3)];exact hN)]
 (repeat' (first|exact Agr.start σ|(refine Agr.own ?_ zo)|(refine Agr.put ?_ rfl rfl)))
theorem rxFigure (x1 x2 x3:Stq) (S1 S2 S3 G1 G2 G3:List AV) (N1 N2 N3:List Kn)
 (cK:Pure prog 88 [.agg [.sl 10 [x1.av,x2.av,x3.av]]] (.tup [iv 0,iv 0]))
 (c1:∀(σ:Mem) a b c,σ 501=some (stR a [])→σ 502=some (gaR b [])→σ 503=some (knR c [])→ACall prog 89 [stA 501 502 503 a b c,x1.av] σ (StS 501 502 503 S1 G1 N1 σ))
 (c2:∀(σ:Mem) a b c,σ 501=some (stR a S1)→σ 502=some (gaR b G1)→σ 503=some (knR c N1)→ACall prog 89 [stA 501 502 503 a b c,x2.av] σ (StS 501 502 503 S2 G2 N2 σ))
 (c3:∀(σ:Mem) a b c,σ 501=some (stR a S2)→σ 502=some (gaR b G2)→σ 503=some (knR c N2)→ACall prog 89 [stA 501 502 503 a b c,x3.av] σ (StS 501 502 503 S3 G3 N3 σ))
 (hS1:S1.length≤40) (hS2:S2.length≤40) (hS3:S3.length≤40) (hG1:G1.length≤8) (hG2:G2.length≤8) (hG3:G3.length≤8) :
 Pure prog 49 [.agg [.sl 10 [x1.av,x2.av,x3.av]]] (.tup [.agg [.sl 6 S3,.sl 5 G3],iv 0,iv 0]):=by
 obtain⟨k1,n1,⟨xk1,xn1,xl1,xp1⟩,p1⟩:=x1;obtain⟨k2,n2,⟨xk2,xn2,xl2,xp2⟩,p2⟩:=x2;obtain⟨k3,n3,⟨xk3,xn3,xl3,xp3⟩,p3⟩:=x3;simp only [Stq.av] at cK c1 c2 c3 ⊢;generalize n1.map strA=M1 at *;generalize n2.map strA=M2 at *;generalize n3.map strA=M3 at *;unfold StS at c1 c2 c3;refine pI func49 rfl ntmps49 results49 call49 ?_;(focus (refine wkad w_t (w_1 cK) w_t ?_;(repeat' first|exact w_t|apply w_l);all_goals intros));refine Zc7 (Frz.nilBox (k:=5) 0 501 6 78 (gC) rfl zo) ?_;refine Zc7 (Frz.nilBox (k:=5) 1 502 5 80 (gC) rfl zo) ?_;refine Zc7 (Frz.nilBox (k:=5) 2 503 3 196 (gC) rfl zo) ?_
 (focus (refine wkax w_t w_t w_t w_t w_t w_t w_t (w_r 4) ?_;(repeat' first|exact w_t|apply w_l);all_goals intros));refine Znc (c1 _ _ _ _ (gC) (gC) (gC)) ?_
 rintro _ _ ⟨a1,b1,d1,rfl,rfl⟩
 (focus (refine wkax (w_2 hS1 hG1) w_t w_t w_t w_t w_t w_t (w_r 4) ?_;(repeat' first|exact w_t|apply w_l);all_goals intros));refine Znc (c2 _ _ _ _ (gC) (gC) (gC)) ?_
 rintro _ _ ⟨a2,b2,d2,rfl,rfl⟩
 (focus (refine wkax (w_2 hS2 hG2) w_t w_t w_t w_t w_t w_t (w_r 4) ?_;(repeat' first|exact w_t|apply w_l);all_goals intros));refine Znc (c3 _ _ _ _ (gC) (gC) (gC)) ?_
 rintro _ _ ⟨a3,b3,d3,rfl,rfl⟩
 (focus (refine wkax (w_2 hS3 hG3) w_t w_t w_t w_t w_t w_t (w_r 4) ?_;(repeat' first|exact w_t|apply w_l);all_goals intros))
 (all_goals (try simp (disch:=omega) only [go_sem,Zy6,Zy2,Zy1,Zy0,Int.reduceAdd,Int.reduceSub,Int.reduceToNat,Zzd]));(all_goals first|done|rfl|(congr 2;first|done|omega|(rw [Zzy];simp only [bool_to_prop,Zzf,Zz4,Zz5,Zz6,Zz7];omega))|skip)
end Go.Proofs.YtjbjejmmnbdbiaaGreat
