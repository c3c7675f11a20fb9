/- Contracts of the functions that the law reaches, and the rules by which they are walked. They say what a call hands back for every input within the bounds that each names; no other condition. -/
import Derived.Test.YtenfejhaohihoaaGreatBv10
set_option linter.unusedSimpArgs false
set_option linter.unusedVariables false
set_option maxRecDepth 20000
set_option maxHeartbeats 16000000
namespace Go.Proofs.YtenfejhaohihoaaGreat
open Go Go.RowKit Go.Pg Go.Pol Go.Proofs.Tryz
attribute [-bool_to_prop] Bool.and_eq_decide Bool.or_eq_decide Bool.decide_beq_decide decide_eq_decide
theorem parM_nx {vs:List Vt} {i:Int} {D:Nat}:NX (parM vs i) D 1 1 1 vs.length:=by
 unfold parM;split
 ·rename_i v h;exact var_nx (Zr1 h)
 ·exact .nil
theorem mild_in {qs:List RQ} {k:Nat} (hs:∀q∈qs,q.lm k) (h:Zxr qs=true):qs.map RQ.av=(qs.map RQ.q).map ratQ∧(∀q∈qs.map RQ.q,Sz q 2)∧qs.length≤12:=by
 unfold Zxr at h;simp only [Zz4,ZAg,ZBy] at h;have key:∀q∈qs,q.av=ratQ q.q∧Sz q.q 2:=λq hq=>by
  have h2:=h.2 q hq;unfold RQ.two at h2;simp only [Zz4,ZAg] at h2;obtain⟨a,b,-,-⟩:=hs q hq;exact RQ.ok_av ⟨a,b,h2.1,h2.2.1⟩ h2.2.2
 refine⟨?_,λq hq=>?_,h.1⟩
 ·rw [List.map_map];exact ZBn λq hq=>(key q hq).1
 ·obtain⟨x,hx,rfl⟩:=List.mem_map.1 hq;exact(key x hx).2
theorem eqE_out {ss:List RS} {i:Nat} (h:ss.length≤i):eqE ss i=[]:=by
 unfold eqE;rw [show ss.getD i RS.zero=RS.zero from by rw [Zzo,ZAr h];rfl];rfl
theorem run_vals {ss:List RS} {gs:List RG} {Vs:List Rat} {L:List PQ} {B:List AV} (R:RunP ss Vs (uN ss) (λi=>(frN ss i).fr) L) (hv:(frN ss ss.length).vs.length≤64) (lV:Vs.length=uN ss ss.length) :
 Pure prog 11 [.agg [.sl 6 (ss.map RS.av),.sl 5 (gs.map RG.av),.sl 2 ((frN ss ss.length).cs.map coA),.sl 3 ((frN ss ss.length).vs.map Vt.av),.v (.slice none 0 0),.v (.slice none 0 0),.v (.slice none 0 0)],.agg [.sl 3 (Vs.map ratQ),.sl 1 B,.sl 6 (L.map PQ.av)]] (.tup [.sl 3 ((vaL ss Vs (uN ss) (λi=>(frN ss i).fr) L ss.length).map ratQ),iv 0]):=by
 have l8:=R.l8;have hl:=R.len;have hp:=Zs6 ss;have r:=Zwp ss gs (frN ss ss.length).cs (frN ss ss.length).vs Vs B L zo zo hl zo (λv hvl hk=>by
  rw [Zqm];have h1:=Zmb (frN ss ss.length).vs (v+1) ((frN ss ss.length).vs.length - (v+1));rw [show v+1+((frN ss ss.length).vs.length - (v+1))=(frN ss ss.length).vs.length by omega,Znc hk,Zz0] at h1;simp only [Zzq,Zzs] at h1;omega) (λv hvl=>by
  have hm:(frN ss ss.length).vs.getD v (0,0,0)∈(frN ss ss.length).vs:=Zay hvl;have h1:=vs_ge ss ss.length _ hm;have h2:=vs_lt ss ss.length _ hm;exact⟨((frN ss ss.length).vs.getD v (0,0,0)).2.1.toNat,zo,zo⟩)
 rw [va_S (u:=uN ss) (nf:=λi=>(frN ss i).fr) rfl (λi h=>uN_at h) (λi _=>rfl) ss.length (Zze _)] at r;exact r
theorem Zp0 {E:Nat→List Po} {p:Po}:∀{n:Nat},p∈hypL E n→∃i,p∈E i
 | 0,h=>by cases h
 | n+1,h=>by
   rcases List.mem_append.1 (show p∈hypL E n++E n from h) with h1 | h1
   ·exact Zp0 h1
   ·exact⟨n,h1⟩
theorem Zp1 {E:Nat→List Po} (h:∀i,(E i).length≤2):∀n,(hypL E n).length≤2*n
 | 0=>by simp [hypL]
 | n+1=>by
   have h1:=Zp1 h n;have h2:=h n;have h3:hypL E (n+1)=hypL E n++E n:=rfl;rw [h3,Zz0];omega
theorem lawVan (ss:List RS) (gs:List RG) (qs:List RQ) (bs:List Bool) (h1:ss.length≤1000000000) (h2:gs.length≤1000000000) (hs:∀s∈ss,s.sm) (hg:∀g∈gs,g.sm) {k:Nat} (hq:∀q∈qs,q.lm k):Pure prog 3 [figA ss gs,.sl 3 (qs.map RQ.av),.sl 1 (bs.map bvA)] (.v (.bool true)):=by
 have cR:=rlRight ss gs h1 h2 hs hg;have lR:=Zxv ss gs h1 h2 hs hg;have cf:=rlFew ss gs cR;have cm:=rhMild qs hq;have lbm:(bs.map bvA).length=bs.length:=Zzg ..
 cases hf:fewB ss gs with
 | false =>
   rw [hf] at cf;exact Zrv ss gs _ _ false _ (.inl rfl) cf cm
 | true =>
   rw [hf] at cf
   cases hm:Zxr qs with
   | false =>
     rw [hm] at cm;exact Zrv ss gs _ _ true false (.inr (.inl rfl)) cf cm
   | true =>
     rw [hm] at cm;by_cases h8:bs.length≤8
     ·obtain⟨hl,he,ok,ht⟩:=few_in hs hf;rw [he] at cR lR;have ro:=rcFrame1 ss gs cR ok;have co:=Ztx ss gs lR ok;obtain⟨hbn,hcb⟩:=Ztw hl ok ht
      have hb:¬(List.range ss.length).any (bigN ss)=true:=by
       rw [List.any_eq_true]
       rintro ⟨j,hj,hb⟩
       rw [hbn j (List.mem_range.1 hj)] at hb;cases hb
      rw [Zzb hb] at ro co;have hv:=Zyj hb;have k1:=hyOf ss gs _ _ (eqE ss) (λi=>by have:=Zym ss i;omega) zo co (λi hi=>hySt hl ok ht hi)
      have hbig:¬(List.range ss.length).any (bigE (eqE ss))=true:=by
       rw [List.any_eq_true]
       rintro ⟨j,hj,hbg⟩
       unfold bigE at hbg;rw [List.any_eq_true] at hbg;obtain⟨p,hp,hd⟩:=hbg;have:=eqE_l4 hl ok ht (List.mem_range.1 hj) p hp;rw [ZAg] at hd;omega
      rw [Zzb hbig] at k1;obtain⟨e1,e2,e3⟩:=mild_in hq hm;rw [e1] at cm ⊢;have cc:=r22Cho ss gs _ _ zo zo ro;rw [Zs6] at cc;have lV:(qs.map RQ.q).length=qs.length:=Zzg ..;generalize qs.map RQ.q=Vs at *;by_cases c1:Vs.length=uN ss ss.length
      ·by_cases c2:bs.length=twoN ss ss.length
       ·rw [←c1,←c2] at cc;rcases at_run hl ok e2 c1 c2 cc with⟨L,R,ca⟩ | ⟨K,e,he,ca⟩
        ·obtain⟨D,d0,dl,hcx⟩:=cs_cx hl ok ht;refine lawVan1 ss gs _ _ _ _ _ _ (hypL (eqE ss) ss.length) hl (by have:=Zp1 (Zym ss) ss.length;omega) zo cf cm ca ro (λi hi=>run_made R ok hi) (run_vals R hv c1) k1 (λi hi=>?_);have hm:=Zzt hi;obtain⟨j,hj⟩:=Zp0 hm;rcases Zzy j ss.length with h | h
         ·have nx:=eqs_nx (hcx _) (hcx _) (hcx _) (hcx _) (hcx _) parM_nx _ hj;have pb:=eqs_pb (hcb _) (hcb _) (hcb _) (hcb _) (hcb _) (Znd _ _) _ hj;have:=(ev_at R d0 dl hv nx pb zo zo).1
          rwa [va_eqs R ok hbn hcb h _ hj] at this
         ·rw [eqE_out h] at hj;cases hj
        ·exact Zrw ss gs _ _ _ _ K e he zo cf cm ca ro
       ·exact Zrw ss gs _ _ _ _ 0 16 zd zo cf cm (r22At1 ss gs _ _ _ _ (.inr ⟨by rw [Zzg];exact c1,by rw [lbm];exact c2⟩) cc) ro
      ·exact Zrw ss gs _ _ _ _ 0 16 zd zo cf cm (r22At1 ss gs _ _ _ _ (.inl (by rw [Zzg];exact c1)) cc) ro
     ·exact Zrv ss gs _ _ true true (.inr (.inr zo)) cf cm
section
variable {N n:Nat} {cs:List AV}
theorem shRatL (h:Zcq prog N n 26 cs):∃rs:List RQ,cs=[.sl 3 (rs.map RQ.av)]∧rs.length≤N∧∀r∈rs,r.lm N:=by
 obtain⟨bs,rfl,hl,hq⟩:=Zc7 (g:=λp:RQ=>[.v (.bool p.s),lim p.l,lim p.d]) (Q:=λp=>p.lm N) underlying26 h λm x hx=>by
  obtain⟨p,rfl,hp⟩:=shRat hx;exact⟨p,rfl,hp⟩
 refine⟨bs,?_,hl,hq⟩;rw [show prog.cellsOf 59=3 from by kernel_rfl];have:(bs.map λb:RQ=>Zdk prog 59 [.v (.bool b.s),lim b.l,lim b.d])=bs.map RQ.av:=ZBn λb _=>Zin underlying59 _;rw [this]
theorem shBools (h:Zcq prog N n 27 cs):∃bs:List Bool,cs=[.sl 1 (bs.map bvA)]∧bs.length≤N:=by
 obtain⟨bs,rfl,hl,hq⟩:=Zc7 (g:=λb:Bool=>[.v (.bool b)]) (Q:=λ_=>True) underlying27 h λm x hx=>by
  obtain⟨b,rfl⟩:=Zl5 underlying4 hx;exact⟨b,rfl,trivial⟩
 refine⟨bs,?_,hl⟩;rw [show prog.cellsOf 4=1 from by kernel_rfl];have:(bs.map λb:Bool=>Zdk prog 4 [.v (.bool b)])=bs.map bvA:=ZBn λb _=>Zgz zk _;rw [this]
end
theorem saidVan (xs:List AV) (h:ShapeL prog 1048576 9 [25,26,27] xs):Pure prog 3 xs (.v (.bool true)):=by
 obtain⟨x,bs,rfl,h1,h⟩:=h.inv;obtain⟨y,bs,rfl,h2,h⟩:=h.inv;obtain⟨z,bs,rfl,h3,h⟩:=h.inv;obtain rfl:=h.inv0;obtain⟨ss,gs,e,hl,kl,hq,kq⟩:=shFigure h1;obtain⟨qs,rfl,hql,hqq⟩:=shRatL h2;obtain⟨bs,rfl,hbl⟩:=shBools h3;rw [e,Zgz zk,Zgz zk];exact lawVan ss gs qs bs zo zo (λs hs=>⟨Zru (hq s hs).1 zd,Zzi (hq s hs).2.1 zd,Zzi (hq s hs).2.2 zd⟩) (λg hg=>⟨Zru (kq g hg).1 zd,Zzi (kq g hg).2 zd⟩) hqq
end Go.Proofs.YtenfejhaohihoaaGreat
