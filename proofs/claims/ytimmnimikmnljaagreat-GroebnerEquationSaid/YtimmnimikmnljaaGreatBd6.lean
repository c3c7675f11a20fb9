/- Contracts of the functions that the law reaches, and the rules by which they are walked. They say what a call hands back for every input within the bounds that each names; no other condition. -/
import Derived.Test.YtimmnimikmnljaaGreatBd5
import Derived.DataElems
import Derived.DataReads
import Derived.Test.YtimmnimikmnljaaGreatRows
set_option linter.unusedSimpArgs false
set_option linter.unusedVariables false
set_option maxRecDepth 20000
set_option maxHeartbeats 16000000
namespace Go.Pg
open Go Go.RowKit
theorem Znd {o:List Nat} {j:Nat} (h:j < o.length) (v:Nat):nv (o.set j v)+65536 ^ j*gN o j=nv o+65536 ^ j*v:=by
 have h1:=Zb3 (o.set j v) (j+1);have h2:=Zb3 o (j+1);rw [Zc5 h] at h1;rw [Zay] at h2
 have h3:(o.set j v).drop (j+1)=o.drop (j+1):=by
  rw [List.drop_set_of_lt (by omega)]
 rw [h3] at h1;omega
theorem Zfh {o:List Nat} {j i v:Nat} (h:j < o.length):gN (o.set j v) i=if i=j then v else gN o i:=by
 unfold gN;rw [List.getD_eq_getElem?_getD,List.getD_eq_getElem?_getD,List.getElem?_set];by_cases hij:j=i
 ·subst hij;simp [h]
 ·simp [hij,Ne.symm hij]
theorem Zqi {o p c g s N x y T B:Nat} (hs:s=c+(g+x*y)) (hN:N+p*g=o+p*(s%65536)) (hv:o+p*c=B+T):N+(p*65536)*(s/65536)=B+(T+p*(x*y)):=by
 have h2:p*(s%65536)+p*65536*(s/65536)=p*s:=by rw [Nat.mul_assoc,←Nat.mul_add,Nat.mod_add_div]
 subst hs;rw [Nat.mul_add,Nat.mul_add] at h2;omega
theorem Zqj (i k x y t:Nat):65536 ^ i*(t+65536 ^ k*y)*x=65536 ^ i*t*x+65536 ^ (i+k)*(x*y):=by
 rw [Nat.mul_add,Nat.add_mul,Nat.pow_add];congr 1;rw [Nat.mul_comm x y];simp only [Nat.mul_assoc]
theorem Zgs (n j:Nat):gN (List.replicate n 0) j=0:=by
 unfold gN;rw [List.getD_eq_getElem?_getD,List.getElem?_replicate];split<;>rfl
theorem Zni {x y:Nat} (hx:x < 65536) (hy:y < 65536):x*y≤4294836225:=Nat.mul_le_mul (show x≤65535 by omega) (show y≤65535 by omega)
theorem shl_32 {x s:Nat} (hs:s < 32) (h:x*2 ^ s < 4294967296):shlI .u32 (x:Int) (s:Int)=((x*2 ^ s:Nat):Int):=by
 unfold shlI
 have e1:min (s:Int).toNat (IntKind.bits .u32)=s:=by
  have:IntKind.bits .u32=32:=rfl;omega
 rw [e1];have e2:(x:Int)*2 ^ s=((x*2 ^ s:Nat):Int):=by rw [Int.natCast_mul,Int.natCast_pow];rfl
 rw [e2];exact Zip (by omega) (by omega)
theorem shl_64 {x s:Nat} (hs:s < 64) (h:x*2 ^ s < 18446744073709551616):shlI .u64 (x:Int) (s:Int)=((x*2 ^ s:Nat):Int):=by
 unfold shlI
 have e1:min (s:Int).toNat (IntKind.bits .u64)=s:=by
  have:IntKind.bits .u64=64:=rfl;omega
 rw [e1];have e2:(x:Int)*2 ^ s=((x*2 ^ s:Nat):Int):=by rw [Int.natCast_mul,Int.natCast_pow];rfl
 rw [e2];exact Zfj (by omega) (by omega)
theorem shl16_32 {x:Nat} (h:x < 65536):shlI .u32 (x:Int) 16=((x*65536:Nat):Int):=shl_32 (s:=16) (by omega) (by omega)
theorem shl16_64 {x:Nat} (h:x < 281474976710656):shlI .u64 (x:Int) 16=((x*65536:Nat):Int):=shl_64 (s:=16) (by omega) (by omega)
theorem shr_32 {x s:Nat} (hs:s < 32):shrI .u32 (x:Int) (s:Int)=((x/2 ^ s:Nat):Int):=by
 unfold shrI
 have e1:min (s:Int).toNat (IntKind.bits .u32)=s:=by
  have:IntKind.bits .u32=32:=rfl;omega
 rw [e1];have e2:((2:Int) ^ s)=((2 ^ s:Nat):Int):=by rw [Int.natCast_pow];rfl
 rw [e2,Int.fdiv_eq_ediv_of_nonneg _ (Int.natCast_nonneg _)];rfl
theorem Zm9 (k:IntKind) {a b:Nat} (ha:a < 2 ^ k.bits) (hb:b < 2 ^ k.bits):orI k (a:Int) (b:Int)=k.wrap ((a ||| b:Nat):Int):=by
 unfold orI
 have f:∀x:Nat,x < 2 ^ k.bits→(BitVec.ofInt k.bits (x:Int)).toNat=x:=by
  intro x hx;rw [BitVec.ofInt_natCast,BitVec.toNat_ofNat,Nat.mod_eq_of_lt hx]
 rw [BitVec.toNat_or,f a ha,f b hb]
theorem Zna {r x s:Nat} (h:x < 2 ^ s):(r*2 ^ s ||| x)=r*2 ^ s+x:=by
 rw [Nat.mul_comm r,Nat.two_pow_add_eq_or_of_lt h]
theorem or16_32 {r x:Nat} (hr:r < 65536) (hx:x < 65536):orI .u32 ((r*65536:Nat):Int) (x:Int)=((r*65536+x:Nat):Int):=by
 rw [Zm9 .u32 (by show _ < 4294967296;omega) (by show _ < 4294967296;omega),Zna (s:=16) hx];exact Zip (by omega) (by omega)
theorem or16_64 {r x:Nat} (hr:r < 281474976710656) (hx:x < 65536):orI .u64 ((r*65536:Nat):Int) (x:Int)=((r*65536+x:Nat):Int):=by
 rw [Zm9 .u64 (by show _ < 18446744073709551616;omega) (by show _ < 18446744073709551616;omega),Zna (s:=16) hx];exact Zfj (by omega) (by omega)
theorem orS_64 {n x s:Nat} (hn:n < 2 ^ s) (hs:s≤48) (hx:x < 65536):orI .u64 (n:Int) ((x*2 ^ s:Nat):Int)=((n+2 ^ s*x:Nat):Int):=by
 have e:(2:Nat) ^ s*65536≤18446744073709551616:=by
  have:(2:Nat) ^ s≤2 ^ 48:=Nat.pow_le_pow_right (by omega) hs;omega
 have h1:x*2 ^ s≤65535*2 ^ s:=Nat.mul_le_mul_right _ (by omega);rw [Zm9 .u64 (by show _ < 18446744073709551616;omega) (by show _ < 18446744073709551616;omega),Nat.or_comm,Zna hn];rw [Zfj (by omega) (by omega),Nat.mul_comm,Nat.add_comm]
theorem or_16 {a b s:Nat} (hs:s≤16) (hb:b < 2 ^ s) (ha:a*2 ^ s < 65536):orI .u16 (b:Int) ((a*2 ^ s:Nat):Int)=((b+a*2 ^ s:Nat):Int):=by
 have e:(2:Nat) ^ s≤2 ^ 16:=Nat.pow_le_pow_right (by omega) hs
 have h3:a*2 ^ s+b < 65536:=by
  have h4:a < 2 ^ (16 - s):=by
   refine Nat.lt_of_mul_lt_mul_right (a:=2 ^ s) ?_;rw [←Nat.pow_add,Nat.sub_add_cancel hs];exact ha
  have h5:(a+1)*2 ^ s≤2 ^ (16 - s)*2 ^ s:=Nat.mul_le_mul_right _ h4;rw [←Nat.pow_add,Nat.sub_add_cancel hs,Nat.add_mul,Nat.one_mul] at h5;omega
 rw [Zm9 .u16 (by show _ < 65536;omega) (by show _ < 65536;omega),Nat.or_comm,Zna hb];rw [wrap_u16 (by omega) (by omega),Nat.add_comm]
attribute [go_sem] shl16_32 shl16_64 or16_32 or16_64
theorem low_mul {x s:Nat} (hs:s≤16):(x*2 ^ s)%65536=(x%2 ^ (16 - s))*2 ^ s:=by
 have:65536=2 ^ (16 - s)*2 ^ s:=by rw [←Nat.pow_add,Nat.sub_add_cancel hs]
 rw [this,Nat.mul_mod_mul_right]
theorem Zm4 (k:Nat):65536 ^ k=2 ^ (16*k):=by rw [Nat.pow_mul]
theorem div_step {a q r d x B:Nat} (hB:B=65536) (h:a=d*q+r):x+B*a=d*((r*B+x)/d+B*q)+(r*B+x)%d:=by
 have h2:=Nat.div_add_mod (r*B+x) d;subst h;have e1:B*(d*q+r)=d*(B*q)+r*B:=by rw [Nat.mul_add,Nat.mul_left_comm,Nat.mul_comm B r]
 have e2:d*((r*B+x)/d+B*q)=d*((r*B+x)/d)+d*(B*q):=Nat.mul_add _ _ _;omega
theorem shr_dig {x y r s:Nat} (hs:s≤16):((x+65536*(y+65536*r))/2 ^ s)%65536=((x+65536*y)/2 ^ s)%65536:=by
 have e0:(65536:Nat)=2 ^ (16 - s)*2 ^ s:=by rw [←Nat.pow_add,Nat.sub_add_cancel hs]
 have e1:x+65536*(y+65536*r)=(x+65536*y)+2 ^ s*(65536*(2 ^ (16 - s)*r)):=by
  have:65536*(65536*r)=2 ^ s*(65536*(2 ^ (16 - s)*r)):=by
   calc 65536*(65536*r)=65536*((2 ^ (16 - s)*2 ^ s)*r):=by rw [←e0]
    _=2 ^ s*(65536*(2 ^ (16 - s)*r)):=by rw [Nat.mul_comm (2 ^ (16 - s)),Nat.mul_assoc,Nat.mul_left_comm]
  rw [Nat.mul_add,this];omega
 rw [e1,Nat.add_mul_div_left _ _ (Nat.two_pow_pos s),Nat.add_mul_mod_self_left]
theorem shr_step {N o k d s:Nat} (h:o=(N/2 ^ s)%65536 ^ k) (hd:d=(N/65536 ^ k/2 ^ s)%65536):o+65536 ^ k*d=(N/2 ^ s)%65536 ^ (k+1):=by
 rw [Nat.pow_succ,Nat.mod_mul,h,hd,Nat.div_div_eq_div_mul,Nat.div_div_eq_div_mul,Nat.mul_comm (2 ^ s)]
theorem Zs5 {l:List Nat} (h:Lm l) (k:Nat):nv l/65536 ^ k=nv (l.drop k):=by
 have h1:=Zb3 l k;have h2:nv (l.take k) < 65536 ^ k:=Nat.lt_of_lt_of_le (Zgz (h.take k)) (Nat.pow_le_pow_right (by omega) (by rw [List.length_take];omega));rw [h1,Nat.add_mul_div_left _ _ (Nat.pow_pos (by omega)),Nat.div_eq_of_lt h2,Nat.zero_add]
theorem Ztv (l:List Nat) (i k:Nat):gN (l.drop i) k=gN l (i+k):=by
 unfold gN;rw [List.getD_eq_getElem?_getD,List.getElem?_drop,←List.getD_eq_getElem?_getD]
theorem kn_init {W V q v1 v2 vl high u2 wl P:Nat} (hP:0 < P) (hV:V=(v1*65536+v2)*P+vl) (hW:W=(high*65536+u2)*P+wl) (hwl:wl < P) (hu2:u2 < 65536) (hv1:0 < v1) (hq:q*V≤W):q≤high/v1:=by
 rw [Nat.le_div_iff_mul_le hv1]
 have h1:q*(v1*65536*P)≤q*V:=by
  refine Nat.mul_le_mul_left _ ?_;rw [hV,Nat.add_mul];omega
 have h2:W < (high+1)*(65536*P):=by
  have h3:(high*65536+u2+1)*P≤((high+1)*65536)*P:=Nat.mul_le_mul_right _ (by omega);rw [Nat.add_mul _ 1 P] at h3;rw [hW,←Nat.mul_assoc];omega
 have h3:(q*v1)*(65536*P) < (high+1)*(65536*P):=by
  have e:(q*v1)*(65536*P)=q*(v1*65536*P):=by simp only [Nat.mul_assoc]
  omega
 have:=Nat.lt_of_mul_lt_mul_right h3;omega
theorem kn_step {W V v1 v2 vl high u2 wl P d r:Nat} (hV:V=(v1*65536+v2)*P+vl) (hW:W=(high*65536+u2)*P+wl) (hwl:wl < P) (hh:high=d*v1+r) (ht:r*65536+u2 < d*v2):W < d*V:=by
 have h1:d*((v1*65536+v2)*P)≤d*V:=Nat.mul_le_mul_left _ (by omega)
 have h2:high*65536+u2+1≤d*(v1*65536+v2):=by
  have e:d*(v1*65536+v2)=d*v1*65536+d*v2:=by rw [Nat.mul_add,Nat.mul_assoc]
  rw [e,hh,Nat.add_mul];omega
 have h3:=Nat.mul_le_mul_right P h2;rw [Nat.add_mul _ 1 P,Nat.mul_assoc d] at h3;omega
theorem kn_exit {W V v1 v2 vl high u2 wl P d r:Nat} (hV:V=(v1*65536+v2)*P+vl) (hvl:vl < P) (hW:W=(high*65536+u2)*P+wl) (hh:high=d*v1+r) (hv1:0 < v1) (hd:d < 65536) (ht:d*v2≤r*65536+u2):d*V < W+V:=by
 have h2:d*(v1*65536+v2)≤high*65536+u2:=by
  have e:d*(v1*65536+v2)=d*v1*65536+d*v2:=by rw [Nat.mul_add,Nat.mul_assoc]
  rw [e,hh,Nat.add_mul];omega
 have h3:=Nat.mul_le_mul_right P h2;have h4:d*vl≤d*P:=Nat.mul_le_mul_left _ (by omega);have h5:d*P < 65536*P:=Nat.mul_lt_mul_of_pos_right hd (by omega)
 have h6:65536*P≤v1*65536*P:=by
  have:1*(65536*P)≤v1*(65536*P):=Nat.mul_le_mul_right _ hv1;rw [Nat.one_mul,←Nat.mul_assoc] at this;exact this
 have h7:v1*65536*P≤V:=by rw [hV,Nat.add_mul];omega
 have e:d*V=d*(v1*65536+v2)*P+d*vl:=by rw [hV,Nat.mul_add,Nat.mul_assoc]
 omega
theorem kn_near {W V d:Nat} (hV:0 < V) (h1:W/V≤d) (h2:d*V < W+V):d=W/V∨d=W/V+1:=by
 have h3:d≤W/V+1:=by
  rcases Nat.lt_or_ge (W/V+1) d with h | h
  ·exfalso;have h4:(W/V+2)*V≤d*V:=Nat.mul_le_mul_right _ h;have h5:=Nat.lt_div_mul_add (a:=W) hV;rw [Nat.add_mul] at h4;omega
  ·exact h
 omega
def len8 (i:Nat):Nat:=if i=0 then 0 else Nat.log2 i+1
def Zes (x:Nat):Nat:=if 256≤x then 8+len8 (x/256) else len8 x
theorem Zjs {i:Nat} (h:i < 256):len8 i≤8∧(0 < i→1≤len8 i):=by
 unfold len8;split
 ·omega
 ·rename_i h0;have:=(Nat.log2_lt h0 (k:=8)).2 h;omega
theorem Zhw {x:Nat} (h:x < 65536):Zes x≤16∧(0 < x→1≤Zes x):=by
 unfold Zes;split
 ·have:=Zjs (i:=x/256) (by omega);omega
 ·have:=Zjs (i:=x) (by omega);omega
theorem shr_8_16 (a:Nat):shrI .u16 (a:Int) 8=((a/256:Nat):Int):=by
 unfold shrI;rw [Int.fdiv_eq_ediv_of_nonneg _ (by decide)];rfl
attribute [go_sem] shr_8_16
theorem o_tab {P:Program} {K:St→Prop} {e:Nat→AV} {m:Mem} {t d x n:Nat} {L:List UInt8} {g:Nat→Nat} (hlen:L.length=n) (htab:((List.range n).all λi=>(L.getD i 0).toNat == g i)=true) (hx:x < n) (h:K ⟨upd e d (.v (.int .u8 (g x:Nat))),m⟩) :
 aRes P t (some d) (.need (0≤(x:Int)∧(x:Int) < (L.length:Int)) (.val (.v (.int .u8 (((L.getD x 0).toNat:Nat):Int))) [])) K ⟨e,m⟩:=by
 refine Zig ⟨by omega,by omega⟩ ?_;have:=List.all_eq_true.1 htab x (List.mem_range.2 hx);rw [beq_iff_eq] at this;rw [this];exact h
theorem Zg7 {α:Type} (f:Nat→α) (k:Nat) (a b:α):upd (upd f k a) k b=upd f k b:=by
 funext j
 simp only [Zaz];split<;>rfl
theorem Zpr {α:Type} {f:Nat→α} {k:Nat} {a:α} (h:f k=a):upd f k a=f:=by
 funext j
 simp only [Zaz];split
 ·subst_vars;rfl
 ·rfl
theorem Zlm {P:Program} {f:FuncId} {args:List AV} {x:AV} {R:AV→Mem→Prop} (h:ACall P f args Zan R) (hR:∀r σ',R r σ'→Zer (marks σ' r.toks) r∧pubV (marks σ' r.toks) r=x):Pure P f args x:=by
 refine⟨h.1,λw imm vs himm hl hr=>?_⟩;have hm:Mx ⟨w.heap.size,w,imm⟩ Zan w imm:=⟨⟨λk e hk=>by simp [Zan] at hk,λk k' e e' b hk=>by simp [Zan] at hk,λad h1=>(himm ad h1).1,λad h1=>(himm ad h1).2⟩,Below.refl _ _,Nat.le_refl _,λ_ h1=>h1,λ_ h1=>.inl h1,λ_ _=>rfl⟩;refine(h.2 _ w imm vs hm hl λj a x h1 h2=>.pure (hr j a x h1 h2)).mono λe w' ⟨r,σ',imm',y,h1,h2,h3,h4,h5⟩=>?_;obtain⟨i2,hm2,hk2⟩:=Zdp r.toks h4;obtain⟨h6,h7⟩:=hR r σ' h2;have h8:=Zhp hm2 (hk2.rs h3) h6;rw [h7] at h8;exact⟨y,i2,h1,h8,hm2.old,λad h9=>⟨hm2.new ad h9,hm2.ok.lt ad h9,hm2.ok.spot ad h9⟩,hm2.below⟩
theorem gN_mid {pre w post:List Nat} {k:Nat} (h:k < w.length):gN (pre++(w++post)) (pre.length+k)=gN w k:=by
 unfold gN;rw [List.getD_eq_getElem?_getD,List.getD_eq_getElem?_getD,List.getElem?_append_right (by omega),Nat.add_sub_cancel_left,List.getElem?_append_left h]
theorem Zse {pre w post:List Nat} {k:Nat} (h:k < w.length) (x:Nat):(pre++(w++post)).set (pre.length+k) x=pre++(w.set k x++post):=by
 rw [List.set_append_right _ _ (by omega),Nat.add_sub_cancel_left,List.set_append_left _ _ h]
theorem or16_32' {r x:Nat} (hr:r < 65536) (hx:x < 65536):orI .u32 (x:Int) ((r*65536:Nat):Int)=((x+65536*r:Nat):Int):=by
 rw [Zm9 .u32 (by show _ < 4294967296;omega) (by show _ < 4294967296;omega),Nat.or_comm,Zna (s:=16) hx,Zip (by omega) (by omega)];omega
theorem Zod {o N d v p c r w y x r' c1:Nat} (h:o+d*v=N+p*(c+r)) (h1:c1=c+d*y) (h2:x+c1%65536+r=w+65536*r'):(o+p*x)+d*(v+p*y)=(N+p*w)+(p*65536)*(c1/65536+r'):=by
 have e1:p*x+p*(c1%65536)+p*r=p*w+p*65536*r':=by
  rw [←Nat.mul_add,←Nat.mul_add,h2,Nat.mul_add,Nat.mul_assoc]
 have e2:p*(c1%65536)+p*65536*(c1/65536)=p*c1:=by rw [Nat.mul_assoc,←Nat.mul_add,Nat.mod_add_div]
 have e3:p*c1=p*c+d*(p*y):=by rw [h1,Nat.mul_add];congr 1;simp only [Nat.mul_left_comm]
 rw [Nat.mul_add,Nat.mul_add (p*65536)];rw [Nat.mul_add] at h;omega
theorem Zrg {a l s:Nat}:a*2 ^ (16*l+s)=a*2 ^ s*65536 ^ l:=by
 rw [Zm4,Nat.pow_add,Nat.mul_assoc,Nat.mul_comm (2 ^ (16*l))]
theorem Zrh {a l s:Nat}:a/2 ^ (16*l+s)=a/65536 ^ l/2 ^ s:=by
 rw [Zm4,Nat.pow_add,Nat.div_div_eq_div_mul]
theorem nv_top2 {l:List Nat} {n:Nat} (h:l.length=n) (hn:2≤n):nv l=(gN l (n - 1)*65536+gN l (n - 2))*65536 ^ (n - 2)+nv (l.take (n - 2)):=by
 have h1:=Zb3 l (n - 2);rw [Zb5,Zb5,show n - 2+1=n - 1 by omega,show n - 1+1=n by omega,List.drop_eq_nil_of_le (by omega)] at h1;simp only [nv,Nat.mul_zero,Nat.add_zero] at h1;rw [h1,Nat.add_comm,Nat.mul_comm];congr 2;omega
theorem nv_top3 {l:List Nat} {n:Nat} (h:l.length=n+1) (hn:2≤n):nv l=((gN l n*65536+gN l (n - 1))*65536+gN l (n - 2))*65536 ^ (n - 2)+nv (l.take (n - 2)):=by
 have h1:=Zb3 l (n - 2);rw [Zb5,Zb5,Zb5,show n - 2+1=n - 1 by omega,show n - 1+1=n by omega,List.drop_eq_nil_of_le (by omega)] at h1;simp only [nv,Nat.mul_zero,Nat.add_zero] at h1;rw [h1,Nat.add_comm,Nat.mul_comm];congr 2;omega
theorem Zgo {l:List Nat} (h:Lm l) (k:Nat):nv (l.take k) < 65536 ^ k:=Nat.lt_of_lt_of_le (Zgz (h.take k)) (Nat.pow_le_pow_right (by omega) (by rw [List.length_take];omega))
theorem gN_take {l:List Nat} {k i:Nat} (h:i < k):gN (l.take k) i=gN l i:=by
 unfold gN;rw [List.getD_eq_getElem?_getD,List.getElem?_take,if_pos h,←List.getD_eq_getElem?_getD]
theorem Zpk {a b:List Nat} {k:Nat} (h:k < a.length):gN (a++b) k=gN a k:=by
 unfold gN;rw [List.getD_eq_getElem?_getD,List.getElem?_append_left h,←List.getD_eq_getElem?_getD]
theorem top_le {u v:List Nat} {n:Nat} (hu:Lm u) (hv:Lm v) (hvn:v.length=n) (hn:2≤n) (h:nv u < nv v):gN u (n - 1)≤gN v (n - 1):=by
 rcases Nat.lt_or_ge (gN v (n - 1)) (gN u (n - 1)) with h1 | h1
 ·exfalso;have h2:=Zb3 u (n - 1);rw [Zb5] at h2;have h3:=Zb3 v (n - 1);rw [Zb5,show n - 1+1=n by omega,List.drop_eq_nil_of_le (by omega)] at h3;simp only [nv,Nat.mul_zero,Nat.add_zero] at h3;have h4:=Zgo hv (n - 1);have h5:65536 ^ (n - 1)*(gN v (n - 1)+1)≤65536 ^ (n - 1)*gN u (n - 1):=Nat.mul_le_mul_left _ h1;rw [Nat.mul_add,Nat.mul_one] at h5;rw [Nat.mul_add] at h2;generalize 65536 ^ (n - 1)*(65536*nv (u.drop (n - 1+1)))=z at *;omega
 ·exact h1
theorem drop_zero {u v:List Nat} {n:Nat} (hv:Lm v) (hvn:v.length=n) (h:nv u < nv v):nv (u.drop n)=0:=by
 have h1:=Zb3 u n;have h2:=Zgz hv;rw [hvn] at h2;rcases Nat.eq_zero_or_pos (nv (u.drop n)) with h3 | h3
 ·exact h3
 ·have:=Nat.le_mul_of_pos_right (65536 ^ n) h3;omega
theorem subDone {w d V W p b:Nat} (hV:0 < V) (hw:w < p) (hb:b≤1) (h:w+d*V=W+p*b) (hd:d=W/V∨d=W/V+1):(b=0∧d=W/V∧w=W%V)∨(b=1∧d=W/V+1):=by
 have h1:=Nat.div_add_mod W V;have h2:=Nat.mod_lt W hV;rw [Nat.mul_comm] at h1;rcases hd with hd | hd<;>subst hd
 ·have hb0:b=0:=by
   rcases Nat.eq_zero_or_pos b with h3 | h3
   ·exact h3
   ·have:b=1:=by omega
    subst this;omega
  subst hb0;exact .inl ⟨rfl,rfl,by omega⟩
 ·rw [Nat.add_mul,Nat.one_mul] at h
  have hb1:b=1:=by
   rcases Nat.eq_zero_or_pos b with h3 | h3
   ·subst h3;omega
   ·omega
  exact .inr ⟨hb1,rfl⟩
theorem resDone {w w' V W p c:Nat} (hV:0 < V) (hVp:V≤p) (hw:w' < p) (hc:c≤1) (h:w+(W/V+1)*V=W+p*1) (h':w'+p*c=w+V):w'=W%V:=by
 have h1:=Nat.div_add_mod W V;have h2:=Nat.mod_lt W hV;rw [Nat.mul_comm] at h1;rw [Nat.add_mul,Nat.one_mul] at h;rcases Nat.eq_zero_or_pos c with h3 | h3
 ·subst h3;omega
 ·have:c=1:=by omega
  subst this;omega
def Frz (n:Nat) (st st':St):Prop:=∀(c:Cx) (a:Act) (w:World) (imm:Imm),Rel c n st a w imm→∃imm',Rel c n st' a w imm'
theorem Frz.refl (n:Nat) (st:St):Frz n st st:=λc a w imm h=>⟨imm,h⟩
theorem Frz.trans {n:Nat} {s1 s2 s3:St} (h:Frz n s1 s2) (k:Frz n s2 s3):Frz n s1 s3:=λc a w imm h1=>by
 obtain⟨i,h2⟩:=h c a w imm h1;exact k c a w i h2
theorem Frz.own {n:Nat} {e:Nat→AV} {m:Mem} {d k mm pub:Nat} {sv:Value} {ty:TypeId} {es:List AV} (he:e d=.own k sv) (hm:m k=some (.row sv ty mm es pub)):Frz n ⟨e,m⟩ ⟨upd e d (.sl mm es),mark m k⟩:=by
 intro c a w imm h;obtain⟨i,h1,h2⟩:=Zl0 h.mem k;refine⟨i,λt=>?_,h.size,h.defers,h1⟩;have ht:=h2.rs (h.env t);show Rs w i (upd e d (.sl mm es) t) _;rw [Zaz];split
 ·subst_vars
  rw [show(St.mk e m).env t=_ from he] at ht;rw [ht.own_inv];exact .pure (Zp1 (k:=k) (e:=ty) h1 (es:=es) (pub:=es.length) (by simp only [mark,Zaz,if_true,hm,Option.map_some,Ent.mark]) rfl)
 ·exact ht
theorem Frz.nil {n:Nat} {e:Nat→AV} {m:Mem} {d:Nat} (mm:Nat) (he:e d=.v (.slice none 0 0)):Frz n ⟨e,m⟩ ⟨upd e d (.sl mm []),m⟩:=by
 intro c a w imm h;refine⟨imm,λt=>?_,h.size,h.defers,h.mem⟩;have ht:=h.env t;show Rs w imm (upd e d (.sl mm []) t) _;rw [Zaz];split
 ·subst_vars
  rw [show(St.mk e m).env t=_ from he] at ht;rw [ht.v_inv];exact .pure ((Wk.nil mm).rd (.v _))
 ·exact ht
theorem Frz.nilOwn {n:Nat} {e:Nat→AV} {m:Mem} {d:Nat} (t mm:Nat) (ty:TypeId) (he:e d=.v (.slice none 0 0)):Frz n ⟨e,m⟩ ⟨upd e d (.own t (.slice none 0 0)),upd m t (some (.row (.slice none 0 0) ty mm [] 0))⟩:=by
 intro c a w imm h
 have hm:Mx c (upd m t (some (.row (.slice none 0 0) ty mm [] 0))) w imm:=by
  refine(Ze7 h.mem (World.grownBy.refl w none) (by simp) (λ_ _=>rfl) t (.row (.slice none 0 0) ty mm [] 0) ⟨[],World.ownsRow_nil w c.B ty mm,by simp,by simp,by simp [flat],by simp,λad _ h2=>by simp [Value.ownBlock] at h2,λg off h1 _=>by simp [Value.ownBlock] at h1⟩ λj e2 b _ _ _=>⟨by simp,by simp [Ent.blk,Value.ownBlock]⟩).1
 refine⟨imm,λx=>?_,h.size,h.defers,hm⟩;have ht:=h.env x;show Rs w imm (upd e d (.own t (.slice none 0 0)) x) _;rw [Zaz];split
 ·subst_vars
  rw [show(St.mk e m).env x=_ from he] at ht;rw [ht.v_inv];exact .own _ _ rfl
 ·exact ht
section
variable {P:Program} {n:Nat} {Q:AE→St→Prop} {e:Nat→AV} {m:Mem}
theorem Ze5 {body:Code} {st st':St} (h:Frz n st st') (k:Za8 P 0 n (.loop body) Q st'):Za8 P 0 n (.loop body) Q st:=λc a w imm hr=>by
 obtain⟨i,h1⟩:=h c a w imm hr;exact k c a w i h1
theorem r_loopF {ι:Type} {body:Code} (I:ι→(Nat→AV)→Mem→Prop) (μ:ι→Nat) (i:ι) (hf:Zbx n body=true)
 (round:∀i e m,I i e m→Za8 P 0 n body (AE.then (λst'=>∃i' st'',Frz n st' st''∧I i' st''.env st''.mem∧μ i' < μ i) Q) ⟨e,m⟩) (h0:I i e m):Za8 P 0 n (.loop body) Q ⟨e,m⟩:=by
 intro c a w imm hr b k cs;have key:∀m i st a w imm,μ i=m→I i st.env st.mem→Rel c n st a w imm →
  ∃e a' w',post c n Q e a' w'∧Arrives P (lone (b.at a (.code body :: .inLoop body :: k)) cs w) b k cs e a' w':=by
  intro m
  induction m using Nat.strongRecOn with
  | _ m ih =>
    intro i st a w imm hm hI hr;obtain⟨e,a₁,w₁,hq,harr⟩:=Zb6 body _ st hf (round i st.env st.mem hI) c a w imm hr b (.inLoop body :: k) cs;obtain⟨ae,st',imm',rfl,h2,h3⟩:=hq
    cases ae with
    | normal =>
      obtain⟨i',st'',hF,hI',hlt⟩:=h2;obtain⟨imm2,h4⟩:=hF c a₁ w₁ imm' h3;obtain⟨e₂,a₂,w₂,hq₂,harr₂⟩:=ih (μ i') (hm ▸ hlt) i' st'' a₁ w₁ imm2 rfl hI' h4;exact⟨e₂,a₂,w₂,hq₂,.of_steps (Steps.trans harr (.one step_inLoop)) harr₂⟩
    | exit id=>exact⟨_,a₁,w₁,⟨.exit id,st',imm',rfl,h2,h3⟩,.pass (x:=.inLoop body) rfl (λ_ _=>.inl (by simp [AE.to])) harr⟩
    | ret=>exact⟨_,a₁,w₁,⟨.ret,st',imm',rfl,h2,h3⟩,.pass (x:=.inLoop body) rfl (λ_ _=>.inl (by simp [AE.to])) harr⟩
 obtain⟨e₁,a',w',hq,harr⟩:=key _ i ⟨e,m⟩ a w imm rfl h0 hr;exact⟨e₁,a',w',hq,.of_steps (.one step_loop) harr⟩
end
attribute [go_sem] List.getElem?_toArray
section
def Zf0 (P:Program) (t:TypeId):Bool:=match P.underlying t with
 | some (.struct _)=>true
 | _=>false
def Zdf (P:Program) (t:TypeId) (aS:List AV):AV:=if Zf0 P t then .agg aS else aS.headD .u
def Zc1 (P:Program) (N:Nat):Nat→TypeId→List AV→Prop
 | 0,_,_=>False
 | n+1,t,aS=>match P.underlying t with
   | some .bool=>∃b,aS=[.v (.bool b)]
   | some (.int k)=>∃i,aS=[.v (.int k i)]∧(Lit.int k i).wf=true
   | some .string=>∃s:ByteArray,aS=[.v (.string s)]∧s.size≤N
   | some (.slice e)=>∃es:List (List AV),aS=[.sl (P.cellsOf e) (es.map (Zdf P e))]∧es.length≤N∧∀x∈es,Zc1 P N n e x
   | some (.struct fs)=>aS.length=P.cellsOf t∧∀f∈fs.toList,Zc1 P N n f.type ((aS.drop f.offset).take (P.cellsOf f.type))
   | _=>False
def Zfx (P:Program) (total:Nat):Nat→List Field→Bool
 | off,[]=>off == total
 | off,f :: fs=>f.offset == off && Zfx P total (off+P.cellsOf f.type) fs
def Zdc (P:Program):Nat→TypeId→Bool
 | 0,_=>false
 | n+1,t=>match P.underlying t with
   | some .bool | some (.int _) | some .string=>P.cellsOf t == 1
   | some (.slice e)=>P.cellsOf t == 1 && Zdc P n e
   | some (.struct fs)=>Zfx P (P.cellsOf t) 0 fs.toList && fs.toList.all λf=>Zdc P n f.type
   | _=>false
mutual
def bulk {H:Type}:DataW H→Nat
 | .lit (.string bytes)=>bytes.length+1
 | .lit _=>1
 | .nil=>1
 | .ptr d=>bulk d+1
 | .slice elems spare=>Zd0 elems+Zd0 spare+1
 | .agg parts=>Zd0 parts+1
 | .iface _ d=>bulk d+1
 | .map entries=>Zka entries+1
 | .held _=>1
def Zd0 {H:Type}:List (DataW H)→Nat
 | []=>0
 | d :: r=>bulk d+Zd0 r
def Zka {H:Type}:List (Lit × DataW H)→Nat
 | []=>0
 | x :: r=>Zt9 x+Zka r
def Zt9 {H:Type}:Lit × DataW H→Nat
 | (.string bytes,d)=>bytes.length+bulk d+1
 | (_,d)=>bulk d+1
end
theorem bulk_pos {H:Type} (d:DataW H):1≤bulk d:=by
 unfold bulk;split<;>omega
theorem Zmk {H:Type} {d:DataW H}:∀{l:List (DataW H)},d∈l→bulk d≤Zd0 l
 | e :: r,h=>by
   unfold Zd0;rcases List.mem_cons.1 h with rfl | h
   ·omega
   ·have:=Zmk h;omega
theorem Zqx {H:Type}:∀(l:List (DataW H)),l.length≤Zd0 l
 | []=>Nat.le_refl _
 | e :: r=>by
   unfold Zd0;have:=Zqx r;have:=bulk_pos e;simp only [List.length_cons];omega
def Zk7 {H:Type} (N:Nat) (d:DataW H):Prop:=maxLen≤N∨bulk d≤N
def Cs (w:World) (aS:List AV) (cs:List Value):Prop:=aS.length=cs.length∧∀(j:Nat) (a:AV) (x:Value),aS[j]?=some a→cs[j]?=some x→Rd w (imm0 w) a x
theorem Cs.nil {w:World}:Cs w [] []:=⟨rfl,λj a x h=>by simp at h⟩
theorem Cs.one {w:World} {a:AV} {x:Value} (h:Rd w (imm0 w) a x):Cs w [a] [x]:=by
 refine⟨rfl,λj b y h1 h2=>?_⟩
 cases j with
 | zero=>simp at h1 h2;subst h1;subst h2;exact h
 | succ j=>simp at h1
theorem Cs.append {w:World} {aS bs:List AV} {cs ds:List Value} (h:Cs w aS cs) (k:Cs w bs ds):Cs w (aS++bs) (cs++ds):=by
 refine⟨by simp [h.1,k.1],λj a x h1 h2=>?_⟩;by_cases hj:j < aS.length
 ·rw [List.getElem?_append_left hj] at h1;rw [List.getElem?_append_left (by rw [←h.1];exact hj)] at h2;exact h.2 j a x h1 h2
 ·rw [List.getElem?_append_right (by omega)] at h1;rw [List.getElem?_append_right (by rw [←h.1];omega),←h.1] at h2;exact k.2 _ a x h1 h2
theorem mapM_inv {α β:Type} {f:α→Option β}:∀{l:List α} {r:List β},l.mapM f=some r→∀x∈l,∃y,f x=some y:=by
 intro l r h x hx;obtain⟨i,hi,rfl⟩:=List.mem_iff_getElem.1 hx;have h1:=mapM_some_get h i l[i] (List.getElem?_eq_getElem hi);have h2:=mapM_some_length h;exact⟨r[i]'(by omega),by rw [h1,List.getElem?_eq_getElem (by omega)]⟩
theorem Zj8 {α:Type} {Q:Nat→α→Prop}:∀{n:Nat},(∀i,i < n→∃a,Q i a)→∃l:List α,l.length=n∧∀(i:Nat) (h:i < l.length),Q i l[i]
 | 0,_=>⟨[],rfl,λi h=>by simp at h⟩
 | n+1,h=>by
   obtain⟨l,hl,hq⟩:=Zj8 (n:=n) λi hi=>h i (by omega);obtain⟨a,ha⟩:=h n (by omega);refine⟨l++[a],by simp [hl],λi hi=>?_⟩;rw [List.length_append,hl] at hi;by_cases hj:i < n
   ·rw [List.getElem_append_left (by omega)];exact hq i (by omega)
   ·have:i=n:=by simp at hi;omega
    subst this;rw [List.getElem_append_right (by omega)]
    simpa [hl] using ha
theorem Zi4 (P:Program) (N:Nat):∀(n:Nat) (t:TypeId) (aS:List AV),Zdc P n t=true→Zc1 P N n t aS→aS.length=P.cellsOf t∧(Zdf P t aS).cells=aS∧(Zf0 P t=false→∃a,aS=[a])
 | 0,_,_,h,_=>by simp [Zdc] at h
 | n+1,t,aS,hp,hs=>by
   unfold Zdc at hp;unfold Zc1 at hs
   have one:∀a:AV,aS=[a]→P.cellsOf t=1→Zf0 P t=false→a.cells=[a]→aS.length=P.cellsOf t∧(Zdf P t aS).cells=aS∧(Zf0 P t=false→∃a,aS=[a]):=by
    intro a ha h1 h2 h3;subst ha;refine⟨by simp [h1],?_,λ_=>⟨a,rfl⟩⟩;unfold Zdf;rw [h2];exact h3
   split at hs
   ·rename_i hu;rw [hu] at hp;obtain⟨b,rfl⟩:=hs;exact one _ rfl (by simpa using hp) (by simp [Zf0,hu]) rfl
   ·rename_i hu;rw [hu] at hp;obtain⟨b,rfl,_⟩:=hs;exact one _ rfl (by simpa using hp) (by simp [Zf0,hu]) rfl
   ·rename_i hu;rw [hu] at hp;obtain⟨b,rfl,_⟩:=hs;exact one _ rfl (by simpa using hp) (by simp [Zf0,hu]) rfl
   ·rename_i e hu;rw [hu] at hp;obtain⟨es,rfl,_⟩:=hs;simp only [Bool.and_eq_true,beq_iff_eq] at hp;exact one _ rfl hp.1 (by simp [Zf0,hu]) rfl
   ·rename_i fs hu;have ha:Zf0 P t=true:=by simp [Zf0,hu]
    refine⟨hs.1,?_,λh=>by rw [ha] at h;cases h⟩;unfold Zdf;rw [if_pos ha];rfl
   ·exact hs.elim
section
variable {H:Type} {enc:TypeId × Value→H} {P:Program} {w:World} {spare:Nat→Bool} {held:Bool}
theorem Zii {N n fuel total:Nat} {cs:List Value}
 (ih:∀(t:TypeId) (cs:List Value) (d:DataW H) (ps:List MemPlace),Zdc P n t=true→Zk7 N d→DataW.trod enc P w 0 spare held fuel t cs=some (d,ps)→∃aS,Zc1 P N n t aS∧(∀x∈aS,x.one=true)∧Cs w aS cs) (hcs:cs.length=total) :
 ∀(fs:List Field) (off:Nat) (xs:List (DataW H × List MemPlace)),Zfx P total off fs=true→off≤total→(fs.all λf=>Zdc P n f.type)=true →
  (fs.mapM λf=>DataW.trod enc P w 0 spare held fuel f.type ((cs.drop f.offset).take (P.cellsOf f.type)))=some xs→(∀x∈xs,Zk7 N x.1) →
  ∃aS,(∀x∈aS,x.one=true)∧Cs w aS (cs.drop off)∧∀f∈fs,off≤f.offset∧Zc1 P N n f.type ((aS.drop (f.offset - off)).take (P.cellsOf f.type))
 | [],off,xs,hc,hle,hp,hm,hw=>by
   unfold Zfx at hc;have:off=total:=by simpa using hc
   subst this;refine⟨[],by simp,?_,by simp⟩;rw [List.drop_eq_nil_of_le (by omega)];exact Cs.nil
 | f :: fs,off,xs,hc,hle,hp,hm,hw=>by
   unfold Zfx at hc;simp only [Bool.and_eq_true,beq_iff_eq] at hc;simp only [List.all_cons,Bool.and_eq_true] at hp;obtain⟨ho,hc⟩:=hc;rw [List.mapM_cons] at hm
   cases h1:DataW.trod enc P w 0 spare held fuel f.type ((cs.drop f.offset).take (P.cellsOf f.type)) with
   | none=>rw [h1] at hm;cases hm
   | some x =>
     cases h2:(fs.mapM λf=>DataW.trod enc P w 0 spare held fuel f.type ((cs.drop f.offset).take (P.cellsOf f.type))) with
     | none=>rw [h1,h2] at hm;cases hm
     | some ys =>
       have hxs:xs=x :: ys:=by rw [h1,h2] at hm;simpa using hm.symm
       subst hxs;obtain⟨aS,hs,hone,hcs1⟩:=ih f.type _ x.1 x.2 hp.1 (hw x List.mem_cons_self) h1;have hlen:=(Zi4 P N n f.type aS hp.1 hs).1;have hl2:=hcs1.1;rw [hlen,List.length_take,List.length_drop,ho,hcs] at hl2;obtain⟨bs,bone,hcs2,hbs⟩:=Zii ih hcs fs (off+P.cellsOf f.type) ys hc (by omega) hp.2 h2 (λy hy=>hw y (List.mem_cons_of_mem _ hy));refine⟨aS++bs,λx hx=>(List.mem_append.1 hx).elim (hone x) (bone x),?_,λg hg=>?_⟩
       ·have:=hcs1.append hcs2
        rwa [ho,←List.drop_drop,List.take_append_drop] at this
       ·rcases List.mem_cons.1 hg with rfl | hg
        ·refine⟨by omega,?_⟩;rw [ho,Nat.sub_self,List.drop_zero,←hlen,List.take_left];exact hs
        ·obtain⟨h3,h4⟩:=hbs g hg;refine⟨by omega,?_⟩;rw [show g.offset - off=aS.length+(g.offset - (off+P.cellsOf f.type)) by omega,←List.drop_drop,List.drop_left];exact h4
theorem Zhz {N:Nat}:∀(n fuel:Nat) (t:TypeId) (cs:List Value) (d:DataW H) (ps:List MemPlace),Zdc P n t=true→Zk7 N d→DataW.trod enc P w 0 spare held fuel t cs=some (d,ps) →
 ∃aS,Zc1 P N n t aS∧(∀x∈aS,x.one=true)∧Cs w aS cs
 | 0,_,_,_,_,_,h,_,_=>by simp [Zdc] at h
 | n+1,0,_,_,_,_,_,_,h=>by simp [DataW.trod] at h
 | n+1,fuel+1,t,cs,d,ps,hp,hN,ht=>by
   unfold Zdc at hp;unfold DataW.trod at ht;unfold Zc1
   cases hu:P.underlying t with
   | none=>rw [hu] at hp;cases hp
   | some td =>
     rw [hu] at hp ht
     cases td with
     | bool =>
       rcases cs with _ | ⟨x,_ | ⟨y,r⟩⟩<;>try (simp at ht;done)
       cases x<;>try (simp at ht;done)
       refine⟨_,⟨_,rfl⟩,?_,Cs.one (.v _)⟩;intro x hx;simp at hx;subst hx;rfl
     | int k =>
       rcases cs with _ | ⟨x,_ | ⟨y,r⟩⟩<;>try (simp at ht;done)
       cases x<;>try (simp at ht;done)
       rename_i k' i;simp only at ht;split at ht
       ·rename_i hk;obtain⟨rfl,hw⟩:=hk;refine⟨_,⟨i,rfl,hw⟩,?_,Cs.one (.v _)⟩;intro x hx;simp at hx;subst hx;rfl
       ·cases ht
     | string =>
       rcases cs with _ | ⟨x,_ | ⟨y,r⟩⟩<;>try (simp at ht;done)
       cases x<;>try (simp at ht;done)
       rename_i s;simp only at ht;split at ht
       ·rename_i hs
        have hz:s.size≤N:=by
         rcases hN with h | h
         ·omega
         ·cases ht;unfold bulk at h;have:s.data.toList.length=s.size:=by rw [Array.length_toList];rfl
          omega
        refine⟨_,⟨s,rfl,hz⟩,?_,Cs.one (.v _)⟩;intro x hx;simp at hx;subst hx;rfl
       ·cases ht
     | slice e =>
       simp only [Bool.and_eq_true,beq_iff_eq] at hp;rcases cs with _ | ⟨x,_ | ⟨y,r⟩⟩<;>try (simp at ht;done)
       cases x<;>try (simp at ht;done)
       rename_i A len cap
       cases A with
       | none =>
         have h0:len=0∧cap=0:=by
          simp only at ht;split at ht<;>simp_all
         obtain⟨rfl,rfl⟩:=h0;refine⟨_,⟨[],rfl,by simp,by simp⟩,?_,Cs.one ?_⟩
         ·intro x hx;simp at hx;subst hx;rfl
         ·exact .sl _ [] none 0 (λ_=>undef) (by simp) (by simp) (Nat.le_refl _) (by simp) (by simp) (by simp [flat])
       | some a =>
         simp only at ht;split at ht
         ·rename_i hc;obtain⟨elems,he,ht⟩:=Option.bind_eq_some_iff.1 ht;have hel:elems.length=len:=by have:=mapM_some_length he;simpa using this
          have hd:∃rest:List (DataW H),d=.slice (elems.map (·.1)) rest:=by
           obtain⟨rest,_,hr⟩:=Option.map_eq_some_iff.1 ht;exact⟨rest.map (·.1),(congrArg Prod.fst hr).symm⟩
          obtain⟨rest,rfl⟩:=hd
          have hlN:len≤N:=by
           rcases hN with h | h
           ·omega
           ·unfold bulk at h;have:=Zqx (elems.map (·.1));rw [List.length_map] at this;omega
          have hsub:∀y∈elems,Zk7 N y.1:=by
           intro y hy;rcases hN with h | h
           ·exact .inl h
           ·unfold bulk at h;have:=Zmk (List.mem_map_of_mem (f:=(·.1)) hy);exact .inr (by omega)
          have key:∀i,i < len→∃aS:List AV,Zc1 P N n e aS∧(∀x∈aS,x.one=true)∧∃vals:List Value,Cs w aS vals∧vals.length=P.cellsOf e∧∀j,j < P.cellsOf e→w.cell? (a.add (i*P.cellsOf e+j))=vals[j]?:=by
           intro i hi;obtain⟨y,hy⟩:=mapM_inv he i (List.mem_range.2 hi);obtain⟨vals,hv,ht2⟩:=Option.bind_eq_some_iff.1 hy
           have hye:y∈elems:=by
            have h5:=mapM_some_get he i i (by rw [List.getElem?_range hi]);rw [hy] at h5;exact List.mem_of_getElem? h5.symm
           obtain⟨aS,h1,h2,h3⟩:=Zhz n fuel e vals y.1 y.2 hp.2 (hsub y hye) ht2;unfold World.cells? at hv;rw [if_pos (Nat.zero_le _)] at hv;refine⟨aS,h1,h2,vals,h3,by have:=mapM_some_length hv;simpa using this,λj hj=>?_⟩;have:=mapM_some_get hv j j (by rw [List.getElem?_range hj])
           rwa [Addr.add_add] at this
          obtain⟨es,hes,hq⟩:=Zj8 key
          have hwrap:∀x∈es,(Zdf P e x).cells.length=P.cellsOf e∧(Zdf P e x).cells=x∧(Zdf P e x).ok=true:=by
           intro x hx;obtain⟨i,hi,rfl⟩:=List.mem_iff_getElem.1 hx;obtain⟨h1,h2,_⟩:=hq i hi;obtain⟨k1,k2,k3⟩:=Zi4 P N n e es[i] hp.2 h1;refine⟨by rw [k2];exact k1,k2,?_⟩;unfold Zdf;split
           ·show List.all es[i] AV.one=true;rw [List.all_eq_true];exact h2
           ·rename_i hag;obtain⟨b,hb⟩:=k3 (by simpa using hag);rw [hb];have h4:b.one=true:=h2 b (by rw [hb];simp);show b.ok=true;cases b<;>first|exact h4|cases h4
          have hm:∀x∈es.map (Zdf P e),x.cells.length=P.cellsOf e:=by
           intro x hx;obtain⟨y,hy,rfl⟩:=List.mem_map.1 hx;exact(hwrap y hy).1
          have hcell:∀i j,i < len→j < P.cellsOf e→∃v,w.cell? (a.add (i*P.cellsOf e+j))=some v∧∀b,(flat (es.map (Zdf P e)))[i*P.cellsOf e+j]?=some b→Rd w (imm0 w) b v:=by
           intro i j hi hj;obtain⟨h1,h2,vals,h3,h4,h5⟩:=hq i (by omega);refine⟨vals[j],by rw [h5 j hj,List.getElem?_eq_getElem (by omega)],λb hb=>?_⟩;rw [Ze1 hm i j hj (by rw [List.length_map];omega),List.getD_eq_getElem?_getD,List.getElem?_map,List.getElem?_eq_getElem (by omega:i < es.length),Option.map_some,Option.getD_some,(hwrap _ (List.getElem_mem _)).2.1] at hb;exact h3.2 j b _ hb (List.getElem?_eq_getElem (by omega))
          have hdm:∀j,j < len*P.cellsOf e→j/P.cellsOf e < len∧j%P.cellsOf e < P.cellsOf e∧j/P.cellsOf e*P.cellsOf e+j%P.cellsOf e=j:=by
           intro j hj
           have h0:0 < P.cellsOf e:=by
            rcases Nat.eq_zero_or_pos (P.cellsOf e) with h | h
            ·rw [h] at hj;omega
            ·exact h
           refine⟨Nat.div_lt_of_lt_mul (by rw [Nat.mul_comm];exact hj),Nat.mod_lt _ h0,?_⟩;rw [Nat.mul_comm];exact Nat.div_add_mod _ _
          have hlen:(es.map (Zdf P e)).length=len:=by rw [List.length_map,hes]
          refine⟨_,⟨es,rfl,by omega,λx hx=>?_⟩,?_,Cs.one ?_⟩
          ·obtain⟨i,hi,rfl⟩:=List.mem_iff_getElem.1 hx;exact(hq i hi).1
          ·intro x hx;simp at hx;subst hx;rfl
          ·have:=Rd.sl (w:=w) (imm:=imm0 w) (P.cellsOf e) (es.map (Zdf P e)) (some a) cap (λj=>(w.cell? (a.add j)).getD undef) hm (λx hx=>by
            obtain⟨y,hy,rfl⟩:=List.mem_map.1 hx;exact(hwrap y hy).2.2) (by rw [hlen];exact hc.2.1) (by simp) (λj hj=>by
            rw [hlen] at hj;obtain⟨k1,k2,k3⟩:=hdm j hj;obtain⟨v,hv,_⟩:=hcell _ _ k1 k2;rw [k3] at hv;exact⟨a,rfl,Ztm hv,by rw [hv];rfl⟩) (λj b hb=>by
            have hj:j < len*P.cellsOf e:=by
             have:=Zby hb
             rwa [Zbd hm,hlen] at this
            obtain⟨k1,k2,k3⟩:=hdm j hj;obtain⟨v,hv,hr⟩:=hcell _ _ k1 k2;rw [k3] at hv hr;rw [hv];exact hr b hb)
           rwa [hlen] at this
         ·cases ht
     | struct fs =>
       simp only [Bool.and_eq_true] at hp ⊢;simp only at ht;split at ht
       ·rename_i hlen;obtain⟨xs,hx,hxd⟩:=Option.map_eq_some_iff.1 ht;obtain⟨aS,h1,h2,h3⟩:=Zii (N:=N) (λt cs d ps a b c=>Zhz n fuel t cs d ps a b c) hlen fs.toList 0 xs hp.1 (Nat.zero_le _) hp.2 hx (λx hx=>by
         rcases hN with h | h
         ·exact .inl h
         ·have hd:DataW.agg (xs.map (·.1))=d:=congrArg Prod.fst hxd;subst hd;unfold bulk at h;have:=Zmk (List.mem_map_of_mem (f:=(·.1)) hx);exact .inr (by omega))
        rw [List.drop_zero] at h2;refine⟨aS,⟨by rw [h2.1,hlen],λf hf=>?_⟩,h1,h2⟩;have:=(h3 f hf).2
        rwa [Nat.sub_zero] at this
       ·cases ht
     | _=>cases hp
def ShapeV (P:Program) (N n:Nat) (t:TypeId) (a:AV):Prop:=∃aS,a=Zdf P t aS∧Zc1 P N n t aS
inductive ShapeL (P:Program) (N n:Nat):List TypeId→List AV→Prop
 | nil:ShapeL P N n [] []
 | cons {t:TypeId} {a:AV} {ts:List TypeId} {aS:List AV} (h:ShapeV P N n t a) (r:ShapeL P N n ts aS):ShapeL P N n (t :: ts) (a :: aS)
theorem Zn9 {N n:Nat} {t:TypeId} {v:Value} {d:DataW H} {ps:List MemPlace} (hp:Zdc P n t=true) (hN:Zk7 N d) (h:DataW.Trod enc P w 0 spare held t v d ps) {base:Nat} (hok:Value.okWide P w .any base t v):∃a,ShapeV P N n t a∧Rd w (imm0 w) a v:=by
 obtain⟨fuel,hf⟩:=h;obtain⟨aS,h1,h2,h3⟩:=Zhz n fuel t _ d ps hp hN hf;refine⟨Zdf P t aS,⟨aS,rfl,h1⟩,?_⟩
 cases hag:Zf0 P t with
 | true =>
   unfold Zdf;rw [hag,if_pos rfl]
   obtain⟨cs,rfl⟩:∃cs,v=.agg cs:=by
    unfold Zf0 at hag;split at hag
    ·rename_i fs hu;simp only [Value.okWide,hu] at hok;obtain⟨cs,rfl,_⟩:=hok;exact⟨cs,rfl⟩
    ·cases hag
   refine .agg aS cs ?_ λj a x k1 k2=>h3.2 j a x k1 ?_
   ·have:=h3.1;simpa [Value.cells] using this
   ·simpa [Value.cells] using k2
 | false =>
   obtain⟨a,rfl⟩:=(Zi4 P N n t aS hp h1).2.2 hag;unfold Zdf;rw [hag,if_neg (by simp)];have hl:=h3.1
   have hva:v.cells.toList=[v]:=by
    cases v with
    | agg cs =>
      exfalso
      cases n with
      | zero=>simp [Zdc] at hp
      | succ n =>
        unfold Zdc at hp;unfold Zf0 at hag;simp only [Value.okWide,Cell.okWide,Cell.ok] at hok;split at hp<;>simp_all
    | _=>rfl
   exact h3.2 0 a v rfl (by rw [hva];rfl)
theorem trodAll_shape {N n base:Nat}:∀{ts:List TypeId} {vs:List Value} {ds:List (DataW H)} {ps:List MemPlace},(ts.all λt=>Zdc P n t)=true→(maxLen≤N∨Zd0 ds≤N)→DataW.TrodAll enc P w 0 spare held ts vs ds ps →
 (∀(j:Nat) t v,ts[j]?=some t→vs[j]?=some v→Value.okWide P w .any base t v)→∃aS,ShapeL P N n ts aS∧Rds w aS vs
 | [],[],[],ps,_,_,_,_=>⟨[],.nil,.nil⟩
 | t :: ts,v :: vs,d :: ds,ps,hp,hN,h,hok=>by
   simp only [List.all_cons,Bool.and_eq_true] at hp
   have hN1:Zk7 N d:=by
    rcases hN with h | h
    ·exact .inl h
    ·unfold Zd0 at h;exact .inr (by omega)
   have hN2:maxLen≤N∨Zd0 ds≤N:=by
    rcases hN with h | h
    ·exact .inl h
    ·unfold Zd0 at h;exact .inr (by omega)
   obtain⟨p,q,h1,h2,_⟩:=h;obtain⟨a,k1,k2⟩:=Zn9 hp.1 hN1 h1 (hok 0 t v rfl rfl);obtain⟨aS,k3,k4⟩:=trodAll_shape hp.2 hN2 h2 λj t v e1 e2=>hok (j+1) t v (by simpa using e1) (by simpa using e2);exact⟨a :: aS,.cons k1 k3,.cons k2 k4⟩
 | [],[],_ :: _,_,_,_,h,_=>h.elim
 | [],_ :: _,_,_,_,_,h,_=>h.elim
 | _ :: _,[],_,_,_,_,h,_=>h.elim
 | _ :: _,_ :: _,[],_,_,_,h,_=>h.elim
theorem trodAll_below (hl:laidOutB P=true) {W':World}:∀{ts:List TypeId} {vs:List Value} {ds:List (DataW H)} {ps:List MemPlace},(ts.all λt=>P.readableRec t && decide (t < P.types.size))=true →
 DataW.TrodAll enc P w 0 (λ_=>true) true ts vs ds ps→Below w.heap.size w W'→DataW.TrodAll enc P W' 0 (λb=>decide (b < w.heap.size)) true ts vs ds ps
 | [],[],[],ps,_,h,_=>h
 | t :: ts,v :: vs,d :: ds,ps,hp,h,hb=>by
   simp only [List.all_cons,Bool.and_eq_true,decide_eq_true_eq] at hp;obtain⟨p,q,h1,h2,h3⟩:=h;have lt0:∀x∈p,x.block < w.heap.size:=by obtain⟨m,hm⟩:=h1;exact DataW.trod_lt m _ _ _ hm
   exact⟨p,q,Below.trod hl hp.1.1 hp.1.2 h1 hb lt0,trodAll_below hl hp.2 h2 hb,h3⟩
 | [],[],_ :: _,_,_,h,_=>h.elim
 | [],_ :: _,_,_,_,h,_=>h.elim
 | _ :: _,[],_,_,_,h,_=>h.elim
 | _ :: _,_ :: _,[],_,_,h,_=>h.elim
end
section
variable {P:Program} {N n:Nat} {t e:TypeId} {aS:List AV} {k:IntKind} {fs:Array Field}
theorem Zq5 (hu:P.underlying t=some .bool) (h:Zc1 P N n t aS):∃b,aS=[.v (.bool b)]:=by
 cases n with
 | zero=>exact h.elim
 | succ n=>unfold Zc1 at h;rw [hu] at h;exact h
theorem Zhk (hu:P.underlying t=some (.int k)) (h:Zc1 P N n t aS):∃i,aS=[.v (.int k i)]∧(Lit.int k i).wf=true:=by
 cases n with
 | zero=>exact h.elim
 | succ n=>unfold Zc1 at h;rw [hu] at h;exact h
theorem Zoh (hu:P.underlying t=some (.slice e)) (h:Zc1 P N n t aS):∃(m:Nat) (es:List (List AV)),n=m+1∧aS=[.sl (P.cellsOf e) (es.map (Zdf P e))]∧es.length≤N∧∀x∈es,Zc1 P N m e x:=by
 cases n with
 | zero=>exact h.elim
 | succ n=>unfold Zc1 at h;rw [hu] at h;obtain⟨es,h1,h2,h3⟩:=h;exact⟨n,es,rfl,h1,h2,h3⟩
inductive ShapeF (P:Program) (N m:Nat):List Field→List AV→Prop
 | nil:ShapeF P N m [] []
 | cons {f:Field} {fs:List Field} {x y:List AV} (h:Zc1 P N m f.type x) (r:ShapeF P N m fs y):ShapeF P N m (f :: fs) (x++y)
theorem ShapeF.inv {m:Nat} {f:Field} {fs:List Field} {aS:List AV} (h:ShapeF P N m (f :: fs) aS):∃x y,aS=x++y∧Zc1 P N m f.type x∧ShapeF P N m fs y:=by
 cases h with
 | cons h r=>exact⟨_,_,rfl,h,r⟩
theorem ShapeF.inv0 {m:Nat} {aS:List AV} (h:ShapeF P N m [] aS):aS=[]:=by cases h;rfl
theorem Zmu {m total:Nat}:∀{fs:List Field} {off:Nat} {aS:List AV},Zfx P total off fs=true→off≤total→aS.length=total→(∀f∈fs,Zc1 P N m f.type ((aS.drop f.offset).take (P.cellsOf f.type)))→ShapeF P N m fs (aS.drop off)
 | [],off,aS,hc,_,hl,_=>by
   unfold Zfx at hc;have:off=total:=by simpa using hc
   rw [List.drop_eq_nil_of_le (by omega)];exact .nil
 | f :: fs,off,aS,hc,ho,hl,hf=>by
   unfold Zfx at hc;simp only [Bool.and_eq_true,beq_iff_eq] at hc;have h1:=hf f List.mem_cons_self;rw [hc.1] at h1;rw [←List.take_append_drop (P.cellsOf f.type) (aS.drop off),List.drop_drop];refine .cons h1 ?_;by_cases hle:off+P.cellsOf f.type≤total
   ·exact Zmu hc.2 hle hl λg hg=>hf g (List.mem_cons_of_mem _ hg)
   ·exfalso
    have key:∀(fs:List Field) (off:Nat),Zfx P total off fs=true→off≤total:=by
     intro fs
     induction fs with
     | nil=>intro off h;unfold Zfx at h;have:off=total:=by simpa using h
            omega
     | cons g gs ih=>intro off h;unfold Zfx at h;simp only [Bool.and_eq_true,beq_iff_eq] at h;have:=ih _ h.2;omega
    exact hle (key fs _ hc.2)
theorem Zf2 (hu:P.underlying t=some (.struct fs)) (hc:Zfx P (P.cellsOf t) 0 fs.toList=true) (h:Zc1 P N n t aS):∃m,n=m+1∧ShapeF P N m fs.toList aS:=by
 cases n with
 | zero=>exact h.elim
 | succ n =>
   unfold Zc1 at h;rw [hu] at h;refine⟨n,rfl,?_⟩;have:=Zmu (N:=N) (m:=n) hc (Nat.zero_le _) h.1 h.2
   rwa [List.drop_zero] at this
theorem map_of {α β:Type} {g:β→α} {Q:β→Prop}:∀{l:List α},(∀x∈l,∃b,x=g b∧Q b)→∃bs:List β,l=bs.map g∧∀b∈bs,Q b
 | [],_=>⟨[],rfl,by simp⟩
 | x :: l,h=>by
   obtain⟨b,hb,hq⟩:=h x List.mem_cons_self;obtain⟨bs,hbs,hqs⟩:=map_of (l:=l) λy hy=>h y (List.mem_cons_of_mem _ hy);refine⟨b :: bs,by rw [hb,hbs];rfl,λc hc=>?_⟩;rcases List.mem_cons.1 hc with rfl | hc
   ·exact hq
   ·exact hqs c hc
theorem Zr0 (hu:P.underlying t=some (.struct fs)) (aS:List AV):Zdf P t aS=.agg aS:=by simp [Zdf,Zf0,hu]
theorem Zda (h:Zf0 P t=false) (a:AV):Zdf P t [a]=a:=by simp [Zdf,h]
theorem Zd4 {β:Type} {g:β→List AV} {Q:β→Prop} (hu:P.underlying t=some (.slice e)) (h:Zc1 P N n t aS) (hx:∀m x,Zc1 P N m e x→∃b,x=g b∧Q b) :
 ∃bs:List β,aS=[.sl (P.cellsOf e) (bs.map λb=>Zdf P e (g b))]∧bs.length≤N∧∀b∈bs,Q b:=by
 obtain⟨m,es,rfl,rfl,hl,hs⟩:=Zoh hu h;obtain⟨bs,rfl,hq⟩:=map_of λx hx'=>hx m x (hs x hx');refine⟨bs,by rw [List.map_map];rfl,by simpa using hl,hq⟩
theorem ShapeL.inv {N n:Nat} {t:TypeId} {ts:List TypeId} {aS:List AV} (h:ShapeL P N n (t :: ts) aS):∃x bs,aS=Zdf P t x :: bs∧Zc1 P N n t x∧ShapeL P N n ts bs:=by
 cases h with
 | cons h r=>obtain⟨x,rfl,hx⟩:=h;exact⟨x,_,rfl,hx,r⟩
theorem ShapeL.inv0 {N n:Nat} {aS:List AV} (h:ShapeL P N n [] aS):aS=[]:=by cases h;rfl
theorem wf_u16 {i:Int} (h:(Lit.int .u16 i).wf=true):0≤i∧i < 65536:=by
 have h:(decide ((0:Int)≤i) && decide (i≤65535))=true:=h;simp only [Bool.and_eq_true,decide_eq_true_eq] at h;omega
end
end
mutual
def AV.sh:AV→AV
 | .agg cs=>.agg (AV.shL cs)
 | .tup cs=>.tup (AV.shL cs)
 | .fn f cs=>.fn f (AV.shL cs)
 | .ifc t x=>.ifc t (AV.sh x)
 | .own k sv=>.own (k+1000) sv
 | .prow k sv m i off=>.prow (k+1000) sv m i off
 | .pbox k g off=>.pbox (k+1000) g off
 | .view k sv m i len=>.view (k+1000) sv m i len
 | .mp k g=>.mp (k+1000) g
 | .v x=>.v x
 | .sl m es=>.sl m es
 | .pimm cs=>.pimm cs
 | .u=>.u
def AV.shL:List AV→List AV
 | []=>[]
 | a :: r=>AV.sh a :: AV.shL r
end
theorem AV.shL_len:∀(l:List AV),(AV.shL l).length=l.length
 | []=>rfl
 | a :: r=>by simp only [AV.shL,List.length_cons,AV.shL_len r]
theorem AV.shL_at:∀(l:List AV) (j:Nat),(AV.shL l)[j]?=(l[j]?).map AV.sh
 | [],j=>by simp [AV.shL]
 | a :: r,0=>by simp [AV.shL]
 | a :: r,j+1=>by simp only [AV.shL,List.getElem?_cons_succ];exact AV.shL_at r j
theorem AV.sh_one (a:AV):a.sh.one=a.one:=by cases a<;>simp only [AV.sh]<;>rfl
theorem Sub.agg (aS bs:List AV) (hl:aS.length=bs.length) (h:∀(j:Nat) (a b:AV),aS[j]?=some a→bs[j]?=some b→Sub a b):Sub (.agg aS) (.agg bs):=λw imm x hx=>by
 obtain⟨vs,rfl,h1,h2⟩:=hx.agg_inv;refine .agg _ _ (by omega) λj b y hb hy=>?_;have hj:j < aS.length:=by rw [hl];exact(List.getElem?_eq_some_iff.1 hb).1
 exact h j aS[j] b (List.getElem?_eq_getElem hj) hb w imm y (h2 j aS[j] y (List.getElem?_eq_getElem hj) hy)
theorem Sub.fn (f:FuncId) (aS bs:List AV) (hl:aS.length=bs.length) (h:∀(j:Nat) (a b:AV),aS[j]?=some a→bs[j]?=some b→Sub a b):Sub (.fn f aS) (.fn f bs):=λw imm x hx=>by
 obtain⟨vs,rfl,h1,h2⟩:=hx.fn_inv;refine .fn _ _ _ (by omega) λj b y hb hy=>?_;have hj:j < aS.length:=by rw [hl];exact(List.getElem?_eq_some_iff.1 hb).1
 exact h j aS[j] b (List.getElem?_eq_getElem hj) hb w imm y (h2 j aS[j] y (List.getElem?_eq_getElem hj) hy)
theorem Sub.ifc (t:TypeId) {a b:AV} (h:Sub a b):Sub (.ifc t a) (.ifc t b):=λw imm x hx=>by
 obtain⟨y,rfl,h1⟩:=hx.ifc_inv;exact .ifc _ _ _ (h w imm y h1)
mutual
theorem AV.sub_sh:∀(a:AV),Sub a a.sh∧Sub a.sh a
 | .agg cs=>by
   have h:=AV.subL_sh cs;refine⟨Sub.agg _ _ (AV.shL_len cs).symm λj a b h1 h2=>?_,Sub.agg _ _ (AV.shL_len cs) λj a b h1 h2=>?_⟩
   ·rw [AV.shL_at,h1] at h2;cases h2;exact(h a (List.mem_of_getElem? h1)).1
   ·rw [AV.shL_at,h2] at h1;cases h1;exact(h b (List.mem_of_getElem? h2)).2
 | .tup cs=>by
   have h:=AV.subL_sh cs;refine⟨Sub.tup _ _ (AV.shL_len cs).symm λj a b h1 h2=>?_,Sub.tup _ _ (AV.shL_len cs) λj a b h1 h2=>?_⟩
   ·rw [AV.shL_at,h1] at h2;cases h2;exact(h a (List.mem_of_getElem? h1)).1
   ·rw [AV.shL_at,h2] at h1;cases h1;exact(h b (List.mem_of_getElem? h2)).2
 | .fn f cs=>by
   have h:=AV.subL_sh cs;refine⟨Sub.fn _ _ _ (AV.shL_len cs).symm λj a b h1 h2=>?_,Sub.fn _ _ _ (AV.shL_len cs) λj a b h1 h2=>?_⟩
   ·rw [AV.shL_at,h1] at h2;cases h2;exact(h a (List.mem_of_getElem? h1)).1
   ·rw [AV.shL_at,h2] at h1;cases h1;exact(h b (List.mem_of_getElem? h2)).2
 | .ifc t x=>⟨Sub.ifc t (AV.sub_sh x).1,Sub.ifc t (AV.sub_sh x).2⟩
 | .own k sv=>⟨Sub.own _ _ _,Sub.own _ _ _⟩
 | .prow k sv m i off=>⟨Sub.prow _ _ _ _ _ _,Sub.prow _ _ _ _ _ _⟩
 | .pbox k g off=>⟨Sub.pbox _ _ _ _,Sub.pbox _ _ _ _⟩
 | .view k sv m i len=>⟨Sub.view _ _ _ _ _ _,Sub.view _ _ _ _ _ _⟩
 | .mp k g=>⟨Sub.mp _ _ _,Sub.mp _ _ _⟩
 | .v x=>⟨Sub.refl _,Sub.refl _⟩
 | .sl m es=>⟨Sub.refl _,Sub.refl _⟩
 | .pimm cs=>⟨Sub.refl _,Sub.refl _⟩
 | .u=>⟨Sub.refl _,Sub.refl _⟩
theorem AV.subL_sh:∀(l:List AV) (a:AV),a∈l→Sub a a.sh∧Sub a.sh a
 | [],a,h=>by simp at h
 | b :: r,a,h=>by
   by_cases e:a=b
   ·rw [e];exact AV.sub_sh b
   ·exact AV.subL_sh r a ((List.mem_cons.1 h).resolve_left e)
end
def Ent.sh:Ent→Ent
 | .row sv e m es pub=>.row sv e m es pub
 | .box g e cs pub=>.box g e (AV.shL cs) pub
 | .map g es=>.map g es
theorem Ent.sh_blk (e:Ent):e.sh.blk=e.blk:=by cases e<;>rfl
theorem Ent.sh_ok {B:Nat} {w:World} {imm:Imm} {e:Ent} (h:EntOk B w imm e):EntOk B w imm e.sh:=by
 cases e with
 | row=>exact h
 | box g e cs pub =>
   obtain⟨cur,h1,h2,h3,h4,h5,h6,h7⟩:=h;refine⟨cur,h1,h2,by rw [AV.shL_len];exact h3,λx hx=>?_,λj a x ha hx=>?_,h6,λhp off ho=>h7 hp off (by rw [AV.shL_len] at ho;exact ho)⟩
   ·obtain⟨j,hj⟩:=List.mem_iff_getElem?.1 hx;rw [AV.shL_at] at hj;obtain⟨y,hy,rfl⟩:=Option.map_eq_some_iff.1 hj;rw [AV.sh_one];exact h4 y (List.mem_of_getElem? hy)
   ·rw [AV.shL_at] at ha;obtain⟨y,hy,rfl⟩:=Option.map_eq_some_iff.1 ha;exact(AV.sub_sh y).1 w imm x (h5 j y x hy hx)
 | map=>exact h
theorem Ent.of_sh {B:Nat} {w:World} {imm:Imm} {e:Ent} (h:EntOk B w imm e.sh):EntOk B w imm e:=by
 cases e with
 | row=>exact h
 | box g e cs pub =>
   obtain⟨cur,h1,h2,h3,h4,h5,h6,h7⟩:=h;refine⟨cur,h1,h2,by rw [AV.shL_len] at h3;exact h3,λx hx=>?_,λj a x ha hx=>?_,h6,λhp off ho=>h7 hp off (by rw [AV.shL_len];exact ho)⟩
   ·obtain⟨j,hj⟩:=List.mem_iff_getElem?.1 hx;have h8:=h4 x.sh (List.mem_of_getElem? (i:=j) (by rw [AV.shL_at,hj];rfl));rw [AV.sh_one] at h8;exact h8
   ·exact(AV.sub_sh a).2 w imm x (h5 j a.sh x (by rw [AV.shL_at,ha];rfl) hx)
 | map=>exact h
def Zin (σ:Mem):Mem:=λk=>if k < 1000 then none else (σ (k - 1000)).map Ent.sh
theorem Zcb {σ:Mem} {k:Nat} {e:Ent} (h:σ k=some e):Zin σ (k+1000)=some e.sh:=by
 unfold Zin;rw [if_neg (by omega),Nat.add_sub_cancel,h];rfl
theorem Zcr {σ:Mem} {k:Nat} (h:k < 1000):Zin σ k=none:=by unfold Zin;rw [if_pos h]
def Agr (m σ:Mem):Prop:=∀k,m (k+1000)=(σ k).map Ent.sh
theorem Agr.start (σ:Mem):Agr (Zin σ) σ:=λk=>by unfold Zin;rw [if_neg (by omega),Nat.add_sub_cancel]
theorem Agr.own {m σ:Mem} (h:Agr m σ) {t:Nat} {x:Option Ent} (ht:t < 1000):Agr (upd m t x) σ:=λk=>by
 rw [Zaz,if_neg (by omega)];exact h k
theorem Agr.mark {m σ:Mem} (h:Agr m σ) {t:Nat} (ht:t < 1000):Agr (mark m t) σ:=h.own ht
theorem Agr.put {m σ:Mem} (h:Agr m σ) {t k:Nat} {e e':Ent} (ht:t=k+1000) (he:e'=e.sh):Agr (upd m t (some e')) (upd σ k (some e)):=λj=>by
 subst ht;subst he;rw [Zaz,Zaz];by_cases hj:j=k
 ·subst hj;rw [if_pos rfl,if_pos rfl];rfl
 ·rw [if_neg (by omega),if_neg hj];exact h j
theorem Agr.same {m σ:Mem} (h:Agr m σ) {t k:Nat} {e e':Ent} (ht:t=k+1000) (hk:σ k=some e) (he:e'=e.sh):Agr (upd m t (some e')) σ:=by
 have:=h.put (k:=k) (e:=e) ht he
 rwa [show upd σ k (some e)=σ from by funext j;rw [Zaz];split;(subst_vars;exact hk.symm);rfl] at this
def BackS (R:AV→Mem→Prop) (b:AV) (m:Mem):Prop:=∃(r:AV) (σ':Mem),Sub b r∧R r σ'∧Agr m σ'
theorem Zpo {R:AV→Mem→Prop} {b r:AV} {m σ':Mem} (h:Sub b r) (hR:R r σ') (ha:Agr m σ'):BackS R b m:=⟨r,σ',h,hR,ha⟩
theorem Zc7 {P:Program} {f n:Nat} {fn:Func} {code:Code} {rs:List ResultVar} {args:List AV} {σ:Mem} {R:AV→Mem→Prop} (hf:P.funcs[f]?=some fn) (hb:fn.body=some code) (hn:fn.ntmps=n) (hrs:fn.results=rs.toArray)
 (hc:∀(vs:Array Value) (w:World),(callFunc f vs).run P w=.ok (.enter f vs) w) (hfit:Zbx n code=true) (hal:args.length≤n)
 (h:Za8 P 0 n code (Done P rs λst b=>BackS R b st.mem) ⟨λt=>(AV.shL args).getD t .u,Zin σ⟩):ACall P f args σ R:=by
 have key:=Zck (σ:=Zin σ) (R:=BackS R) hf hb hn hrs hc hfit (by rw [AV.shL_len];exact hal) h;refine⟨hc,λc w imm vs hm hl hr=>?_⟩
 have hm':Mx c (Zin σ) w imm:=by
  refine⟨⟨λk e hk=>?_,λk k' e e' b h1 h2 h3 h4=>?_,hm.ok.lt,hm.ok.spot⟩,hm.below,hm.lt,hm.old,hm.new,hm.cells⟩
  ·unfold Zin at hk;split at hk
   ·cases hk
   ·obtain⟨e0,h0,rfl⟩:=Option.map_eq_some_iff.1 hk;exact Ent.sh_ok (hm.ok.ent _ _ h0)
  ·unfold Zin at h1 h2;split at h1
   ·cases h1
   ·split at h2
    ·cases h2
    ·obtain⟨e0,k0,rfl⟩:=Option.map_eq_some_iff.1 h1;obtain⟨e1,k1,rfl⟩:=Option.map_eq_some_iff.1 h2;rw [Ent.sh_blk] at h3 h4;have:=hm.ok.apart _ _ _ _ b k0 k1 h3 h4;omega
 refine(key.2 c w imm vs hm' (by rw [AV.shL_len];exact hl) λj a x h1 h2=>?_).mono λe w' he=>?_
 ·rw [AV.shL_at] at h1;obtain⟨y,hy,rfl⟩:=Option.map_eq_some_iff.1 h1;exact(AV.sub_sh y).1 w imm x (hr j y x hy h2)
 ·obtain⟨b,m,imm',x,rfl,⟨r,σ',h1,h2,h3⟩,h5,h6,h7⟩:=he;refine⟨r,σ',imm',x,rfl,h2,h1 _ _ _ h5,⟨⟨λk e hk=>?_,λk k' e e' b h1 h2 k3 k4=>?_,h6.ok.lt,h6.ok.spot⟩,h6.below,h6.lt,h6.old,h6.new,h6.cells⟩,h7⟩
  ·have:=h3 k;rw [hk] at this;exact Ent.of_sh (h6.ok.ent _ _ this)
  ·have e1:=h3 k;have e2:=h3 k';rw [h1] at e1;rw [h2] at e2;have:=h6.ok.apart _ _ _ _ b e1 e2 (by rw [Ent.sh_blk];exact k3) (by rw [Ent.sh_blk];exact k4);omega
theorem Frz.nilBox {n:Nat} {e:Nat→AV} {m:Mem} {k g:Nat} {bt:TypeId} {cs:List AV} (j t mm:Nat) (ty:TypeId) (hm:m k=some (.box g bt cs false)) (hj:cs[j]?=some (.v (.slice none 0 0))) (ht:t≠k) :
 Frz n ⟨e,m⟩ ⟨e,upd (upd m k (some (.box g bt (cs.set j (.own t (.slice none 0 0))) false))) t (some (.row (.slice none 0 0) ty mm [] 0))⟩:=by
 intro c a w imm h
 have h1:Mx c (upd m k (some (.box g bt (cs.set j (.own t (.slice none 0 0))) false))) w imm:=by
  have hk:=h.mem.ok.ent k _ hm;obtain⟨cur,k1,k2,k3,k4,k5,k6,k7⟩:=hk;refine(Ze7 h.mem (World.grownBy.refl w none) (by simp) (λ_ _=>rfl) k (.box g bt (cs.set j (.own t (.slice none 0 0))) false) ⟨cur,k1,k2,by simpa using k3,λx hx=>?_,λi a x ha hx=>?_,k6,λhp=>by cases hp⟩ λj2 e2 b h1 h2 h3=>⟨by simp,?_⟩).1
  ·rcases List.mem_or_eq_of_mem_set hx with h1 | h1
   ·exact k4 x h1
   ·subst h1;rfl
  ·rw [List.getElem?_set] at ha;split at ha
   ·rename_i hij;subst hij;split at ha
    ·simp only [Option.some.injEq] at ha;subst ha;have:=(k5 j _ x hj hx).v_inv;subst this;exact .own _ _ rfl
    ·cases ha
   ·exact k5 i a x ha hx
  ·show some g≠some b;intro hb;exact h1 (h.mem.ok.apart j2 k e2 _ b h2 hm h3 hb)
 refine⟨imm,h.env,h.size,h.defers,?_⟩;exact(Ze7 h1 (World.grownBy.refl w none) (by simp) (λ_ _=>rfl) t (.row (.slice none 0 0) ty mm [] 0) ⟨[],World.ownsRow_nil w c.B ty mm,by simp,by simp,by simp [flat],by simp,λad _ h2=>by simp [Value.ownBlock] at h2,λg off h1 _=>by simp [Value.ownBlock] at h1⟩ λj e2 b _ _ _=>⟨by simp,by simp [Ent.blk,Value.ownBlock]⟩).1
attribute [go_sem] AV.sh AV.shL Ent.sh
def EntSub (e e':Ent):Prop:=e'.blk=e.blk∧∀(B:Nat) (w:World) (imm:Imm),EntOk B w imm e→EntOk B w imm e'
theorem EntSub.refl (e:Ent):EntSub e e:=⟨rfl,λ_ _ _ h=>h⟩
theorem EntSub.box {g:Nat} {t:TypeId} {cs cs':List AV} {pub:Bool} (hl:cs'.length=cs.length) (h1:∀x∈cs',x.one=true) (h:∀(j:Nat) (a b:AV),cs[j]?=some a→cs'[j]?=some b→Sub a b):EntSub (.box g t cs pub) (.box g t cs' pub):=by
 refine⟨rfl,λB w imm h0=>?_⟩;obtain⟨cur,k1,k2,k3,k4,k5,k6,k7⟩:=h0;refine⟨cur,k1,k2,by rw [hl];exact k3,h1,λj a x ha hx=>?_,k6,λhp off ho=>k7 hp off (by rw [←hl];exact ho)⟩;have hj:j < cs.length:=by rw [←hl];exact(List.getElem?_eq_some_iff.1 ha).1
 exact h j cs[j] a (List.getElem?_eq_getElem hj) ha w imm x (k5 j cs[j] x (List.getElem?_eq_getElem hj) hx)
def BackG (R:AV→Mem→Prop) (b:AV) (m:Mem):Prop:=∃(r:AV) (σ':Mem) (ρ:Nat→Nat),Sub b r∧R r σ'∧(∀k e,σ' k=some e→∃e0,m (ρ k)=some e0∧EntSub e0 e)∧(∀k k',σ' k≠none→σ' k'≠none→ρ k=ρ k'→k=k')
theorem EntSub.of_sh (e:Ent):EntSub e.sh e:=⟨(Ent.sh_blk e).symm,λ_ _ _ h=>Ent.of_sh h⟩
section
variable {P:Program} {n:Nat} {Q:AE→St→Prop} {e:Nat→AV} {m:Mem}
end
section
variable {P:Program} {c:Cx} {n:Nat}
def LastK (P:Program) (n:Nat) (o:Oper) (K:St→Prop) (st:St):Prop:=(∃c a w imm,Rel c n st a w imm)→∃st',Frz n st st'∧Zbk P 0 [o] [o] (λst1=>∃st2,Frz n st1 st2∧K st2) st'
def LastsK (P:Program) (n:Nat):List Oper→(St→Prop)→St→Prop
 | [],K=>K
 | o :: s,K=>LastK P n o (LastsK P n s K)
def lastOk (n:Nat) (l s:List Oper):Bool :=
 s.all (λo=>Zfv n o && o.guard.isNone) && l.all (λx=>x.guard.isNone) &&
 ((List.range (l.length+s.length)).all λj=>match (l++s).toArray[j]? with
   | some x=>x.after.toList.all λe=>!Region.binds .any e || decide (e.on < j)
   | none=>true) && (List.range s.length).all λk=>(List.range (l.length+k)).all λj=>Zkf (l++s).toArray (l.length+s.length) j (l.length+k)
structure LastOk (n:Nat) (l s:List Oper):Prop where
 fits:∀o∈s,Zfv n o=true
 g:∀o∈s,o.guard=none
 gl:∀x∈l,x.guard=none
 dj:∀j x,(l++s).toArray[j]?=some x→∀e∈x.after,Region.binds .any e=true→e.on < j
 r:∀k,k < s.length→∀j,j < l.length+k→Zkf (l++s).toArray (l.length+s.length) j (l.length+k)=true
theorem r_loopZ {body:Code} {st:St} {Q:AE→St→Prop} (h:Za8 P 0 n (.loop body) (λae st'=>∃st'',Frz n st' st''∧Q ae st'') st):Za8 P 0 n (.loop body) Q st:=λc a w imm hr =>
 Code.wp_mono (λe a' w' hp=>by
  obtain⟨ae,st',imm',rfl,⟨st'',hF,hq⟩,hr'⟩:=hp;obtain⟨imm2,h2⟩:=hF c a' w' imm' hr';exact⟨ae,st'',imm2,rfl,hq,h2⟩) (h c a w imm hr)
end
section
variable {n:Nat} {e:Nat→AV} {m:Mem}
theorem own_one {d k:Nat} {sv:Value} (he:e d=.own k sv) (h:∃c a w imm,Rel c n ⟨e,m⟩ a w imm):sv.oneCell'=true:=by
 obtain⟨c,a,w,imm,h⟩:=h;have ht:=h.env d;rw [show(St.mk e m).env d=_ from he] at ht;exact ht.own_one
end
end Go.Pg
namespace Go.Proofs.YtimmnimikmnljaaGreat
open Go Go.RowKit Go.Pg
attribute [-bool_to_prop] Bool.and_eq_decide Bool.or_eq_decide Bool.decide_beq_decide decide_eq_decide
theorem sz3:szOf Tryz.prog 3=some 1:=by kernel_rfl
theorem by3:Zio Tryz.prog 3=some 8:=by kernel_rfl
theorem z3:Zb4 Tryz.prog 3=some (.int .i64 0):=by kernel_rfl
theorem szL:szOf Tryz.prog 104=some 1:=by kernel_rfl
theorem byL:Zio Tryz.prog 104=some 2:=by kernel_rfl
theorem zL:Zb4 Tryz.prog 104=some (.int .u16 0):=by kernel_rfl
theorem szQ:szOf Tryz.prog 115=some 1:=by kernel_rfl
theorem zQ:Zb4 Tryz.prog 115=some (.int .u64 0):=by kernel_rfl
attribute [local go_sem] Tryz.underlying40 Tryz.underlying3 Tryz.underlying104 Tryz.underlying161 Tryz.underlying115 Tryz.underlying21 sz3 by3 z3 szL byL zL
theorem Za5 (l:List Nat) (hs:l.length≤1000000000) (hl:Lm l):Pure Tryz.prog 170 [lim l] (lim (toL (nv l))):=by
 refine Zaa (tok:=0) (rs:=[.tmp 2]) Tryz.func170 rfl Tryz.ntmps170 Tryz.results170 Tryz.call170 (by rfl) (by simp) ?_;(focus (refine wkvp w_t w_t ?_;(repeat' first|exact w_t|apply w_l);all_goals intros));refine Zag (ι:=Nat) (λk e m=>k≤l.length∧e 0=lim l∧e 3=.v (.int .i64 (k:Int))∧∀j,k≤j→gN l j=0) (λk=>k) l.length (by rfl) ?_ ?_
 ·rintro k e m ⟨hk,e0,e3,hz⟩
  have gl:=Zbz hl (k - 1);by_cases h0:k=0
  ·subst h0;(focus (refine wkvp (w_2 e0 e3) w_t ?_;(repeat' first|exact w_t|apply w_l);all_goals intros));have:=Zjm hl hk hz (.inl rfl);simp (disch:=omega) only [go_sem];rw [←this];rfl
  ·by_cases h1:gN l (k - 1)=0
   ·(focus (refine wkvp (w_2 e0 e3) w_t ?_;(repeat' first|exact w_t|apply w_l);all_goals intros));exact⟨k - 1,⟨by omega,by exact gW e0,by simp (disch:=omega) only [go_sem,e3];congr 2;omega,λj hj=>by
     rcases Nat.lt_or_ge j k with h2 | h2
     ·rw [show j=k - 1 by omega];exact h1
     ·exact hz j h2⟩,by omega⟩
   ·(focus (refine wkvp (w_2 e0 e3) w_t ?_;(repeat' first|exact w_t|apply w_l);all_goals intros));have:=Zjm hl hk hz (.inr (by omega));simp (disch:=omega) only [go_sem,this]
 ·exact⟨Nat.le_refl _,by exact gC,by exact gC,λj hj=>Zd2 hj⟩
theorem slN {l:List Nat} (h:l=[]):lim l=.sl 1 []:=by subst h;rfl
theorem Zlw (l:List Nat) (hs:l.length≤1000000000) (hl:Lm l):Pure Tryz.prog 141 [lim l] (lim (toL (nv l))):=by
 have h1:=Zax hl;by_cases h0:toL (nv l)=[]
 ·rw [slN h0];refine Pure.wk (r:=.v (.slice none 0 0)) ?_ (.nil 1);have h2:(toL (nv l)).length=0:=by rw [h0];rfl
  refine Zaa (tok:=0) (rs:=[.tmp 2]) Tryz.func141 rfl Tryz.ntmps141 Tryz.results141 Tryz.call141 (by rfl) (by simp) ?_;(focus (refine wkvp (w_1 h2) (w_1 (Za5 l hs hl)) ?_;(repeat' first|exact w_t|apply w_l);all_goals intros));simp (disch:=omega) only [go_sem]
 ·have h2:0 < (toL (nv l)).length:=List.length_pos_iff.2 h0;refine Zaa (tok:=0) (rs:=[.tmp 2]) Tryz.func141 rfl Tryz.ntmps141 Tryz.results141 Tryz.call141 (by rfl) (by simp) ?_;(focus (refine wkvp w_t (w_1 (Za5 l hs hl)) ?_;(repeat' first|exact w_t|apply w_l);all_goals intros));simp (disch:=omega) only [go_sem,List.take_of_length_le,List.drop_replicate,Nat.sub_self,Nat.le_refl]
theorem natOf (n:Nat) (hn:n < 18446744073709551616):Pure Tryz.prog 143 [.v (.int .u64 (n:Int))] (lim (toL n)):=by
 by_cases h0:n=0
 ·subst h0;rw [slN Za3];refine Pure.wk (r:=.v (.slice none 0 0)) ?_ (.nil 1);refine Zaa (tok:=0) (rs:=[.tmp 2]) Tryz.func143 rfl Tryz.ntmps143 Tryz.results143 Tryz.call143 (by rfl) (by simp) ?_;(focus (refine wkvp w_t w_t ?_;(repeat' first|exact w_t|apply w_l);all_goals intros));refine Zag (ι:=Nat) (λk e m=>e 0=.v (.int .u64 0)∧e 3=.v (.slice none 0 0)) (λk=>k) 0 (by rfl) ?_ ?_
  ·rintro k e m ⟨e0,e3⟩
   (focus (refine wkvp (w_2 e0 e3) w_t ?_;(repeat' first|exact w_t|apply w_l);all_goals intros));simp (disch:=omega) only [go_sem]
  ·exact⟨by simp (disch:=omega) only [go_sem];rfl,by exact gC⟩
 ·refine Zaa (tok:=0) (rs:=[.tmp 2]) Tryz.func143 rfl Tryz.ntmps143 Tryz.results143 Tryz.call143 (by rfl) (by simp) ?_;(focus (refine wkvp w_t w_t ?_;(repeat' first|exact w_t|apply w_l);all_goals intros));refine Zag (ι:=Nat) (λk e m=>k≤n∧e 0=.v (.int .u64 (k:Int))∧((k=n∧e 3=.v (.slice none 0 0))∨(k < n∧∃sv l,e 3=.own 12 sv∧m 12=some (.row sv 104 1 (u16s l) 0)∧l++toL k=toL n))) (λk=>k) n (by rfl) ?_ ?_
  ·rintro k e m ⟨hk,e0,hor⟩
   by_cases hk0:k=0
   ·subst hk0;rcases hor with⟨h1,_⟩ | ⟨_,sv,l,e3,em,hl⟩
    ·omega
    ·(focus (refine wkvp (w_2 e0 e3) w_t ?_;(repeat' first|exact w_t|apply w_l);all_goals intros));simp (disch:=omega) only [go_sem,em];rw [Za3,List.append_nil] at hl;rw [hl]
   ·rcases hor with⟨rfl,e3⟩ | ⟨_,sv,l,e3,em,hl⟩
    ·(focus (refine wkvp (w_3 e0 e3 @Zbc) w_t ?_;(repeat' first|exact w_t|apply w_l);all_goals intros));refine⟨k/65536,⟨by omega,by exact gW e0,.inr ⟨by omega,_,[k%65536],by exact gC,by exact gC,?_⟩⟩,by omega⟩;rw [Ze3 hk0];rfl
    ·have b1:=(Zai (n:=n) (k:=4)).2 hn;have b2:l.length≤(toL n).length:=by rw [←hl];simp
     (focus (refine wkvp (w_4 e0 e3 em @Zbc) w_t ?_;(repeat' first|exact w_t|apply w_l);all_goals intros));refine⟨k/65536,⟨by omega,by exact gW e0,.inr ⟨by omega,_,l++[k%65536],by exact gC,by exact gC,?_⟩⟩,by omega⟩;rw [←hl,Ze3 hk0];simp
  ·exact⟨Nat.le_refl _,by exact gC,.inl ⟨rfl,by exact gC⟩⟩
def cmpN (a b:Nat):Int:=if a < b then -1 else if b < a then 1 else 0
theorem Zqh (a b:List Nat) (ha:a.length≤1000000000) (hb:b.length≤1000000000) (la:Lm a) (lb:Lm b):Pure Tryz.prog 173 [lim a,lim b] (.v (.int .i64 (cmpN (nv a) (nv b)))):=by
 have h1:=Zax la;have h2:=Zax lb;have va:=Zat (nv a);have vb:=Zat (nv b);have ma:=Zau (nv a);have mb:=Zau (nv b);refine Zaa (tok:=0) (rs:=[.tmp 4]) Tryz.func173 rfl Tryz.ntmps173 Tryz.results173 Tryz.call173 (by rfl) (by simp) ?_;by_cases hlt:(toL (nv a)).length < (toL (nv b)).length
 ·have:nv a < nv b:=by
   rcases Nat.lt_or_ge (nv a) (nv b) with h | h
   ·exact h
   ·have:=Za9 h;omega
  (focus (refine wkvp w_t (w_2 (Za5 a ha la) (Za5 b hb lb)) ?_;(repeat' first|exact w_t|apply w_l);all_goals intros));simp (disch:=omega) only [go_sem,cmpN,if_pos this]
 ·by_cases hgt:(toL (nv b)).length < (toL (nv a)).length
  ·have:nv b < nv a:=by
    rcases Nat.lt_or_ge (nv b) (nv a) with h | h
    ·exact h
    ·have:=Za9 h;omega
   have this2:¬nv a < nv b:=by omega
   (focus (refine wkvp w_t (w_2 (Za5 a ha la) (Za5 b hb lb)) ?_;(repeat' first|exact w_t|apply w_l);all_goals intros));simp (disch:=omega) only [go_sem,cmpN,if_pos this,if_neg this2]
  ·(focus (refine wkvp w_t (w_2 (Za5 a ha la) (Za5 b hb lb)) ?_;(repeat' first|exact w_t|apply w_l);all_goals intros));refine Zag (ι:=Nat) (λk e m=>k≤(toL (nv a)).length∧e 0=lim (toL (nv a))∧e 1=lim (toL (nv b))∧e 5=.v (.int .i64 ((k:Int) - 1))∧nv ((toL (nv a)).drop k)=nv ((toL (nv b)).drop k)) (λk=>k) (toL (nv a)).length (by rfl) ?_ ?_
   ·rintro k e m ⟨hk,e0,e1,e5,hz⟩
    by_cases h0:k=0
    ·subst h0;rw [List.drop_zero,List.drop_zero,va,vb] at hz;(focus (refine wkvp (w_3 e0 e1 e5) w_t ?_;(repeat' first|exact w_t|apply w_l);all_goals intros));simp (disch:=omega) only [go_sem,cmpN,hz,Nat.lt_irrefl,if_false]
    ·have hk1:k - 1+1=k:=by omega
     have ga:=Zbz ma (k - 1);have gb:=Zbz mb (k - 1);by_cases p1:gN (toL (nv a)) (k - 1) < gN (toL (nv b)) (k - 1)
     ·have:=Zqg (k:=k - 1) ma mb (by rw [hk1];exact hz) p1;rw [va,vb] at this;(focus (refine wkvd (w_3 e0 e1 e5) w_t w_t ?_;(repeat' first|exact w_t|apply w_l);all_goals intros));simp (disch:=omega) only [go_sem,cmpN,if_pos this]
     ·by_cases p2:gN (toL (nv b)) (k - 1) < gN (toL (nv a)) (k - 1)
      ·have:=Zqg (k:=k - 1) mb ma (by rw [hk1];exact hz.symm) p2;rw [va,vb] at this;have this2:¬nv a < nv b:=by omega
       (focus (refine wkvd (w_3 e0 e1 e5) w_t w_t ?_;(repeat' first|exact w_t|apply w_l);all_goals intros));simp (disch:=omega) only [go_sem,cmpN,if_pos this,if_neg this2]
      ·(focus (refine wkvd (w_3 e0 e1 e5) w_t w_t ?_;(repeat' first|exact w_t|apply w_l);all_goals intros));refine⟨k - 1,⟨by omega,by exact gW e0,by exact gW e1,by simp (disch:=omega) only [go_sem,e5];congr 2;omega,?_⟩,by omega⟩;rw [Zb5,Zb5 (toL (nv b)),hk1,hz];omega
   ·refine⟨Nat.le_refl _,by exact gC,by exact gC,by exact gC,?_⟩;rw [List.drop_eq_nil_of_le (Nat.le_refl _),List.drop_eq_nil_of_le (by omega)]
theorem natAdd (a b:List Nat) (ha:a.length≤1000000000) (hb:b.length≤1000000000) (la:Lm a) (lb:Lm b):Pure Tryz.prog 188 [lim a,lim b] (lim (toL (nv a+nv b))):=by
 have h1:=Zax la;have h2:=Zax lb;have va:=Zat (nv a);have vb:=Zat (nv b);have ma:=Zau (nv a);have mb:=Zau (nv b)
 obtain⟨A,B,hA,hB,hle,hAl,hLA,hLB,hAB,hm⟩:∃A B,A=(if (toL (nv a)).length < (toL (nv b)).length then toL (nv b) else toL (nv a))∧B=(if (toL (nv a)).length < (toL (nv b)).length then toL (nv a) else toL (nv b))∧B.length≤A.length∧A.length≤1000000000∧Lm A∧Lm B∧nv A+nv B=nv a+nv b∧A.length≤(toL (nv a+nv b)).length:=by
  by_cases hlt:(toL (nv a)).length < (toL (nv b)).length
  ·exact⟨_,_,(if_pos hlt).symm,(if_pos hlt).symm,by omega,by omega,mb,ma,by omega,Za9 (by omega)⟩
  ·exact⟨_,_,(if_neg hlt).symm,(if_neg hlt).symm,by omega,by omega,ma,mb,by omega,Za9 (by omega)⟩
 refine Zaa (tok:=0) (rs:=[.tmp 4]) Tryz.func188 rfl Tryz.ntmps188 Tryz.results188 Tryz.call188 (by rfl) (by simp) ?_;rcases Nat.lt_or_ge (toL (nv a)).length (toL (nv b)).length with hlt | hge
 rotate_left
 have hlt:¬(toL (nv a)).length < (toL (nv b)).length:=by omega
 all_goals
  (first|rw [if_pos hlt] at hA hB|rw [if_neg hlt] at hA hB)
  (focus (refine wkvp w_t (w_2 (Za5 a ha la) (Za5 b hb lb)) ?_;(repeat' first|exact w_t|apply w_l);all_goals intros));rw [←hA]
  try rw [←hB]
  refine Zag (ι:=Nat) (λk e m=>k≤A.length∧e 0=lim A∧e 1=lim B∧e 26=lim A∧e 27=.v (.int .i64 A.length)∧e 28=.v (.int .i64 k)∧∃sv o c,e 5=.own 25 sv∧e 6=.v (.int .u32 (c:Nat))∧m 25=some (.row sv 104 1 (u16s o) 0)∧o.length=A.length∧Lm o∧c≤1∧nv (o.take k)+65536 ^ k*c=nv (A.take k)+nv (B.take k)) (λk=>A.length - k) 0 (by rfl) ?_ ?_
  ·rintro k e m ⟨hk,e0,e1,e26,e27,e28,sv,o,c,e5,e6,em,hol,hLo,hc,hv⟩
   have ga:=Zbz hLA k;have gb:=Zbz hLB k;have hs:=Zmo (x:=gN A k) (y:=gN B k) hv;have w1:(c+gN A k+gN B k)/65536≤1:=by omega
   have w2:(c+gN A k+gN B k)%65536 < 65536:=by omega
   by_cases hlt2:k < A.length
   ·rw [←Zc5 (o:=o) (by omega),←Nat.pow_succ,←Zay,←Zay] at hs;by_cases hkb:k < B.length
    ·(focus (refine wkvp (w_11 e0 e1 e26 e27 e28 e5 e6 em hol @Za0 @Zbc) w_t ?_;(repeat' first|exact w_t|apply w_l);all_goals intros));exact⟨k+1,⟨by omega,by exact gW e0,by exact gW e1,by exact gW e26,by exact gW e27,by exact gV e28,_,_,_,by exact gW e5,by exact gC,by exact gC,by simpa using hol,hLo.set k w2,w1,hs⟩,by omega⟩
    ·have g0:gN B k=0:=Zd2 (by omega);simp only [g0,Nat.add_zero] at hs w1 w2;(focus (refine wkvp (w_11 e0 e1 e26 e27 e28 e5 e6 em hol @Za0 @Zbc) w_t ?_;(repeat' first|exact w_t|apply w_l);all_goals intros));exact⟨k+1,⟨by omega,by exact gW e0,by exact gW e1,by exact gW e26,by exact gW e27,by exact gV e28,_,_,_,by exact gW e5,by exact gC,by exact gC,by simpa using hol,hLo.set k w2,w1,hs⟩,by omega⟩
   ·have hkA:k=A.length:=by omega
    subst hkA;rw [Zbl (Nat.le_refl _),Zbl hle,Zbl (by omega),hAB] at hv;by_cases hc0:c=0
    ·subst hc0;rw [Nat.mul_zero,Nat.add_zero] at hv;(focus (refine wkvp (w_9 e0 e1 e26 e27 e28 e5 e6 em hol) w_t ?_;(repeat' first|exact w_t|apply w_l);all_goals intros));simp (disch:=omega) only [go_sem,em];rw [canon' hLo (by rw [hv];omega),hv]
    ·have hc1:c=1:=by omega
     subst hc1;(focus (refine wkvp (w_10 e0 e1 e26 e27 e28 e5 e6 em hol @Zbc) w_t ?_;(repeat' first|exact w_t|apply w_l);all_goals intros));simp (disch:=omega) only [go_sem];have h3:nv (o++[1])=nv a+nv b:=by rw [Zdd,hol];simpa [nv] using hv
     rw [←h3,←canon (hLo.append (Lm.one (by omega))) (.inr (by simp [gN]))]
  ·refine⟨Nat.zero_le _,by exact gC,by exact gC,by exact gC,by exact gC,by exact gC,_,List.replicate A.length 0,0,by exact gC,by exact gC,by exact gC,by simp,Lm.zeros _,by omega,by simp [nv]⟩
theorem okTup {a:AV} {n:Int} (h:a=.v (.slice none 0 0)):Wk (.tup [a,.v (.int .i64 n)]) (.tup [lim [],.v (.int .i64 n)]):=by
 subst h;exact Wk.pair (.nil 1)
theorem natSub (a b:List Nat) (ha:a.length≤1000000000) (hb:b.length≤1000000000) (la:Lm a) (lb:Lm b) :
 Pure Tryz.prog 189 [lim a,lim b] (.tup [lim (if nv a < nv b then [] else toL (nv a - nv b)),.v (.int .i64 (if nv a < nv b then 2 else 0))]):=by
 by_cases hlt:nv a < nv b
 ·rw [if_pos hlt,if_pos hlt];refine Pure.wk ?_ (okTup rfl);refine Zaa (tok:=0) (rs:=[.tmp 4,.tmp 5]) Tryz.func189 rfl Tryz.ntmps189 Tryz.results189 Tryz.call189 (by rfl) (by simp) ?_;have hc:cmpN (nv a) (nv b)=-1:=by unfold cmpN;rw [if_pos hlt]
  (focus (refine wkvp (w_1 hc) (w_1 (Zqh a b ha hb la lb)) ?_;(repeat' first|exact w_t|apply w_l);all_goals intros));simp (disch:=omega) only [go_sem]
 ·rw [if_neg hlt,if_neg hlt];have h1:=Zax la;have va:=Zat (nv a);have vb:=Zat (nv b);have ma:=Zau (nv a);have mb:=Zau (nv b);have h2:(toL (nv b)).length≤(toL (nv a)).length:=Za9 (by omega);have hc:0≤cmpN (nv a) (nv b):=by unfold cmpN;rw [if_neg hlt];split<;>omega
  generalize hA:toL (nv a)=A at *;generalize hB:toL (nv b)=B at *;refine Zaa (tok:=0) (rs:=[.tmp 4,.tmp 5]) Tryz.func189 rfl Tryz.ntmps189 Tryz.results189 Tryz.call189 (by rfl) (by simp) ?_;(focus (refine wkvp (w_2 hA hB) (w_3 (Zqh a b ha hb la lb) (Za5 a ha la) (Za5 b hb lb)) ?_;(repeat' first|exact w_t|apply w_l);all_goals intros));rw [hA,hB];refine Zag (ι:=Nat) (λk e m=>k≤A.length∧(e 1=lim B∧e 22=lim A∧e 23=.v (.int .i64 A.length)∧e 24=.v (.int .i64 k))∧∃sv o r,(e 6=.own 21 sv∧e 7=.v (.int .i32 (r:Nat))∧m 21=some (.row sv 104 1 (u16s o) 0))∧o.length=A.length∧Lm o∧r≤1∧nv (o.take k)+nv (B.take k)=nv (A.take k)+65536 ^ k*r) (λk=>A.length - k) 0 (by rfl) ?_ ?_
  ·rintro k e m ⟨hk,⟨e1,e22,e23,e24⟩,sv,o,r,⟨e6,e7,em⟩,hol,hLo,hr,hv⟩
   have ga:=Zbz ma k;have gb:=Zbz mb k;by_cases hlt2:k < A.length
   ·have step:∀(d r':Nat),d+r+gN B k=gN A k+65536*r'→d < 65536→r'≤1→(o.set k d).length=A.length∧Lm (o.set k d)∧r'≤1∧nv ((o.set k d).take (k+1))+nv (B.take (k+1))=nv (A.take (k+1))+65536 ^ (k+1)*r':=by
     intro d r' hd h3 h4;have:=Zpw hv hd;rw [Zc5 (by omega),Zay,Zay,Nat.pow_succ];exact⟨by simpa using hol,hLo.set k h3,h4,this⟩
    by_cases hneg:gN A k < r+gN B k
    ·have hs:=step (gN A k+65536 - r - gN B k) 1 (by omega) (by omega) (by omega);have w:(gN A k:Int) - r - gN B k+65536=((gN A k+65536 - r - gN B k:Nat):Int):=by omega
     by_cases hkb:k < B.length
     ·(focus (refine wkvp (w_9 e1 e22 e23 e24 e6 e7 em hol w) w_t ?_;(repeat' first|exact w_t|apply w_l);all_goals intros));exact⟨k+1,⟨by omega,by exact gV (And.intro e1 (And.intro e22 (And.intro e23 e24))),sv,_,1,by exact gW e6,hs⟩,by omega⟩
     ·have g0:gN B k=0:=Zd2 (by omega);simp only [g0,Nat.sub_zero,Nat.add_zero] at hs w hneg;have w:(gN A k:Int) - r+65536=((gN A k+65536 - r:Nat):Int):=by omega
      (focus (refine wkvp (w_9 e1 e22 e23 e24 e6 e7 em hol w) w_t ?_;(repeat' first|exact w_t|apply w_l);all_goals intros));exact⟨k+1,⟨by omega,by exact gV (And.intro e1 (And.intro e22 (And.intro e23 e24))),sv,_,1,by exact gW e6,hs⟩,by omega⟩
    ·have hs:=step (gN A k - r - gN B k) 0 (by omega) (by omega) (by omega);have w:(gN A k:Int) - r - gN B k=((gN A k - r - gN B k:Nat):Int):=by omega
     by_cases hkb:k < B.length
     ·(focus (refine wkvp (w_9 e1 e22 e23 e24 e6 e7 em hol w) w_t ?_;(repeat' first|exact w_t|apply w_l);all_goals intros));exact⟨k+1,⟨by omega,by exact gV (And.intro e1 (And.intro e22 (And.intro e23 e24))),sv,_,0,by(simp (disch:=omega) only [go_sem,e6,Int.natCast_zero]<;>repeat' first|rfl|refine⟨?_,?_⟩),hs⟩,by omega⟩
     ·have g0:gN B k=0:=Zd2 (by omega);simp only [g0,Nat.sub_zero,Nat.add_zero] at hs hneg;have w:(gN A k:Int) - r=((gN A k - r:Nat):Int):=by omega
      (focus (refine wkvp (w_9 e1 e22 e23 e24 e6 e7 em hol w) w_t ?_;(repeat' first|exact w_t|apply w_l);all_goals intros));exact⟨k+1,⟨by omega,by exact gV (And.intro e1 (And.intro e22 (And.intro e23 e24))),sv,_,0,by(simp (disch:=omega) only [go_sem,e6,Int.natCast_zero]<;>repeat' first|rfl|refine⟨?_,?_⟩),hs⟩,by omega⟩
   ·have hkA:k=A.length:=by omega
    subst hkA;rw [Zbl (by omega),Zbl (Nat.le_refl _),Zbl h2,va,vb] at hv;have hno:=Zgz hLo;rw [hol] at hno
    have hr0:r=0:=by
     rcases Nat.eq_zero_or_pos r with h3 | h3
     ·exact h3
     ·have:r=1:=by omega
      subst this;omega
    subst hr0;have hno2:nv o=nv a - nv b:=by omega
    (focus (refine wkax (w_8 e1 e22 e23 e24 e6 e7 em hol) w_t w_t (w_1 (Za5 o (by omega) hLo)) w_t w_t (w_r 0) ?_;(repeat' first|exact w_t|apply w_l);all_goals intros));simp (disch:=omega) only [go_sem,hno2]
  ·exact⟨Nat.zero_le _,by exact gC,_,List.replicate A.length 0,0,⟨by exact gC,by exact gC,by exact gC⟩,by simp,Lm.zeros _,by omega,by simp [nv]⟩
theorem natMul (a b:List Nat) (ha:a.length≤400000000) (hb:b.length≤400000000) (la:Lm a) (lb:Lm b):Pure Tryz.prog 128 [lim a,lim b] (lim (toL (nv a*nv b))):=by
 have h1:=Zax la;have h2:=Zax lb;have va:=Zat (nv a);have vb:=Zat (nv b);have ma:=Zau (nv a);have mb:=Zau (nv b);by_cases h0:nv a=0∨nv b=0
 ·have hz:nv a*nv b=0:=Nat.mul_eq_zero.2 h0;rw [slN (show toL (nv a*nv b)=[] by rw [hz,Za3])];refine Pure.wk (r:=.v (.slice none 0 0)) ?_ (.nil 1);refine Zaa (tok:=0) (rs:=[.tmp 4]) Tryz.func128 rfl Tryz.ntmps128 Tryz.results128 Tryz.call128 (by rfl) (by simp) ?_;by_cases h3:nv a=0
  ·have h4:=Zbp.2 h3;(focus (refine wkvp (w_1 h4) (w_2 (Za5 a (by omega) la) (Za5 b (by omega) lb)) ?_;(repeat' first|exact w_t|apply w_l);all_goals intros));simp (disch:=omega) only [go_sem]
  ·have h4:(toL (nv a)).length≠0:=λh=>h3 (Zbp.1 h);have h5:=Zbp.2 (h0.resolve_left h3);(focus (refine wkvp (w_1 h5) (w_2 (Za5 a (by omega) la) (Za5 b (by omega) lb)) ?_;(repeat' first|exact w_t|apply w_l);all_goals intros));simp (disch:=omega) only [go_sem]
 ·have h3:(toL (nv a)).length≠0:=λh=>h0 (.inl (Zbp.1 h));have h4:(toL (nv b)).length≠0:=λh=>h0 (.inr (Zbp.1 h));generalize hA:toL (nv a)=A at *;generalize hB:toL (nv b)=B at *;refine Zaa (tok:=0) (rs:=[.tmp 4]) Tryz.func128 rfl Tryz.ntmps128 Tryz.results128 Tryz.call128 (by rfl) (by simp) ?_;(focus (refine wkvp (w_3 hA hB @Za0) (w_2 (Za5 a (by omega) la) (Za5 b (by omega) lb)) ?_;(repeat' first|exact w_t|apply w_l);all_goals intros));rw [hA,hB];refine Zag (ι:=Nat) (λi e m=>i≤A.length∧(e 1=lim B∧e 29=lim A∧e 30=.v (.int .i64 A.length)∧e 31=.v (.int .i64 i))∧∃sv o,(e 5=.own 28 sv∧m 28=some (.row sv 104 1 (u16s o) 0))∧o.length=A.length+B.length∧Lm o∧(∀j,i+B.length≤j→gN o j=0)∧nv o=nv (A.take i)*nv B) (λi=>A.length - i) 0 (by rfl) ?_ ?_
  ·rintro i e m ⟨hi,⟨e1,e29,e30,e31⟩,sv,o,⟨e5,em⟩,hol,hLo,hz,hv⟩
   by_cases hlt:i < A.length
   ·have gx:=Zbz ma i;(focus (refine wkvp (w_8 e1 e29 e30 e31 e5 em hol @Za0) w_t ?_;(repeat' first|exact w_t|apply w_l);all_goals intros));refine Zag (ι:=Nat) (λk e' m'=>k≤B.length∧(e' 1=lim B∧e' 29=lim A∧e' 30=.v (.int .i64 A.length)∧e' 31=.v (.int .i64 i)∧e' 36=lim B∧e' 37=.v (.int .i64 B.length)∧e' 38=.v (.int .i64 k)∧e' 6=.v (.int .i64 i)∧e' 7=.v (.int .u16 (gN A i:Nat))∧e' 5=.own 28 sv)∧∃o' c,(e' 8=.v (.int .u32 (c:Nat))∧m' 28=some (.row sv 104 1 (u16s o') 0))∧o'.length=A.length+B.length∧Lm o'∧c < 65536∧(∀j,i+B.length≤j→gN o' j=0)∧nv o'+65536 ^ (i+k)*c=nv o+65536 ^ i*nv (B.take k)*gN A i) (λk=>B.length - k) 0 (by rfl) ?_ ?_
    ·rintro k e m ⟨hk,⟨e1,e29,e30,e31,e36,e37,e38,e6,e7,e5⟩,o',c,⟨e8,em⟩,hol',hLo',hc,hz',hv'⟩
     have gy:=Zbz mb k;have go:=Zbz hLo' (i+k);have bd:=Zni gx gy;by_cases hkb:k < B.length
     ·have hs:=Zqi (x:=gN A i) (y:=gN B k) rfl (Znd (o:=o') (j:=i+k) (by omega) _) hv';rw [←Zqj,←Zay,←Nat.pow_succ,Nat.succ_eq_add_one,Nat.add_assoc i] at hs;have w1:(c+(gN o' (i+k)+gN A i*gN B k))/65536 < 65536:=by omega
      have w2:(c+(gN o' (i+k)+gN A i*gN B k))%65536 < 65536:=by omega
      generalize hxy:gN A i*gN B k=xy at *;(focus (refine wkvp (w_17 e1 e29 e30 e31 e36 e37 e38 e6 e7 e5 e8 em hol' @Za0 @Zem @Zbc hxy) w_t ?_;(repeat' first|exact w_t|apply w_l);all_goals intros));refine⟨k+1,⟨by omega,by exact gV (And.intro e1 (And.intro e29 (And.intro e30 (And.intro e31 (And.intro e36 (And.intro e37 (And.intro e38 (And.intro e6 (And.intro e7 e5))))))))),_,_,⟨by exact gC,by exact gC⟩,by simpa using hol',hLo'.set _ w2,w1,λj hj=>?_,hs⟩,by omega⟩;rw [Zfh (by omega),if_neg (by omega)];exact hz' j hj
     ·have hkB:k=B.length:=by omega
      subst hkB;rw [Zbl (Nat.le_refl _)] at hv';have g0:=hz' (i+B.length) (Nat.le_refl _);have h5:=Znd (o:=o') (j:=i+B.length) (by omega) c;rw [g0,Nat.mul_zero,Nat.add_zero] at h5;have hcc:c%65536=c:=Nat.mod_eq_of_lt hc;(focus (refine wkvp (w_16 e1 e29 e30 e31 e36 e37 e38 e6 e7 e5 e8 em hol' @Za0 @Zbc hcc) w_t ?_;(repeat' first|exact w_t|apply w_l);all_goals intros));refine⟨i+1,⟨by omega,by exact gV (And.intro e1 (And.intro e29 (And.intro e30 e31))),sv,_,⟨by exact gW e5,by exact gC⟩,by simpa using hol',hLo'.set _ hc,λj hj=>?_,?_⟩,by omega⟩
      ·rw [Zfh (by omega),if_neg (by omega)];exact hz' j (by omega)
      ·rw [h5,hv',hv,Zay,Nat.add_mul];congr 1;simp only [Nat.mul_assoc,Nat.mul_comm,Nat.mul_left_comm]
    ·exact⟨Nat.zero_le _,by exact gW (And.intro e1 (And.intro e29 (And.intro e30 (And.intro e31 e5)))),_,0,⟨by exact gC,by exact gW em⟩,hol,hLo,by omega,hz,by simp [nv]⟩
   ·have hiA:i=A.length:=by omega
    subst hiA;rw [Zbl (Nat.le_refl _),va,vb] at hv;(focus (refine wkax (w_7 e1 e29 e30 e31 e5 em hol) w_t w_t (w_1 (Za5 o (by omega) hLo)) w_t w_t (w_r 0) ?_;(repeat' first|exact w_t|apply w_l);all_goals intros));simp (disch:=omega) only [go_sem,hv]
  ·exact⟨Nat.zero_le _,by exact gC,_,List.replicate (A.length+B.length) 0,⟨by exact gC,by exact gC⟩,by simp,Lm.zeros _,λj hj=>Zgs _ _,by simp [nv,Zlu]⟩
attribute [local go_sem] Tryz.underlying9 Tryz.underlying5 Tryz.underlying126
theorem Zn6 (x:Nat) (hx:x < 65536):Pure Tryz.prog 178 [.v (.int .u16 (x:Int))] (.v (.int .i64 (Zes x:Nat))):=by
 refine Zaa (tok:=0) (rs:=[.tmp 2]) Tryz.func178 rfl Tryz.ntmps178 Tryz.results178 Tryz.call178 (by rfl) (by simp) ?_;by_cases h:256≤x
 ·have b:=Zjs (i:=x/256) (by omega);have e:Zes x=8+len8 (x/256):=if_pos h
  (repeat' (first|(apply o_tab (g:=len8) (n:=256) (by kernel_rfl) (by kernel_rfl) (by omega))|(with_reducible first|refine stp ?_|apply gx1|apply gx2|apply gx3|apply gx4|apply gx5|apply gx6|apply gx7)|(with_reducible refine Zbf ?_;intro _)|((with_reducible refine gE ?_);(try simp (disch:=omega) only [go_sem])<;>first|rfl|omega)|with_reducible refine Zaf (by decide) ?_))
  simp (disch:=omega) only [go_sem,e,Int.natCast_add,Int.cast_ofNat_Int]
 ·have b:=Zjs (i:=x) (by omega);have e:Zes x=len8 x:=if_neg h
  (repeat' (first|(apply o_tab (g:=len8) (n:=256) (by kernel_rfl) (by kernel_rfl) (by omega))|(with_reducible first|refine stp ?_|apply gx1|apply gx2|apply gx3|apply gx4|apply gx5|apply gx6|apply gx7)|(with_reducible refine Zbf ?_;intro _)|((with_reducible refine gE ?_);(try simp (disch:=omega) only [go_sem])<;>first|rfl|omega)|with_reducible refine Zaf (by decide) ?_))
  simp (disch:=omega) only [go_sem,e,Int.zero_add]
theorem bitsLz16 (x:Nat) (hx:x < 65536):Pure Tryz.prog 175 [.v (.int .u16 (x:Int))] (.v (.int .i64 ((16 - Zes x:Nat):Int))):=by
 refine Zaa (tok:=0) (rs:=[.tmp 2]) Tryz.func175 rfl Tryz.ntmps175 Tryz.results175 Tryz.call175 (by rfl) (by simp) ?_;have b:=Zhw hx;have w:(16:Int) - (Zes x:Int)=((16 - Zes x:Nat):Int):=by omega
 (focus (refine wkvp (w_1 w) (w_1 (Zn6 x hx)) ?_;(repeat' first|exact w_t|apply w_l);all_goals intros));simp (disch:=omega) only [go_sem]
def Zml (n:Nat):Nat:=if n=0 then 0 else 16*((toL n).length - 1)+Zes (gN (toL n) ((toL n).length - 1))
theorem Zgv {n:Nat}:Zml n=0↔n=0:=by
 constructor
 ·intro h;unfold Zml at h;split at h
  ·assumption
  ·rename_i h0;have h1:=Zdw h0;have:=(Zhw (Zbz (Zau n) ((toL n).length - 1))).2 h1.2;omega
 ·rintro rfl;rfl
theorem natBits (l:List Nat) (hs:l.length≤1000000000) (hl:Lm l):Pure Tryz.prog 145 [lim l] (.v (.int .i64 (Zml (nv l):Nat))):=by
 have h1:=Zax hl;refine Zaa (tok:=0) (rs:=[.tmp 2]) Tryz.func145 rfl Tryz.ntmps145 Tryz.results145 Tryz.call145 (by rfl) (by simp) ?_;by_cases h0:nv l=0
 ·have h2:=Zbp.2 h0;have h3:=Zgv.2 h0;(focus (refine wkvp (w_1 h2) (w_1 (Za5 l hs hl)) ?_;(repeat' first|exact w_t|apply w_l);all_goals intros));simp (disch:=omega) only [go_sem,h3];rfl
 ·obtain⟨h2,h3⟩:=Zdw h0;have hb:Zml (nv l)=16*((toL (nv l)).length - 1)+Zes (gN (toL (nv l)) ((toL (nv l)).length - 1)):=if_neg h0;have b:=Zhw (Zbz (Zau (nv l)) ((toL (nv l)).length - 1));have w:(16:Int)*(((toL (nv l)).length:Int) - 1)+(Zes (gN (toL (nv l)) ((toL (nv l)).length - 1)):Nat)=(Zml (nv l):Nat):=by omega
  (repeat' (first|(with_reducible first|refine stp ?_|apply gx1|apply gx2|apply gx3|apply gx4|apply gx5|apply gx6|apply gx7|refine gw0 (Za5 l hs hl) ?_ ?_|refine gw0 (Zn6 (gN (toL (nv l)) ((toL (nv l)).length - 1)) (Zbz (Zau (nv l)) _)) ?_ ?_)|(with_reducible refine Zbf ?_;intro _)|((with_reducible refine gE ?_);(try simp (disch:=omega) only [go_sem,w])<;>first|rfl|omega)|with_reducible refine Zaf (by decide) ?_))
  simp (disch:=omega) only [go_sem,w]
theorem Zs8 (a:List Nat) (d:Nat) (ha:a.length≤1000000000) (la:Lm a) (hd0:0 < d) (hd:d < 65536):Pure Tryz.prog 174 [lim a,.v (.int .u16 (d:Int))] (.tup [lim (toL (nv a/d)),.v (.int .u16 ((nv a%d:Nat):Int))]):=by
 refine Zaa (tok:=0) (rs:=[.tmp 4,.tmp 5]) Tryz.func174 rfl Tryz.ntmps174 Tryz.results174 Tryz.call174 (by rfl) (by simp) ?_;(focus (refine wkvp w_t w_t ?_;(repeat' first|exact w_t|apply w_l);all_goals intros));refine Zag (ι:=Nat) (λk e m=>k≤a.length∧(e 0=lim a∧e 1=.v (.int .u16 (d:Int))∧e 8=.v (.int .i64 ((k:Int) - 1)))∧∃sv q r,(e 6=.own 11 sv∧e 7=.v (.int .u32 (r:Nat))∧m 11=some (.row sv 104 1 (u16s q) 0))∧q.length=a.length∧Lm q∧r < d∧(∀j,j < k→gN q j=0)∧nv (a.drop k)=d*nv (q.drop k)+r) (λk=>k) a.length (by rfl) ?_ ?_
 ·rintro k e m ⟨hk,⟨e0,e1,e8⟩,sv,q,r,⟨e6,e7,em⟩,hql,hLq,hr,hz,hv⟩
  by_cases h0:k=0
  ·subst h0;rw [List.drop_zero,List.drop_zero] at hv;have h2:nv a/d=nv q:=by rw [hv,Nat.mul_add_div hd0,Nat.div_eq_of_lt hr,Nat.add_zero]
   have h3:nv a%d=r:=by rw [hv,Nat.mul_add_mod,Nat.mod_eq_of_lt hr]
   (focus (refine wkax (w_7 e0 e1 e8 e6 e7 em hql) w_t w_t (w_1 (Za5 q (by omega) hLq)) w_t w_t (w_r 0) ?_;(repeat' first|exact w_t|apply w_l);all_goals intros));simp (disch:=omega) only [go_sem,h2,h3]
  ·have ga:=Zbz la (k - 1);have hd1:=div_step (x:=gN a (k - 1)) rfl hv
   have w1:(r*65536+gN a (k - 1))/d < 65536:=by
    rw [Nat.div_lt_iff_lt_mul hd0];have:(r+1)*65536≤d*65536:=Nat.mul_le_mul_right _ hr;rw [Nat.mul_comm 65536 d];omega
   have w2:(r*65536+gN a (k - 1))%d < d:=Nat.mod_lt _ hd0;have hk1:k - 1+1=k:=by omega
   have hrr:r < 65536:=by omega
   have w3:((r*65536+gN a (k - 1))/d)%65536=(r*65536+gN a (k - 1))/d:=Nat.mod_eq_of_lt w1;(focus (refine wkvp (w_11 e0 e1 e8 e6 e7 em hql @Zdz @Zek @Zbc w3) w_t ?_;(repeat' first|exact w_t|apply w_l);all_goals intros));refine⟨k - 1,⟨by omega,⟨by exact gW e0,by exact gW e1,by(simp (disch:=omega) only [go_sem,e8];congr 2;omega)⟩,sv,_,_,⟨by exact gW e6,by exact gC,by exact gC⟩,by simpa using hql,hLq.set _ w1,w2,λj hj=>?_,?_⟩,by omega⟩
   ·rw [Zfh (by omega),if_neg (by omega)];exact hz j (by omega)
   ·rw [Zb5,hk1,hd1,Zb5 (q.set _ _),hk1,Zfh (by omega),if_pos rfl,List.drop_set_of_lt (by omega)]
 ·exact⟨Nat.le_refl _,by exact gC,_,List.replicate a.length 0,0,⟨by exact gC,by exact gC,by exact gC⟩,by simp,Lm.zeros _,hd0,λj hj=>Zgs _ _,by rw [List.drop_eq_nil_of_le (Nat.le_refl _),List.drop_eq_nil_of_le (by simp)];simp [nv]⟩
theorem natUint (l:List Nat) (hs:l.length≤1000000000) (hl:Lm l):Pure Tryz.prog 142 [lim l] (.tup [.v (.int .u64 (if nv l < 18446744073709551616 then (nv l:Int) else 0)),.v (.bool (decide (nv l < 18446744073709551616)))]):=by
 have h1:=Zax hl;have hk:=Zai (n:=nv l) (k:=4);have va:=Zat (nv l);have ma:=Zau (nv l);refine Zaa (tok:=0) (rs:=[.tmp 2,.tmp 3]) Tryz.func142 rfl Tryz.ntmps142 Tryz.results142 Tryz.call142 (by rfl) (by simp) ?_;by_cases hb:nv l < 18446744073709551616
 ·have h4:=hk.2 hb;generalize hA:toL (nv l)=A at *;(focus (refine wkvp (w_1 hA) (w_1 (Za5 l hs hl)) ?_;(repeat' first|exact w_t|apply w_l);all_goals intros));rw [hA];refine Zag (ι:=Nat) (λk e m=>k≤A.length∧(e 12=lim A∧e 13=.v (.int .i64 A.length)∧e 14=.v (.int .i64 k)∧e 4=.v (.int .u64 (nv (A.take k):Nat)))) (λk=>A.length - k) 0 (by rfl) ?_ ?_
  ·rintro k e m ⟨hk,⟨e12,e13,e14,e4⟩⟩
   have ga:=Zbz ma k;by_cases hlt:k < A.length
   ·have b1:nv (A.take k) < 65536 ^ k:=Nat.lt_of_lt_of_le (Zgz (ma.take k)) (Nat.pow_le_pow_right (by omega) (by rw [List.length_take];omega));rw [Zm4] at b1;have w:=orS_64 (n:=nv (A.take k)) (x:=gN A k) (s:=16*k) b1 (by omega) ga;rw [←Zm4,←Zay,Zm4] at w
    have w2:shlI .u64 (gN A k:Int) ((16:Int)*(k:Int))=((gN A k*2 ^ (16*k):Nat):Int):=by
     have e:(16:Int)*(k:Int)=((16*k:Nat):Int):=by omega
     rw [e];refine shl_64 (by omega) ?_;have:(2:Nat) ^ (16*k)≤2 ^ 48:=Nat.pow_le_pow_right (by omega) (by omega);have h5:gN A k*2 ^ (16*k)≤65535*2 ^ 48:=Nat.mul_le_mul (by omega) this;omega
    (focus (refine wkvp (w_6 e12 e13 e14 e4 w2 w) w_t ?_;(repeat' first|exact w_t|apply w_l);all_goals intros));exact⟨k+1,⟨by omega,by exact gV (And.intro e12 (And.intro e13 (And.intro e14 e4)))⟩,by omega⟩
   ·rw [Zbl (by omega),va] at e4;(focus (refine wkvp (w_4 e12 e13 e14 e4) w_t ?_;(repeat' first|exact w_t|apply w_l);all_goals intros));simp (disch:=omega) only [go_sem,if_pos hb,decide_eq_true hb]
  ·exact⟨Nat.zero_le _,by exact gC⟩
 ·have h4:4 < (toL (nv l)).length:=by
   rcases Nat.lt_or_ge 4 (toL (nv l)).length with h | h
   ·exact h
   ·exact absurd (hk.1 h) hb
  (focus (refine wkvp w_t (w_1 (Za5 l hs hl)) ?_;(repeat' first|exact w_t|apply w_l);all_goals intros));simp (disch:=omega) only [go_sem,if_neg hb,decide_eq_false hb]
theorem natRight (a:List Nat) (n:Nat) (ha:a.length≤1000000000) (la:Lm a) (hn:n≤1048576):Pure Tryz.prog 190 [lim a,.v (.int .i64 (n:Int))] (lim (toL (nv a/2 ^ n))):=by
 have hns:n=16*(n/16)+n%16:=by omega
 have q1:(n:Int).tdiv 16=((n/16:Nat):Int):=Zdz n 16;have q2:(n:Int).tmod 16=((n%16:Nat):Int):=Zek n 16;have hs:n%16 < 16:=Nat.mod_lt _ (by omega);rw [hns,Zrh,Zs5 la,←hns];generalize n/16=l at *;generalize n%16=s at *;by_cases hl:a.length≤l
 ·have hz:toL (nv (a.drop l)/2 ^ s)=[]:=by rw [List.drop_eq_nil_of_le hl];simp [nv,Za3]
  rw [slN hz];refine Pure.wk (r:=.v (.slice none 0 0)) ?_ (.nil 1);refine Zaa (tok:=0) (rs:=[.tmp 4]) Tryz.func190 rfl Tryz.ntmps190 Tryz.results190 Tryz.call190 (by rfl) (by simp) ?_;(focus (refine wkvp (w_2 q1 q2) w_t ?_;(repeat' first|exact w_t|apply w_l);all_goals intros));simp (disch:=omega) only [go_sem]
 ·have hc:(a.length:Int) - (l:Int)=((a.length - l:Nat):Int):=by omega
  refine Zaa (tok:=0) (rs:=[.tmp 4]) Tryz.func190 rfl Tryz.ntmps190 Tryz.results190 Tryz.call190 (by rfl) (by simp) ?_;(focus (refine wkvp (w_3 q1 q2 hc) w_t ?_;(repeat' first|exact w_t|apply w_l);all_goals intros));refine Zag (ι:=Nat) (λk e m=>k≤a.length - l∧(e 0=lim a∧e 5=.v (.int .i64 (l:Int))∧e 6=.v (.int .i64 (s:Int))∧e 24=.v (.int .i64 (a.length - l:Nat))∧e 25=.v (.int .i64 (k:Int)))∧∃sv o,(e 7=.own 22 sv∧m 22=some (.row sv 104 1 (u16s o) 0))∧o.length=a.length - l∧Lm o∧nv (o.take k)=(nv (a.drop l)/2 ^ s)%65536 ^ k) (λk=>a.length - l - k) 0 (by rfl) ?_ ?_
  ·rintro k e m ⟨hk,⟨e0,e5,e6,e24,e25⟩,sv,o,⟨e7,em⟩,hol,hLo,hv⟩
   by_cases hlt:k < a.length - l
   ·have ga:=Zbz la (k+l);have gb:=Zbz la (k+l+1)
    have hd:((gN a (k+l)+65536*gN a (k+l+1))/2 ^ s)%65536=(nv (a.drop l)/65536 ^ k/2 ^ s)%65536:=by
     rw [Zs5 (la.drop l),List.drop_drop,Zb5,Zb5 a (l+k+1),shr_dig (by omega),Nat.add_comm l k]
    have hst:=shr_step hv hd;have w0:((gN a (k+l)+65536*gN a (k+l+1))/2 ^ s)%65536 < 65536:=Nat.mod_lt _ (by omega);have sh:=λx=>shr_32 (x:=x) (s:=s) (by omega);by_cases hmore:k+l+1 < a.length
    ·(repeat' (first|(with_reducible first|refine stp ?_|apply gx1|apply gx2|apply gx3|apply gx4|apply gx5|apply gx6|apply gx7)|(with_reducible refine Zbf ?_;intro _)|((with_reducible refine gE ?_);(try simp (disch:=omega) only [go_sem,e0,e5,e6,e24,e25,e7,em,hol,Za0,Zb1,Zbc,or16_32',sh])<;>first|rfl|omega)|with_reducible refine Zaf (by decide) ?_))
     exact⟨k+1,⟨by omega,by exact gV (And.intro e0 (And.intro e5 (And.intro e6 (And.intro e24 e25)))),sv,_,⟨by exact gW e7,by exact gC⟩,by simpa using hol,hLo.set _ w0,by rw [Zc5 (by omega)];exact hst⟩,by omega⟩
    ·have g0:gN a (k+l+1)=0:=Zd2 (by omega);simp only [g0,Nat.mul_zero,Nat.add_zero] at hst w0;(focus (refine wkvp (w_12 e0 e5 e6 e24 e25 e7 em hol @Za0 @Zb1 @Zbc sh) w_t ?_;(repeat' first|exact w_t|apply w_l);all_goals intros));exact⟨k+1,⟨by omega,by exact gV (And.intro e0 (And.intro e5 (And.intro e6 (And.intro e24 e25)))),sv,_,⟨by exact gW e7,by exact gC⟩,by simpa using hol,hLo.set _ w0,by rw [Zc5 (by omega)];exact hst⟩,by omega⟩
   ·rw [Zbl (by omega)] at hv;have h5:=Zgz (la.drop l);rw [List.length_drop] at h5;have hk2:k=a.length - l:=by omega
    rw [Nat.mod_eq_of_lt (Nat.lt_of_le_of_lt (Nat.div_le_self _ _) (by rw [hk2];exact h5))] at hv;(focus (refine wkax (w_8 e0 e5 e6 e24 e25 e7 em hol) w_t w_t (w_1 (Za5 o (by omega) hLo)) w_t w_t (w_r 0) ?_;(repeat' first|exact w_t|apply w_l);all_goals intros));simp (disch:=omega) only [go_sem,hv]
  ·exact⟨Nat.zero_le _,by exact gC,_,List.replicate (a.length - l) 0,⟨by exact gC,by exact gC⟩,by simp,Lm.zeros _,by simp [nv,Nat.mod_one]⟩
theorem Zrj (σ:Mem) (K:Nat) (sv:Value) (l:List Nat) (hs:l.length≤1000000000) (hl:Lm l) (hσ:σ K=some (.row sv 104 1 (u16s l) 0)) :
 ACall Tryz.prog 170 [.own K sv] σ λr σ'=>r=.view K sv 1 0 (toL (nv l)).length∧σ'=σ:=by
 refine Zck (tok:=0) (rs:=[.tmp 2]) Tryz.func170 rfl Tryz.ntmps170 Tryz.results170 Tryz.call170 (by rfl) (by simp) ?_;(focus (refine wkvp (w_1 hσ) w_t ?_;(repeat' first|exact w_t|apply w_l);all_goals intros));refine Zag (ι:=Nat) (λk e m=>k≤l.length∧e 0=.own K sv∧e 3=.v (.int .i64 (k:Int))∧m=σ∧∀j,k≤j→gN l j=0) (λk=>k) l.length (by rfl) ?_ ?_
 ·rintro k e m ⟨hk,e0,e3,rfl,hz⟩
  have gl:=Zbz hl (k - 1);have fin:(k=0∨0 < gN l (k - 1))→k=(toL (nv l)).length:=λh=>by
   rw [←Zjm hl hk hz h,List.length_take,Nat.min_eq_left hk]
  by_cases h0:k=0
  ·subst h0;have f:=fin (.inl rfl);(focus (refine wkvp (w_3 e0 e3 hσ) w_t ?_;(repeat' first|exact w_t|apply w_l);all_goals intros));simp (disch:=omega) only [go_sem,←f]
  ·by_cases h1:gN l (k - 1)=0
   ·(focus (refine wkvp (w_3 e0 e3 hσ) w_t ?_;(repeat' first|exact w_t|apply w_l);all_goals intros));exact⟨k - 1,⟨by omega,by exact gW e0,by(simp (disch:=omega) only [go_sem,e3];congr 2;omega),rfl,λj hj=>by
     rcases Nat.lt_or_ge j k with h2 | h2
     ·rw [show j=k - 1 by omega];exact h1
     ·exact hz j h2⟩,by omega⟩
   ·have f:=fin (.inr (by omega));(focus (refine wkvp (w_3 e0 e3 hσ) w_t ?_;(repeat' first|exact w_t|apply w_l);all_goals intros));simp (disch:=omega) only [go_sem,←f,Nat.sub_zero]
 ·exact⟨Nat.le_refl _,by exact gC,by exact gC,rfl,λj hj=>Zd2 hj⟩
theorem Zng (σ:Mem) (a:List Nat) (n:Nat) (ha:a.length≤400000000) (la:Lm a) (hn:n≤1048576) (h0:nv a≠0) :
 ACall Tryz.prog 176 [lim a,.v (.int .i64 (n:Int))] σ λr σ'=>∃sv o,r=.view 44 sv 1 0 (toL (nv a*2 ^ n)).length∧σ'=upd σ 44 (some (.row sv 104 1 (u16s o) 0))∧o.length=(toL (nv a)).length+n/16+1∧Lm o∧nv o=nv a*2 ^ n:=by
 have hns:n=16*(n/16)+n%16:=by omega
 have q1:(n:Int).tdiv 16=((n/16:Nat):Int):=Zdz n 16;have q2:(n:Int).tmod 16=((n%16:Nat):Int):=Zek n 16;have hs:n%16 < 16:=Nat.mod_lt _ (by omega)
 have hnv:nv a*2 ^ n=nv a*2 ^ (n%16)*65536 ^ (n/16):=by
  have:=Zrg (a:=nv a) (l:=n/16) (s:=n%16)
  rwa [←hns] at this
 have h1:=Zax la;have h2:=(Zdw h0).1;have va:=Zat (nv a);have ma:=Zau (nv a);have h16:n/16≤65536:=by omega
 clear hns;generalize hl:n/16=l at *;generalize hss:n%16=s at *;generalize hA:toL (nv a)=A at *;refine Zck (tok:=0) (rs:=[.tmp 4]) Tryz.func176 rfl Tryz.ntmps176 Tryz.results176 Tryz.call176 (by rfl) (by simp) ?_;(focus (refine wkvp (w_5 q1 q2 hA @Za0 @Zb1) (w_1 (Za5 a (by omega) la)) ?_;(repeat' first|exact w_t|apply w_l);all_goals intros));rw [hA];have e1:((A.length+l:Nat):Int)+3=((A.length+l+3:Nat):Int):=by omega
 (focus (refine wkvp (w_4 hA @Za0 @Zb1 e1) w_t ?_;(repeat' first|exact w_t|apply w_l);all_goals intros));refine Zag (ι:=Nat) (λk e m=>k≤A.length∧(e 5=.v (.int .i64 (l:Int))∧e 6=.v (.int .i64 (s:Int))∧e 45=lim A∧e 46=.v (.int .i64 A.length)∧e 47=.v (.int .i64 (k:Int)))∧∃sv o,(e 7=.own 44 sv∧m=upd σ 44 (some (.row sv 104 1 (u16s o) 0)))∧o.length=A.length+l+1∧Lm o∧gN o (k+l) < 2 ^ s∧(∀j,k+l < j→gN o j=0)∧nv o=nv (A.take k)*2 ^ s*65536 ^ l) (λk=>A.length - k) 0 (by rfl) ?_ ?_
 ·rintro k e m ⟨hk,⟨e5,e6,e45,e46,e47⟩,sv,o,⟨e7,rfl⟩,hol,hLo,hg,hz,hv⟩
  by_cases hlt:k < A.length
  ·have gx:=Zbz ma k
   have p16:(2:Nat) ^ s≤32768:=by
    have:(2:Nat) ^ s≤2 ^ 15:=Nat.pow_le_pow_right (by omega) (by omega);omega
   have bx:gN A k*2 ^ s≤65535*32768:=Nat.mul_le_mul (by omega) p16;have sh:=shl_32 (x:=gN A k) (s:=s) (by omega) (by omega);have lo:=low_mul (x:=gN A k) (s:=s) (by omega);have hlo:(gN A k*2 ^ s)%65536 < 65536:=Nat.mod_lt _ (by omega);rw [lo] at hlo;have hor:=or_16 (b:=gN o (k+l)) (by omega) hg hlo;rw [←lo] at hor
   have hhi:gN A k*2 ^ s/65536 < 2 ^ s:=by
    rw [Nat.div_lt_iff_lt_mul (by omega),Nat.mul_comm];exact Nat.mul_lt_mul_of_pos_left gx (Nat.two_pow_pos s)
   have hsum:gN o (k+l)+(gN A k*2 ^ s)%65536 < 65536:=by
    rw [lo];have h5:(gN A k%2 ^ (16 - s)+1)*2 ^ s≤2 ^ (16 - s)*2 ^ s:=Nat.mul_le_mul_right _ (Nat.mod_lt _ (Nat.two_pow_pos _));rw [←Nat.pow_add,Nat.sub_add_cancel (by omega),Nat.add_mul,Nat.one_mul] at h5;omega
   have hcut:gN A k*2 ^ s/65536%65536=gN A k*2 ^ s/65536:=Nat.mod_eq_of_lt (by omega);(focus (refine wkvp (w_14 e5 e6 e45 e46 e47 e7 hol @Za0 @Zb1 @Zbc sh hor hcut @Ztj) w_t ?_;(repeat' first|exact w_t|apply w_l);all_goals intros));refine⟨k+1,⟨by omega,by exact gV (And.intro e5 (And.intro e6 (And.intro e45 (And.intro e46 e47)))),sv,_,⟨by exact gW e7,by(simp (disch:=omega) only [go_sem,Zg7]<;>repeat' first|rfl|refine⟨?_,?_⟩)⟩,by simpa using hol,(hLo.set _ hsum).set _ (by omega),?_,λj hj=>?_,?_⟩,by omega⟩
   ·rw [Zfh (by simp;omega),if_pos (by omega)];exact hhi
   ·rw [Zfh (by simp;omega),if_neg (by omega),Zfh (by omega),if_neg (by omega)];exact hz j (by omega)
   ·have h3:=Znd (o:=o) (j:=k+l) (by omega) (gN o (k+l)+(gN A k*2 ^ s)%65536);have h4:=Znd (o:=o.set (k+l) (gN o (k+l)+(gN A k*2 ^ s)%65536)) (j:=k+l+1) (by simp;omega) (gN A k*2 ^ s/65536);rw [Zfh (by omega),if_neg (by omega),hz (k+l+1) (by omega),Nat.mul_zero,Nat.add_zero] at h4;rw [h4,Zay,Nat.add_mul,Nat.add_mul,←hv]
    have h5:65536 ^ (k+l)*(gN A k*2 ^ s%65536)+65536 ^ (k+l+1)*(gN A k*2 ^ s/65536)=65536 ^ k*gN A k*2 ^ s*65536 ^ l:=by
     rw [Nat.pow_succ,Nat.mul_assoc (65536 ^ (k+l)),←Nat.mul_add,Nat.mod_add_div,Nat.pow_add];simp only [Nat.mul_assoc,Nat.mul_left_comm,Nat.mul_comm]
    rw [Nat.mul_add] at h3;omega
  ·have hkA:k=A.length:=by omega
   subst hkA;rw [Zbl (Nat.le_refl _),va,←hnv] at hv;have ct:=Zrj (upd σ 44 (some (.row sv 104 1 (u16s o) 0))) 44 sv o (by omega) hLo (by simp only [Zaz,if_true]);rw [hv] at ct
   (repeat' (first|(with_reducible first|refine stp ?_|apply gx1|apply gx2|apply gx3|apply gx4|apply gx5|apply gx6|apply gx7|refine Zhs (ct) ?_)|(with_reducible refine Zbf ?_;intro _)|((with_reducible refine gE ?_);(try simp (disch:=omega) only [go_sem,e5,e6,e45,e46,e47,e7])<;>first|rfl|omega)|with_reducible refine Zaf (by decide) ?_))
   simp (disch:=omega) only [go_sem];exact⟨sv,o,rfl,rfl,hol,hLo,hv⟩
 ·refine⟨Nat.zero_le _,by exact gC,_,List.replicate (A.length+l+1) 0,⟨by exact gC,by exact gC⟩,by simp,Lm.zeros _,?_,λj _=>Zgs _ _,by simp [nv,Zlu]⟩;rw [Zgs];exact Nat.two_pow_pos s
theorem natShl (a:List Nat) (n:Nat) (ha:a.length≤400000000) (la:Lm a) (hn:n≤1048576):Pure Tryz.prog 176 [lim a,.v (.int .i64 (n:Int))] (lim (toL (nv a*2 ^ n))):=by
 by_cases h0:nv a=0
 ·have h2:=Zbp.2 h0;rw [slN (show toL (nv a*2 ^ n)=[] by rw [h0,Nat.zero_mul,Za3])];refine Pure.wk (r:=.v (.slice none 0 0)) ?_ (.nil 1);refine Zaa (tok:=0) (rs:=[.tmp 4]) Tryz.func176 rfl Tryz.ntmps176 Tryz.results176 Tryz.call176 (by rfl) (by simp) ?_;(focus (refine wkvp (w_1 h2) (w_1 (Za5 a (by omega) la)) ?_;(repeat' first|exact w_t|apply w_l);all_goals intros));simp (disch:=omega) only [go_sem]
 ·refine Zlm (Zng Zan a n ha la hn h0) λr σ' ⟨sv,o,hr,hσ,hol,hLo,hv⟩=>?_;subst hr;subst hσ;have hlen:=Zax hLo;rw [hv] at hlen;refine⟨by simp (disch:=omega) only [go_sem],?_⟩;simp (disch:=omega) only [go_sem,Nat.zero_add];obtain⟨k,h1,h2⟩:=Zla hLo;rw [hv] at h2;have h3:k=(toL (nv a*2 ^ n)).length:=by rw [←h2,List.length_take];omega
  rw [←h3,h2]
theorem natShr (a:List Nat) (n:Nat) (ha:a.length≤400000000) (la:Lm a) (h0:0 < n) (hn:n≤1048576):Pure Tryz.prog 176 [lim a,.v (.int .i64 (-(n:Int)))] (lim (toL (nv a/2 ^ n))):=by
 by_cases hz:nv a=0
 ·have h2:=Zbp.2 hz;rw [slN (show toL (nv a/2 ^ n)=[] by rw [hz,Nat.zero_div,Za3])];refine Pure.wk (r:=.v (.slice none 0 0)) ?_ (.nil 1);refine Zaa (tok:=0) (rs:=[.tmp 4]) Tryz.func176 rfl Tryz.ntmps176 Tryz.results176 Tryz.call176 (by rfl) (by simp) ?_;(focus (refine wkvp (w_1 h2) (w_1 (Za5 a (by omega) la)) ?_;(repeat' first|exact w_t|apply w_l);all_goals intros));simp (disch:=omega) only [go_sem]
 ·have h2:=(Zdw hz).1;have h1:=Zax la;have hr:=natRight (toL (nv a)) n (by omega) (Zau _) hn;rw [Zat] at hr;have w:(0:Int) - -(n:Int)=(n:Int):=by omega
  refine Zaa (tok:=0) (rs:=[.tmp 4]) Tryz.func176 rfl Tryz.ntmps176 Tryz.results176 Tryz.call176 (by rfl) (by simp) ?_;(focus (refine wkvp (w_1 w) (w_2 (Za5 a (by omega) la) hr) ?_;(repeat' first|exact w_t|apply w_l);all_goals intros));simp (disch:=omega) only [go_sem]
end Go.Proofs.YtimmnimikmnljaaGreat
