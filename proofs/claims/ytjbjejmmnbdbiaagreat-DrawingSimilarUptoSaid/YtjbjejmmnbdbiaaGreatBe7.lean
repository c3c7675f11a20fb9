/- Contracts of the functions that the law reaches, and the rules by which they are walked. They say what a call hands back for every input within the bounds that each names; no other condition. -/
import Derived.Test.YtjbjejmmnbdbiaaGreatBe6
set_option linter.unusedSimpArgs false
set_option linter.unusedVariables false
set_option maxRecDepth 20000
set_option maxHeartbeats 16000000
namespace Go.Proofs.YtjbjejmmnbdbiaaGreat
open Go Go.RowKit Go.Pg Go.Proofs.Tryz
attribute [-bool_to_prop] Bool.and_eq_decide Bool.or_eq_decide Bool.decide_beq_decide decide_eq_decide
theorem Zjj:szOf prog 134=some 4:=by kernel_rfl
theorem Zjm:Zea prog 134=some 40:=by kernel_rfl
theorem zTok:Zaq prog 134=some (.agg #[.int .i64 0,.int .i64 0,.int .i64 0,.string ByteArray.empty]):=by kernel_rfl
theorem szEx:szOf prog 138=some 7:=by kernel_rfl
theorem byEx:Zea prog 138=some 112:=by kernel_rfl
theorem zEx:Zaq prog 138=some (.agg #[.int .i64 0,.string ByteArray.empty,.bool false,.slice none 0 0,.slice none 0 0,.slice none 0 0,.int .i64 0]):=by kernel_rfl
theorem Zle:szOf prog 140=some 10:=by kernel_rfl
theorem Zll:Zea prog 140=some 152:=by kernel_rfl
theorem zStm:Zaq prog 140=some (.agg #[.int .i64 0,.slice none 0 0,.int .i64 0,.string ByteArray.empty,.bool false,.slice none 0 0,.slice none 0 0,.slice none 0 0,.int .i64 0,.int .i64 0]):=by kernel_rfl
theorem Zj1:szOf prog 99=some 1:=by kernel_rfl
theorem zPrg:Zaq prog 99=some (.agg #[.slice none 0 0]):=by kernel_rfl
theorem szRw:szOf prog 286=some 4:=by kernel_rfl
theorem byRw:Zea prog 286=some 56:=by kernel_rfl
theorem zRw:Zaq prog 286=some (.agg #[.int .i64 0,.int .i64 0,.string ByteArray.empty,.slice none 0 0]):=by kernel_rfl
theorem Ztb:szOf prog 196=some 3:=by kernel_rfl
theorem Zuh:Zea prog 196=some 48:=by kernel_rfl
theorem zKno:Zaq prog 196=some (.agg #[.string ByteArray.empty,.int .i64 0,.slice none 0 0]):=by kernel_rfl
theorem Zta:szOf prog 147=some 3:=by kernel_rfl
theorem zSta:Zaq prog 147=some (.agg #[.slice none 0 0,.slice none 0 0,.slice none 0 0]):=by kernel_rfl
theorem Zec:szOf prog 130=some 1:=by kernel_rfl
theorem Zgb:Zaq prog 130=some (.slice none 0 0):=by kernel_rfl
theorem Zhg:szOf prog 136=some 1:=by kernel_rfl
theorem Zld:Zaq prog 136=some (.slice none 0 0):=by kernel_rfl
theorem Zfj:szOf prog 97=some 1:=by kernel_rfl
theorem Zhf:Zaq prog 97=some (.slice none 0 0):=by kernel_rfl
theorem Zh4:szOf prog 293=some 1:=by kernel_rfl
theorem Zmd:Zaq prog 293=some (.slice none 0 0):=by kernel_rfl
theorem Ziq:szOf prog 145=some 1:=by kernel_rfl
theorem Zlm:Zaq prog 145=some (.slice none 0 0):=by kernel_rfl
theorem Zj0 {α:Type} {l:List α} {k:Nat} (h:k < l.length):l.take (k+1)=l.take k++[l[k]]:=by rw [ZB8,Zym h];rfl
abbrev nilS:AV:=.v (.slice none 0 0)
def tokA (k p e:Int) (t:ByteArray):AV:=.agg [iv k,iv p,iv e,strA t]
def exA (k:Int) (nm:ByteArray) (ar:AV) (p:Int):AV:=.agg [iv k,strA nm,.v (.bool false),nilS,nilS,ar,iv p]
def stmA (k:Int) (ns:AV) (x:List AV) (p:Int):AV:=.agg ([iv k,ns]++x++[iv p])
attribute [go_sem] zTok underlying134 underlying130 zErr
attribute [local go_sem] Zbp Zbu Zjj Zjm Zec Zgb Zbw
def blB (c:Nat):Bool:=decide (c=32) || decide (c=9) || decide (c=13) || decide (c=10)
theorem rxBlank (c:Nat) (hc:c < 256):Pure prog 176 [.v (.int .u8 (c:Int))] (.v (.bool (blB c))):=by
 unfold blB;refine pI func176 rfl ntmps176 results176 call176 ?_;(focus (refine wkld w_t w_t w_t w_t ?_;(repeat' first|exact w_t|apply w_l);all_goals intros))
def gapB (s:ByteArray) (i k:Nat):Bool:=decide (i≤k) && ((List.range (k - i)).all (λj=>blB (gB s (i+j)) && decide (gB s (i+j)≠35)) && (decide (k=s.size) || (decide (k < s.size) && (!blB (gB s k) && decide (gB s k≠35)))))
theorem rxSkip (s:ByteArray) (i k:Nat) (h:gapB s i k=true) (hs:s.size≤20000):Pure prog 129 [strA s,iv i] (iv k):=by
 unfold gapB at h;simp only [Zy7,ZAc,Zzi,ZA3,List.mem_range,ZAs] at h;obtain⟨hik,hb,he⟩:=h;have hks:k≤s.size:=zo;refine pI func129 rfl ntmps129 results129 call129 ?_;(focus (refine wkad w_t w_t w_t ?_;(repeat' first|exact w_t|apply w_l);all_goals intros));refine Zab (ι:=Nat) (λj e m=>i≤j∧j≤k∧e 0=strA s∧e 1=iv (j:Int)) (λj=>k - j) i zr ?_ ?_
 ·rintro j e m ⟨hj,hjk,e0,e1⟩
  have gc:=Zjl s j;have cB:=rxBlank (gB s j) gc;have gt:=Ziw s j;by_cases hlt:j < k
  ·obtain⟨b1,b2⟩:=hb (j - i) zo;rw [show i+(j - i)=j by omega] at b1 b2;rw [b1] at cB;have hl:(j:Int) < (s.size:Int):=zo;(focus (refine wkad (w_5 e0 e1 gt hl b2) (w_1 cB) w_t ?_;(repeat' first|exact w_t|apply w_l);all_goals intros));exact⟨j+1,⟨zo,zo,gW e0,gS⟩,zo⟩
  ·have hjj:j=k:=zo;subst hjj;rcases he with he | ⟨h1,h2,h3⟩
   ·have hl:¬(j:Int) < (s.size:Int):=zo;(focus (refine wkad (w_3 e0 e1 hl) w_t w_t ?_;(repeat' first|exact w_t|apply w_l);all_goals intros));all_goals exact gL
   ·rw [h2] at cB;have hl:(j:Int) < (s.size:Int):=zo;(focus (refine wkad (w_5 e0 e1 gt hl h3) (w_1 cB) w_t ?_;(repeat' first|exact w_t|apply w_l);all_goals intros));all_goals exact gL
 ·exact⟨Zyp _,hik,gC,gC⟩
theorem rxSign1 (s:ByteArray) (i:Nat) (hi:i < s.size) (hs:s.size≤20000) (hc:gB s i=40∨gB s i=41∨gB s i=44∨gB s i=59):Pure prog 130 [strA s,iv i] (.tup [tokA 3 i ((i+1:Nat):Int) (s.extract i (i+1)),iv 0]):=by
 have gt:=Ziw s i;have gc:=Zjl s i;have hw:((i:Int)+1)=((i+1:Nat):Int):=zo;unfold tokA;rcases hc with h | h | h | h
 all_goals
  rw [h] at gt;refine pI func130 rfl ntmps130 results130 call130 ?_;(focus (refine wkad (w_2 gt hw) w_t w_t ?_;(repeat' first|exact w_t|apply w_l);all_goals intros));all_goals exact gM (w_1 hw)
theorem rxSign2 (s:ByteArray) (i:Nat) (hi:i+2≤s.size) (hs:s.size≤20000) (hc:gB s i=58) (hd:gB s (i+1)=61):Pure prog 130 [strA s,iv i] (.tup [tokA 3 i ((i+2:Nat):Int) (s.extract i (i+2)),iv 0]):=by
 have gt:=Ziw s i;have gu:=Ziw s (i+1);have hw:((i:Int)+1)=((i+1:Nat):Int):=zo;have hv:((i:Int)+2)=((i+2:Nat):Int):=zo;unfold tokA;rw [hc] at gt;rw [hd] at gu;refine pI func130 rfl ntmps130 results130 call130 ?_;(focus (refine wkad (w_4 gt hw hv gu) w_t w_t ?_;(repeat' first|exact w_t|apply w_l);all_goals intros));all_goals exact gM (w_2 hw hv)
theorem rxSignN (s:ByteArray) (i:Nat) (hi:i < s.size) (hs:s.size≤20000) (hc:letB (gB s i)=true):Pure prog 130 [strA s,iv i] (.tup [tokA 3 i ((i+1:Nat):Int) ByteArray.empty,iv 5]):=by
 have gt:=Ziw s i;have hw:((i:Int)+1)=((i+1:Nat):Int):=zo;unfold letB at hc;simp only [ZAc,Zzi] at hc;unfold tokA;generalize gB s i=c at *;refine pI func130 rfl ntmps130 results130 call130 ?_;(focus (refine wkad (w_2 gt hw) w_t w_t ?_;(repeat' first|exact w_t|apply w_l);all_goals intros));all_goals exact gM (w_1 hw)
theorem let_dig {c:Nat} (h:letB c=true):digB c=false:=by
 unfold letB at h;unfold digB;simp only [ZAc,Zzi] at h;exact Zyl zo
theorem rxWord (s:ByteArray) (i n:Nat) (h1:1≤n) (h20:n≤20) (hl:∀j,j < n→letB (gB s (i+j))=true) (hn:i+n≤s.size) (he:i+n=s.size∨(letB (gB s (i+n))=false∧digB (gB s (i+n))=false)) (hs:s.size≤20000):Pure prog 131 [strA s,iv i] (.tup [tokA 1 i ((i+n:Nat):Int) (s.extract i (i+n)),iv 0]):=by
 have cL0:=Zh9 (gB s i) (Zjl s i);have h0:=hl 0 zo;rw [Zzm] at h0;rw [h0] at cL0;have gt0:=Ziw s i;have hwn:IntKind.i64.wrap (((i+n:Nat):Int) - (i:Int))=(n:Int):=by rw [Ze9 zo zo];omega
 have hsn:((i+n:Nat):Int).toNat=i+n:=Zz5 _;unfold tokA;generalize hN:i+n=N at *;refine pI func131 rfl ntmps131 results131 call131 ?_;(focus (refine wkad (w_1 gt0) (w_1 cL0) w_t ?_;(repeat' first|exact w_t|apply w_l);all_goals intros));rename_i g4 g6;refine Zab (ι:=Nat) (λj e m=>i≤j∧j≤N∧e 0=strA s∧e 1=iv i∧(e 6=.pbox 6 g6 0∧m 6=some (.box g6 134 [iv 1,iv i,iv j,strA ByteArray.empty] false))∧e 4=.pbox 4 g4 0∧m 4=some (.box g4 134 [iv 0,iv 0,iv 0,strA ByteArray.empty] false)) (λj=>N - j) i zr ?_ ?_
 ·rintro j e m ⟨hij,hj,e0,e1,⟨e6,m6⟩,e4,m4⟩
  have gt:=Ziw s j;have cL:=Zh9 (gB s j) (Zjl s j);have cD:=Zp5 (gB s j) (Zjl s j);by_cases hlt:j < N
  ·have hb:=hl (j - i) zo;rw [show i+(j - i)=j by omega] at hb;rw [hb] at cL;rw [let_dig hb] at cD;have hl2:(j:Int) < (s.size:Int):=zo;(focus (refine wkad (w_8 e0 e1 e6 m6 e4 m4 gt hl2) (w_2 cD cL) w_t ?_;(repeat' first|exact w_t|apply w_l);all_goals intros));exact⟨j+1,⟨zo,zo,gW e0,gW e1,⟨gW e6,gS⟩,gW e4,gW m4⟩,zo⟩
  ·have hjj:j=N:=zo;subst hjj;rcases he with he | ⟨k1,k2⟩
   ·have hl2:¬(j:Int) < (s.size:Int):=zo;(focus (refine wkad (w_8 e0 e1 e6 m6 e4 m4 hl2 hwn) w_t w_t ?_;(repeat' first|exact w_t|apply w_l);all_goals intros));all_goals exact gM (w_1 e4)
   ·rw [k1] at cL;rw [k2] at cD;by_cases hsz:j < s.size
    ·have hl2:(j:Int) < (s.size:Int):=zo;(focus (refine wkad (w_9 e0 e1 e6 m6 e4 m4 gt hl2 hwn) (w_2 cD cL) w_t ?_;(repeat' first|exact w_t|apply w_l);all_goals intros));all_goals exact gM (w_1 e4)
    ·have hl2:¬(j:Int) < (s.size:Int):=zo;(focus (refine wkad (w_8 e0 e1 e6 m6 e4 m4 hl2 hwn) w_t w_t ?_;(repeat' first|exact w_t|apply w_l);all_goals intros));all_goals exact gM (w_1 e4)
 ·exact⟨Zyp _,zo,gC,gC,⟨gC,gC⟩,gC,gC⟩
structure Tk where
 k:Nat
 p:Nat
 e:Nat
def tkA (s:ByteArray) (t:Tk):AV:=tokA t.k t.p t.e (s.extract t.p t.e)
def signB (c:Nat):Bool:=decide (c=40) || decide (c=41) || decide (c=44) || decide (c=59)
def tkB (s:ByteArray) (t:Tk):Bool:=decide (t.e≤s.size) && ((decide (t.k=3) && decide (t.e=t.p+1) && signB (gB s t.p)) || (decide (t.k=3) && decide (t.e=t.p+2) && decide (gB s t.p=58) && decide (gB s (t.p+1)=61)) ||
 (decide (t.k=1) && decide (t.p < t.e) && decide (t.e - t.p≤20) && (List.range (t.e - t.p)).all (λj=>letB (gB s (t.p+j))) && (decide (t.e=s.size) || (!letB (gB s t.e) && !digB (gB s t.e)))))
theorem tkB_ok {s:ByteArray} {t:Tk} (h:tkB s t=true) (hs:s.size≤20000):t.p < s.size∧t.e≤s.size ∧
 ((letB (gB s t.p)=false∧digB (gB s t.p)=false∧Pure prog 130 [strA s,iv t.p] (.tup [tkA s t,iv 0])) ∨
  (letB (gB s t.p)=true∧Pure prog 130 [strA s,iv t.p] (.tup [tokA 3 t.p ((t.p+1:Nat):Int) ByteArray.empty,iv 5])∧Pure prog 131 [strA s,iv t.p] (.tup [tkA s t,iv 0]))):=by
 obtain⟨k,p,e⟩:=t;unfold tkB at h;simp only [Zy7,ZAc,Zzi,ZA3,List.mem_range,ZAs] at h;unfold tkA;simp only;obtain⟨he,h⟩:=h;rcases h with(⟨⟨rfl,rfl⟩,h3⟩ | ⟨⟨⟨rfl,rfl⟩,h3⟩,h4⟩) | ⟨⟨⟨⟨rfl,h2⟩,h3⟩,h4⟩,h5⟩
 ·unfold signB at h3;simp only [ZAc,Zzi] at h3;refine⟨zo,he,.inl ⟨?_,?_,rxSign1 s p zo hs zo⟩⟩
  ·unfold letB;rw [Zyl zo,Zyl zo];rfl
  ·unfold digB;exact Zyl zo
 ·refine⟨zo,he,.inl ⟨?_,?_,rxSign2 s p he hs h3 h4⟩⟩
  ·unfold letB;rw [Zyl zo,Zyl zo];rfl
  ·unfold digB;exact Zyl zo
 ·have h0:=h4 0 zo;rw [Zzm] at h0;have hw:=rxWord s p (e - p) zo h3 h4 zo (by rw [show p+(e - p)=e by omega];exact h5) hs;rw [show p+(e - p)=e by omega] at hw;exact⟨zo,he,.inr ⟨h0,rxSignN s p zo hs h0,hw⟩⟩
def sttN (s:ByteArray) (TK:List Tk) (j:Nat):Nat:=match TK[j]? with | some t=>t.p | none=>s.size
def lexB (s:ByteArray) (TK:List Tk):Bool:=TK.all (tkB s) && (gapB s 0 (sttN s TK 0) && (List.range TK.length).all (λj=>match TK[j]? with | some t=>gapB s t.e (sttN s TK (j+1)) | none=>true))
def endA (s:ByteArray):AV:=tokA 0 s.size s.size ByteArray.empty
theorem rxAll (s:ByteArray) (TK:List Tk) (h:lexB s TK=true) (hs:s.size≤20000) (hl:TK.length≤20000):Pure prog 86 [strA s] (.tup [.sl 4 (TK.map (tkA s)++[endA s]),iv 0,iv 0]):=by
 unfold lexB at h;simp only [Zy7,ZA3,List.mem_range] at h;obtain⟨hT,hG0,hG⟩:=h;have c0:=rxSkip s 0 _ hG0 hs;have hst:∀j (h:j < TK.length),sttN s TK j=TK[j].p:=λj h=>by unfold sttN;rw [Zym h]
 have hse:sttN s TK TK.length=s.size:=by unfold sttN;rw [Zz1 (Zyp _)]
 have hGj:∀j (h:j < TK.length),gapB s TK[j].e (sttN s TK (j+1))=true:=λj h=>by have:=hG j h;rw [Zym h] at this;exact this
 have hTj:∀j (h:j < TK.length),tkB s TK[j]=true:=λj h=>hT _ (Zy6 h);have htk:∀j (h:j < TK.length),(TK.take (j+1)).map (tkA s)=(TK.take j).map (tkA s)++[tkA s TK[j]]:=λj h=>by rw [Zj0 h,Zzh];rfl
 clear hT hG hG0;unfold endA tokA;refine pI func86 rfl ntmps86 results86 call86 ?_;(focus (refine wkad w_t (w_1 c0) w_t ?_;(repeat' first|exact w_t|apply w_l);all_goals intros));refine Zc4 (Frz.nilOwn (d:=2) 302 4 134 (gC)) ?_;refine Zab (ι:=Nat) (λj e m=>j≤TK.length∧e 0=strA s∧e 5=iv (sttN s TK j:Nat)∧∃sv,e 2=.own 302 sv∧m 302=some (.row sv 134 4 ((TK.take j).map (tkA s)) 0)) (λj=>TK.length - j) 0 zr ?_ ?_
 ·rintro j e m ⟨hj,e0,e5,sv,e2,m2⟩
  by_cases hlt:j < TK.length
  ·obtain⟨p1,p2,hc⟩:=tkB_ok (hTj j hlt) hs;have cG:=rxSkip s _ _ (hGj j hlt) hs;have hk:=htk j hlt;have hl3:((TK.take j).map (tkA s)).length≤20000:=by rw [Zyn,Zy1];omega
   rw [hst j hlt] at e5;clear hTj hGj htk hst c0;generalize hQ:sttN s TK (j+1)=q at *;generalize (TK.take j).map (tkA s)=Z at *;generalize TK[j]=t at *;obtain⟨k,p,en⟩:=t;unfold tkA tokA at *;simp only at p1 p2 hc hk cG e5;have gt:=Ziw s p;have cL:=Zh9 (gB s p) (Zjl s p);have cD:=Zp5 (gB s p) (Zjl s p);have hl2:(p:Int) < (s.size:Int):=zo;rcases hc with⟨k1,k2,cS⟩ | ⟨k1,cS,cW⟩
   ·rw [k1] at cL;rw [k2] at cD;(focus (refine wkad (w_7 e0 e2 m2 e5 gt hl2 hl3) (w_4 cS cL cD cG) w_t ?_;(repeat' first|exact w_t|apply w_l);all_goals intros));exact⟨j+1,⟨zo,gW e0,by rw [hQ];exact gC,_,gC,by rw [hk];exact gC⟩,zo⟩
   ·rw [k1] at cL;(focus (refine wkad (w_7 e0 e2 m2 e5 gt hl2 hl3) (w_4 cS cL cW cG) w_t ?_;(repeat' first|exact w_t|apply w_l);all_goals intros));exact⟨j+1,⟨zo,gW e0,by rw [hQ];exact gC,_,gC,by rw [hk];exact gC⟩,zo⟩
  ·have hjj:j=TK.length:=zo;subst hjj;rw [hse] at e5;rw [ZAf] at m2;have hl3:(TK.map (tkA s)).length≤20000:=by rw [Zyn];omega
   have hl2:¬(s.size:Int) < (s.size:Int):=zo;clear hTj hGj htk hst c0;generalize TK.map (tkA s)=Z at *;(focus (refine wkad (w_6 e0 e2 m2 e5 hl2 hl3) w_t w_t ?_;(repeat' first|exact w_t|apply w_l);all_goals intros));all_goals exact gM (w_1 m2)
 ·exact⟨Zyv _,gC,gC,_,gC,gC⟩
attribute [go_sem] szRw byRw zRw underlying286 underlying293 zSlI
attribute [local go_sem] Zh4 Zmd Zby
structure Rw where
 k:Int
 s:Int
 w:ByteArray
 p:List Int
abbrev Rw.av (r:Rw):AV:=.agg [iv r.k,iv r.s,strA r.w,ivs r.p]
def rwL:List Rw:=[⟨10,1,⟨#[109,105,100,112,111,105,110,116]⟩,[1,1]⟩,
 ⟨11,1,⟨#[100,105,118,105,100,101]⟩,[1,1]⟩,
 ⟨12,1,⟨#[114,101,102,108,101,99,116]⟩,[1,1]⟩,
 ⟨13,1,⟨#[109,105,114,114,111,114]⟩,[1,2]⟩,
 ⟨14,1,⟨#[102,111,111,116]⟩,[1,2]⟩,
 ⟨15,1,⟨#[109,101,101,116]⟩,[2,2]⟩,
 ⟨16,1,⟨#[111,110]⟩,[0]⟩,
 ⟨17,1,⟨#[111,116,104,101,114]⟩,[1,1,1]⟩,
 ⟨18,1,⟨#[99,111,109,109,111,110]⟩,[1,1,1]⟩,
 ⟨19,1,⟨#[99,101,110,116,101,114]⟩,[1,1,1]⟩,
 ⟨20,1,⟨#[115,104,105,102,116]⟩,[1,1,1]⟩,
 ⟨21,1,⟨#[116,117,114,110]⟩,[1,1]⟩,
 ⟨22,1,⟨#[99,117,116]⟩,[2,3]⟩,
 ⟨23,1,⟨#[99,114,111,115,115]⟩,[3,3]⟩,
 ⟨24,1,⟨#[97,112,101,120]⟩,[1,1]⟩,
 ⟨40,2,⟨#[108,105,110,101]⟩,[1,1]⟩,
 ⟨41,2,⟨#[112,97,114,97,108,108,101,108]⟩,[1,2]⟩,
 ⟨42,2,⟨#[112,101,114,112,101,110,100,105,99,117,108,97,114]⟩,[1,2]⟩,
 ⟨43,2,⟨#[98,105,115,101,99,116,111,114]⟩,[1,1]⟩,
 ⟨50,3,⟨#[99,105,114,99,108,101]⟩,[1,1]⟩,
 ⟨51,3,⟨#[99,105,114,99,117,109]⟩,[1,1,1]⟩,
 ⟨60,4,⟨#[99,111,108,108,105,110,101,97,114]⟩,[1,1,1]⟩,
 ⟨61,4,⟨#[112,97,114,97,108,108,101,108]⟩,[2,2]⟩,
 ⟨62,4,⟨#[112,101,114,112,101,110,100,105,99,117,108,97,114]⟩,[2,2]⟩,
 ⟨63,4,⟨#[99,111,110,103,114,117,101,110,116]⟩,[1,1,1,1]⟩,
 ⟨64,4,⟨#[109,105,100,112,111,105,110,116]⟩,[1,1,1]⟩,
 ⟨65,4,⟨#[99,111,110,99,121,99,108,105,99]⟩,[1,1,1,1]⟩,
 ⟨66,4,⟨#[97,110,103,108,101]⟩,[1,1,1,1,1,1]⟩,
 ⟨67,4,⟨#[115,97,109,101]⟩,[1,1]⟩,
 ⟨68,4,⟨#[114,97,116,105,111]⟩,[1,1,1,1]⟩]
set_option maxRecDepth 100000 in
theorem Zvc:Pure prog 244 [] (.sl 4 (rwL.map Rw.av)):=by
 unfold rwL;simp only [Zz2,Zzx,Rw.av];refine pI func244 rfl ntmps244 results244 call244 ?_;(focus (refine wkad w_t w_t w_t ?_;(repeat' first|exact w_t|apply w_l);all_goals intros));simp only [List.append_eq,ZBl,ZB2];(focus (refine wkad w_t w_t w_t ?_;(repeat' first|exact w_t|apply w_l);all_goals intros));all_goals exact gL
def wsN (w:ByteArray) (s:Int):List Rw→Int
 | []=>0
 | x :: r=>if x.w.toList == w.toList && x.s == s then x.k else wsN w s r
theorem wsN_drop (w:ByteArray) (s:Int) (l:List Rw) (i:Nat) (h:i < l.length):wsN w s (l.drop i)=if l[i].w.toList == w.toList && l[i].s == s then l[i].k else wsN w s (l.drop (i+1)):=by
 rw [ZBm h];rfl
theorem Ztj (w:ByteArray) (s:Int):Pure prog 230 [strA w,iv s] (iv (wsN w s rwL)):=by
 have cR:=Zvc;have hl:(rwL.map Rw.av).length=rwL.length:=Zyn ..;have h30:rwL.length=30:=rfl;have kR:∀i (h:i < rwL.length),(rwL.map Rw.av).getD i .u=rwL[i].av:=λi h=>Zad Rw.av h;have hd:∀i (h:i < rwL.length),wsN w s (rwL.drop i)=if rwL[i].w.toList == w.toList && rwL[i].s == s then rwL[i].k else wsN w s (rwL.drop (i+1)):=λi h=>wsN_drop w s rwL i h;have he:wsN w s (rwL.drop rwL.length)=0:=by rw [ZCg];rfl
 have h0:wsN w s rwL=wsN w s (rwL.drop 0):=rfl;rw [h0];generalize hR:rwL=R at *;clear hR;generalize R.map Rw.av=M at *;refine pI func230 rfl ntmps230 results230 call230 ?_;(focus (refine wkad (w_1 hl) (w_1 cR) w_t ?_;(repeat' first|exact w_t|apply w_l);all_goals intros));refine Zab (ι:=Nat) (λi e m=>i≤R.length∧wsN w s (R.drop 0)=wsN w s (R.drop i)∧e 0=strA w∧e 1=iv s∧e 7=.sl 4 M∧e 8=iv R.length∧e 9=iv i) (λi=>R.length - i) 0 zr ?_ ?_
 ·rintro i e m ⟨hi,hq,e0,e1,e7,e8,e9⟩
  by_cases hlt:i < R.length
  ·have gi:=kR i hlt;have hdi:=hd i hlt;generalize R[i]=x at *;obtain⟨k,so,wo,ps⟩:=x;simp only at hdi;have gi:M.getD i .u=.agg [iv k,iv so,strA wo,ivs ps]:=gi;clear kR hd cR
   cases hb:(wo.toList == w.toList) with
   | true =>
     rw [hb,ZAv] at hdi
     cases hc:(so == s) with
     | true =>
       rw [hc] at hdi;rw [hq,hdi];(focus (refine wkad (w_9 e0 e1 e7 e8 e9 gi hl hb hc) w_t w_t ?_;(repeat' first|exact w_t|apply w_l);all_goals intros));all_goals exact gL
     | false =>
       rw [hc] at hdi;(focus (refine wkad (w_9 e0 e1 e7 e8 e9 gi hl hb hc) w_t w_t ?_;(repeat' first|exact w_t|apply w_l);all_goals intros));exact⟨i+1,⟨zo,by rw [hq,hdi];rfl,gW e0,gW e1,gW e7,gW e8,gS⟩,zo⟩
   | false =>
     rw [hb,Zzc] at hdi;(focus (refine wkad (w_8 e0 e1 e7 e8 e9 gi hl hb) w_t w_t ?_;(repeat' first|exact w_t|apply w_l);all_goals intros));exact⟨i+1,⟨zo,by rw [hq,hdi];rfl,gW e0,gW e1,gW e7,gW e8,gS⟩,zo⟩
  ·have hii:i=R.length:=zo;subst hii;rw [hq,he];(focus (refine wkad (w_5 e0 e1 e7 e8 e9) w_t w_t ?_;(repeat' first|exact w_t|apply w_l);all_goals intros));all_goals exact gL
 ·exact⟨Zyv _,rfl,gC,gC,gC,gW hl,gC⟩
theorem Zvg (k:Int) (j:Nat) (hj:j < rwL.length) (hk:rwL[j].k=k) (hf:∀i (h:i < rwL.length),i < j→rwL[i].k≠k):Pure prog 231 [iv k] rwL[j].av:=by
 have cR:=Zvc;have hl:(rwL.map Rw.av).length=rwL.length:=Zyn ..;have h30:rwL.length=30:=rfl;have kR:∀i (h:i < rwL.length),(rwL.map Rw.av).getD i .u=rwL[i].av:=λi h=>Zad Rw.av h;generalize hR:rwL=R at *;clear hR;generalize R.map Rw.av=M at *;have gj:=kR j hj;generalize hx:R[j]=x at *;obtain⟨k1,so,wo,ps⟩:=x;simp only at hk;subst hk;refine pI func231 rfl ntmps231 results231 call231 ?_;(focus (refine wkad (w_1 hl) (w_1 cR) w_t ?_;(repeat' first|exact w_t|apply w_l);all_goals intros));rename_i g2;refine Zab (ι:=Nat) (λi e m=>i≤j∧e 0=iv k1∧e 5=.sl 4 M∧e 6=iv R.length∧e 7=iv i∧e 2=.pbox 2 g2 0∧∃cs,cs.length=4∧m 2=some (.box g2 286 cs false)) (λi=>j - i) 0 zr ?_ ?_
 ·rintro i e m ⟨hi,e0,e5,e6,e7,e2,cs,hcs,m2⟩
  have hlt:i < R.length:=zo;have gi:=kR i hlt;have hfi:=hf i hlt;by_cases hij:i < j
  ·have hne:=hfi hij;generalize R[i]=y at *;obtain⟨k2,so2,wo2,ps2⟩:=y;simp only at hne;have gi:M.getD i .u=.agg [iv k2,iv so2,strA wo2,ivs ps2]:=gi;clear kR hf hfi cR gj;have hl2:(i:Int) < (R.length:Int):=zo;(focus (refine wkad (w_8 e0 e5 e6 e7 gi hl hl2 hne) w_t w_t ?_;(repeat' first|exact w_t|apply w_l);all_goals intros));exact⟨i+1,⟨zo,gW e0,gW e5,gW e6,gS,gW e2,cs,hcs,gW m2⟩,zo⟩
  ·have hii:i=j:=zo;subst hii;have gi:M.getD i .u=.agg [iv k1,iv so,strA wo,ivs ps]:=gj;have hl2:(i:Int) < (R.length:Int):=zo;clear kR hf hfi cR gj
   obtain⟨c0,c1,c2,c3,rfl⟩:∃a b c d,cs=[a,b,c,d]:=by
    match cs,hcs with
    | [a,b,c,d],_=>exact⟨a,b,c,d,rfl⟩
   (focus (refine wkad (w_9 e0 e5 e6 e7 e2 m2 gi hl hl2) w_t w_t ?_;(repeat' first|exact w_t|apply w_l);all_goals intros));all_goals exact gM (w_1 e2)
 ·exact⟨Zyv _,gC,gC,gW hl,gC,gC,_,rfl,gC⟩
theorem Zh7 (k:Int) (j:Nat) (hj:j < rwL.length) (hk:rwL[j].k=k) (hf:∀i (h:i < rwL.length),i < j→rwL[i].k≠k):Pure prog 213 [iv k] (ivs rwL[j].p):=by
 have c:=Zvg k j hj hk hf;generalize rwL[j]=x at *;obtain⟨k1,so,wo,ps⟩:=x;have c:Pure prog 231 [iv k] (.agg [iv k1,iv so,strA wo,ivs ps]):=c;refine pI func213 rfl ntmps213 results213 call213 ?_;(focus (refine wkld w_t (w_1 c) w_t w_t ?_;(repeat' first|exact w_t|apply w_l);all_goals intros))
theorem rxSort (k:Int) (j:Nat) (hj:j < rwL.length) (hk:rwL[j].k=k) (hf:∀i (h:i < rwL.length),i < j→rwL[i].k≠k):Pure prog 221 [iv k] (iv rwL[j].s):=by
 have c:=Zvg k j hj hk hf;generalize rwL[j]=x at *;obtain⟨k1,so,wo,ps⟩:=x;have c:Pure prog 231 [iv k] (.agg [iv k1,iv so,strA wo,ivs ps]):=c;refine pI func221 rfl ntmps221 results221 call221 ?_;(focus (refine wkld w_t (w_1 c) w_t w_t ?_;(repeat' first|exact w_t|apply w_l);all_goals intros))
theorem Zvf (k:Int) (h:k≠11∧k≠68):Pure prog 215 [iv k] (.v (.bool false)):=by
 obtain⟨h1,h2⟩:=h;refine pI func215 rfl ntmps215 results215 call215 ?_;(focus (refine wkld (w_2 h1 h2) w_t w_t w_t ?_;(repeat' first|exact w_t|apply w_l);all_goals intros))
theorem Zdv (k:Int) (s:Int) (h:(k=2∧s=1)∨(k=5∧s=4)):Pure prog 140 [iv k] (iv s):=by
 rcases h with⟨rfl,rfl⟩ | ⟨rfl,rfl⟩
 all_goals
  refine pI func140 rfl ntmps140 results140 call140 ?_;(focus (refine wkad w_t w_t w_t ?_;(repeat' first|exact w_t|apply w_l);all_goals intros));all_goals exact gL
attribute [go_sem] szEx byEx zEx underlying138 underlying136 zStm underlying140 underlying97 zPrg underlying99
attribute [local go_sem] Zhg Zld Zle Zll Zfj Zhf Zj1 Zew Zgf Za8
structure Exq where
 k:Int
 nm:ByteArray
 l:List AV
 p:Int
abbrev Exq.av (x:Exq):AV:=.agg [iv x.k,strA x.nm,.v (.bool false),nilS,nilS,.sl 7 x.l,iv x.p]
structure Stq where
 k:Int
 ns:List ByteArray
 x:Exq
 p:Int
abbrev Stq.av (x:Stq):AV:=.agg [iv x.k,.sl 1 (x.ns.map strA),iv x.x.k,strA x.x.nm,.v (.bool false),nilS,nilS,.sl 7 x.x.l,iv x.x.p,iv x.p]
theorem rxHas (l:List ByteArray) (w:ByteArray) (hl:l.length≤1000):Pure prog 182 [.sl 1 (l.map strA),strA w] (.v (.bool (l.any λx=>x.toList == w.toList))):=by
 have hll:(l.map strA).length=l.length:=Zyn ..;have kL:∀i (h:i < l.length),(l.map strA).getD i .u=strA l[i]:=λi h=>Zad strA h;have hd:∀i (h:i < l.length),(l.drop i).any (λx=>x.toList == w.toList)=((l[i].toList == w.toList) || (l.drop (i+1)).any λx=>x.toList == w.toList):=λi h=>by rw [ZBm h];rfl
 have h0:(l.any λx=>x.toList == w.toList)=(l.drop 0).any λx=>x.toList == w.toList:=rfl;have he:(l.drop l.length).any (λx=>x.toList == w.toList)=false:=by rw [ZCg];rfl
 rw [h0];generalize l.map strA=M at *;refine pI func182 rfl ntmps182 results182 call182 ?_;(focus (refine wkad (w_1 hll) w_t w_t ?_;(repeat' first|exact w_t|apply w_l);all_goals intros));refine Zab (ι:=Nat) (λi e m=>i≤l.length∧(l.drop 0).any (λx=>x.toList == w.toList)=(l.drop i).any (λx=>x.toList == w.toList)∧e 1=strA w∧e 7=.sl 1 M∧e 8=iv l.length∧e 9=iv i) (λi=>l.length - i) 0 zr ?_ ?_
 ·rintro i e m ⟨hi,hq,e1,e7,e8,e9⟩
  by_cases hlt:i < l.length
  ·have gi:=kL i hlt;have hdi:=hd i hlt;generalize l[i]=x at *
   cases hb:(x.toList == w.toList) with
   | true =>
     rw [hb,Bool.true_or] at hdi;rw [hq,hdi];(focus (refine wkad (w_7 e1 e7 e8 e9 gi hll hb) w_t w_t ?_;(repeat' first|exact w_t|apply w_l);all_goals intros));all_goals exact gL
   | false =>
     rw [hb,Bool.false_or] at hdi;(focus (refine wkad (w_7 e1 e7 e8 e9 gi hll hb) w_t w_t ?_;(repeat' first|exact w_t|apply w_l);all_goals intros));exact⟨i+1,⟨zo,by rw [hq,hdi],gW e1,gW e7,gW e8,gS⟩,zo⟩
  ·have hii:i=l.length:=zo;subst hii;rw [hq,he];(focus (refine wkad (w_4 e1 e7 e8 e9) w_t w_t ?_;(repeat' first|exact w_t|apply w_l);all_goals intros));all_goals exact gL
 ·exact⟨Zyv _,rfl,gC,gC,gW hll,gC⟩
def isNm (k:Int) (t:ByteArray):Bool:=decide (k=1) && !(kwL.any λx=>x.toList == t.toList)
theorem Zrm (k p e:Int) (t:ByteArray):Pure prog 177 [tokA k p e t] (.v (.bool (isNm k t))):=by
 have c1:=rnKeys;have c2:=rxHas kwL t zd;unfold isNm tokA;generalize (kwL.any λx=>x.toList == t.toList)=b at *;generalize kwL.map strA=K at *;by_cases h:k=1
 ·rw [Zyo h,ZAv];refine pI func177 rfl ntmps177 results177 call177 ?_;(focus (refine wkad (w_1 h) (w_2 c1 c2) (w_1 (w_d 1 [(4,.sl 1 K),(7,.v (.bool b))] [] [])) ?_;(repeat' first|exact w_t|apply w_l);all_goals intros));all_goals exact gL
 ·rw [Zyl h,Zzc];refine pI func177 rfl ntmps177 results177 call177 ?_;(focus (refine wkad (w_1 h) (w_2 c1 c2) (w_1 (w_d 1 [(4,.sl 1 K),(7,.v (.bool b))] [] [])) ?_;(repeat' first|exact w_t|apply w_l);all_goals intros));all_goals exact gL
theorem Zci (T:List AV) (i:Nat) (k p e:Int) (t w:ByteArray) (hi:i < T.length) (hl:T.length≤20000) (hT:T.getD i .u=tokA k p e t) (hk:k≠0) (hw:(t.toList == w.toList)=true):Pure prog 134 [.sl 4 T,iv i,strA w] (.tup [iv ((i+1:Nat):Int),iv 0]):=by
 unfold tokA at hT;have hc:((i:Int)+1)=((i+1:Nat):Int):=zo;refine pI func134 rfl ntmps134 results134 call134 ?_;(focus (refine wkad (w_4 hT hk hw hc) w_t w_t ?_;(repeat' first|exact w_t|apply w_l);all_goals intros));all_goals exact gM (w_1 hc)
theorem Zrl (p e:Int) (t:ByteArray) (s:Int) (hs:s≠0):Pure prog 212 [tokA 1 p e t,iv s] (iv (wsN t s rwL)):=by
 have c:=Ztj t s;unfold tokA;generalize wsN t s rwL=r at *;refine pI func212 rfl ntmps212 results212 call212 ?_;(focus (refine wkad (w_1 hs) (w_1 c) w_t ?_;(repeat' first|exact w_t|apply w_l);all_goals intros));all_goals exact gL
theorem Zka (T:List AV) (i:Nat) (p e s:Int) (d:Nat) (t:ByteArray) (hi:i < T.length) (hl:T.length≤20000) (hd:d≤20) (hT:T.getD i .u=tokA 1 p e t) (hn:isNm 1 t=true):Pure prog 214 [.sl 4 T,iv i,iv s,iv d] (.tup [(Exq.mk 1 t [] p).av,iv ((i+1:Nat):Int),iv 0]):=by
 have c:=Zrm 1 p e t;rw [hn] at c;unfold tokA at *;have hc:((i:Int)+1)=((i+1:Nat):Int):=zo;refine Zcj (r:=.tup [.agg [iv 1,strA t,.v (.bool false),nilS,nilS,nilS,iv p],iv ((i+1:Nat):Int),iv 0]) ?_ (Vk.tupL (.cons (Vk.aggL (.cons (.refl _) (.cons (.refl _) (.cons (.refl _) (.cons (.refl _) (.cons (.refl _) (.cons (.nil 7) (.cons (.refl _) .nil)))))))) (.cons (.refl _) (.cons (.refl _) .nil))));refine pI func214 rfl ntmps214 results214 call214 ?_;(focus (refine wkad (w_2 hT hc) (w_1 c) (w_1 (w_d 6 [] [] [8])) ?_;(repeat' first|exact w_t|apply w_l);all_goals intros));all_goals exact gM (w_1 hc)
theorem rxArgC (T:List AV) (i:Nat) (p e s:Int) (d:Nat) (t:ByteArray) (x:Exq) (z:Int) (hi:i < T.length) (hl:T.length≤20000) (hd:d≤20) (hT:T.getD i .u=tokA 1 p e t) (hn:isNm 1 t=false) (hs:s≠0) (hk:wsN t s rwL≠0)
 (cC:Pure prog 178 [.sl 4 T,iv i,iv s,iv d] (.tup [x.av,iv z,iv 0])):Pure prog 214 [.sl 4 T,iv i,iv s,iv d] (.tup [x.av,iv z,iv 0]):=by
 have c:=Zrm 1 p e t;rw [hn] at c;have cK:=Zrl p e t s hs;unfold tokA at *;generalize wsN t s rwL=r at *;obtain⟨xk,xn,xl,xp⟩:=x;refine pI func214 rfl ntmps214 results214 call214 ?_;(focus (refine wkad (w_2 hT hk) (w_3 c cK cC) w_t ?_;(repeat' first|exact w_t|apply w_l);all_goals intros));all_goals exact gL
def stQ (i:Nat) (A:List (Nat × Exq)):Nat→Nat
 | 0=>i+1
 | q+1=>match A[q]? with | some a=>a.1 | none=>0
def exQ (A:List (Nat × Exq)) (q:Nat):Exq:=match A[q]? with | some a=>a.2 | none=>⟨0,ByteArray.empty,[],0⟩
theorem exQ_take {A:List (Nat × Exq)} {q:Nat} (h:q < A.length):(A.take (q+1)).map (λa=>a.2.av)=(A.take q).map (λa=>a.2.av)++[(exQ A q).av]:=by
 unfold exQ;rw [Zj0 h,Zzh,Zym h];rfl
set_option maxRecDepth 100000 in
theorem Zvh (T:List AV) (i:Nat) (p e s:Int) (d:Nat) (t:ByteArray) (k:Int) (j:Nat) (A:List (Nat × Exq)) (ps:List Int) (hi:i < T.length) (hl:T.length≤20000) (hd:d≤20) (hT:T.getD i .u=tokA 1 p e t) (hs:s≠0) (hk:wsN t s rwL=k) (h0:k≠0) (hr:k≠11∧k≠68)
 (cP:Pure prog 213 [iv k] (ivs ps)) (hA:A.length=ps.length) (hA2:ps.length≤10) (hb:∀q,q≤ps.length→stQ i A q≤20000)
 (cE:∀q,q < ps.length→Pure prog 134 [.sl 4 T,iv (stQ i A q:Nat),strA (if q=0 then ⟨#[40]⟩ else ⟨#[44]⟩)] (.tup [iv ((stQ i A q+1:Nat):Int),iv 0]))
 (cA:∀q,q < ps.length→Pure prog 214 [.sl 4 T,iv ((stQ i A q+1:Nat):Int),iv (ps.getD q 0),iv ((d+1:Nat):Int)] (.tup [(exQ A q).av,iv (stQ i A (q+1):Nat),iv 0]))
 (cZ:Pure prog 134 [.sl 4 T,iv (stQ i A ps.length:Nat),strA ⟨#[41]⟩] (.tup [iv ((stQ i A ps.length+1:Nat):Int),iv 0])) (hne:ps≠[]) :
 Pure prog 178 [.sl 4 T,iv i,iv s,iv d] (.tup [(Exq.mk k ByteArray.empty (A.map λa=>a.2.av) p).av,iv ((stQ i A ps.length+1:Nat):Int),iv 0]):=by
 have cK:=Zrl p e t s hs;rw [hk] at cK;have cH:=Zvf k hr;have hll:(ps.map iv).length=ps.length:=Zyn ..;have kP:∀q,q < ps.length→(ps.map iv).getD q .u=iv (ps.getD q 0):=λq h=>by rw [Zad iv h,Zyu,Zym h];rfl
 have htk:∀q,q < ps.length→(A.take (q+1)).map (λa=>a.2.av)=(A.take q).map (λa=>a.2.av)++[(exQ A q).av]:=λq h=>exQ_take zo;have hst0:stQ i A 0=i+1:=rfl;have hc:((i:Int)+1)=((i+1:Nat):Int):=zo;have hdc:((d:Int)+1)=((d+1:Nat):Int):=zo;have hbi:=hb 0 (Zyv _);rw [hst0] at hbi;unfold tokA at *;have cP:Pure prog 213 [iv k] (.sl 1 (ps.map iv)):=cP;generalize ps.map iv=P at *;refine pI func178 rfl ntmps178 results178 call178 ?_;(focus (refine wkad (w_4 hT h0 hll hc) (w_2 cK cP) (w_1 (w_d 1 [(5,iv k)] [] [])) ?_;(repeat' first|exact w_t|apply w_l);all_goals intros));rename_i g8 g11
 refine Zc4 (Frz.nilBox (k:=11) 5 311 7 138 (gC) rfl zo) ?_;refine Zab (ι:=Nat) (λq e m=>q≤ps.length∧e 0=.sl 4 T∧e 1=iv (stQ i A q:Nat)∧e 3=iv d∧(e 8=.pbox 8 g8 0∧m 8=some (.box g8 138 [iv 0,strA ByteArray.empty,.v (.bool false),nilS,nilS,nilS,iv 0] false))∧e 45=.sl 1 P∧e 46=iv ps.length∧e 47=iv q∧e 11=.pbox 11 g11 0∧∃sv,m 11=some (.box g11 138 [iv k,strA ByteArray.empty,.v (.bool false),nilS,nilS,.own 311 sv,iv p] false)∧m 311=some (.row sv 138 7 ((A.take q).map λa=>a.2.av) 0)) (λq=>ps.length - q) 0 zr ?_ ?_
 ·rintro q e m ⟨hq,e0,e1,e3,⟨e8,m8⟩,e45,e46,e47,e11,sv,m11,m311⟩
  by_cases hlt:q < ps.length
  ·have c1:=cE q hlt;have c2:=cA q hlt;have gq:=kP q hlt;have hk2:=htk q hlt;have hq2:=hb (q+1) zo;have hl3:((A.take q).map λa=>a.2.av).length≤10:=by rw [Zyn,Zy1];omega
   clear cE cA kP htk cZ cP cK hb;generalize (A.take q).map (λa=>a.2.av)=Z at *;generalize ps.getD q 0=s1 at *;generalize hZ2:stQ i A (q+1)=z2 at *;generalize stQ i A q=z1 at *;generalize exQ A q=x at *;obtain⟨xk,xn,xl,xp⟩:=x;by_cases h00:q=0
   ·rw [Zyk h00] at c1;have hqp:¬(0:Int) < (q:Int):=zo;(focus (refine wkad (w_16 e0 e1 e3 e8 m8 e45 e46 e47 e11 m11 m311 gq hll hl3 hdc hqp) (w_2 c1 c2) w_t ?_;(repeat' first|exact w_t|apply w_l);all_goals intros));exact⟨q+1,⟨zo,gW e0,by rw [hZ2];exact gC,gW e3,⟨gW e8,gW m8⟩,gW e45,gW e46,gS,gW e11,_,gC,by rw [hk2];exact gC⟩,zo⟩
   ·rw [Zyj h00] at c1;have hqp:(0:Int) < (q:Int):=zo;(focus (refine wkad (w_16 e0 e1 e3 e8 m8 e45 e46 e47 e11 m11 m311 gq hll hl3 hdc hqp) (w_2 c1 c2) w_t ?_;(repeat' first|exact w_t|apply w_l);all_goals intros));exact⟨q+1,⟨zo,gW e0,by rw [hZ2];exact gC,gW e3,⟨gW e8,gW m8⟩,gW e45,gW e46,gS,gW e11,_,gC,by rw [hk2];exact gC⟩,zo⟩
  ·have hqq:q=ps.length:=zo;subst hqq;rw [show A.take ps.length=A by rw [←hA,ZAf]] at m311;clear cE cA kP htk cP cK hb;generalize A.map (λa=>a.2.av)=Z at *;(focus (refine wkad (w_11 e0 e1 e3 e8 m8 e45 e46 e47 e11 m11 m311) (w_2 cH cZ) w_t ?_;(repeat' first|exact w_t|apply w_l);all_goals intros));all_goals exact gM (w_3 e8 m11 m311)
 ·exact⟨Zyv _,gC,by rw [hst0];exact gC,gC,⟨gC,gC⟩,gC,gW hll,gC,gC,_,gC,gC⟩
theorem rxNames (T:List AV) (i n:Nat) (NM:List ByteArray) (hn:NM.length=n) (h1:1≤n) (hl:T.length≤20000) (hb:i+2*n≤T.length)
 (hN:∀q (h:q < n),∃p e,T.getD (i+2*q) .u=tokA 1 p e (NM[q]'zo)∧isNm 1 (NM[q]'zo)=true) (hC:∀q,q < n→∃k p e t,T.getD (i+2*q+1) .u=tokA k p e t∧(t.toList == (⟨#[44]⟩:ByteArray).toList)=decide (q+1 < n)) :
 Pure prog 132 [.sl 4 T,iv i] (.tup [.sl 1 (NM.map strA),iv ((i+2*n - 1:Nat):Int),iv 0]):=by
 have htk:∀q (h:q < n),(NM.take (q+1)).map strA=(NM.take q).map strA++[strA (NM[q]'zo)]:=λq h=>by rw [Zj0 zo,Zzh];rfl
 refine pI func132 rfl ntmps132 results132 call132 ?_;(focus (refine wkad w_t w_t w_t ?_;(repeat' first|exact w_t|apply w_l);all_goals intros));refine Zc4 (Frz.nilOwn (d:=7) 307 1 9 (gC)) ?_;refine Zab (ι:=Nat) (λq e m=>q < n∧e 0=.sl 4 T∧e 1=iv ((i+2*q:Nat):Int)∧∃sv,e 7=.own 307 sv∧m 307=some (.row sv 9 1 ((NM.take q).map strA) 0)) (λq=>n - q) 0 zr ?_ ?_
 ·rintro q e m ⟨hq,e0,e1,sv,e7,m7⟩
  obtain⟨p,en,g1,n1⟩:=hN q hq;obtain⟨k2,p2,en2,t2,g2,n2⟩:=hC q hq;have hk:=htk q hq;have hl3:((NM.take q).map strA).length≤20000:=by rw [Zyn,Zy1];omega
  have c:=Zrm 1 p en (NM[q]'zo);rw [n1] at c;have hc1:(((i+2*q:Nat):Int)+1)=((i+2*q+1:Nat):Int):=zo;have hc2:(((i+2*q+1:Nat):Int)+1)=((i+2*(q+1):Nat):Int):=zo;have hb1:i+2*q < T.length:=zo;have hb2:i+2*q+1 < T.length:=zo;have hfin:NM.map strA=(NM.take n).map strA:=by rw [←hn,ZAf]
  have hqn:q+1=n→i+2*n - 1=i+2*q+1:=λh=>zo;clear hN hC htk;unfold tokA at *;generalize (NM[q]'zo)=nm at *;by_cases hlt:q+1 < n
  ·rw [Zyo hlt] at n2;generalize (NM.take q).map strA=Z at *;generalize hY3:i+2*(q+1)=y3 at *;generalize i+2*q+1=y2 at *;generalize i+2*q=y1 at *;(focus (refine wkad (w_10 e0 e1 e7 m7 g1 g2 n2 hc1 hc2 hl3) (w_1 c) w_t ?_;(repeat' first|exact w_t|apply w_l);all_goals intros));exact⟨q+1,⟨hlt,gW e0,by rw [hY3];exact gW hc2,_,gC,by rw [hk];exact gC⟩,zo⟩
  ·have hqe:q+1=n:=zo;rw [Zyl hlt] at n2;rw [hfin,←hqe,hk,hqe,hqn hqe];generalize (NM.take q).map strA=Z at *;generalize i+2*q+1=y2 at *;generalize i+2*q=y1 at *;(focus (refine wkad (w_9 e0 e1 e7 m7 g1 g2 n2 hc1 hl3) (w_1 c) w_t ?_;(repeat' first|exact w_t|apply w_l);all_goals intros));all_goals exact gM (w_1 hc1)
 ·exact⟨zo,gC,gC,_,gC,gC⟩
theorem rxDefP (T:List AV) (i:Nat) (p e:Int) (t:ByteArray) (x:Exq) (z:Int) (hi:i < T.length) (hl:T.length≤20000) (hT:T.getD i .u=tokA 1 p e t) (hn:isNm 1 t=true)
 (cE:Pure prog 134 [.sl 4 T,iv ((i+1:Nat):Int),strA ⟨#[58,61]⟩] (.tup [iv ((i+2:Nat):Int),iv 0])) (cC:Pure prog 178 [.sl 4 T,iv ((i+2:Nat):Int),iv 1,iv 1] (.tup [x.av,iv z,iv 0])) :
 Pure prog 133 [.sl 4 T,iv i,iv 2] (.tup [(Stq.mk 2 [t] x 0).av,iv z,iv 0]):=by
 have c:=Zrm 1 p e t;rw [hn] at c;have cS:=Zdv 2 1 (.inl ⟨rfl,rfl⟩);unfold tokA at *;have hc:((i:Int)+1)=((i+1:Nat):Int):=zo;obtain⟨xk,xn,xl,xp⟩:=x;refine pI func133 rfl ntmps133 results133 call133 ?_;(focus (refine wkad (w_2 hT hc) (w_4 c cE cS cC) w_t ?_;(repeat' first|exact w_t|apply w_l);all_goals intros));all_goals exact gL
theorem rxDefG (T:List AV) (i:Nat) (x:Exq) (z:Int) (hi:i < T.length) (hl:T.length≤20000) (cC:Pure prog 178 [.sl 4 T,iv i,iv 4,iv 1] (.tup [x.av,iv z,iv 0])) :
 Pure prog 133 [.sl 4 T,iv i,iv 5] (.tup [(Stq.mk 5 [] x 0).av,iv z,iv 0]):=by
 have cS:=Zdv 5 4 (.inr ⟨rfl,rfl⟩);obtain⟨xk,xn,xl,xp⟩:=x;refine Zcj (r:=.tup [.agg [iv 5,nilS,iv xk,strA xn,.v (.bool false),nilS,nilS,.sl 7 xl,iv xp,iv 0],iv z,iv 0]) ?_ (Vk.tupL (.cons (Vk.aggL (.cons (.refl _) (.cons (.nil 1) (.cons (.refl _) (.cons (.refl _) (.cons (.refl _) (.cons (.refl _) (.cons (.refl _) (.cons (.refl _) (.cons (.refl _) (.cons (.refl _) .nil))))))))))) (.cons (.refl _) (.cons (.refl _) .nil))));refine pI func133 rfl ntmps133 results133 call133 ?_;(focus (refine wkad w_t (w_2 cS cC) w_t ?_;(repeat' first|exact w_t|apply w_l);all_goals intros))
 all_goals exact gL
theorem rxStm1 (T:List AV) (i z:Nat) (p e:Int) (t:ByteArray) (NM:List ByteArray) (hi:i < T.length) (hl:T.length≤20000) (hz:z < T.length) (hT:T.getD i .u=tokA 1 p e t) (h1:(t.toList == (⟨#[112,111,105,110,116,115]⟩:ByteArray).toList)=true)
 (cN:Pure prog 132 [.sl 4 T,iv ((i+1:Nat):Int)] (.tup [.sl 1 (NM.map strA),iv z,iv 0])) (cE:Pure prog 134 [.sl 4 T,iv z,strA ⟨#[59]⟩] (.tup [iv ((z+1:Nat):Int),iv 0])) :
 Pure prog 87 [.sl 4 T,iv i] (.tup [(Stq.mk 1 NM ⟨0,ByteArray.empty,[],0⟩ p).av,iv ((z+1:Nat):Int),iv 0]):=by
 have hc:((i:Int)+1)=((i+1:Nat):Int):=zo;unfold tokA at *;refine Zcj (r:=.tup [.agg [iv 1,.sl 1 (NM.map strA),iv 0,strA ByteArray.empty,.v (.bool false),nilS,nilS,nilS,iv 0,iv p],iv ((z+1:Nat):Int),iv 0]) ?_ (Vk.tupL (.cons (Vk.aggL (.cons (.refl _) (.cons (.refl _) (.cons (.refl _) (.cons (.refl _) (.cons (.refl _) (.cons (.refl _) (.cons (.refl _) (.cons (.nil 7) (.cons (.refl _) (.cons (.refl _) .nil))))))))))) (.cons (.refl _) (.cons (.refl _) .nil))));generalize NM.map strA=Z at *;refine pI func87 rfl ntmps87 results87 call87 ?_;(focus (refine wkad (w_3 hT hc h1) (w_2 cN cE) w_t ?_;(repeat' first|exact w_t|apply w_l);all_goals intros))
 all_goals exact gL
theorem rxStm2 (T:List AV) (i z:Nat) (p e:Int) (t:ByteArray) (x:Stq) (hi:i < T.length) (hl:T.length≤20000) (hz:z < T.length) (hT:T.getD i .u=tokA 1 p e t) (h1:(t.toList == (⟨#[112,111,105,110,116,115]⟩:ByteArray).toList)=false) (h2:(t.toList == (⟨#[108,105,110,101]⟩:ByteArray).toList)=false) (h3:(t.toList == (⟨#[99,105,114,99,108,101]⟩:ByteArray).toList)=false) (h4:(t.toList == (⟨#[112,114,111,118,101]⟩:ByteArray).toList)=false)
 (cD:Pure prog 133 [.sl 4 T,iv i,iv 2] (.tup [x.av,iv z,iv 0])) (cE:Pure prog 134 [.sl 4 T,iv z,strA ⟨#[59]⟩] (.tup [iv ((z+1:Nat):Int),iv 0])) :
 Pure prog 87 [.sl 4 T,iv i] (.tup [(Stq.mk x.k x.ns x.x p).av,iv ((z+1:Nat):Int),iv 0]):=by
 have hc:((i:Int)+1)=((i+1:Nat):Int):=zo;unfold tokA at *;obtain⟨sk,ns,⟨xk,xn,xl,xp⟩,sp⟩:=x;simp only at *;generalize ns.map strA=Z at *;refine pI func87 rfl ntmps87 results87 call87 ?_;(focus (refine wkad (w_6 hT hc h1 h2 h3 h4) (w_2 cD cE) w_t ?_;(repeat' first|exact w_t|apply w_l);all_goals intros));all_goals exact gL
theorem rxStm5 (T:List AV) (i z:Nat) (p e:Int) (t:ByteArray) (x:Stq) (hi:i < T.length) (hl:T.length≤20000) (hz:z < T.length) (hT:T.getD i .u=tokA 1 p e t) (h1:(t.toList == (⟨#[112,111,105,110,116,115]⟩:ByteArray).toList)=false) (h2:(t.toList == (⟨#[108,105,110,101]⟩:ByteArray).toList)=false) (h3:(t.toList == (⟨#[99,105,114,99,108,101]⟩:ByteArray).toList)=false) (h4:(t.toList == (⟨#[112,114,111,118,101]⟩:ByteArray).toList)=true)
 (cD:Pure prog 133 [.sl 4 T,iv ((i+1:Nat):Int),iv 5] (.tup [x.av,iv z,iv 0])) (cE:Pure prog 134 [.sl 4 T,iv z,strA ⟨#[59]⟩] (.tup [iv ((z+1:Nat):Int),iv 0])) :
 Pure prog 87 [.sl 4 T,iv i] (.tup [(Stq.mk x.k x.ns x.x p).av,iv ((z+1:Nat):Int),iv 0]):=by
 have hc:((i:Int)+1)=((i+1:Nat):Int):=zo;unfold tokA at *;obtain⟨sk,ns,⟨xk,xn,xl,xp⟩,sp⟩:=x;simp only at *;generalize ns.map strA=Z at *;refine pI func87 rfl ntmps87 results87 call87 ?_;(focus (refine wkad (w_6 hT hc h1 h2 h3 h4) (w_2 cD cE) w_t ?_;(repeat' first|exact w_t|apply w_l);all_goals intros));all_goals exact gL
theorem rxProg (s:ByteArray) (T:List AV) (n:Nat) (P:Nat→Nat) (S:List Stq) (hn:S.length=n) (hl:T.length≤20000) (hP0:P 0=0) (cA:Pure prog 86 [strA s] (.tup [.sl 4 T,iv 0,iv 0]))
 (hK:∀q,q < n→P q < T.length∧∃p e t,T.getD (P q) .u=tokA 1 p e t) (hE:P n < T.length∧∃p e t,T.getD (P n) .u=tokA 0 p e t) (hn2:n≤1000)
 (cS:∀q (h:q < n),Pure prog 87 [.sl 4 T,iv (P q:Nat)] (.tup [(S[q]'zo).av,iv (P (q+1):Nat),iv 0])) :
 Pure prog 48 [strA s] (.tup [.agg [.sl 10 (S.map Stq.av)],iv 0,iv 0]):=by
 have htk:∀q (h:q < n),(S.take (q+1)).map Stq.av=(S.take q).map Stq.av++[(S[q]'zo).av]:=λq h=>by rw [Zj0 zo,Zzh];rfl
 refine pI func48 rfl ntmps48 results48 call48 ?_;(focus (refine wkad w_t (w_1 cA) w_t ?_;(repeat' first|exact w_t|apply w_l);all_goals intros));rename_i g2;refine Zc4 (Frz.nilBox (k:=2) 0 302 10 140 (gC) rfl zo) ?_;refine Zab (ι:=Nat) (λq e m=>q≤n∧e 2=.pbox 2 g2 0∧e 5=.sl 4 T∧e 6=iv (P q:Nat)∧∃sv,m 2=some (.box g2 99 [.own 302 sv] false)∧m 302=some (.row sv 140 10 ((S.take q).map Stq.av) 0)) (λq=>n - q) 0 zr ?_ ?_
 ·rintro q e m ⟨hq,e2,e5,e6,sv,m2,m3⟩
  by_cases hlt:q < n
  ·obtain⟨hb,p,en,t,gT1⟩:=hK q hlt;have c:=cS q hlt;have hk:=htk q hlt;have hl3:((S.take q).map Stq.av).length≤1000:=by rw [Zyn,Zy1];omega
   clear hK hE cS htk cA;unfold tokA at gT1;generalize (S.take q).map Stq.av=Z at *;generalize (S[q]'zo)=x at *;generalize hZ2:P (q+1)=z2 at *;generalize P q=z1 at *;obtain⟨sk,ns,⟨xk,xn,xl,xp⟩,sp⟩:=x;(focus (refine wkad (w_7 e2 e5 e6 m2 m3 gT1 hl3) (w_1 c) w_t ?_;(repeat' first|exact w_t|apply w_l);all_goals intros));exact⟨q+1,⟨zo,gW e2,gW e5,by rw [hZ2];exact gC,_,gC,by rw [hk];exact gC⟩,zo⟩
  ·have hqq:q=n:=zo;subst hqq;obtain⟨hb,p,en,t,gT1⟩:=hE;rw [show S.take q=S by rw [←hn,ZAf]] at m3;clear hK cS htk cA;unfold tokA at gT1;generalize S.map Stq.av=Z at *;generalize P q=z1 at *;(focus (refine wkad (w_6 e2 e5 e6 m2 m3 gT1) w_t w_t ?_;(repeat' first|exact w_t|apply w_l);all_goals intros));all_goals exact gM (w_3 e2 m2 m3)
 ·exact⟨Zyv _,gC,gC,by rw [hP0];exact gC,_,gC,gC⟩
theorem Zef:kwL.length=29:=rfl
theorem nmName (s:ByteArray) (hs:s.size≤9223372036854775807):Pure prog 119 [strA s] (.v (.bool (namB s))):=by
 have he:=Zir s;unfold namB;by_cases h0:0 < s.size∧s.size≤20
 ·rw [Zyo h0,ZAv];have h00:(decide (s.size=0))=false:=Zyl zo;rw [h00] at he;have hk:=nmKind (gB s 0) (Zjl s 0);have hg:=Ziw s 0;have kl:=Zsf (gB s 0)
  cases hl:letB (gB s 0) with
  | false =>
    have hx:kinB (gB s 0)≠2:=λh=>by rw [kl.1 h] at hl;cases hl
    clear kl;rw [Zzc];generalize kinB (gB s 0)=x at *;refine pI func119 rfl ntmps119 results119 call119 ?_;(focus (refine wklp (w_2 he hg) (w_1 hk) w_t (w_r 0) ?_;(repeat' first|exact w_t|apply w_l);all_goals intros))
  | true =>
    have hx:kinB (gB s 0)=2:=kl.2 hl;rw [hx] at hk;rw [ZAv];obtain⟨n,ce,hn,hall⟩:=nmEnd s hs
    cases ha:(List.range s.size).all (λk=>letB (gB s k) || digB (gB s k)) with
    | false =>
      have hlt:n < s.size:=by
       rcases Zy5 n s.size with h | h
       ·exact h
       ·rw [hall.1 zo] at ha;cases ha
      rw [Zzc];clear hall ha;refine pI func119 rfl ntmps119 results119 call119 ?_;(focus (refine wklp (w_2 he hg) (w_2 hk ce) w_t (w_r 0) ?_;(repeat' first|exact w_t|apply w_l);all_goals intros))
    | true =>
      have hnn:n=s.size:=hall.2 ha;subst hnn;rw [ZAv];clear hall ha hl hx kl;have ck:=nmKeys;refine pI func119 rfl ntmps119 results119 call119 ?_;(focus (refine wkap (w_4 he hg @Zbm @Zef) (w_3 hk ce ck) (w_r 0) ?_;(repeat' first|exact w_t|apply w_l);all_goals intros));refine Zab (ι:=Nat) (λi e m=>i≤29∧e 0=strA s∧e 25=.sl 1 (kwL.map strA)∧e 26=iv 29∧e 27=iv i∧(kwL.take i).any (λw=>w.toList == s.toList)=false) (λi=>29 - i) 0 zr ?_ ?_
      ·rintro i e m ⟨hi,e0,e25,e26,e27,hno⟩
       by_cases hlt:i < 29
       ·have hlt':i < kwL.length:=by rw [Zef];exact hlt
        have hgk:=Zad strA hlt';have hsn:kwL.take (i+1)=kwL.take i++[kwL[i]]:=ZBx hlt';have hmem:kwL[i]∈kwL:=Zy6 hlt';generalize kwL[i]=w at *
        cases hw:(w.toList == s.toList) with
        | true =>
          have:kwL.any (λw=>w.toList == s.toList)=true:=List.any_eq_true.2 ⟨w,hmem,hw⟩;rw [this];(focus (refine wklp (w_8 e0 e25 e26 e27 hgk hw @Zbm @Zef) w_t (w_1 @ZB4) (w_r 0) ?_;(repeat' first|exact w_t|apply w_l);all_goals intros))
        | false =>
          (focus (refine wkap (w_8 e0 e25 e26 e27 hgk hw @Zbm @Zef) w_t (w_r 0) ?_;(repeat' first|exact w_t|apply w_l);all_goals intros));exact⟨i+1,⟨zo,gW e0,gW e25,gW e26,gS,by rw [hsn,List.any_append,hno];simp [hw]⟩,zo⟩
       ·have hi2:i=29:=zo;subst hi2;rw [show kwL.take 29=kwL from by rw [←Zef,ZAf]] at hno;rw [hno];(focus (refine wklp (w_4 e0 e25 e26 e27) w_t (w_1 @ZCe) (w_r 0) ?_;(repeat' first|exact w_t|apply w_l);all_goals intros))
      ·exact⟨Zyv _,gC,gC,by(simp (disch:=omega) only [go_sem,Zyn,Zef]<;>repeat' first|rfl|refine⟨?_,?_⟩),gC,by simp⟩
 ·rw [Zyl h0,Zzc];by_cases h1:s.size=0
  ·rw [Zyo h1] at he;refine pI func119 rfl ntmps119 results119 call119 ?_;(focus (refine wklp (w_1 he) w_t w_t (w_r 0) ?_;(repeat' first|exact w_t|apply w_l);all_goals intros))
  ·rw [Zyl h1] at he;refine pI func119 rfl ntmps119 results119 call119 ?_;(focus (refine wklp (w_1 he) w_t w_t (w_r 0) ?_;(repeat' first|exact w_t|apply w_l);all_goals intros))
theorem decode_1 (s:ByteArray) (k:Nat) (hk:k < s.size) (h:gB s k < 128):(Utf8.decode s k).2=1:=by
 have e:(s[k]'hk).toNat=gB s k:=by
  unfold gB;rw [Zyu,Zym (by simpa using hk)];rfl
 rw [decode_ascii s k hk zo]
theorem ld_ascii {c:Nat} (h:(letB c || digB c)=true):c < 128:=by
 unfold letB digB at h;simp only [ZAc,Zzi] at h;omega
theorem Zro (s:ByteArray) (hs:s.size≤9223372036854775807):Pure prog 71 [strA s] (.v (.bool (namB s))):=by
 have he:=Zir s;unfold namB;by_cases h0:0 < s.size∧s.size≤20
 ·rw [Zyo h0,ZAv];have h00:(decide (s.size=0))=false:=Zyl zo;rw [h00] at he;have hk:=Zh9 (gB s 0) (Zjl s 0);have hg:=Ziw s 0
  cases hl:letB (gB s 0) with
  | false =>
    rw [hl] at hk;rw [Zzc];refine pI func71 rfl ntmps71 results71 call71 ?_;exact wklp (w_2 he hg) (w_1 hk) w_t (w_r 0) w_z
  | true =>
    rw [hl] at hk;rw [ZAv];obtain⟨n,h1,h2,h3⟩:=Ziy s s.size (Zyp _)
    have hall:(List.range s.size).all (λk=>letB (gB s k) || digB (gB s k))=decide (n=s.size):=by
     rw [Zzg,ZA3,Zzi];constructor
     ·intro h;rcases Zy5 n s.size with h4 | h4
      ·have:=h n (List.mem_range.2 h4);rw [h3 h4] at this;cases this
      ·omega
     ·intro h x hx;exact h2 x (by rw [h];exact List.mem_range.1 hx)
    rw [hall];have ck:=rnKeys;refine Zqb (rs:=[.tmp 2]) func71 rfl ntmps71 results71 call71 zs ?_;refine Zq8 (Za1 (tok:=0) _ _ _ zr ?_)
    (refine wkap w_t w_t (w_r 0) (w_s ?_);intros)
    refine Zq8 (Za1 (tok:=0) _ _ _ zr ?_)
    (refine wkap (w_2 he hg) (w_1 hk) (w_r 0) (w_s ?_);intros)
    refine Zq8 ?_;clear hk hg he hall;refine Zyc (s:=s) (gC) underlying9 zo zo zo zo zo zo zo zr (λpos e=>pos≤n∧e 0=strA s) ?_ ?_ (λpos _=>Zt9 s pos) ?_
    ·intro pv;exact⟨Zyv _,gC⟩
    ·rintro pos e pv ⟨hp,e0⟩ epv hlt
     have hkl:=Zh9 (gB s pos) (Zjl s pos);have hkd:=Zp5 (gB s pos) (Zjl s pos);have hg:=Ziw s pos;by_cases hpn:pos < n
     ·have hb:=h2 pos hpn;have hd:=decode_1 s pos hlt (ld_ascii hb);rw [hd];generalize (Utf8.decode s pos).1=cc
      cases hl2:letB (gB s pos) with
      | true =>
        rw [hl2] at hkl
        (refine wkap (w_2 e0 hg) (w_2 hkl hkd) (w_r 0) (w_s ?_);intros)
        exact⟨rfl,⟨zo,gW e0⟩,gW epv⟩
      | false =>
        rw [hl2,Bool.false_or] at hb;rw [hl2] at hkl;rw [hb] at hkd
        (refine wkap (w_2 e0 hg) (w_2 hkl hkd) (w_r 0) (w_s ?_);intros)
        exact⟨rfl,⟨zo,gW e0⟩,gW epv⟩
     ·have hpe:pos=n:=zo;subst hpe;have hb:=h3 hlt;rw [ZBw] at hb;rw [hb.1] at hkl;rw [hb.2] at hkd;have hne:decide (pos=s.size)=false:=Zyl zo;rw [hne];generalize (Utf8.decode s pos).1=cc;generalize (Utf8.decode s pos).2=cw
      (refine wkap (w_2 e0 hg) (w_2 hkl hkd) (w_r 0) (w_s ?_);intros)
      refine⟨rfl,?_⟩;exact wklp w_t w_t w_t (w_r 0) w_z
    ·rintro pos e pv ⟨hp,e0⟩ epv hlt
     have hpe:n=s.size:=zo;rw [Zyo hpe,ZAv]
     (refine wkap (w_1 e0) w_t (w_r 0) (w_s ?_);intros)
     refine⟨rfl,?_⟩;refine Znw (t_then ?_);refine Za1 (tok:=0) _ _ _ zr ?_
     (refine wkap (w_3 e0 @Zbm @Zef) (w_1 ck) (w_r 0) (w_s ?_);intros)
     refine Zab (ι:=Nat) (λi e m=>i≤29∧e 0=strA s∧e 36=.sl 1 (kwL.map strA)∧e 37=iv 29∧e 38=iv i∧(kwL.take i).any (λw=>w.toList == s.toList)=false) (λi=>29 - i) 0 zr ?_ ?_
     ·rintro i e m ⟨hi,e0,e25,e26,e27,hno⟩
      by_cases hlt:i < 29
      ·have hlt':i < kwL.length:=by rw [Zef];exact hlt
       have hgk:=Zad strA hlt';have hsn:kwL.take (i+1)=kwL.take i++[kwL[i]]:=ZBx hlt';have hmem:kwL[i]∈kwL:=Zy6 hlt';generalize kwL[i]=w at *;have hsy:(s.toList == w.toList)=(w.toList == s.toList):=by rw [Zzg,ZAn,ZAn];exact eq_comm
       cases hw:(w.toList == s.toList) with
       | true =>
         have:kwL.any (λw=>w.toList == s.toList)=true:=List.any_eq_true.2 ⟨w,hmem,hw⟩;rw [this];rw [hw] at hsy;exact wklp (w_8 e0 e25 e26 e27 hgk hsy @Zbm @Zef) w_t (w_1 @ZB4) (w_r 0) w_z
       | false =>
         rw [hw] at hsy
         (refine wkap (w_8 e0 e25 e26 e27 hgk hsy @Zbm @Zef) w_t (w_r 0) (w_s ?_);intros)
         exact⟨i+1,⟨zo,gW e0,gW e25,gW e26,gS,by rw [hsn,List.any_append,hno];simp [hw]⟩,zo⟩
      ·have hi2:i=29:=zo;subst hi2;rw [show kwL.take 29=kwL from by rw [←Zef,ZAf]] at hno;rw [hno];exact wklp (w_4 e0 e25 e26 e27) w_t (w_1 @ZCe) (w_r 0) w_z
     ·exact⟨Zyv _,gW e0,gC,by(simp (disch:=omega) only [go_sem,Zyn,Zef]<;>repeat' first|rfl|refine⟨?_,?_⟩),gC,by simp⟩
 ·rw [Zyl h0,Zzc];by_cases h1:s.size=0
  ·rw [Zyo h1] at he;refine pI func71 rfl ntmps71 results71 call71 ?_;exact wklp (w_1 he) w_t w_t (w_r 0) w_z
  ·rw [Zyl h1] at he;refine pI func71 rfl ntmps71 results71 call71 ?_;exact wklp (w_1 he) w_t w_t (w_r 0) w_z
attribute [local go_sem] Zba Za9
theorem rxFindN (k:Int) (hf:∀i (h:i < rwL.length),rwL[i].k≠k):Pure prog 231 [iv k] (.agg [iv 0,iv 0,strA ByteArray.empty,nilS]):=by
 have cR:=Zvc;have hl:(rwL.map Rw.av).length=rwL.length:=Zyn ..;have h30:rwL.length=30:=rfl;have kR:∀i (h:i < rwL.length),(rwL.map Rw.av).getD i .u=rwL[i].av:=λi h=>Zad Rw.av h;generalize hR:rwL=R at *;clear hR;generalize R.map Rw.av=M at *;refine pI func231 rfl ntmps231 results231 call231 ?_;(focus (refine wkad (w_1 hl) (w_1 cR) w_t ?_;(repeat' first|exact w_t|apply w_l);all_goals intros));rename_i g2;refine Zab (ι:=Nat) (λi e m=>i≤R.length∧e 0=iv k∧e 5=.sl 4 M∧e 6=iv R.length∧e 7=iv i∧e 2=.pbox 2 g2 0∧m 2=some (.box g2 286 [iv 0,iv 0,strA ByteArray.empty,nilS] false)) (λi=>R.length - i) 0 zr ?_ ?_
 ·rintro i e m ⟨hi,e0,e5,e6,e7,e2,m2⟩
  by_cases hlt:i < R.length
  ·have gi:=kR i hlt;have hne:=hf i hlt;generalize R[i]=y at *;obtain⟨k2,so2,wo2,ps2⟩:=y;simp only at hne;have gi:M.getD i .u=.agg [iv k2,iv so2,strA wo2,ivs ps2]:=gi;clear kR hf cR;have hl2:(i:Int) < (R.length:Int):=zo;(focus (refine wkad (w_8 e0 e5 e6 e7 gi hl hl2 hne) w_t w_t ?_;(repeat' first|exact w_t|apply w_l);all_goals intros));exact⟨i+1,⟨zo,gW e0,gW e5,gW e6,gS,gW e2,gW m2⟩,zo⟩
  ·have hii:i=R.length:=zo;subst hii;clear kR hf cR;(focus (refine wkad (w_6 e0 e5 e6 e7 e2 m2) w_t w_t ?_;(repeat' first|exact w_t|apply w_l);all_goals intros));all_goals exact gM (w_1 e2)
 ·exact⟨Zyv _,gC,gC,gW hl,gC,gC,gC⟩
theorem Zvd (k:Int) (hf:∀i (h:i < rwL.length),rwL[i].k≠k):Pure prog 213 [iv k] nilS:=by
 have c:=rxFindN k hf;refine pI func213 rfl ntmps213 results213 call213 ?_;(focus (refine wkld w_t (w_1 c) w_t w_t ?_;(repeat' first|exact w_t|apply w_l);all_goals intros))
theorem Zve:Pure prog 235 [.agg [.v (.bool false),nilS,nilS]] (.v (.bool true)):=by
 refine pI func235 rfl ntmps235 results235 call235 ?_;(focus (refine wkld w_t w_t w_t w_t ?_;(repeat' first|exact w_t|apply w_l);all_goals intros))
def mxN (ds:List Nat):Nat→Nat
 | 0=>0
 | q+1=>max (mxN ds q) (ds.getD q 0)
theorem Zfk (x:Exq) (ds:List Nat) (hl:x.l.length≤10) (hb:∀q,mxN ds q≤100) (hx:∀q (h:q < x.l.length),∃y:Exq,x.l.getD q .u=y.av∧ds.getD q 0≤100∧Pure prog 236 [y.av] (iv (ds.getD q 0:Nat))):Pure prog 236 [x.av] (iv ((mxN ds x.l.length+1:Nat):Int)):=by
 obtain⟨xk,xn,xl,xp⟩:=x;simp only at hl hx;have hbl:=hb xl.length;refine pI func236 rfl ntmps236 results236 call236 ?_;(focus (refine wkad w_t w_t w_t ?_;(repeat' first|exact w_t|apply w_l);all_goals intros));refine Zab (ι:=Nat) (λq e m=>q≤xl.length∧e 3=iv (mxN ds q:Nat)∧e 7=.sl 7 xl∧e 8=iv xl.length∧e 9=iv q) (λq=>xl.length - q) 0 zr ?_ ?_
 ·rintro q e m ⟨hq,e3,e7,e8,e9⟩
  by_cases hlt:q < xl.length
  ·obtain⟨y,gq,hd,c⟩:=hx q hlt;have hs:mxN ds (q+1)=max (mxN ds q) (ds.getD q 0):=rfl;have hbq:=hb q;have hm:(if (mxN ds q:Int) < (ds.getD q 0:Int) then (ds.getD q 0:Int) else (mxN ds q:Int))=(mxN ds (q+1):Int):=by rw [hs];split<;>omega
   clear hx hs;generalize hA1:mxN ds (q+1)=a1 at *;generalize mxN ds q=a0 at *;generalize ds.getD q 0=d at *;obtain⟨yk,yn,yl,yp⟩:=y;have gq:xl.getD q .u=.agg [iv yk,strA yn,.v (.bool false),nilS,nilS,.sl 7 yl,iv yp]:=gq;(focus (refine wkad (w_6 e3 e7 e8 e9 gq hm) (w_1 c) w_t ?_;(repeat' first|exact w_t|apply w_l);all_goals intros));exact⟨q+1,⟨zo,by rw [hA1];exact gW hm,gW e7,gW e8,gS⟩,zo⟩
  ·have hqq:q=xl.length:=zo;subst hqq;clear hx;generalize mxN ds xl.length=a0 at *;have hc:((a0:Int)+1)=((a0+1:Nat):Int):=zo;(focus (refine wkad (w_5 e3 e7 e8 e9 hc) w_t w_t ?_;(repeat' first|exact w_t|apply w_l);all_goals intros));all_goals exact gM (w_1 hc)
 ·exact⟨Zyv _,by(simp (disch:=omega) only [go_sem,mxN]<;>repeat' first|rfl|refine⟨?_,?_⟩),gC,gC,gC⟩
theorem rxOfL (x:Exq) (s:Int) (hs:s≠0∧s≠4) (hk:x.k=1):Pure prog 246 [x.av,iv s] (.v (.bool true)):=by
 obtain⟨xk,xn,xl,xp⟩:=x;obtain⟨s1,s2⟩:=hs;simp only at hk;subst hk;refine pI func246 rfl ntmps246 results246 call246 ?_;(focus (refine wkad (w_2 s1 s2) w_t w_t ?_;(repeat' first|exact w_t|apply w_l);all_goals intros));all_goals (all_goals (try simp (disch:=omega) only [go_sem,s2,Zyo,Zyl,Zyk,Zyj,Int.reduceAdd,Int.reduceSub,Int.reduceToNat,Zyw]));(all_goals first|done|rfl|(congr 2;first|done|omega|(rw [Zzg];simp only [bool_to_prop,Zyy,Zzn,Zzo,Zzp,Zzq];omega))|skip)
theorem rxOfN (x:Exq) (j:Nat) (hj:j < rwL.length) (hk:rwL[j].k=x.k) (hf:∀i (h:i < rwL.length),i < j→rwL[i].k≠x.k) (h0:x.k≠0∧x.k≠1) (hs:rwL[j].s≠0):Pure prog 246 [x.av,iv rwL[j].s] (.v (.bool true)):=by
 have c1:=Zvg x.k j hj hk hf;have c2:=rxSort x.k j hj hk hf;obtain⟨xk,xn,xl,xp⟩:=x;obtain⟨n0,n1⟩:=h0;simp only at *;generalize rwL[j]=r at *;obtain⟨rk,rs,rw',rp⟩:=r;simp only at *;subst hk;have c1:Pure prog 231 [iv rk] (.agg [iv rk,iv rs,strA rw',ivs rp]):=c1;refine pI func246 rfl ntmps246 results246 call246 ?_;(focus (refine wkad (w_3 hs n0 n1) (w_2 c1 c2) w_t ?_;(repeat' first|exact w_t|apply w_l);all_goals intros));all_goals exact gL
theorem Zj9 (x:Exq) (s:Int) (hs:s≠0∧s≠4) (hk:x.k=1) (hn:namB x.nm=true) (hz:x.nm.size≤1000) (hl:x.l=[]):Pure prog 237 [x.av,iv s] (iv 0):=by
 have c1:=rxOfL x s hs hk;have c2:=Zro x.nm zo;rw [hn] at c2;have c3:=Zvd 1 zd;have c4:=Zvf 1 zd;have c5:=Zve;obtain⟨xk,xn,xl,xp⟩:=x;simp only at *;subst hk;subst hl;refine pI func237 rfl ntmps237 results237 call237 ?_;(focus (refine wkax w_t (w_5 c1 c2 c3 c4 c5) (w_1 (w_d 5 [(14,nilS)] [] [])) w_t w_t w_t w_y (w_r 2) ?_;(repeat' first|exact w_t|apply w_l);all_goals intros));all_goals exact gL
theorem Zvi (x:Exq) (j:Nat) (hj:j < rwL.length) (hk:rwL[j].k=x.k) (hf:∀i (h:i < rwL.length),i < j→rwL[i].k≠x.k) (h0:x.k≠0∧x.k≠1) (hs:rwL[j].s≠0) (hr:x.k≠11∧x.k≠68) (hn:x.nm=ByteArray.empty) (hl:x.l.length=rwL[j].p.length) (hl2:x.l.length≤10)
 (hx:∀q (h:q < x.l.length),∃y:Exq,x.l.getD q .u=y.av∧Pure prog 237 [y.av,iv (rwL[j].p.getD q 0)] (iv 0)):Pure prog 237 [x.av,iv rwL[j].s] (iv 0):=by
 have c1:=rxOfN x j hj hk hf h0 hs;have c3:=Zh7 x.k j hj hk hf;have c4:=Zvf x.k hr;have c5:=Zve;have hst:=Zir ByteArray.empty;rw [show decide (ByteArray.empty.size=0)=true from rfl] at hst;obtain⟨xk,xn,xl,xp⟩:=x;obtain⟨n0,n1⟩:=h0;simp only at *;subst hn;generalize rwL[j]=r at *;obtain⟨rk,rs,rw',rp⟩:=r;simp only at *;have hlp:(rp.map iv).length=xl.length:=by rw [Zyn];omega
 have kP:∀q,q < rp.length→(rp.map iv).getD q .u=iv (rp.getD q 0):=λq h=>by rw [Zad iv h,Zyu,Zym h];rfl
 have c3:Pure prog 213 [iv xk] (.sl 1 (rp.map iv)):=c3;generalize rp.map iv=P at *;refine pI func237 rfl ntmps237 results237 call237 ?_;(focus (refine wkad (w_4 n0 n1 hst hlp) (w_4 c1 c3 c4 c5) (w_1 (w_d 5 [(14,.sl 1 P)] [] [])) ?_;(repeat' first|exact w_t|apply w_l);all_goals intros));rename_i g2;refine Zab (ι:=Nat) (λq e m=>q≤xl.length∧(e 2=.pbox 2 g2 0∧m 2=some (.box g2 138 [iv xk,strA ByteArray.empty,.v (.bool false),nilS,nilS,.sl 7 xl,iv xp] false))∧e 61=.sl 7 xl∧e 62=iv xl.length∧e 63=iv q) (λq=>xl.length - q) 0 zr ?_ ?_
 ·rintro q e m ⟨hq,⟨e2,m2⟩,e61,e62,e63⟩
  by_cases hlt:q < xl.length
  ·obtain⟨y,gq,c⟩:=hx q hlt;have gp:=kP q zo;clear hx kP c1;generalize rp.getD q 0=s1 at *;obtain⟨yk,yn,yl,yp⟩:=y;have gq:xl.getD q .u=.agg [iv yk,strA yn,.v (.bool false),nilS,nilS,.sl 7 yl,iv yp]:=gq;have c:Pure prog 237 [.agg [iv yk,strA yn,.v (.bool false),nilS,nilS,.sl 7 yl,iv yp],iv s1] (iv 0):=c;(focus (refine wkad (w_8 e2 m2 e61 e62 e63 gq gp hlp) (w_2 c3 c) (w_1 (w_d 12 [(3,.sl 1 P),(7,iv 0)] [] [])) ?_;(repeat' first|exact w_t|apply w_l);all_goals intros));exact⟨q+1,⟨zo,⟨gW e2,gW m2⟩,gW e61,gW e62,gS⟩,zo⟩
  ·have hqq:q=xl.length:=zo;subst hqq;clear hx kP c1;(focus (refine wkad (w_5 e2 m2 e61 e62 e63) w_t w_t ?_;(repeat' first|exact w_t|apply w_l);all_goals intros));all_goals exact gL
 ·exact⟨Zyv _,⟨gC,gC⟩,gC,gC,gC⟩
theorem Zvk (x:Exq) (s:Int) (d:Nat) (hd:d≤20) (hs:1≤s∧s≤4) (cD:Pure prog 236 [x.av] (iv d)) (cC:Pure prog 237 [x.av,iv s] (iv 0)):Pure prog 218 [x.av,iv s] (iv 0):=by
 obtain⟨xk,xn,xl,xp⟩:=x;obtain⟨s1,s2⟩:=hs;refine pI func218 rfl ntmps218 results218 call218 ?_;(focus (refine wkad w_t (w_2 cD cC) w_t ?_;(repeat' first|exact w_t|apply w_l);all_goals intros));all_goals exact gL
theorem rxEmpty (x:Exq) (hk:x.k=0) (hn:x.nm=ByteArray.empty) (hl:x.l=[]):Pure prog 217 [x.av] (.v (.bool true)):=by
 have c5:=Zve;have hst:=Zir ByteArray.empty;rw [show decide (ByteArray.empty.size=0)=true from rfl] at hst;obtain⟨xk,xn,xl,xp⟩:=x;simp only at *;subst hk;subst hn;subst hl;refine pI func217 rfl ntmps217 results217 call217 ?_;(focus (refine wkad (w_1 hst) (w_1 c5) w_t ?_;(repeat' first|exact w_t|apply w_l);all_goals intros));all_goals exact gL
theorem rxCs1 (NM:List ByteArray) (p:Int) (h0:NM≠[]) (hl:NM.length≤1000) (hn:∀w∈NM,namB w=true∧w.size≤1000):Pure prog 179 [(Stq.mk 1 NM ⟨0,ByteArray.empty,[],0⟩ p).av] (iv 0):=by
 have hll:(NM.map strA).length=NM.length:=Zyn ..;have hl1:1≤NM.length:=List.length_pos_iff.2 h0;have kN:∀q (h:q < NM.length),(NM.map strA).getD q .u=strA NM[q]:=λq h=>Zad strA h;have hN:∀q (h:q < NM.length),namB NM[q]=true∧NM[q].size≤1000:=λq h=>hn _ (Zy6 h);have cE:Pure prog 217 [.agg [iv 0,strA ByteArray.empty,.v (.bool false),nilS,nilS,.sl 7 [],iv 0]] (.v (.bool true)):=rxEmpty ⟨0,ByteArray.empty,[],0⟩ rfl rfl rfl;clear hn;show Pure _ _ [.agg [iv 1,.sl 1 (NM.map strA),iv 0,strA ByteArray.empty,.v (.bool false),nilS,nilS,.sl 7 [],iv 0,iv p]] _;generalize NM.map strA=Z at *
 refine pI func179 rfl ntmps179 results179 call179 ?_;(focus (refine wkad (w_1 hll) w_t w_t ?_;(repeat' first|exact w_t|apply w_l);all_goals intros));rename_i g1;refine Zab (ι:=Nat) (λq e m=>q≤NM.length∧(e 1=.pbox 1 g1 0∧m 1=some (.box g1 140 [iv 1,.sl 1 Z,iv 0,strA ByteArray.empty,.v (.bool false),nilS,nilS,.sl 7 [],iv 0,iv p] false))∧e 46=.sl 1 Z∧e 47=iv NM.length∧e 48=iv q) (λq=>NM.length - q) 0 zr ?_ ?_
 ·rintro q e m ⟨hq,⟨e1,m1⟩,e46,e47,e48⟩
  by_cases hlt:q < NM.length
  ·have gq:=kN q hlt;obtain⟨n1,n2⟩:=hN q hlt;have c:=Zro NM[q] zo;rw [n1] at c;generalize NM[q]=w at *;(focus (refine wkad (w_7 e1 m1 e46 e47 e48 gq hll) (w_1 c) w_t ?_;(repeat' first|exact w_t|apply w_l);all_goals intros));exact⟨q+1,⟨zo,⟨gW e1,gW m1⟩,gW e46,gW e47,gS⟩,zo⟩
  ·have hqq:q=NM.length:=zo;subst hqq;clear kN hN;(focus (refine wkad (w_5 e1 m1 e46 e47 e48) (w_1 cE) w_t ?_;(repeat' first|exact w_t|apply w_l);all_goals intros));all_goals exact gL
 ·exact⟨Zyv _,⟨gC,gC⟩,gC,gW hll,gC⟩
theorem rxCs2 (w:ByteArray) (x:Exq) (p:Int) (hn:namB w=true∧w.size≤1000) (hx:x.k≠1) (cC:Pure prog 218 [x.av,iv 1] (iv 0)):Pure prog 179 [(Stq.mk 2 [w] x p).av] (iv 0):=by
 have cS:=Zdv 2 1 (.inl ⟨rfl,rfl⟩);have c:=Zro w zo;rw [hn.1] at c;obtain⟨xk,xn,xl,xp⟩:=x;simp only at hx;show Pure _ _ [.agg [iv 2,.sl 1 [strA w],iv xk,strA xn,.v (.bool false),nilS,nilS,.sl 7 xl,iv xp,iv p]] _;refine pI func179 rfl ntmps179 results179 call179 ?_;(focus (refine wkax (w_1 hx) (w_3 c cS cC) (w_1 (w_d 20 [(4,iv 1),(5,iv 0)] [] [])) w_t w_t w_t w_y (w_r 3) ?_;(repeat' first|exact w_t|apply w_l);all_goals intros));all_goals exact gL
theorem rxCs5 (x:Exq) (p:Int) (hx:x.k≠1) (cC:Pure prog 218 [x.av,iv 4] (iv 0)):Pure prog 179 [(Stq.mk 5 [] x p).av] (iv 0):=by
 have cS:=Zdv 5 4 (.inr ⟨rfl,rfl⟩);obtain⟨xk,xn,xl,xp⟩:=x;simp only at hx;show Pure _ _ [.agg [iv 5,.sl 1 [],iv xk,strA xn,.v (.bool false),nilS,nilS,.sl 7 xl,iv xp,iv p]] _;refine pI func179 rfl ntmps179 results179 call179 ?_;(focus (refine wkax (w_1 hx) (w_2 cS cC) (w_1 (w_d 20 [(4,iv 4),(5,iv 0)] [] [])) w_t w_t w_t w_y (w_r 2) ?_;(repeat' first|exact w_t|apply w_l);all_goals intros));all_goals exact gL
def srtN (k:Int):Int:=if k=1 then 1 else if k=2 then 1 else if k=3 then 2 else if k=4 then 3 else 0
theorem rxSortOf (k:Int):Pure prog 219 [iv k] (iv (srtN k)):=by
 unfold srtN;refine pI func219 rfl ntmps219 results219 call219 ?_;(focus (refine wkad w_t w_t w_t ?_;(repeat' first|exact w_t|apply w_l);all_goals intros));all_goals exact gL
def dfN (w:ByteArray):List Stq→Int
 | []=>0
 | s :: r=>if s.ns.any (λx=>x.toList == w.toList) then srtN s.k else dfN w r
theorem rxDefd (S:List Stq) (w:ByteArray) (hl:S.length≤1000) (hn:∀s∈S,s.ns.length≤1000):Pure prog 181 [.sl 10 (S.map Stq.av),strA w] (iv (dfN w S)):=by
 have hll:(S.map Stq.av).length=S.length:=Zyn ..;have kS:∀i (h:i < S.length),(S.map Stq.av).getD i .u=S[i].av:=λi h=>Zad Stq.av h;have hd:∀i (h:i < S.length),dfN w (S.drop i)=if S[i].ns.any (λx=>x.toList == w.toList) then srtN S[i].k else dfN w (S.drop (i+1)):=λi h=>by rw [ZBm h];rfl
 have h0:dfN w S=dfN w (S.drop 0):=rfl;have he:dfN w (S.drop S.length)=0:=by rw [ZCg];rfl
 have hnn:∀i (h:i < S.length),S[i].ns.length≤1000:=λi h=>hn _ (Zy6 h);clear hn;rw [h0];generalize S.map Stq.av=M at *;refine pI func181 rfl ntmps181 results181 call181 ?_;(focus (refine wkad (w_1 hll) w_t w_t ?_;(repeat' first|exact w_t|apply w_l);all_goals intros));refine Zab (ι:=Nat) (λi e m=>i≤S.length∧dfN w (S.drop 0)=dfN w (S.drop i)∧e 1=strA w∧e 7=.sl 10 M∧e 8=iv S.length∧e 9=iv i) (λi=>S.length - i) 0 zr ?_ ?_
 ·rintro i e m ⟨hi,hq,e1,e7,e8,e9⟩
  by_cases hlt:i < S.length
  ·have gi:=kS i hlt;have hdi:=hd i hlt;have hnl:=hnn i hlt;clear kS hd hnn;generalize S[i]=x at *;obtain⟨sk,ns,⟨xk,xn,xl,xp⟩,sp⟩:=x;simp only at hdi hnl;have cH:=rxHas ns w hnl;have cS:=rxSortOf sk;have gi:M.getD i .u=.agg [iv sk,.sl 1 (ns.map strA),iv xk,strA xn,.v (.bool false),nilS,nilS,.sl 7 xl,iv xp,iv sp]:=gi;generalize ns.map strA=NZ at *
   cases hb:(ns.any λx=>x.toList == w.toList) with
   | true =>
     rw [hb] at hdi cH;rw [hq,hdi];(focus (refine wkad (w_6 e1 e7 e8 e9 gi hll) (w_2 cH cS) w_t ?_;(repeat' first|exact w_t|apply w_l);all_goals intros));all_goals exact gL
   | false =>
     rw [hb] at hdi cH;(focus (refine wkad (w_6 e1 e7 e8 e9 gi hll) (w_2 cH cS) w_t ?_;(repeat' first|exact w_t|apply w_l);all_goals intros));exact⟨i+1,⟨zo,by rw [hq,hdi];rfl,gW e1,gW e7,gW e8,gS⟩,zo⟩
  ·have hii:i=S.length:=zo;subst hii;rw [hq,he];(focus (refine wkad (w_4 e1 e7 e8 e9) w_t w_t ?_;(repeat' first|exact w_t|apply w_l);all_goals intros));all_goals exact gL
 ·exact⟨Zyv _,rfl,gC,gC,gW hll,gC⟩
theorem Zhs (S:List Stq) (x:Exq) (s:Int) (hl:S.length≤1000) (hn:∀s∈S,s.ns.length≤1000) (hk:x.k=1) (hs:s≠0) (hd:dfN x.nm S=s):Pure prog 180 [.sl 10 (S.map Stq.av),x.av,iv s] (iv 0):=by
 have c:=rxDefd S x.nm hl hn;rw [hd] at c;clear hn;obtain⟨xk,xn,xl,xp⟩:=x;simp only at *;subst hk;generalize S.map Stq.av=M at *;refine pI func180 rfl ntmps180 results180 call180 ?_;(focus (refine wkad (w_1 hs) (w_1 c) w_t ?_;(repeat' first|exact w_t|apply w_l);all_goals intros));all_goals exact gL
theorem Zpy (M:List AV) (x:Exq) (s:Int) (j:Nat) (hj:j < rwL.length) (hk:rwL[j].k=x.k) (hf:∀i (h:i < rwL.length),i < j→rwL[i].k≠x.k) (h1:x.k≠1) (hl:x.l.length=rwL[j].p.length) (hl2:x.l.length≤10)
 (hx:∀q,q < x.l.length→∃y:Exq,x.l.getD q .u=y.av∧Pure prog 180 [.sl 10 M,y.av,iv (rwL[j].p.getD q 0)] (iv 0)):Pure prog 180 [.sl 10 M,x.av,iv s] (iv 0):=by
 have c3:=Zh7 x.k j hj hk hf;obtain⟨xk,xn,xl,xp⟩:=x;simp only at *;generalize rwL[j]=r at *;obtain⟨rk,rs,rw',rp⟩:=r;simp only at *;have hlp:(rp.map iv).length=xl.length:=by rw [Zyn];omega
 have kP:∀q,q < rp.length→(rp.map iv).getD q .u=iv (rp.getD q 0):=λq h=>by rw [Zad iv h,Zyu,Zym h];rfl
 have c3:Pure prog 213 [iv xk] (.sl 1 (rp.map iv)):=c3;generalize rp.map iv=P at *;refine pI func180 rfl ntmps180 results180 call180 ?_;(focus (refine wkad (w_2 h1 hlp) w_t w_t ?_;(repeat' first|exact w_t|apply w_l);all_goals intros));rename_i g4;refine Zab (ι:=Nat) (λq e m=>q≤xl.length∧e 0=.sl 10 M∧(e 4=.pbox 4 g4 0∧m 4=some (.box g4 138 [iv xk,strA xn,.v (.bool false),nilS,nilS,.sl 7 xl,iv xp] false))∧e 36=.sl 7 xl∧e 37=iv xl.length∧e 38=iv q) (λq=>xl.length - q) 0 zr ?_ ?_
 ·rintro q e m ⟨hq,e0,⟨e4,m4⟩,e36,e37,e38⟩
  by_cases hlt:q < xl.length
  ·obtain⟨y,gq,c⟩:=hx q hlt;have gp:=kP q zo;clear hx kP;generalize rp.getD q 0=s1 at *;obtain⟨yk,yn,yl,yp⟩:=y;have gq:xl.getD q .u=.agg [iv yk,strA yn,.v (.bool false),nilS,nilS,.sl 7 yl,iv yp]:=gq;have c:Pure prog 180 [.sl 10 M,.agg [iv yk,strA yn,.v (.bool false),nilS,nilS,.sl 7 yl,iv yp],iv s1] (iv 0):=c;(focus (refine wkad (w_9 e0 e4 m4 e36 e37 e38 gq gp hlp) (w_2 c3 c) (w_1 (w_d 11 [(4,.sl 1 P),(8,iv 0)] [] [])) ?_;(repeat' first|exact w_t|apply w_l);all_goals intros));exact⟨q+1,⟨zo,gW e0,⟨gW e4,gW m4⟩,gW e36,gW e37,gS⟩,zo⟩
  ·have hqq:q=xl.length:=zo;subst hqq;clear hx kP;(focus (refine wkad (w_6 e0 e4 m4 e36 e37 e38) w_t w_t ?_;(repeat' first|exact w_t|apply w_l);all_goals intros));all_goals exact gL
 ·exact⟨Zyv _,gC,⟨gC,gC⟩,gC,gC,gC⟩
def newB (S:List Stq) (ns:List ByteArray):Bool:=(List.range ns.length).all λq=>match ns[q]? with | some w=>decide (dfN w S=0) && !((ns.take q).any λx=>x.toList == w.toList) | none=>true
theorem Zpz (S:List Stq) (s:Stq) (so:Int) (hl:S.length≤1000) (hn:∀s∈S,s.ns.length≤1000) (hl2:s.ns.length≤1000) (hN:newB S s.ns=true) (cC:Pure prog 179 [s.av] (iv 0))
 (cU:s.k=1∨(s.k≠1∧Pure prog 140 [iv s.k] (iv so)∧Pure prog 180 [.sl 10 (S.map Stq.av),s.x.av,iv so] (iv 0))):Pure prog 135 [.sl 10 (S.map Stq.av),s.av] (iv 0):=by
 have cD:=λw=>rxDefd S w hl hn;obtain⟨sk,ns,⟨xk,xn,xl,xp⟩,sp⟩:=s;simp only at *;have hll:(ns.map strA).length=ns.length:=Zyn ..;have kN:∀q (h:q < ns.length),(ns.map strA).getD q .u=strA ns[q]:=λq h=>Zad strA h;have hNq:∀q (h:q < ns.length),dfN ns[q] S=0∧((ns.take q).any λx=>x.toList == ns[q].toList)=false:=λq h=>by
  unfold newB at hN;rw [ZA3] at hN;have:=hN q (List.mem_range.2 h);rw [Zym h] at this;simp only [Zy7,Zzi,ZAs] at this;exact this
 have cH:∀q (h:q < ns.length),Pure prog 182 [.sl 1 ((ns.map strA).take q),strA ns[q]] (.v (.bool false)):=λq h=>by
  have:=rxHas (ns.take q) ns[q] (by rw [Zy1];omega);rw [(hNq q h).2,List.map_take] at this;exact this
 have cD:∀q (h:q < ns.length),Pure prog 181 [.sl 10 (S.map Stq.av),strA ns[q]] (iv 0):=λq h=>by
  have:=cD ns[q];rw [(hNq q h).1] at this;exact this
 clear hN hNq hn;have cC:Pure prog 179 [.agg [iv sk,.sl 1 (ns.map strA),iv xk,strA xn,.v (.bool false),nilS,nilS,.sl 7 xl,iv xp,iv sp]] (iv 0):=cC;show Pure _ _ [.sl 10 (S.map Stq.av),.agg [iv sk,.sl 1 (ns.map strA),iv xk,strA xn,.v (.bool false),nilS,nilS,.sl 7 xl,iv xp,iv sp]] _;generalize S.map Stq.av=M at *;generalize ns.map strA=Z at *;rcases cU with hk | ⟨hk,c1,c2⟩
 ·subst hk;refine pI func135 rfl ntmps135 results135 call135 ?_;(focus (refine wkad (w_1 hll) (w_1 cC) w_t ?_;(repeat' first|exact w_t|apply w_l);all_goals intros));rename_i g3;refine Zab (ι:=Nat) (λq e m=>q≤ns.length∧e 0=.sl 10 M∧(e 3=.pbox 3 g3 0∧m 3=some (.box g3 140 [iv 1,.sl 1 Z,iv xk,strA xn,.v (.bool false),nilS,nilS,.sl 7 xl,iv xp,iv sp] false))∧e 28=.sl 1 Z∧e 29=iv ns.length∧e 30=iv q) (λq=>ns.length - q) 0 zr ?_ ?_
  ·rintro q e m ⟨hq,e0,⟨e3,m3⟩,e28,e29,e30⟩
   by_cases hlt:q < ns.length
   ·have gq:=kN q hlt;have c3:=cD q hlt;have c4:=cH q hlt;clear kN cD cH cC;generalize ns[q]=w at *;(focus (refine wkad (w_8 e0 e3 m3 e28 e29 e30 gq hll) (w_2 c3 c4) w_t ?_;(repeat' first|exact w_t|apply w_l);all_goals intros));exact⟨q+1,⟨zo,gW e0,⟨gW e3,gW m3⟩,gW e28,gW e29,gS⟩,zo⟩
   ·have hqq:q=ns.length:=zo;subst hqq;clear kN cD cH;(focus (refine wkad (w_6 e0 e3 m3 e28 e29 e30) w_t w_t ?_;(repeat' first|exact w_t|apply w_l);all_goals intros));all_goals exact gL
  ·exact⟨Zyv _,gC,⟨gC,gC⟩,gC,gW hll,gC⟩
 ·have c2:Pure prog 180 [.sl 10 M,.agg [iv xk,strA xn,.v (.bool false),nilS,nilS,.sl 7 xl,iv xp],iv so] (iv 0):=c2;refine pI func135 rfl ntmps135 results135 call135 ?_;(focus (refine wkad (w_2 hk hll) (w_3 cC c1 c2) (w_1 (w_d 5 [(5,iv so),(6,iv 0)] [] [])) ?_;(repeat' first|exact w_t|apply w_l);all_goals intros));rename_i g3;refine Zab (ι:=Nat) (λq e m=>q≤ns.length∧e 0=.sl 10 M∧(e 3=.pbox 3 g3 0∧m 3=some (.box g3 140 [iv sk,.sl 1 Z,iv xk,strA xn,.v (.bool false),nilS,nilS,.sl 7 xl,iv xp,iv sp] false))∧e 28=.sl 1 Z∧e 29=iv ns.length∧e 30=iv q) (λq=>ns.length - q) 0 zr ?_ ?_
  ·rintro q e m ⟨hq,e0,⟨e3,m3⟩,e28,e29,e30⟩
   by_cases hlt:q < ns.length
   ·have gq:=kN q hlt;have c3:=cD q hlt;have c4:=cH q hlt;clear kN cD cH cC;generalize ns[q]=w at *;(focus (refine wkad (w_8 e0 e3 m3 e28 e29 e30 gq hll) (w_2 c3 c4) w_t ?_;(repeat' first|exact w_t|apply w_l);all_goals intros));exact⟨q+1,⟨zo,gW e0,⟨gW e3,gW m3⟩,gW e28,gW e29,gS⟩,zo⟩
   ·have hqq:q=ns.length:=zo;subst hqq;clear kN cD cH;(focus (refine wkad (w_6 e0 e3 m3 e28 e29 e30) w_t w_t ?_;(repeat' first|exact w_t|apply w_l);all_goals intros));all_goals exact gL
  ·exact⟨Zyv _,gC,⟨gC,gC⟩,gC,gW hll,gC⟩
theorem Zvj (S:List Stq) (hl:S.length≤1000) (hS:∀i (h:i < S.length),Pure prog 135 [.sl 10 ((S.take i).map Stq.av),S[i].av] (iv 0)):Pure prog 88 [.agg [.sl 10 (S.map Stq.av)]] (.tup [iv 0,iv 0]):=by
 have hll:(S.map Stq.av).length=S.length:=Zyn ..;have kS:∀i (h:i < S.length),(S.map Stq.av).getD i .u=S[i].av:=λi h=>Zad Stq.av h;have hS:∀i (h:i < S.length),Pure prog 135 [.sl 10 ((S.map Stq.av).take i),S[i].av] (iv 0):=λi h=>by rw [←List.map_take];exact hS i h
 generalize S.map Stq.av=M at *;refine pI func88 rfl ntmps88 results88 call88 ?_;(focus (refine wkad (w_1 hll) w_t w_t ?_;(repeat' first|exact w_t|apply w_l);all_goals intros));rename_i g1;refine Zab (ι:=Nat) (λi e m=>i≤S.length∧(e 1=.pbox 1 g1 0∧m 1=some (.box g1 99 [.sl 10 M] false))∧e 8=.sl 10 M∧e 9=iv S.length∧e 10=iv i) (λi=>S.length - i) 0 zr ?_ ?_
 ·rintro i e m ⟨hi,⟨e1,m1⟩,e8,e9,e10⟩
  by_cases hlt:i < S.length
  ·have gi:=kS i hlt;have c:=hS i hlt;clear kS hS;generalize S[i]=x at *;obtain⟨sk,ns,⟨xk,xn,xl,xp⟩,sp⟩:=x;have gi:M.getD i .u=.agg [iv sk,.sl 1 (ns.map strA),iv xk,strA xn,.v (.bool false),nilS,nilS,.sl 7 xl,iv xp,iv sp]:=gi;have c:Pure prog 135 [.sl 10 (M.take i),.agg [iv sk,.sl 1 (ns.map strA),iv xk,strA xn,.v (.bool false),nilS,nilS,.sl 7 xl,iv xp,iv sp]] (iv 0):=c;generalize ns.map strA=NZ at *;(focus (refine wkad (w_7 e1 m1 e8 e9 e10 gi hll) (w_1 c) (w_1 (w_d 4 [(5,iv 0)] [] [])) ?_;(repeat' first|exact w_t|apply w_l);all_goals intros));exact⟨i+1,⟨zo,⟨gW e1,gW m1⟩,gW e8,gW e9,gS⟩,zo⟩
  ·have hii:i=S.length:=zo;subst hii;clear kS hS;(focus (refine wkad (w_5 e1 m1 e8 e9 e10) w_t w_t ?_;(repeat' first|exact w_t|apply w_l);all_goals intros));all_goals exact gL
 ·exact⟨Zyv _,⟨gC,gC⟩,gC,gW hll,gC⟩
attribute [go_sem] zKno zSta underlying196 underlying145 underlying147 underlying49 zFig underlying78 underlying46 zSlS underlying80 underlying47 zSlF
attribute [local go_sem] Ztb Zuh Zta Ziq Zlm Zcf Za6 Za7 Zcd Zce Zb2 Zb4 Zdh Zdi
structure Kn where
 w:ByteArray
 s:Int
 l:List Int
abbrev Kn.av (x:Kn):AV:=.agg [strA x.w,iv x.s,.sl 1 (x.l.map iv)]
abbrev stA (KS KG KN:Nat) (a b c:Value):AV:=.agg [.own KS a,.own KG b,.own KN c]
theorem Zex (KS KG KN KS' KG' KN':Nat) (a b c:Value):Sub (stA KS KG KN a b c) (stA KS' KG' KN' a b c):=Sub.agg _ _ rfl λj x y h1 h2=>by
 match j,h1,h2 with
 | 0,h1,h2=>cases h1;cases h2;exact Sub.own _ _ _
 | 1,h1,h2=>cases h1;cases h2;exact Sub.own _ _ _
 | 2,h1,h2=>cases h1;cases h2;exact Sub.own _ _ _
 | j+3,h1,h2=>simp at h1
theorem Zi4 {a b a' b':AV} (h:Sub a a') (k:Sub b b'):Sub (.tup [a,b]) (.tup [a',b']):=Sub.tup _ _ rfl λj x y h1 h2=>by
 match j,h1,h2 with
 | 0,h1,h2=>cases h1;cases h2;exact h
 | 1,h1,h2=>cases h1;cases h2;exact k
 | j+2,h1,h2=>simp at h1
abbrev knR (c:Value) (NN:List Kn):Ent:=.row c 196 3 (NN.map Kn.av) 0
def lkN (w:ByteArray):List Kn→Option Kn
 | []=>none
 | x :: r=>if x.w.toList == w.toList then some x else lkN w r
theorem rxLook (KS KG KN:Nat) (a b c:Value) (NN:List Kn) (w:ByteArray) (k:Kn) (hk:lkN w NN=some k) (hl:NN.length≤1000):RdC prog [(KN,knR c NN)] 183 [stA KS KG KN a b c,strA w] k.av:=by
 intro σ hL;have hN:σ KN=some (knR c NN):=hL.1;have hll:(NN.map Kn.av).length=NN.length:=Zyn ..;have kN:∀i (h:i < NN.length),(NN.map Kn.av).getD i .u=NN[i].av:=λi h=>Zad Kn.av h;have hd:∀i (h:i < NN.length),lkN w (NN.drop i)=if NN[i].w.toList == w.toList then some NN[i] else lkN w (NN.drop (i+1)):=λi h=>by rw [ZBm h];rfl
 have he:lkN w (NN.drop NN.length)=none:=by rw [ZCg];rfl
 have mN:=Za5 hN;simp only [Ent.sh] at mN;generalize NN.map Kn.av=M at *;refine Za2 func183 rfl ntmps183 results183 call183 zr zs ?_;simp only [AV.shL,AV.sh];(focus (refine wkad (w_3 mN hll @Zaj) w_t w_t ?_;(repeat' first|exact w_t|apply w_l);all_goals intros));rename_i g2 g4;refine Zab (ι:=Nat) (λi e m=>i≤NN.length∧lkN w NN=lkN w (NN.drop i)∧e 1=strA w∧e 8=.own (KN+1000) c∧e 9=iv NN.length∧e 10=iv i∧e 4=.pbox 4 g4 0∧m 4=some (.box g4 196 [strA ByteArray.empty,iv 0,nilS] false)∧m (KN+1000)=some (.row c 196 3 M 0)∧Agr m σ) (λi=>NN.length - i) 0 zr ?_ ?_
 ·rintro i e m ⟨hi,hq,e1,e8,e9,e10,e4,m4,mN,hA⟩
  have hlt:i < NN.length:=by
   refine Nat.lt_of_not_le λh=>?_;have:i=NN.length:=zo;subst this;rw [hk,he] at hq;cases hq
  have gi:=kN i hlt;have hdi:=hd i hlt;clear kN hd he;generalize NN[i]=x at *;obtain⟨xw,xs,xl⟩:=x;simp only at hdi;have gi:M.getD i .u=.agg [strA xw,iv xs,.sl 1 (xl.map iv)]:=gi
  cases hb:(xw.toList == w.toList) with
  | true =>
    rw [hb] at hdi;rw [hk,hdi] at hq;simp only [Zzb,Option.some.injEq] at hq;subst hq;(focus (refine wkad (w_10 e1 e8 e9 e10 e4 m4 mN gi hll hb) w_t w_t ?_;(repeat' first|exact w_t|apply w_l);all_goals intros));simp (disch:=omega) only [go_sem,e4];refine Zfn (Sub.refl _) ⟨rfl,rfl⟩ ?_
    (repeat' (first|exact hA|(refine Agr.own ?_ zo)))
  | false =>
    rw [hb] at hdi;(focus (refine wkad (w_10 e1 e8 e9 e10 e4 m4 mN gi hll hb) w_t w_t ?_;(repeat' first|exact w_t|apply w_l);all_goals intros));exact⟨i+1,⟨zo,by rw [hq,hdi];rfl,gW e1,gW e8,gW e9,gS,gW e4,gW m4,by(simp (disch:=omega) only [go_sem,mN]<;>repeat' first|rfl|refine⟨?_,?_⟩),by(repeat' (first|exact hA|(refine Agr.own ?_ zo)))⟩,zo⟩
 ·exact⟨Zyv _,rfl,gC,gC,gW hll,gC,gC,gC,by(simp (disch:=omega) only [go_sem,mN]<;>repeat' first|rfl|refine⟨?_,?_⟩),by(repeat' (first|exact Agr.start σ|(refine Agr.own ?_ zo)))⟩
theorem rxValL (KS KG KN:Nat) (a b c:Value) (NN:List Kn) (x:Exq) (nm:ByteArray) (k:Kn) (hx:x.k=1) (hk:lkN x.nm NN=some k) (hl:NN.length≤1000):RdC prog [(KN,knR c NN)] 139 [stA KS KG KN a b c,x.av,strA nm] (.tup [stA KS KG KN a b c,.sl 1 (k.l.map iv)]):=by
 intro σ hL;have hN:σ KN=some (knR c NN):=hL.1;have mN:=Za5 hN;simp only [Ent.sh] at mN;have cL:=rxLook (KS+1000) (KG+1000) (KN+1000) a b c NN x.nm k hk hl;obtain⟨xk,xn,xl,xp⟩:=x;obtain⟨kw,ks,kl⟩:=k;simp only at *;subst hx;refine Za2 func139 rfl ntmps139 results139 call139 zr zs ?_;simp only [AV.shL,AV.sh];have hLs:∀m:Mem,m (KN+1000)=some (knR c NN)→hasAll m [(KN+1000,knR c NN)]:=λm h=>⟨h,trivial⟩;(focus (refine wkax (w_2 mN @Zaj) w_t (w_1 (w_d 2 [(4,.agg [strA kw,iv ks,.sl 1 (kl.map iv)])] [] [6])) w_t w_t (w_1 cL) w_y (w_r 0) ?_;(repeat' first|exact w_t|apply w_l);all_goals intros))
 simp (disch:=omega) only [go_sem];refine Zfn (Zi4 (Zex _ _ _ _ _ _ _ _ _) (Sub.refl _)) ⟨rfl,rfl⟩ ?_
 (repeat' (first|exact Agr.start σ|(refine Agr.own ?_ zo)))
def catN (V:List (List Int)):Nat→List Int
 | 0=>[]
 | q+1=>catN V q++V.getD q []
theorem rxNumL (σ:Mem) (KS KG KN KA:Nat) (a b c:Value) (NN:List Kn) (x:Exq) (V:List (List Int)) (hN:σ KN=some (knR c NN)) (hA:KA≠KN) (hl:NN.length≤1000) (hl2:x.l.length≤10) (hb:∀q,(catN V q).length≤100)
 (hx:∀q,q < x.l.length→∃y:Exq,∃k:Kn,x.l.getD q .u=y.av∧y.k=1∧lkN y.nm NN=some k∧V.getD q []=k.l∧k.l.length≤100) :
 ACall prog 137 [stA KS KG KN a b c,x.av] σ λr σ'=>∃sv,r=.tup [stA KS KG KN a b c,.own KA sv]∧σ'=upd σ KA (some (.row sv 3 1 ((catN V x.l.length).map iv) 0)):=by
 have mN:=Za5 hN;simp only [Ent.sh] at mN;obtain⟨xk,xn,xl,xp⟩:=x;simp only at hl2 hx;refine Zfh func137 rfl ntmps137 results137 call137 zr zs ?_;simp only [AV.shL,AV.sh];(focus (refine wkad (w_2 mN @Zaj) w_t w_t ?_;(repeat' first|exact w_t|apply w_l);all_goals intros));rename_i g2 g3 g4;refine Zc4 (Frz.nilOwn (d:=6) 306 1 3 (gC)) ?_;refine Zab (ι:=Nat) (λq e m=>q≤xl.length∧(e 2=.pbox 2 g2 0∧m 2=some (.box g2 147 [.own (KS+1000) a,.own (KG+1000) b,.own (KN+1000) c] false))∧(e 4=.pbox 4 g4 0∧m 4=some (.box g4 147 [nilS,nilS,nilS] false))∧e 12=.sl 7 xl∧e 13=iv xl.length∧e 14=iv q∧(∃sv,e 6=.own 306 sv∧m 306=some (.row sv 3 1 ((catN V q).map iv) 0))∧m (KN+1000)=some (knR c NN)∧Agr m σ) (λq=>xl.length - q) 0 zr ?_ ?_
 ·rintro q e m ⟨hq,⟨e2,m2⟩,⟨e4,m4⟩,e12,e13,e14,⟨sv,e6,m6⟩,mN,hAg⟩
  by_cases hlt:q < xl.length
  ·obtain⟨y,k,gq,hy,hk,hv,hkl⟩:=hx q hlt;have cV:=rxValL (KS+1000) (KG+1000) (KN+1000) a b c NN y ⟨#[]⟩ k hy hk hl;have hs:(catN V (q+1)).map iv=(catN V q).map iv++k.l.map iv:=by rw [←hv,←Zzh];rfl
   have hl3:((catN V q).map iv).length≤100:=by rw [Zyn];exact hb q
   have hl4:(k.l.map iv).length≤100:=by rw [Zyn];exact hkl
   have hLs:hasAll m [(KN+1000,knR c NN)]:=⟨mN,trivial⟩;clear hx hv hb;generalize (catN V q).map iv=Z at *;generalize k.l.map iv=W at *;obtain⟨yk,yn,yl,yp⟩:=y;have gq:xl.getD q .u=.agg [iv yk,strA yn,.v (.bool false),nilS,nilS,.sl 7 yl,iv yp]:=gq;(focus (refine wkax (w_13 e2 m2 e4 m4 e12 e13 e14 e6 m6 mN gq hl3 hl4) w_t w_t w_t w_t (w_1 cV) w_y (w_r 0) ?_;(repeat' first|exact w_t|apply w_l);all_goals intros));exact⟨q+1,⟨zo,⟨gW e2,gW m2⟩,⟨gW e4,gW m4⟩,gW e12,gW e13,gS,⟨_,gC,by rw [hs];exact gC⟩,by(simp (disch:=omega) only [go_sem,mN]<;>repeat' first|rfl|refine⟨?_,?_⟩),by(repeat' (first|exact hAg|(refine Agr.own ?_ zo)))⟩,zo⟩
  ·have hqq:q=xl.length:=zo;subst hqq;clear hx;generalize (catN V xl.length).map iv=Z at *;(focus (refine wkad (w_9 e2 m2 e4 m4 e12 e13 e14 e6 m6) w_t w_t ?_;(repeat' first|exact w_t|apply w_l);all_goals intros));simp (disch:=omega) only [go_sem,e4];refine Zim (σ:=σ) 306 KA zo (Zi4 (Zex _ _ _ _ _ _ _ _ _) (Sub.own _ _ _)) ⟨sv,rfl,rfl⟩ (gW m6) ?_;intro k hk hne;simp only [Zal,Zyj hk] at hne ⊢;have:=hAg k;simp (disch:=omega) only [Zal,Zyj];exact this
 ·exact⟨Zyv _,⟨gC,gC⟩,⟨gC,gC⟩,gC,gC,gC,⟨_,gC,gC⟩,by(simp (disch:=omega) only [go_sem,mN]<;>repeat' first|rfl|refine⟨?_,?_⟩),by(repeat' (first|exact Agr.start σ|(refine Agr.own ?_ zo)))⟩
abbrev stR (a:Value) (SS:List AV):Ent:=.row a 78 6 SS 0
theorem upd_00 (m:Mem) (a b:Nat) (x y:Option Ent) (h1:m a=x) (h2:m b=y):upd (upd m a x) b y=m:=by
 funext j
 simp only [Zal];by_cases h:j=b
 ·rw [Zyk h,h,h2]
 ·rw [Zyj h];by_cases h':j=a
  ·rw [Zyk h',h',h1]
  ·rw [Zyj h']
theorem upd_22s (m:Mem) (a b:Nat) (x y x' y':Option Ent):upd (upd (upd (upd m a x) b y) a x') b y'=upd (upd m a x') b y':=by
 funext j
 simp only [Zal];by_cases h:j=b
 ·simp only [h,Zzb]
 ·by_cases h':j=a
  ·simp only [h',Zzb,h,Zy8]
  ·simp only [h',Zzb,h,Zy8]
theorem beqN (a b:Nat) (h:a≠b):(a == b)=false:=by simpa using h
abbrev rat0:AV:=.agg [.v (.bool false),nilS,nilS]
theorem rxStep0 (σ:Mem) (KS KG KN:Nat) (a b c:Value) (SS:List AV) (k:Int) (nm:ByteArray) (hS:σ KS=some (stR a SS)) (hl:SS.length≤100) :
 ACall prog 136 [stA KS KG KN a b c,iv k,strA nm,rat0,nilS] σ λr σ'=>∃sv,r=.tup [stA KS KG KN sv b c,iv SS.length]∧σ'=upd σ KS (some (stR sv (SS++[.agg [iv k,strA nm,nilS,.v (.bool false),nilS,nilS]]))):=by
 have mS:=Za5 hS;simp only [Ent.sh] at mS;have hw:IntKind.i64.wrap (((SS.length+1:Nat):Int) - 1)=(SS.length:Int):=by rw [Ze9 zo zo];omega
 have hcc:(KS+1000 == 10)=false:=beqN _ _ zo;refine Za2 func136 rfl ntmps136 results136 call136 zr zs ?_;simp only [AV.shL,AV.sh];(focus (refine wkad (w_6 mS @Zaj hl @l_app hw hcc) w_t (w_1 (w_d 2 [] [] [10])) ?_;(repeat' first|exact w_t|apply w_l);all_goals intros));simp (disch:=omega) only [go_sem];rename_i sv;refine Zfn (Zi4 (Zex _ _ _ _ _ _ _ _ _) (Sub.refl _)) ⟨sv,rfl,rfl⟩ ?_
 (repeat' (first|exact Agr.start σ|(refine Agr.own ?_ zo)|(refine Agr.put ?_ rfl rfl)))
theorem rxStepO (σ:Mem) (KS KG KN KL:Nat) (a b c sL:Value) (SS:List AV) (k:Int) (nm:ByteArray) (ar:List AV) (hS:σ KS=some (stR a SS)) (hL:σ KL=some (.row sL 3 1 ar 0)) (hK:KL≠KS) (hl:SS.length≤100) :
 ACall prog 136 [stA KS KG KN a b c,iv k,strA nm,rat0,.own KL sL] σ λr σ'=>∃sv,r=.tup [stA KS KG KN sv b c,iv SS.length]∧σ'=upd (upd σ KL (some (.row sL 3 1 ar ar.length))) KS (some (stR sv (SS++[.agg [iv k,strA nm,.sl 1 ar,.v (.bool false),nilS,nilS]]))):=by
 have mS:=Za5 hS;have mL:=Za5 hL;simp only [Ent.sh] at mS mL;have hw:IntKind.i64.wrap (((SS.length+1:Nat):Int) - 1)=(SS.length:Int):=by rw [Ze9 zo zo];omega
 have hcc:(KS+1000 == 10)=false:=beqN _ _ zo;refine Za2 func136 rfl ntmps136 results136 call136 zr zs ?_;simp only [AV.shL,AV.sh];(focus (refine wkad (w_7 mS mL @Zaj hl @l_app hw hcc) w_t (w_1 (w_d 2 [] [] [10])) ?_;(repeat' first|exact w_t|apply w_l);all_goals intros));simp (disch:=omega) only [go_sem];rename_i sv;refine Zfn (Zi4 (Zex _ _ _ _ _ _ _ _ _) (Sub.refl _)) ⟨sv,rfl,rfl⟩ ?_
 (repeat' (first|exact Agr.start σ|(refine Agr.own ?_ zo)|(refine Agr.put ?_ rfl rfl)|rw [mL]))
theorem rxStepK:Pure prog 222 [iv 14] (iv 7):=by
 refine pI func222 rfl ntmps222 results222 call222 ?_;(focus (refine wkad w_t w_t w_t ?_;(repeat' first|exact w_t|apply w_l);all_goals intros));all_goals exact gL
abbrev elF (nm:ByteArray) (ar:List AV):AV:=.agg [iv 7,strA nm,.sl 1 ar,.v (.bool false),nilS,nilS]
theorem rxPointF (σ:Mem) (KS KG KN KL:Nat) (a b c sL:Value) (SS:List AV) (x:Exq) (nm:ByteArray) (ar:List AV) (hx:x.k=14) (hS:σ KS=some (stR a SS)) (hL:σ KL=some (.row sL 3 1 ar 0)) (hK:KL≠KS) (hl:SS.length≤100) :
 ACall prog 186 [stA KS KG KN a b c,x.av,strA nm,.own KL sL] σ λr σ'=>∃sv,r=.tup [stA KS KG KN sv b c,iv SS.length]∧σ'=upd (upd σ KL (some (.row sL 3 1 ar ar.length))) KS (some (stR sv (SS++[elF nm ar]))):=by
 have mS:=Za5 hS;have mL:=Za5 hL;simp only [Ent.sh] at mS mL;have c1:=rxStepK;obtain⟨xk,xn,xl,xp⟩:=x;simp only at hx;subst hx;refine Za2 func186 rfl ntmps186 results186 call186 zr zs ?_;simp only [AV.shL,AV.sh];(focus (refine wkad (w_3 mS mL @Zaj) (w_1 c1) (w_1 (w_d 15 [(3,iv 7)] [7,10] [])) ?_;(repeat' first|exact w_t|apply w_l);all_goals intros));refine Zcm (rxStepO _ (KS+1000) (KG+1000) (KN+1000) (KL+1000) a b c sL SS 7 nm ar (by(simp (disch:=omega) only [go_sem,mS,Zaj]<;>repeat' first|rfl|refine⟨?_,?_⟩)) (by(simp (disch:=omega) only [go_sem,mL,Zaj]<;>repeat' first|rfl|refine⟨?_,?_⟩)) zo hl) ?_
 intro sv;(focus (refine wkad (w_1 @Zaj) w_t w_t ?_;(repeat' first|exact w_t|apply w_l);all_goals intros));simp (disch:=omega) only [go_sem];refine Zfn (Zi4 (Zex _ _ _ _ _ _ _ _ _) (Sub.refl _)) ⟨sv,rfl,rfl⟩ ?_
 (repeat' (first|exact Agr.start σ|(refine Agr.own ?_ zo)|(refine Agr.put ?_ rfl rfl)))
theorem Zla {m σ:Mem} (hA:Agr m σ) (t:Nat) (x:Option Ent):∀k,k≠t→upd σ t x k≠none→m (k+1000)=(upd σ t x k).map Ent.sh:=λk hk _=>by
 rw [Zal,Zyj hk];exact hA k
abbrev intR (sv:Value) (l:List Int):Ent:=.row sv 3 1 (l.map iv) 0
theorem rxValN (σ:Mem) (KS KG KN KA:Nat) (a b c:Value) (NN:List Kn) (x:Exq) (nm:ByteArray) (V:List (List Int)) (hx0:x.k=40) (hN:σ KN=some (knR c NN)) (hA:KA≠KN) (hl:NN.length≤1000) (hl2:x.l.length≤10) (hb:∀q,(catN V q).length≤100)
 (hx:∀q,q < x.l.length→∃y:Exq,∃k:Kn,x.l.getD q .u=y.av∧y.k=1∧lkN y.nm NN=some k∧V.getD q []=k.l∧k.l.length≤100) :
 ACall prog 139 [stA KS KG KN a b c,x.av,strA nm] σ λr σ'=>∃sv,r=.tup [stA KS KG KN a b c,.own KA sv]∧σ'=upd σ KA (some (intR sv (catN V x.l.length))):=by
 have mN:=Za5 hN;simp only [Ent.sh] at mN;have hw:=fun(m:Mem) (h:m (KN+1000)=some (knR c NN))=>rxNumL m (KS+1000) (KG+1000) (KN+1000) 700 a b c NN x V h zo hl hl2 hb hx;obtain⟨xk,xn,xl,xp⟩:=x;simp only at hx0 hw;subst hx0;refine Zfh func139 rfl ntmps139 results139 call139 zr zs ?_;simp only [AV.shL,AV.sh];clear hx hb;generalize catN V xl.length=W at *;(focus (refine wkad (w_2 mN @Zaj) w_t w_t ?_;(repeat' first|exact w_t|apply w_l);all_goals intros));refine Zcm (hw _ (by(simp (disch:=omega) only [go_sem,mN,Zaj]<;>repeat' first|rfl|refine⟨?_,?_⟩))) ?_
 intro sv;(focus (refine wkad (w_1 @Zaj) w_t w_t ?_;(repeat' first|exact w_t|apply w_l);all_goals intros));simp (disch:=omega) only [go_sem];refine Zim (σ:=σ) 700 KA zo (Zi4 (Zex _ _ _ _ _ _ _ _ _) (Sub.own _ _ _)) ⟨sv,rfl,rfl⟩ (by(simp (disch:=omega) only [go_sem,Zaj]<;>repeat' first|rfl|refine⟨?_,?_⟩)) (Zla ?_ _ _)
 (repeat' (first|exact Agr.start σ|(refine Agr.own ?_ zo)))
theorem rxNumF (σ:Mem) (KS KG KN KA:Nat) (a b c:Value) (NN:List Kn) (x y1 y2:Exq) (k1:Kn) (V:List (List Int)) (hN:σ KN=some (knR c NN)) (hA:KA≠KN) (hl:NN.length≤1000) (hx:x.l=[y1.av,y2.av]) (hy1:y1.k=1) (hk1:lkN y1.nm NN=some k1) (hk2:k1.l.length≤100)
 (hy2:y2.k=40) (hl2:y2.l.length≤10) (hb:∀q,(catN V q).length≤100) (hx2:∀q,q < y2.l.length→∃y:Exq,∃k:Kn,y2.l.getD q .u=y.av∧y.k=1∧lkN y.nm NN=some k∧V.getD q []=k.l∧k.l.length≤100) :
 ACall prog 137 [stA KS KG KN a b c,x.av] σ λr σ'=>∃sv,r=.tup [stA KS KG KN a b c,.own KA sv]∧σ'=upd σ KA (some (intR sv (k1.l++catN V y2.l.length))):=by
 have mN:=Za5 hN;simp only [Ent.sh] at mN;have hbl:=hb y2.l.length;have hw:=fun(m:Mem) (h:m (KN+1000)=some (knR c NN))=>rxValN m (KS+1000) (KG+1000) (KN+1000) 701 a b c NN y2 ⟨#[]⟩ V hy2 h zo hl hl2 hb hx2;have cV:=rxValL (KS+1000) (KG+1000) (KN+1000) a b c NN y1 ⟨#[]⟩ k1 hy1 hk1 hl;obtain⟨xk,xn,xl,xp⟩:=x;simp only at hx;subst hx;have e1:((k1.l++catN V y2.l.length).map iv)=k1.l.map iv++(catN V y2.l.length).map iv:=Zzh;have h1:(k1.l.map iv).length≤100:=by rw [Zyn];exact hk2
 have h2:((catN V y2.l.length).map iv).length≤100:=by rw [Zyn];exact hbl
 clear hx2 hb hbl;unfold intR at *;rw [e1];generalize (catN V y2.l.length).map iv=W2 at *;generalize k1.l.map iv=W1 at *;obtain⟨ak,an,al,ap⟩:=y1;obtain⟨bk,bn,bl,bp⟩:=y2;refine Zfh func137 rfl ntmps137 results137 call137 zr zs ?_;simp only [AV.shL,AV.sh];(focus (refine wkad (w_2 mN @Zaj) w_t w_t ?_;(repeat' first|exact w_t|apply w_l);all_goals intros));refine Zc4 (Frz.nilOwn (d:=6) 306 1 3 (gC)) ?_;(focus (refine wkax (w_4 mN @Zaj h1 h2) w_t w_t w_t w_t (w_1 cV) w_y (w_r 3) ?_;(repeat' first|exact w_t|apply w_l);all_goals intros));refine Zcm (hw _ (by(simp (disch:=omega) only [go_sem,mN,Zaj]<;>repeat' first|rfl|refine⟨?_,?_⟩))) ?_
 intro sv;(focus (refine wkax (w_4 mN @Zaj h1 h2) w_t w_t w_t w_t w_t w_y (w_r 3) ?_;(repeat' first|exact w_t|apply w_l);all_goals intros));simp (disch:=omega) only [go_sem];rename_i sv2;refine Zim (σ:=σ) 306 KA zo (Zi4 (Zex _ _ _ _ _ _ _ _ _) (Sub.own _ _ _)) ⟨sv2,rfl,rfl⟩ (by(simp (disch:=omega) only [go_sem,Zaj]<;>repeat' first|rfl|refine⟨?_,?_⟩)) (Zla ?_ _ _)
 (repeat' (first|exact Agr.start σ|(refine Agr.own ?_ zo)))
theorem rxValF (σ:Mem) (KS KG KN KA:Nat) (a b c:Value) (SS:List AV) (NN:List Kn) (x y1 y2:Exq) (nm:ByteArray) (k1:Kn) (V:List (List Int)) (hx0:x.k=14) (hS:σ KS=some (stR a SS)) (hN:σ KN=some (knR c NN)) (hA:KA≠KN) (hA2:KA≠KS) (hKN:KN≠KS) (hSl:SS.length≤100) (hl:NN.length≤1000) (hx:x.l=[y1.av,y2.av]) (hy1:y1.k=1) (hk1:lkN y1.nm NN=some k1) (hk2:k1.l.length≤100)
 (hy2:y2.k=40) (hl2:y2.l.length≤10) (hb:∀q,(catN V q).length≤100) (hx2:∀q,q < y2.l.length→∃y:Exq,∃k:Kn,y2.l.getD q .u=y.av∧y.k=1∧lkN y.nm NN=some k∧V.getD q []=k.l∧k.l.length≤100) :
 ACall prog 139 [stA KS KG KN a b c,x.av,strA nm] σ λr σ'=>∃sv sA,r=.tup [stA KS KG KN sv b c,.own KA sA]∧σ'=upd (upd σ KS (some (stR sv (SS++[elF nm ((k1.l++catN V y2.l.length).map iv)])))) KA (some (intR sA [(SS.length:Int)])):=by
 have mN:=Za5 hN;have mS:=Za5 hS;simp only [Ent.sh] at mN mS;have hw:=fun(m:Mem) (h:m (KN+1000)=some (knR c NN))=>rxNumF m (KS+1000) (KG+1000) (KN+1000) 700 a b c NN x y1 y2 k1 V h zo hl hx hy1 hk1 hk2 hy2 hl2 hb hx2;clear hx2 hb hx;obtain⟨xk,xn,xl,xp⟩:=x;simp only at hx0;subst hx0;unfold intR at *;generalize (k1.l++catN V y2.l.length).map iv=W at *;have hp:=fun(m:Mem) (sL:Value) (h1:m (KS+1000)=some (stR a SS)) (h2:m 700=some (.row sL 3 1 W 0))=>rxPointF m (KS+1000) (KG+1000) (KN+1000) 700 a b c sL SS ⟨14,xn,xl,xp⟩ nm W rfl h1 h2 zo hSl;refine Zfh func139 rfl ntmps139 results139 call139 zr zs ?_
 simp only [AV.shL,AV.sh];(focus (refine wkad (w_3 mN mS @Zaj) w_t w_t ?_;(repeat' first|exact w_t|apply w_l);all_goals intros));refine Zcm (hw _ (by(simp (disch:=omega) only [go_sem,mN,Zaj]<;>repeat' first|rfl|refine⟨?_,?_⟩))) ?_;intro sv;(focus (refine wkad (w_2 mS @Zaj) w_t w_t ?_;(repeat' first|exact w_t|apply w_l);all_goals intros));refine Zcm (hp _ sv (by(simp (disch:=omega) only [go_sem,mS,Zaj]<;>repeat' first|rfl|refine⟨?_,?_⟩)) (by(simp (disch:=omega) only [go_sem,Zaj]<;>repeat' first|rfl|refine⟨?_,?_⟩))) ?_;intro sv1;(focus (refine wkad (w_1 @Zaj) w_t w_t ?_;(repeat' first|exact w_t|apply w_l);all_goals intros))
 simp (disch:=omega) only [go_sem];rename_i sA;refine Zim (σ:=σ) 111 KA zo (Zi4 (Zex _ _ _ _ _ _ _ _ _) (Sub.own _ _ _)) ⟨sv1,sA,rfl,rfl⟩ (by(simp (disch:=omega) only [go_sem,Zaj]<;>repeat' first|rfl|refine⟨?_,?_⟩)) (Zla ?_ _ _)
 (repeat' (first|exact Agr.start σ|(refine Agr.own ?_ zo)|(refine Agr.put ?_ rfl rfl)))
abbrev fcA (k:Int) (W:List AV):AV:=.agg [iv k,.sl 1 W,.v (.bool false),nilS,nilS]
theorem rxGoal (x:Exq) (W:List AV) (k:Int) (hk:x.k=k+59) (h1:1≤k) (h2:k≤9) (h3:k≠7):Pure prog 138 [x.av,.sl 1 W] (fcA k W):=by
 obtain⟨xk,xn,xl,xp⟩:=x;simp only at hk;subst hk;have w1:IntKind.i64.wrap (k+59 - 60)=k - 1:=by rw [Ze9 zo zo];omega
 have w2:IntKind.i64.wrap (k - 1+1)=k:=by rw [Ze9 zo zo];omega
 have hn:¬k+59=66:=zo;refine pI func138 rfl ntmps138 results138 call138 ?_;(focus (refine wkad (w_3 w1 w2 hn) w_t w_t ?_;(repeat' first|exact w_t|apply w_l);all_goals intros));all_goals exact gL
abbrev gaR (b:Value) (GG:List AV):Ent:=.row b 80 5 GG 0
def ptsS (NM:List ByteArray):List AV:=NM.map λw=>.agg [iv 1,strA w,nilS,.v (.bool false),nilS,nilS]
def ptsK (o:Nat) (NM:List ByteArray):Nat→List Kn
 | 0=>[]
 | q+1=>ptsK o NM q++(match NM[q]? with | some w=>[⟨w,1,[((o+q:Nat):Int)]⟩] | none=>[])
theorem Zod {o:Nat} {NM:List ByteArray} {q:Nat} (h:q < NM.length):ptsK o NM (q+1)=ptsK o NM q++[⟨NM[q],1,[((o+q:Nat):Int)]⟩]:=by
 show ptsK o NM q++_=_;rw [Zym h]
theorem Zr0 {o:Nat} {NM:List ByteArray}:∀q,q≤NM.length→(ptsK o NM q).length=q
 | 0,_=>rfl
 | q+1,h=>by rw [Zod zo,Zza,Zr0 q zo];rfl
theorem rxSt1 (σ:Mem) (KS KG KN:Nat) (a b c:Value) (SS:List AV) (NN:List Kn) (NM:List ByteArray) (p:Int) (hS:σ KS=some (stR a SS)) (hN:σ KN=some (knR c NN)) (hSN:KN≠KS) (hl:SS.length+NM.length≤90) (hl2:NN.length≤90) :
 ACall prog 89 [stA KS KG KN a b c,(Stq.mk 1 NM ⟨0,ByteArray.empty,[],0⟩ p).av] σ λr σ'=>∃sa sc,r=stA KS KG KN sa b sc∧σ'=upd (upd σ KS (some (stR sa (SS++ptsS NM)))) KN (some (knR sc (NN++ptsK SS.length NM NM.length))):=by
 have mN:=Za5 hN;have mS:=Za5 hS;simp only [Ent.sh] at mN mS;have hll:(NM.map strA).length=NM.length:=Zyn ..;have kM:∀q (h:q < NM.length),(NM.map strA).getD q .u=strA NM[q]:=λq h=>Zad strA h;have hss:∀q (h:q < NM.length),SS++ptsS (NM.take (q+1))=(SS++ptsS (NM.take q))++[.agg [iv 1,strA NM[q],nilS,.v (.bool false),nilS,nilS]]:=λq h=>by unfold ptsS;rw [Zj0 h,Zzh,Zzt];rfl
 have hkk:∀q (h:q < NM.length),(NN++ptsK SS.length NM (q+1)).map Kn.av=(NN++ptsK SS.length NM q).map Kn.av++[.agg [strA NM[q],iv 1,.sl 1 [iv ((SS.length+q:Nat):Int)]]]:=λq h=>by rw [Zod h,←Zzt,Zzh];rfl
 have hsl:∀q,q≤NM.length→(SS++ptsS (NM.take q)).length=SS.length+q:=λq h=>by unfold ptsS;rw [Zza,Zyn,Zy1,ZAk h]
 have hkl:∀q,q≤NM.length→((NN++ptsK SS.length NM q).map Kn.av).length≤1000:=λq h=>by rw [Zyn,Zza,Zr0 q h];omega
 have hs0:SS++ptsS (NM.take 0)=SS:=by unfold ptsS;rw [ZBd,Zzx,Zzz]
 have hk0:NN++ptsK SS.length NM 0=NN:=Zzz _;have hsn:SS++ptsS NM=SS++ptsS (NM.take NM.length):=by rw [ZAf]
 have h00:=upd_00 σ KS KN _ _ hS hN;rw [hsn];show ACall _ _ [.agg [.own KS a,.own KG b,.own KN c],.agg [iv 1,.sl 1 (NM.map strA),iv 0,strA ByteArray.empty,.v (.bool false),nilS,nilS,.sl 7 [],iv 0,iv p]] _ _;generalize NM.map strA=Z at *;refine Za2 func89 rfl ntmps89 results89 call89 zr zs ?_;simp only [AV.shL,AV.sh];(focus (refine wkad (w_4 mN mS @Zaj hll) w_t w_t ?_;(repeat' first|exact w_t|apply w_l);all_goals intros));rename_i g2 g3 g4;refine Zab (ι:=Nat) (λq e m=>q≤NM.length∧e 2=.pbox 2 g2 0∧(e 4=.pbox 4 g4 0∧m 4=some (.box g4 147 [nilS,nilS,nilS] false))∧e 40=.sl 1 Z∧e 41=iv NM.length∧e 42=iv q∧∃sa sc,m 2=some (.box g2 147 [.own (KS+1000) sa,.own (KG+1000) b,.own (KN+1000) sc] false)∧m (KS+1000)=some (stR sa (SS++ptsS (NM.take q)))∧m (KN+1000)=some (knR sc (NN++ptsK SS.length NM q))∧Agr m (upd (upd σ KS (some (stR sa (SS++ptsS (NM.take q))))) KN (some (knR sc (NN++ptsK SS.length NM q))))) (λq=>NM.length - q) 0 zr ?_ ?_
 ·rintro q e m ⟨hq,e2,⟨e4,m4⟩,e40,e41,e42,sa,sc,m2,mS,mN,hAg⟩
  by_cases hlt:q < NM.length
  ·have gq:=kM q hlt;have h1:=hss q hlt;have h2:=hkk q hlt;have h3:=hsl q hq;have h4:=hkl q hq;have hst:=fun(m:Mem) (h:m (KS+1000)=some (stR sa (SS++ptsS (NM.take q))))=>rxStep0 m (KS+1000) (KG+1000) (KN+1000) sa b sc (SS++ptsS (NM.take q)) 1 NM[q] h zo;rw [h3] at hst;clear kM hss hkk hsl hkl hs0 hk0 hsn h00;generalize hSS0:SS++ptsS (NM.take q)=SS0 at *;generalize hw:NM[q]=w at *;have mN:m (KN+1000)=some (.row sc 196 3 ((NN++ptsK SS.length NM q).map Kn.av) 0):=mN;generalize hN0:(NN++ptsK SS.length NM q).map Kn.av=N0 at *;(focus (refine wkad (w_12 e2 m2 e4 m4 e40 e41 e42 mS mN gq hll h4) w_t w_t ?_;(repeat' first|exact w_t|apply w_l);all_goals intros))
   refine Zcm (hst _ (by(simp (disch:=omega) only [go_sem,mS]<;>repeat' first|rfl|refine⟨?_,?_⟩))) ?_;intro sa1;(focus (refine wkad (w_11 e2 m2 e4 m4 e40 e41 e42 mN gq hll h4) w_t w_t ?_;(repeat' first|exact w_t|apply w_l);all_goals intros));rename_i sc1;refine⟨q+1,⟨zo,gW e2,⟨gW e4,gW m4⟩,gW e40,gW e41,gS,sa1,sc1,gC,by rw [h1];(simp (disch:=omega) only [go_sem,Zyj,Zyk]<;>repeat' first|rfl|refine⟨?_,?_⟩),?_,?_⟩,zo⟩
   ·show _=some (Ent.row sc1 196 3 ((NN++ptsK SS.length NM (q+1)).map Kn.av) 0);rw [h2]
    (simp (disch:=omega) only [go_sem,Zyj,Zyk]<;>repeat' first|rfl|refine⟨?_,?_⟩)
   ·rw [←upd_22s σ KS KN (some (stR sa SS0)) (some (knR sc (NN++ptsK SS.length NM q)))];have hg:some (knR sc1 (NN++ptsK SS.length NM (q+1)))=some (Ent.row sc1 196 3 (N0++[.agg [strA w,iv 1,.sl 1 [iv ((SS.length+q:Nat):Int)]]]) 0):=by rw [←h2]
    rw [hg,h1]
    (repeat' (first|exact hAg|(refine Agr.own ?_ zo)|(refine Agr.put ?_ rfl rfl)))
  ·have hqq:q=NM.length:=zo;subst hqq;clear kM hss hkk hsl hkl;(focus (refine wkad (w_7 e2 m2 e4 m4 e40 e41 e42) w_t w_t ?_;(repeat' first|exact w_t|apply w_l);all_goals intros));simp (disch:=omega) only [go_sem,e4];refine Zfn (Zex _ _ _ _ _ _ _ _ _) ⟨sa,sc,rfl,rfl⟩ ?_
   (repeat' (first|exact hAg|(refine Agr.own ?_ zo)))
 ·refine⟨Zyv _,gC,⟨gC,gC⟩,gC,gW hll,gC,a,c,gC,by rw [hs0];(simp (disch:=omega) only [go_sem,mS]<;>repeat' first|rfl|refine⟨?_,?_⟩),by rw [hk0];(simp (disch:=omega) only [go_sem,mN]<;>repeat' first|rfl|refine⟨?_,?_⟩),?_⟩;rw [hs0,hk0,h00]
  (repeat' (first|exact Agr.start σ|(refine Agr.own ?_ zo)))
theorem Zmz {P:Program} {f:FuncId} {args:List AV} {e:Nat→AV} {m:Mem} {t d:Nat} {K:St→Prop} {R:AV→Mem→Prop} (c:ACall P f args m R) (h:∀r σ',R r σ'→K ⟨upd e d r,σ'⟩):aRes P t (some d) (.call f args) K ⟨e,m⟩:=c.mono h
theorem r_frzS {P:Program} {n:Nat} {Q:AE→St→Prop} {id:Nat} {ops:Array Oper} {st st':St} (h:Frz n st st') (k:Zav P 0 n (.region id ops true) Q st'):Zav P 0 n (.region id ops true) Q st:=λc a w imm hr=>by
 obtain⟨i,h1⟩:=h c a w imm hr;exact k c a w i h1
def StS (KS KG KN:Nat) (SS GG:List AV) (NN:List Kn) (σ:Mem) (r:AV) (σ':Mem):Prop:=∃a b c,r=stA KS KG KN a b c∧σ'=upd (upd (upd σ KS (some (stR a SS))) KG (some (gaR b GG))) KN (some (knR c NN))
theorem upd_3 (m:Mem) (i j k:Nat) (x y z:Option Ent) (h1:j≠i) (h2:j≠k) (hy:m j=y):upd (upd m i x) k z=upd (upd (upd m i x) j y) k z:=by
 funext t
 simp only [Zal];by_cases a:t=k
 ·rw [Zyk a,Zyk a]
 ·rw [Zyj a,Zyj a];by_cases b:t=j
  ·rw [Zyk b,b,Zyj h1,hy]
  ·rw [Zyj b]
theorem stS1 (σ:Mem) (KS KG KN:Nat) (a b c:Value) (SS GG:List AV) (NN:List Kn) (NM:List ByteArray) (p:Int) (hS:σ KS=some (stR a SS)) (hG:σ KG=some (gaR b GG)) (hN:σ KN=some (knR c NN)) (h1:KN≠KS) (h2:KG≠KS) (h3:KG≠KN) (hl:SS.length+NM.length≤90) (hl2:NN.length≤90) :
 ACall prog 89 [stA KS KG KN a b c,(Stq.mk 1 NM ⟨0,ByteArray.empty,[],0⟩ p).av] σ (StS KS KG KN (SS++ptsS NM) GG (NN++ptsK SS.length NM NM.length) σ) :=
 (rxSt1 σ KS KG KN a b c SS NN NM p hS hN h1 hl hl2).mono λr σ' ⟨sa,sc,e1,e2⟩=>⟨sa,b,sc,e1,by rw [e2];exact upd_3 _ _ _ _ _ _ _ h2 h3 hG⟩
theorem Zrb {m:Mem} {i:Nat} {x:Option Ent} (h:m i=x):upd m i x=m:=by
 funext t
 rw [Zal];split
 ·rename_i e;rw [e,h]
 ·rfl
theorem stS2 (σ:Mem) (KS KG KN:Nat) (a b c:Value) (SS GG:List AV) (NN:List Kn) (x y1 y2:Exq) (nm:ByteArray) (p:Int) (k1:Kn) (V:List (List Int)) (hx0:x.k=14) (hS:σ KS=some (stR a SS)) (hG:σ KG=some (gaR b GG)) (hN:σ KN=some (knR c NN)) (h1:KN≠KS) (h2:KG≠KS) (h3:KG≠KN) (hSl:SS.length≤100) (hl:NN.length≤100) (hx:x.l=[y1.av,y2.av]) (hy1:y1.k=1) (hk1:lkN y1.nm NN=some k1) (hk2:k1.l.length≤100)
 (hy2:y2.k=40) (hl2:y2.l.length≤10) (hb:∀q,(catN V q).length≤100) (hx2:∀q,q < y2.l.length→∃y:Exq,∃k:Kn,y2.l.getD q .u=y.av∧y.k=1∧lkN y.nm NN=some k∧V.getD q []=k.l∧k.l.length≤100) :
 ACall prog 89 [stA KS KG KN a b c,(Stq.mk 2 [nm] x p).av] σ (StS KS KG KN (SS++[elF nm ((k1.l++catN V y2.l.length).map iv)]) GG (NN++[⟨nm,1,[(SS.length:Int)]⟩]) σ):=by
 have mN:=Za5 hN;have mS:=Za5 hS;simp only [Ent.sh] at mN mS;have hw:=fun(m:Mem) (h:m (KS+1000)=some (stR a SS)) (h':m (KN+1000)=some (knR c NN))=>rxValF m (KS+1000) (KG+1000) (KN+1000) 700 a b c SS NN x y1 y2 nm k1 V hx0 h h' zo zo zo hSl zo hx hy1 hk1 hk2 hy2 hl2 hb hx2;have cS:=Zdv 2 1 (.inl ⟨rfl,rfl⟩);have hll:(NN.map Kn.av).length≤100:=by rw [Zyn];exact hl
 have hNe:(NN++[Kn.mk nm 1 [(SS.length:Int)]]).map Kn.av=NN.map Kn.av++[.agg [strA nm,iv 1,.sl 1 [iv SS.length]]]:=by rw [Zzh];rfl
 unfold StS;clear hx2 hb hx;obtain⟨xk,xn,xl,xp⟩:=x;simp only at hx0;subst hx0;unfold intR at hw;generalize (k1.l++catN V y2.l.length).map iv=W at *;unfold knR at *;rw [hNe];generalize NN.map Kn.av=N0 at *;show ACall _ _ [.agg [.own KS a,.own KG b,.own KN c],.agg [iv 2,.sl 1 [strA nm],iv 14,strA xn,.v (.bool false),nilS,nilS,.sl 7 xl,iv xp,iv p]] _ _;refine Za2 func89 rfl ntmps89 results89 call89 zr zs ?_;simp only [AV.shL,AV.sh];(focus (refine wkax (w_3 mN mS @Zaj) w_t (w_1 (w_d 3 [] [7] [])) w_t w_t w_t w_t (w_r 0) ?_;(repeat' first|exact w_t|apply w_l);all_goals intros))
 refine Zmz (hw _ (by(simp (disch:=omega) only [go_sem,mS,Zaj]<;>repeat' first|rfl|refine⟨?_,?_⟩)) (by(simp (disch:=omega) only [go_sem,mN,Zaj]<;>repeat' first|rfl|refine⟨?_,?_⟩))) ?_
 rintro _ _ ⟨sv,sA,rfl,rfl⟩
 (focus (refine wkax (w_2 mN @Zaj) w_t w_t w_t w_t w_t w_t (w_r 0) ?_;(repeat' first|exact w_t|apply w_l);all_goals intros));refine r_frzS (Frz.own (d:=5) (k:=700) (sv:=sA) (ty:=3) (mm:=1) (es:=[iv SS.length]) (pub:=0) (gC) (by(simp (disch:=omega) only [go_sem,Zaj]<;>repeat' first|rfl|refine⟨?_,?_⟩))) ?_;(focus (refine wkax (w_3 mN @Zaj hll) (w_1 cS) (w_1 (w_d 4 [(8,iv 1),(11,.sl 3 [.agg [strA nm,iv 1,.sl 1 [iv SS.length]]])] [12,14] [])) w_t w_t w_t w_t (w_r 0) ?_;(repeat' first|exact w_t|apply w_l);all_goals intros));(focus (refine wkad (w_3 mN @Zaj hll) w_t w_t ?_;(repeat' first|exact w_t|apply w_l);all_goals intros))
 simp (disch:=omega) only [go_sem];rename_i sc;refine Zfn (Zex _ _ _ _ _ _ _ _ _) ⟨sv,b,sc,rfl,upd_3 _ _ _ _ _ _ _ h2 h3 hG⟩ ?_
 (repeat' (first|exact Agr.start σ|(refine Agr.own ?_ zo)|(refine Agr.put ?_ rfl rfl)))
theorem stS5 (σ:Mem) (KS KG KN:Nat) (a b c:Value) (SS GG:List AV) (NN:List Kn) (x:Exq) (p k:Int) (V:List (List Int)) (hS:σ KS=some (stR a SS)) (hG:σ KG=some (gaR b GG)) (hN:σ KN=some (knR c NN)) (h1:KN≠KS) (h2:KG≠KS) (h3:KG≠KN) (hGl:GG.length≤100) (hl:NN.length≤100) (hk:x.k=k+59) (hk1:1≤k) (hk2:k≤9) (hk3:k≠7)
 (hl2:x.l.length≤10) (hb:∀q,(catN V q).length≤100) (hx:∀q,q < x.l.length→∃y:Exq,∃k:Kn,x.l.getD q .u=y.av∧y.k=1∧lkN y.nm NN=some k∧V.getD q []=k.l∧k.l.length≤100) :
 ACall prog 89 [stA KS KG KN a b c,(Stq.mk 5 [] x p).av] σ (StS KS KG KN SS (GG++[fcA k ((catN V x.l.length).map iv)]) NN σ):=by
 have mN:=Za5 hN;have mG:=Za5 hG;simp only [Ent.sh] at mN mG;have hw:=fun(m:Mem) (h':m (KN+1000)=some (knR c NN))=>rxNumL m (KS+1000) (KG+1000) (KN+1000) 700 a b c NN x V h' zo zo hl2 hb hx;have cG:=rxGoal x ((catN V x.l.length).map iv) k hk hk1 hk2 hk3;unfold StS;clear hx hb;obtain⟨xk,xn,xl,xp⟩:=x;simp only at hk hw cG;generalize (catN V xl.length).map iv=W at *;show ACall _ _ [.agg [.own KS a,.own KG b,.own KN c],.agg [iv 5,.sl 1 [],iv xk,strA xn,.v (.bool false),nilS,nilS,.sl 7 xl,iv xp,iv p]] _ _;refine Za2 func89 rfl ntmps89 results89 call89 zr zs ?_;simp only [AV.shL,AV.sh]
 (focus (refine wkax (w_3 mN mG @Zaj) w_t w_t w_t w_t w_t w_t (w_r 0) ?_;(repeat' first|exact w_t|apply w_l);all_goals intros));refine Zcm (hw _ (by(simp (disch:=omega) only [go_sem,mN,Zaj]<;>repeat' first|rfl|refine⟨?_,?_⟩))) ?_;intro sA;(focus (refine wkax (w_2 mG @Zaj) w_t w_t w_t w_t w_t w_t (w_r 0) ?_;(repeat' first|exact w_t|apply w_l);all_goals intros));refine r_frzS (Frz.own (d:=5) (k:=700) (sv:=sA) (ty:=3) (mm:=1) (es:=W) (pub:=0) (gC) (by(simp (disch:=omega) only [go_sem,Zaj]<;>repeat' first|rfl|refine⟨?_,?_⟩))) ?_;(focus (refine wkax (w_3 mG @Zaj hGl) (w_1 cG) (w_1 (w_d 15 [(6,fcA k W),(7,.sl 5 [fcA k W])] [8,11] [])) w_t w_t w_t w_t (w_r 0) ?_;(repeat' first|exact w_t|apply w_l);all_goals intros))
 (focus (refine wkad (w_3 mG @Zaj hGl) w_t w_t ?_;(repeat' first|exact w_t|apply w_l);all_goals intros));simp (disch:=omega) only [go_sem];rename_i sb;refine Zfn (σ':=upd (upd (upd σ KS (some (stR a SS))) KG (some (gaR sb (GG++[fcA k W])))) KN (some (knR c NN))) (Zex _ _ _ _ _ _ _ _ _) ⟨a,sb,c,rfl,rfl⟩ ?_;rw [Zrb hS,Zrb (show upd σ KG (some (gaR sb (GG++[fcA k W]))) KN=some (knR c NN) from by rw [Zal,Zyj (ZAu h3)];exact hN)]
 (repeat' (first|exact Agr.start σ|(refine Agr.own ?_ zo)|(refine Agr.put ?_ rfl rfl)))
theorem rxFigure (x1 x2 x3:Stq) (S1 S2 S3 G1 G2 G3:List AV) (N1 N2 N3:List Kn)
 (cK:Pure prog 88 [.agg [.sl 10 [x1.av,x2.av,x3.av]]] (.tup [iv 0,iv 0]))
 (c1:∀(σ:Mem) a b c,σ 501=some (stR a [])→σ 502=some (gaR b [])→σ 503=some (knR c [])→ACall prog 89 [stA 501 502 503 a b c,x1.av] σ (StS 501 502 503 S1 G1 N1 σ))
 (c2:∀(σ:Mem) a b c,σ 501=some (stR a S1)→σ 502=some (gaR b G1)→σ 503=some (knR c N1)→ACall prog 89 [stA 501 502 503 a b c,x2.av] σ (StS 501 502 503 S2 G2 N2 σ))
 (c3:∀(σ:Mem) a b c,σ 501=some (stR a S2)→σ 502=some (gaR b G2)→σ 503=some (knR c N2)→ACall prog 89 [stA 501 502 503 a b c,x3.av] σ (StS 501 502 503 S3 G3 N3 σ))
 (hS1:S1.length≤40) (hS2:S2.length≤40) (hS3:S3.length≤40) (hG1:G1.length≤8) (hG2:G2.length≤8) (hG3:G3.length≤8) :
 Pure prog 49 [.agg [.sl 10 [x1.av,x2.av,x3.av]]] (.tup [.agg [.sl 6 S3,.sl 5 G3],iv 0,iv 0]):=by
 obtain⟨k1,n1,⟨xk1,xn1,xl1,xp1⟩,p1⟩:=x1;obtain⟨k2,n2,⟨xk2,xn2,xl2,xp2⟩,p2⟩:=x2;obtain⟨k3,n3,⟨xk3,xn3,xl3,xp3⟩,p3⟩:=x3;simp only [Stq.av] at cK c1 c2 c3 ⊢;generalize n1.map strA=M1 at *;generalize n2.map strA=M2 at *;generalize n3.map strA=M3 at *;unfold StS at c1 c2 c3;refine pI func49 rfl ntmps49 results49 call49 ?_;(focus (refine wkad w_t (w_1 cK) w_t ?_;(repeat' first|exact w_t|apply w_l);all_goals intros));refine Zc4 (Frz.nilBox (k:=5) 0 501 6 78 (gC) rfl zo) ?_;refine Zc4 (Frz.nilBox (k:=5) 1 502 5 80 (gC) rfl zo) ?_;refine Zc4 (Frz.nilBox (k:=5) 2 503 3 196 (gC) rfl zo) ?_
 (focus (refine wkax w_t w_t w_t w_t w_t w_t w_t (w_r 4) ?_;(repeat' first|exact w_t|apply w_l);all_goals intros));refine Zmz (c1 _ _ _ _ (gC) (gC) (gC)) ?_
 rintro _ _ ⟨a1,b1,d1,rfl,rfl⟩
 (focus (refine wkax (w_2 hS1 hG1) w_t w_t w_t w_t w_t w_t (w_r 4) ?_;(repeat' first|exact w_t|apply w_l);all_goals intros));refine Zmz (c2 _ _ _ _ (gC) (gC) (gC)) ?_
 rintro _ _ ⟨a2,b2,d2,rfl,rfl⟩
 (focus (refine wkax (w_2 hS2 hG2) w_t w_t w_t w_t w_t w_t (w_r 4) ?_;(repeat' first|exact w_t|apply w_l);all_goals intros));refine Zmz (c3 _ _ _ _ (gC) (gC) (gC)) ?_
 rintro _ _ ⟨a3,b3,d3,rfl,rfl⟩
 (focus (refine wkax (w_2 hS3 hG3) w_t w_t w_t w_t w_t w_t (w_r 4) ?_;(repeat' first|exact w_t|apply w_l);all_goals intros))
 (all_goals (try simp (disch:=omega) only [go_sem,Zyo,Zyl,Zyk,Zyj,Int.reduceAdd,Int.reduceSub,Int.reduceToNat,Zyw]));(all_goals first|done|rfl|(congr 2;first|done|omega|(rw [Zzg];simp only [bool_to_prop,Zyy,Zzn,Zzo,Zzp,Zzq];omega))|skip)
def txX:ByteArray:=⟨#[112,111,105,110,116,115,32,65,44,32,66,44,32,67,59,32,68,32,58,61,32,102,111,111,116,40,65,44,32,108,105,110,101,40,66,44,32,67,41,41,59,32,112,114,111,118,101,32,99,111,110,103,114,117,101,110,116,40,68,44,32,66,44,32,68,44,32,67,41,59]⟩
def wA:ByteArray:=⟨#[65]⟩
def wB:ByteArray:=⟨#[66]⟩
def wC:ByteArray:=⟨#[67]⟩
def wD:ByteArray:=⟨#[68]⟩
def tkX:List Tk:=[⟨1,0,6⟩,⟨1,7,8⟩,⟨3,8,9⟩,⟨1,10,11⟩,⟨3,11,12⟩,⟨1,13,14⟩,⟨3,14,15⟩,⟨1,16,17⟩,⟨3,18,20⟩,⟨1,21,25⟩,⟨3,25,26⟩,⟨1,26,27⟩,⟨3,27,28⟩,⟨1,29,33⟩,⟨3,33,34⟩,⟨1,34,35⟩,⟨3,35,36⟩,⟨1,37,38⟩,⟨3,38,39⟩,⟨3,39,40⟩,⟨3,40,41⟩,⟨1,42,47⟩,⟨1,48,57⟩,⟨3,57,58⟩,⟨1,58,59⟩,⟨3,59,60⟩,⟨1,61,62⟩,⟨3,62,63⟩,⟨1,64,65⟩,⟨3,65,66⟩,⟨1,67,68⟩,⟨3,68,69⟩,⟨3,69,70⟩]
def TX:List AV:=tkX.map (tkA txX)++[endA txX]
theorem lexX:lexB txX tkX=true:=by kernel_rfl
theorem allX:Pure prog 86 [strA txX] (.tup [.sl 4 TX,iv 0,iv 0]):=rxAll txX tkX lexX (by decide +kernel) zd
theorem lnX:TX.length=34:=by kernel_rfl
theorem lnX2:TX.length≤20000:=by rw [lnX];decide
theorem ltX {i:Nat} (h:i < 34):i < TX.length:=by rw [lnX];exact h
theorem g0X:TX.getD 0 .u=tokA 1 0 6 ⟨#[112,111,105,110,116,115]⟩:=by kernel_rfl
theorem g1X:TX.getD 1 .u=tokA 1 7 8 wA:=by kernel_rfl
theorem g2X:TX.getD 2 .u=tokA 3 8 9 ⟨#[44]⟩:=by kernel_rfl
theorem g3X:TX.getD 3 .u=tokA 1 10 11 wB:=by kernel_rfl
theorem g4X:TX.getD 4 .u=tokA 3 11 12 ⟨#[44]⟩:=by kernel_rfl
theorem g5X:TX.getD 5 .u=tokA 1 13 14 wC:=by kernel_rfl
theorem g6X:TX.getD 6 .u=tokA 3 14 15 ⟨#[59]⟩:=by kernel_rfl
theorem g7X:TX.getD 7 .u=tokA 1 16 17 wD:=by kernel_rfl
theorem g8X:TX.getD 8 .u=tokA 3 18 20 ⟨#[58,61]⟩:=by kernel_rfl
theorem g9X:TX.getD 9 .u=tokA 1 21 25 ⟨#[102,111,111,116]⟩:=by kernel_rfl
theorem g10X:TX.getD 10 .u=tokA 3 25 26 ⟨#[40]⟩:=by kernel_rfl
theorem g11X:TX.getD 11 .u=tokA 1 26 27 wA:=by kernel_rfl
theorem g12X:TX.getD 12 .u=tokA 3 27 28 ⟨#[44]⟩:=by kernel_rfl
theorem g13X:TX.getD 13 .u=tokA 1 29 33 ⟨#[108,105,110,101]⟩:=by kernel_rfl
theorem g14X:TX.getD 14 .u=tokA 3 33 34 ⟨#[40]⟩:=by kernel_rfl
theorem g15X:TX.getD 15 .u=tokA 1 34 35 wB:=by kernel_rfl
theorem g16X:TX.getD 16 .u=tokA 3 35 36 ⟨#[44]⟩:=by kernel_rfl
theorem g17X:TX.getD 17 .u=tokA 1 37 38 wC:=by kernel_rfl
theorem g18X:TX.getD 18 .u=tokA 3 38 39 ⟨#[41]⟩:=by kernel_rfl
theorem g19X:TX.getD 19 .u=tokA 3 39 40 ⟨#[41]⟩:=by kernel_rfl
theorem g20X:TX.getD 20 .u=tokA 3 40 41 ⟨#[59]⟩:=by kernel_rfl
theorem g21X:TX.getD 21 .u=tokA 1 42 47 ⟨#[112,114,111,118,101]⟩:=by kernel_rfl
theorem g22X:TX.getD 22 .u=tokA 1 48 57 ⟨#[99,111,110,103,114,117,101,110,116]⟩:=by kernel_rfl
theorem g23X:TX.getD 23 .u=tokA 3 57 58 ⟨#[40]⟩:=by kernel_rfl
theorem g24X:TX.getD 24 .u=tokA 1 58 59 wD:=by kernel_rfl
theorem g25X:TX.getD 25 .u=tokA 3 59 60 ⟨#[44]⟩:=by kernel_rfl
theorem g26X:TX.getD 26 .u=tokA 1 61 62 wB:=by kernel_rfl
theorem g27X:TX.getD 27 .u=tokA 3 62 63 ⟨#[44]⟩:=by kernel_rfl
theorem g28X:TX.getD 28 .u=tokA 1 64 65 wD:=by kernel_rfl
theorem g29X:TX.getD 29 .u=tokA 3 65 66 ⟨#[44]⟩:=by kernel_rfl
theorem g30X:TX.getD 30 .u=tokA 1 67 68 wC:=by kernel_rfl
theorem g31X:TX.getD 31 .u=tokA 3 68 69 ⟨#[41]⟩:=by kernel_rfl
theorem g32X:TX.getD 32 .u=tokA 3 69 70 ⟨#[59]⟩:=by kernel_rfl
theorem g33X:TX.getD 33 .u=tokA 0 70 70 ByteArray.empty:=by kernel_rfl
theorem e6X:Pure prog 134 [.sl 4 TX,iv ((6:Nat):Int),strA ⟨#[59]⟩] (.tup [iv ((7:Nat):Int),iv 0]):=Zci TX 6 3 14 15 ⟨#[59]⟩ ⟨#[59]⟩ (ltX zd) lnX2 g6X zd zk
theorem e8X:Pure prog 134 [.sl 4 TX,iv ((8:Nat):Int),strA ⟨#[58,61]⟩] (.tup [iv ((9:Nat):Int),iv 0]):=Zci TX 8 3 18 20 ⟨#[58,61]⟩ ⟨#[58,61]⟩ (ltX zd) lnX2 g8X zd zk
theorem e10X:Pure prog 134 [.sl 4 TX,iv ((10:Nat):Int),strA ⟨#[40]⟩] (.tup [iv ((11:Nat):Int),iv 0]):=Zci TX 10 3 25 26 ⟨#[40]⟩ ⟨#[40]⟩ (ltX zd) lnX2 g10X zd zk
theorem e12X:Pure prog 134 [.sl 4 TX,iv ((12:Nat):Int),strA ⟨#[44]⟩] (.tup [iv ((13:Nat):Int),iv 0]):=Zci TX 12 3 27 28 ⟨#[44]⟩ ⟨#[44]⟩ (ltX zd) lnX2 g12X zd zk
theorem e14X:Pure prog 134 [.sl 4 TX,iv ((14:Nat):Int),strA ⟨#[40]⟩] (.tup [iv ((15:Nat):Int),iv 0]):=Zci TX 14 3 33 34 ⟨#[40]⟩ ⟨#[40]⟩ (ltX zd) lnX2 g14X zd zk
theorem e16X:Pure prog 134 [.sl 4 TX,iv ((16:Nat):Int),strA ⟨#[44]⟩] (.tup [iv ((17:Nat):Int),iv 0]):=Zci TX 16 3 35 36 ⟨#[44]⟩ ⟨#[44]⟩ (ltX zd) lnX2 g16X zd zk
theorem e18X:Pure prog 134 [.sl 4 TX,iv ((18:Nat):Int),strA ⟨#[41]⟩] (.tup [iv ((19:Nat):Int),iv 0]):=Zci TX 18 3 38 39 ⟨#[41]⟩ ⟨#[41]⟩ (ltX zd) lnX2 g18X zd zk
theorem e19X:Pure prog 134 [.sl 4 TX,iv ((19:Nat):Int),strA ⟨#[41]⟩] (.tup [iv ((20:Nat):Int),iv 0]):=Zci TX 19 3 39 40 ⟨#[41]⟩ ⟨#[41]⟩ (ltX zd) lnX2 g19X zd zk
theorem e20X:Pure prog 134 [.sl 4 TX,iv ((20:Nat):Int),strA ⟨#[59]⟩] (.tup [iv ((21:Nat):Int),iv 0]):=Zci TX 20 3 40 41 ⟨#[59]⟩ ⟨#[59]⟩ (ltX zd) lnX2 g20X zd zk
theorem e23X:Pure prog 134 [.sl 4 TX,iv ((23:Nat):Int),strA ⟨#[40]⟩] (.tup [iv ((24:Nat):Int),iv 0]):=Zci TX 23 3 57 58 ⟨#[40]⟩ ⟨#[40]⟩ (ltX zd) lnX2 g23X zd zk
theorem e25X:Pure prog 134 [.sl 4 TX,iv ((25:Nat):Int),strA ⟨#[44]⟩] (.tup [iv ((26:Nat):Int),iv 0]):=Zci TX 25 3 59 60 ⟨#[44]⟩ ⟨#[44]⟩ (ltX zd) lnX2 g25X zd zk
theorem e27X:Pure prog 134 [.sl 4 TX,iv ((27:Nat):Int),strA ⟨#[44]⟩] (.tup [iv ((28:Nat):Int),iv 0]):=Zci TX 27 3 62 63 ⟨#[44]⟩ ⟨#[44]⟩ (ltX zd) lnX2 g27X zd zk
theorem e29X:Pure prog 134 [.sl 4 TX,iv ((29:Nat):Int),strA ⟨#[44]⟩] (.tup [iv ((30:Nat):Int),iv 0]):=Zci TX 29 3 65 66 ⟨#[44]⟩ ⟨#[44]⟩ (ltX zd) lnX2 g29X zd zk
theorem e31X:Pure prog 134 [.sl 4 TX,iv ((31:Nat):Int),strA ⟨#[41]⟩] (.tup [iv ((32:Nat):Int),iv 0]):=Zci TX 31 3 68 69 ⟨#[41]⟩ ⟨#[41]⟩ (ltX zd) lnX2 g31X zd zk
theorem e32X:Pure prog 134 [.sl 4 TX,iv ((32:Nat):Int),strA ⟨#[59]⟩] (.tup [iv ((33:Nat):Int),iv 0]):=Zci TX 32 3 69 70 ⟨#[59]⟩ ⟨#[59]⟩ (ltX zd) lnX2 g32X zd zk
theorem nm_wA:isNm 1 wA=true:=by kernel_rfl
theorem nm_wB:isNm 1 wB=true:=by kernel_rfl
theorem nm_wC:isNm 1 wC=true:=by kernel_rfl
theorem nm_wD:isNm 1 wD=true:=by kernel_rfl
abbrev yA:Exq:=(Exq.mk 1 wA [] 26)
abbrev yB:Exq:=(Exq.mk 1 wB [] 34)
abbrev yC:Exq:=(Exq.mk 1 wC [] 37)
abbrev xL:Exq:=⟨40,ByteArray.empty,[yB.av,yC.av],29⟩
abbrev xF:Exq:=⟨14,ByteArray.empty,[yA.av,xL.av],21⟩
abbrev y1:Exq:=(Exq.mk 1 wD [] 58)
abbrev y2:Exq:=(Exq.mk 1 wB [] 61)
abbrev y3:Exq:=(Exq.mk 1 wD [] 64)
abbrev y4:Exq:=(Exq.mk 1 wC [] 67)
abbrev xG:Exq:=⟨63,ByteArray.empty,[y1.av,y2.av,y3.av,y4.av],48⟩
def xS1:Stq:=⟨1,[wA,wB,wC],⟨0,ByteArray.empty,[],0⟩,0⟩
def xS2:Stq:=⟨2,[wD],xF,16⟩
def xS3:Stq:=⟨5,[],xG,42⟩
def ALi:List (Nat × Exq):=[(16,yB),(18,yC)]
theorem cLi:Pure prog 178 [.sl 4 TX,iv ((13:Nat):Int),iv 2,iv ((2:Nat):Int)] (.tup [xL.av,iv ((19:Nat):Int),iv 0]):=by
 have hp:=Zh7 40 15 zd rfl zd;refine Zvh TX 13 29 33 2 2 ⟨#[108,105,110,101]⟩ 40 15 ALi [1,1] (ltX zd) lnX2 zd g13X zd zk zd zd hp rfl zd ?_ ?_ ?_ e18X zd
 ·intro q hq;have:∀q,q≤2→stQ 13 ALi q≤20000:=by decide
  exact this q hq
 ·intro q hq;have hq:q < 2:=hq
  match q,hq with
  | 0,_=>exact e14X
  | 1,_=>exact e16X
 ·intro q hq;have hq:q < 2:=hq
  match q,hq with
  | 0,_=>exact Zka TX 15 34 35 1 3 wB (ltX zd) lnX2 zd g15X nm_wB
  | 1,_=>exact Zka TX 17 37 38 1 3 wC (ltX zd) lnX2 zd g17X nm_wC
theorem aLi:Pure prog 214 [.sl 4 TX,iv ((13:Nat):Int),iv 2,iv ((2:Nat):Int)] (.tup [xL.av,iv ((19:Nat):Int),iv 0]):=rxArgC TX 13 29 33 2 2 ⟨#[108,105,110,101]⟩ xL ((19:Nat):Int) (ltX zd) lnX2 zd g13X zk zd (by rw [show wsN ⟨#[108,105,110,101]⟩ 2 rwL=40 from by kernel_rfl];decide) cLi
def AFo:List (Nat × Exq):=[(12,yA),(19,xL)]
theorem cFo:Pure prog 178 [.sl 4 TX,iv ((9:Nat):Int),iv 1,iv ((1:Nat):Int)] (.tup [xF.av,iv ((20:Nat):Int),iv 0]):=by
 have hp:=Zh7 14 4 zd rfl zd;refine Zvh TX 9 21 25 1 1 ⟨#[102,111,111,116]⟩ 14 4 AFo [1,2] (ltX zd) lnX2 zd g9X zd zk zd zd hp rfl zd ?_ ?_ ?_ e19X zd
 ·intro q hq;have:∀q,q≤2→stQ 9 AFo q≤20000:=by decide
  exact this q hq
 ·intro q hq;have hq:q < 2:=hq
  match q,hq with
  | 0,_=>exact e10X
  | 1,_=>exact e12X
 ·intro q hq;have hq:q < 2:=hq
  match q,hq with
  | 0,_=>exact Zka TX 11 26 27 1 2 wA (ltX zd) lnX2 zd g11X nm_wA
  | 1,_=>exact aLi
def ACo:List (Nat × Exq):=[(25,y1),(27,y2),(29,y3),(31,y4)]
theorem cCo:Pure prog 178 [.sl 4 TX,iv ((22:Nat):Int),iv 4,iv ((1:Nat):Int)] (.tup [xG.av,iv ((32:Nat):Int),iv 0]):=by
 have hp:=Zh7 63 24 zd rfl zd;refine Zvh TX 22 48 57 4 1 ⟨#[99,111,110,103,114,117,101,110,116]⟩ 63 24 ACo [1,1,1,1] (ltX zd) lnX2 zd g22X zd zk zd zd hp rfl zd ?_ ?_ ?_ e31X zd
 ·intro q hq;have:∀q,q≤4→stQ 22 ACo q≤20000:=by decide
  exact this q hq
 ·intro q hq;have hq:q < 4:=hq
  match q,hq with
  | 0,_=>exact e23X
  | 1,_=>exact e25X
  | 2,_=>exact e27X
  | 3,_=>exact e29X
 ·intro q hq;have hq:q < 4:=hq
  match q,hq with
  | 0,_=>exact Zka TX 24 58 59 1 2 wD (ltX zd) lnX2 zd g24X nm_wD
  | 1,_=>exact Zka TX 26 61 62 1 2 wB (ltX zd) lnX2 zd g26X nm_wB
  | 2,_=>exact Zka TX 28 64 65 1 2 wD (ltX zd) lnX2 zd g28X nm_wD
  | 3,_=>exact Zka TX 30 67 68 1 2 wC (ltX zd) lnX2 zd g30X nm_wC
theorem dF:Pure prog 133 [.sl 4 TX,iv ((7:Nat):Int),iv 2] (.tup [(Stq.mk 2 [wD] xF 0).av,iv ((20:Nat):Int),iv 0]):=rxDefP TX 7 16 17 wD xF ((20:Nat):Int) (ltX zd) lnX2 g7X nm_wD e8X cFo
theorem dG:Pure prog 133 [.sl 4 TX,iv ((22:Nat):Int),iv 5] (.tup [(Stq.mk 5 [] xG 0).av,iv ((32:Nat):Int),iv 0]):=rxDefG TX 22 xG ((32:Nat):Int) (ltX zd) lnX2 cCo
theorem nX:Pure prog 132 [.sl 4 TX,iv ((1:Nat):Int)] (.tup [.sl 1 ([wA,wB,wC].map strA),iv ((6:Nat):Int),iv 0]):=by
 refine rxNames TX 1 3 [wA,wB,wC] rfl zd lnX2 (by rw [lnX];decide) ?_ ?_
 ·intro q hq
  match q,hq with
  | 0,_=>exact⟨_,_,g1X,nm_wA⟩
  | 1,_=>exact⟨_,_,g3X,nm_wB⟩
  | 2,_=>exact⟨_,_,g5X,nm_wC⟩
 ·intro q hq
  match q,hq with
  | 0,_=>exact⟨_,_,_,_,g2X,by kernel_rfl⟩
  | 1,_=>exact⟨_,_,_,_,g4X,by kernel_rfl⟩
  | 2,_=>exact⟨_,_,_,_,g6X,by kernel_rfl⟩
theorem s1X:Pure prog 87 [.sl 4 TX,iv ((0:Nat):Int)] (.tup [xS1.av,iv ((7:Nat):Int),iv 0]):=rxStm1 TX 0 6 0 6 ⟨#[112,111,105,110,116,115]⟩ [wA,wB,wC] (ltX zd) lnX2 (ltX zd) g0X zk nX e6X
theorem s2X:Pure prog 87 [.sl 4 TX,iv ((7:Nat):Int)] (.tup [xS2.av,iv ((21:Nat):Int),iv 0]):=rxStm2 TX 7 20 16 17 wD ⟨2,[wD],xF,0⟩ (ltX zd) lnX2 (ltX zd) g7X zk zk zk zk dF e20X
theorem s3X:Pure prog 87 [.sl 4 TX,iv ((21:Nat):Int)] (.tup [xS3.av,iv ((33:Nat):Int),iv 0]):=rxStm5 TX 21 32 42 47 ⟨#[112,114,111,118,101]⟩ ⟨5,[],xG,0⟩ (ltX zd) lnX2 (ltX zd) g21X zk zk zk zk dG e32X
def PX (q:Nat):Nat:=[0,7,21,33].getD q 0
theorem progX:Pure prog 48 [strA txX] (.tup [.agg [.sl 10 ([xS1,xS2,xS3].map Stq.av)],iv 0,iv 0]):=by
 refine rxProg txX TX 3 PX [xS1,xS2,xS3] rfl lnX2 rfl allX ?_ ⟨ltX zd,_,_,_,g33X⟩ zd ?_
 ·intro q hq
  match q,hq with
  | 0,_=>exact⟨ltX zd,_,_,_,g0X⟩
  | 1,_=>exact⟨ltX zd,_,_,_,g7X⟩
  | 2,_=>exact⟨ltX zd,_,_,_,g21X⟩
 ·intro q hq
  match q,hq with
  | 0,_=>exact s1X
  | 1,_=>exact s2X
  | 2,_=>exact s3X
end Go.Proofs.YtjbjejmmnbdbiaaGreat
namespace Go.Pol
structure KO {α:Type} (D:α→Prop) (lt:α→α→Prop):Prop where
 irr:∀x,¬lt x x
 tr:∀x y z,lt x y→lt y z→lt x z
 tri:∀x y,D x→D y→lt x y∨x=y∨lt y x
section
variable {α:Type} {D:α→Prop} {lt:α→α→Prop} [DecidableEq α]
def cof:List (Rat × α)→α→Rat
 | [],_=>0
 | t :: p,x=>(if t.2=x then t.1 else 0)+cof p x
end
section
variable {α:Type} {D:α→Prop} {lt:α→α→Prop}
def addP (lt:α→α→Prop) [DecidableRel lt]:List (Rat × α)→List (Rat × α)→List (Rat × α)
 | [],q=>q
 | s :: p,[]=>s :: p
 | s :: p,t :: q =>
   if lt t.2 s.2 then s :: addP lt p (t :: q)
   else if lt s.2 t.2 then t :: addP lt (s :: p) q
   else if s.1+t.1=0 then addP lt p q
   else (s.1+t.1,s.2) :: addP lt p q
termination_by p q=>p.length+q.length
def Srt (D:α→Prop) (lt:α→α→Prop) (p:List (Rat × α)):Prop:=(∀t∈p,t.1≠0∧D t.2)∧p.Pairwise (λs t=>lt t.2 s.2)
end
section
variable {α:Type} {D:α→Prop} {lt:α→α→Prop} [DecidableEq α]
end
section
variable {α:Type} {D:α→Prop} {lt:α→α→Prop} [DecidableRel lt]
theorem Zs0 (p:List (Rat × α)):addP lt p []=p:=by cases p<;>simp [addP]
theorem Zjs {p q:List (Rat × α)} {t:Rat × α} (h:t∈addP lt p q):∃s∈p++q,t.2=s.2:=by
 fun_induction addP lt p q with
 | case1 q=>exact⟨t,by simpa using h,rfl⟩
 | case2 s p=>exact⟨t,by simpa using h,rfl⟩
 | case3 s p u q h1 ih =>
   rcases List.mem_cons.1 h with rfl | h
   ·exact⟨t,by simp,rfl⟩
   ·obtain⟨v,hv,e⟩:=ih h;exact⟨v,by simp only [ZBl,Zz8,ZBc] at hv ⊢;rcases hv with hv | hv | hv<;>simp [hv],e⟩
 | case4 s p u q h1 h2 ih =>
   rcases List.mem_cons.1 h with rfl | h
   ·exact⟨t,by simp,rfl⟩
   ·obtain⟨v,hv,e⟩:=ih h;exact⟨v,by simp only [ZBl,Zz8,ZBc] at hv ⊢;rcases hv with hv | hv | hv<;>simp [hv],e⟩
 | case5 s p u q h1 h2 h3 ih =>
   obtain⟨v,hv,e⟩:=ih h;exact⟨v,by simp only [ZBl,Zz8,ZBc] at hv ⊢;rcases hv with hv | hv<;>simp [hv],e⟩
 | case6 s p u q h1 h2 h3 ih =>
   rcases List.mem_cons.1 h with rfl | h
   ·exact⟨s,by simp,rfl⟩
   ·obtain⟨v,hv,e⟩:=ih h;exact⟨v,by simp only [ZBl,Zz8,ZBc] at hv ⊢;rcases hv with hv | hv<;>simp [hv],e⟩
end
section
variable {α:Type} {D:α→Prop} {lt:α→α→Prop} [DecidableEq α] [DecidableRel lt]
theorem cof_addP (o:KO D lt) {p q:List (Rat × α)} (x:α) (hp:∀t∈p,D t.2) (hq:∀t∈q,D t.2):cof (addP lt p q) x=cof p x+cof q x:=by
 fun_induction addP lt p q with
 | case1 q=>show cof q x=0+cof q x;rw [Rat.zero_add]
 | case2 s p=>show cof (s :: p) x=cof (s :: p) x+0;rw [ZCi]
 | case3 s p u q h1 ih =>
   have:=ih (λt h=>hp t (.tail _ h)) hq;simp only [cof] at this ⊢;rw [this];grind
 | case4 s p u q h1 h2 ih =>
   have:=ih hp (λt h=>hq t (.tail _ h));simp only [cof] at this ⊢;rw [this];grind
 | case5 s p u q h1 h2 h3 ih =>
   have e:s.2=u.2:=by rcases o.tri s.2 u.2 (hp s (.head _)) (hq u (.head _)) with h | h | h;exact absurd h h2;exact h;exact absurd h h1
   have:=ih (λt h=>hp t (.tail _ h)) (λt h=>hq t (.tail _ h));simp only [cof] at this ⊢;rw [this,e];split<;>grind
 | case6 s p u q h1 h2 h3 ih =>
   have e:s.2=u.2:=by rcases o.tri s.2 u.2 (hp s (.head _)) (hq u (.head _)) with h | h | h;exact absurd h h2;exact h;exact absurd h h1
   have:=ih (λt h=>hp t (.tail _ h)) (λt h=>hq t (.tail _ h));simp only [cof] at this ⊢;rw [this,e];split<;>grind
end
section
variable {α:Type} {D:α→Prop} {lt:α→α→Prop}
theorem Srt.nil:Srt D lt ([]:List (Rat × α)):=⟨by simp,.nil⟩
theorem Srt.tail {t:Rat × α} {p:List (Rat × α)} (h:Srt D lt (t :: p)):Srt D lt p:=⟨λu hu=>h.1 u (.tail _ hu),(List.pairwise_cons.1 h.2).2⟩
theorem Srt.cons {t:Rat × α} {p:List (Rat × α)} (h:Srt D lt p) (h1:t.1≠0) (h2:D t.2) (h3:∀u∈p,lt u.2 t.2):Srt D lt (t :: p) :=
 ⟨λu hu=>by rcases List.mem_cons.1 hu with rfl | hu;exact⟨h1,h2⟩;exact h.1 u hu,List.pairwise_cons.2 ⟨h3,h.2⟩⟩
theorem Srt.dom {p:List (Rat × α)} (h:Srt D lt p):∀t∈p,D t.2:=λt ht=>(h.1 t ht).2
theorem Srt.head_lt {t:Rat × α} {p:List (Rat × α)} (h:Srt D lt (t :: p)):∀u∈p,lt u.2 t.2:=(List.pairwise_cons.1 h.2).1
end
section
variable {α:Type} {D:α→Prop} {lt:α→α→Prop} [DecidableRel lt]
theorem Zcx (o:KO D lt) {p q:List (Rat × α)} (hp:Srt D lt p) (hq:Srt D lt q):Srt D lt (addP lt p q):=by
 fun_induction addP lt p q with
 | case1 q=>exact hq
 | case2 s p=>exact hp
 | case3 s p u q h1 ih =>
   refine(ih hp.tail hq).cons (hp.1 s (.head _)).1 (hp.1 s (.head _)).2 λv hv=>?_;obtain⟨w,hw,e⟩:=Zjs hv;rw [e];rcases List.mem_append.1 hw with hw | hw
   ·exact hp.head_lt w hw
   ·rcases List.mem_cons.1 hw with rfl | hw
    ·exact h1
    ·exact o.tr _ _ _ (hq.head_lt w hw) h1
 | case4 s p u q h1 h2 ih =>
   refine(ih hp hq.tail).cons (hq.1 u (.head _)).1 (hq.1 u (.head _)).2 λv hv=>?_;obtain⟨w,hw,e⟩:=Zjs hv;rw [e];rcases List.mem_append.1 hw with hw | hw
   ·rcases List.mem_cons.1 hw with rfl | hw
    ·exact h2
    ·exact o.tr _ _ _ (hp.head_lt w hw) h2
   ·exact hq.head_lt w hw
 | case5 s p u q h1 h2 h3 ih=>exact ih hp.tail hq.tail
 | case6 s p u q h1 h2 h3 ih =>
   have es:s.2=u.2:=by rcases o.tri s.2 u.2 (hp.dom s (.head _)) (hq.dom u (.head _)) with h | h | h;exact absurd h h2;exact h;exact absurd h h1
   refine(ih hp.tail hq.tail).cons h3 (hp.1 s (.head _)).2 λv hv=>?_;obtain⟨w,hw,e⟩:=Zjs hv;rw [e];rcases List.mem_append.1 hw with hw | hw
   ·exact hp.head_lt w hw
   ·show lt w.2 s.2;rw [es];exact hq.head_lt w hw
end
section
variable {α:Type} {D:α→Prop} {lt:α→α→Prop} [DecidableEq α]
theorem Zk6 (o:KO D lt) {p:List (Rat × α)} {x:α} (h:∀t∈p,lt t.2 x):cof p x=0:=by
 induction p with
 | nil=>rfl
 | cons t p ih =>
   show(if t.2=x then t.1 else 0)+cof p x=0;rw [Zyj (by rintro rfl;exact o.irr _ (h t (.head _))),ih λu hu=>h u (.tail _ hu),ZCi]
theorem Zg8 (o:KO D lt) {t:Rat × α} {p:List (Rat × α)} (h:Srt D lt (t :: p)):cof (t :: p) t.2=t.1:=by
 show(if t.2=t.2 then t.1 else 0)+cof p t.2=t.1;rw [Zyk rfl,Zk6 o h.head_lt,ZCi]
theorem Zps (o:KO D lt):∀{p q:List (Rat × α)},Srt D lt p→Srt D lt q→(∀x,cof p x=cof q x)→p=q
 | [],[],_,_,_=>rfl
 | [],t :: q,_,hq,h=>absurd ((Zg8 o hq).symm.trans (h t.2).symm) (hq.1 t (.head _)).1
 | s :: p,[],hp,_,h=>absurd ((Zg8 o hp).symm.trans (h s.2)) (hp.1 s (.head _)).1
 | s :: p,t :: q,hp,hq,h=>by
   have ks:s.2=t.2:=by
    rcases o.tri s.2 t.2 (hp.dom s (.head _)) (hq.dom t (.head _)) with hl | hl | hl
    ·have h1:cof (s :: p) t.2=0:=Zk6 o λu hu=>by
      rcases List.mem_cons.1 hu with rfl | hu
      ·exact hl
      ·exact o.tr _ _ _ (hp.head_lt u hu) hl
     exact absurd (((h t.2).symm.trans h1).symm.trans (Zg8 o hq)).symm (hq.1 t (.head _)).1
    ·exact hl
    ·have h1:cof (t :: q) s.2=0:=Zk6 o λu hu=>by
      rcases List.mem_cons.1 hu with rfl | hu
      ·exact hl
      ·exact o.tr _ _ _ (hq.head_lt u hu) hl
     exact absurd (((h s.2).trans h1).symm.trans (Zg8 o hp)).symm (hp.1 s (.head _)).1
   have kc:s.1=t.1:=by
    have h1:=h s.2;rw [Zg8 o hp,ks,Zg8 o hq] at h1;exact h1
   have e:s=t:=Prod.ext kc ks;subst e;congr 1;refine Zps o hp.tail hq.tail λx=>?_;have h1:=h x;simp only [cof] at h1
   grind
end
section
variable {α:Type} {D:α→Prop} {lt:α→α→Prop}
def Zbi (m:α→α→α) (p:List (Rat × α)) (t:Rat × α):List (Rat × α):=p.map λs=>(s.1*t.1,m s.2 t.2)
structure KM (D:α→Prop) (lt:α→α→Prop) (m:α→α→α):Prop where
 comm:∀x y,m x y=m y x
 dom:∀x y,D x→D y→D (m x y)
 mono:∀x y z,D x→D y→D z→lt x y→lt (m x z) (m y z)
theorem Zh3 {m:α→α→α} (k:KM D lt m) {p:List (Rat × α)} {t:Rat × α} (hp:Srt D lt p) (h1:t.1≠0) (h2:D t.2):Srt D lt (Zbi m p t):=by
 refine⟨λu hu=>?_,?_⟩
 ·obtain⟨s,hs,rfl⟩:=List.mem_map.1 hu;have:=hp.1 s hs;exact⟨by show s.1*t.1≠0;intro h0;rcases Rat.mul_eq_zero.1 h0 with h | h;exact this.1 h;exact h1 h,k.dom _ _ this.2 h2⟩
 ·refine List.pairwise_map.2 (hp.2.imp_of_mem λ{a b} ha hb hl=>k.mono _ _ _ (hp.dom b hb) (hp.dom a ha) h2 hl)
end
section
variable {α:Type} {D:α→Prop} {lt:α→α→Prop} [DecidableEq α]
def cofM (m:α→α→α) (p:List (Rat × α)):List (Rat × α)→α→Rat
 | [],_=>0
 | t :: q,x=>cof (Zbi m p t) x+cofM m p q x
theorem cofM_nil {m:α→α→α} (q:List (Rat × α)) (x:α):cofM m [] q x=0:=by
 induction q with
 | nil=>rfl
 | cons t q ih=>show 0+cofM m [] q x=0;rw [ih,ZCi]
theorem Zx0 {m:α→α→α} (hm:∀x y,m x y=m y x) (s:Rat × α) (p q:List (Rat × α)) (x:α):cofM m (s :: p) q x=cof (Zbi m q s) x+cofM m p q x:=by
 induction q with
 | nil=>show(0:Rat)=0+0;rw [ZCi]
 | cons t q ih =>
   show cof (Zbi m (s :: p) t) x+cofM m (s :: p) q x=cof (Zbi m (t :: q) s) x+(cof (Zbi m p t) x+cofM m p q x);rw [ih];show((if m s.2 t.2=x then s.1*t.1 else 0)+cof (Zbi m p t) x)+_=((if m t.2 s.2=x then t.1*s.1 else 0)+cof (Zbi m q s) x)+_;rw [hm t.2 s.2,Rat.mul_comm t.1 s.1]
   grind
theorem Zx1 {m:α→α→α} (hm:∀x y,m x y=m y x) (p q:List (Rat × α)) (x:α):cofM m p q x=cofM m q p x:=by
 induction p with
 | nil=>exact cofM_nil q x
 | cons s p ih=>rw [Zx0 hm,ih];rfl
end
section
variable {α:Type} {D:α→Prop} {lt:α→α→Prop}
def mulR (lt:α→α→Prop) [DecidableRel lt] (m:α→α→α) (p q:List (Rat × α)):List (Rat × α):=q.foldl (λout t=>addP lt out (Zbi m p t)) []
end
section
variable {α:Type} {D:α→Prop} {lt:α→α→Prop} [DecidableRel lt]
theorem Zo9 (o:KO D lt) {m:α→α→α} (k:KM D lt m) {p:List (Rat × α)} (hp:Srt D lt p):∀(q out:List (Rat × α)),Srt D lt q→Srt D lt out→Srt D lt (q.foldl (λout t=>addP lt out (Zbi m p t)) out)
 | [],_,_,ho=>ho
 | t :: q,_,hq,ho=>Zo9 o k hp q _ hq.tail (Zcx o ho (Zh3 k hp (hq.1 t (.head _)).1 (hq.1 t (.head _)).2))
end
section
variable {α:Type} {D:α→Prop} {lt:α→α→Prop} [DecidableEq α] [DecidableRel lt]
theorem Zpa (o:KO D lt) {m:α→α→α} (k:KM D lt m) {p:List (Rat × α)} (hp:Srt D lt p) (x:α):∀(q out:List (Rat × α)),Srt D lt q→Srt D lt out→cof (q.foldl (λout t=>addP lt out (Zbi m p t)) out) x=cof out x+cofM m p q x
 | [],out,_,_=>by show cof out x=cof out x+0;rw [ZCi]
 | t :: q,out,hq,ho=>by
   have ht:=Zh3 k hp (hq.1 t (.head _)).1 (hq.1 t (.head _)).2;show cof (q.foldl _ (addP lt out (Zbi m p t))) x=cof out x+(cof (Zbi m p t) x+cofM m p q x);rw [Zpa o k hp x q _ hq.tail (Zcx o ho ht),cof_addP o x ho.dom ht.dom,Rat.add_assoc]
end
section
variable {α:Type} {D:α→Prop} {lt:α→α→Prop} [DecidableRel lt]
theorem Zeq (o:KO D lt) {m:α→α→α} (k:KM D lt m) {p q:List (Rat × α)} (hp:Srt D lt p) (hq:Srt D lt q):Srt D lt (mulR lt m p q):=Zo9 o k hp q [] hq .nil
end
section
variable {α:Type} {D:α→Prop} {lt:α→α→Prop} [DecidableEq α] [DecidableRel lt]
theorem Zm5 (o:KO D lt) {m:α→α→α} (k:KM D lt m) {p q:List (Rat × α)} (hp:Srt D lt p) (hq:Srt D lt q) (x:α):cof (mulR lt m p q) x=cofM m p q x:=by
 unfold mulR;rw [Zpa o k hp x q [] hq .nil];show 0+_=_;rw [Rat.zero_add]
end
section
variable {α:Type} {D:α→Prop} {lt:α→α→Prop}
def sumH (lt:α→α→Prop) [DecidableRel lt]:List (List (Rat × α))→List (Rat × α)
 | []=>[]
 | [p]=>p
 | p :: q :: l=>addP lt (sumH lt ((p :: q :: l).take ((p :: q :: l).length/2))) (sumH lt ((p :: q :: l).drop ((p :: q :: l).length/2)))
termination_by l=>l.length
decreasing_by all_goals (simp only [Zy1,ZA5,Zyx];omega)
end
section
variable {α:Type} {D:α→Prop} {lt:α→α→Prop} [DecidableEq α]
def cofL:List (List (Rat × α))→α→Rat
 | [],_=>0
 | p :: l,x=>cof p x+cofL l x
end
section
variable {α:Type} {D:α→Prop} {lt:α→α→Prop} [DecidableRel lt]
end
section
variable {α:Type} {D:α→Prop} {lt:α→α→Prop} [DecidableEq α] [DecidableRel lt]
end
section
variable {α:Type} {D:α→Prop} {lt:α→α→Prop}
def mulH (lt:α→α→Prop) [DecidableRel lt] (m:α→α→α) (p q:List (Rat × α)):List (Rat × α):=sumH lt (p.map λt=>Zbi m q t)
end
section
variable {α:Type} {D:α→Prop} {lt:α→α→Prop} [DecidableEq α] [DecidableRel lt]
theorem Zw1 (o:KO D lt) {m:α→α→α} (k:KM D lt m) {p q:List (Rat × α)} (hp:Srt D lt p) (hq:Srt D lt q):mulR lt m p q=mulR lt m q p :=
 Zps o (Zeq o k hp hq) (Zeq o k hq hp) λx=>by rw [Zm5 o k hp hq,Zm5 o k hq hp,Zx1 k.comm]
end
section
variable {α:Type} {D:α→Prop} {lt:α→α→Prop} [DecidableRel lt]
theorem Zjy (p q:List (Rat × α)):(addP lt p q).length≤p.length+q.length:=by
 fun_induction addP lt p q<;>simp_all only [Zyx,Zy0]<;>omega
end
def evl {α:Type} (φ:α→Rat):List (Rat × α)→Rat
 | []=>0
 | t :: p=>t.1*φ t.2+evl φ p
section
variable {α:Type} {D:α→Prop} {lt:α→α→Prop} [DecidableRel lt]
end
section
variable {α:Type} {D:α→Prop} {lt:α→α→Prop}
def Zb0 (a:Rat) (p:List (Rat × α)):List (Rat × α):=p.map λs=>(s.1*a,s.2)
theorem Zez {a:Rat} {p:List (Rat × α)} (hp:Srt D lt p) (h:a≠0):Srt D lt (Zb0 a p):=by
 refine⟨λu hu=>?_,List.pairwise_map.2 hp.2⟩;obtain⟨s,hs,rfl⟩:=List.mem_map.1 hu;have:=hp.1 s hs;exact⟨by show s.1*a≠0;intro h0;rcases Rat.mul_eq_zero.1 h0 with h1 | h1;exact this.1 h1;exact h h1,this.2⟩
end
section
variable {α:Type} [DecidableEq α]
end
section
variable {α:Type} {D:α→Prop} {lt:α→α→Prop} [DecidableEq α] [DecidableRel lt]
theorem Zw0 (o:KO D lt) {m:α→α→α} (k:KM D lt m) {u:α} (hu:∀x,m u x=x) (hD:D u) {r:Rat} (hr:r≠0) {q:List (Rat × α)} (hq:Srt D lt q):mulR lt m [(r,u)] q=Zb0 r q:=by
 have hs:Srt D lt [(r,u)]:=Srt.nil.cons hr hD zs;refine Zps o (Zeq o k hs hq) (Zez hq hr) λx=>?_;rw [Zm5 o k hs hq];clear hs hq
 induction q with
 | nil=>rfl
 | cons t q ih =>
   show((if m u t.2=x then r*t.1 else 0)+0)+cofM m [(r,u)] q x=(if t.2=x then t.1*r else 0)+cof (Zb0 r q) x;rw [ih,hu,Rat.mul_comm,ZCi]
end
section
variable {α:Type} {lt:α→α→Prop} [DecidableRel lt]
theorem Zsc {m:α→α→α}:∀(q:List (Rat × α)),mulR lt m [] q=[]
 | []=>rfl
 | t :: q=>by
   have h:=Zsc (m:=m) q;unfold mulR at h ⊢;rw [ZC9];show q.foldl _ (addP lt [] [])=[];rw [Zs0];exact h
end
section
variable {α:Type} {D:α→Prop} {lt:α→α→Prop} [DecidableRel lt]
def subP (lt:α→α→Prop) [DecidableRel lt] (p q:List (Rat × α)):List (Rat × α):=addP lt p (Zb0 (-1) q)
theorem neg1:(-1:Rat)≠0:=by decide
theorem Zdj (o:KO D lt) {p q:List (Rat × α)} (hp:Srt D lt p) (hq:Srt D lt q):Srt D lt (subP lt p q):=Zcx o hp (Zez hq neg1)
end
section
variable {α:Type} {D:α→Prop} {lt:α→α→Prop} [DecidableEq α] [DecidableRel lt]
end
section
variable {α:Type} {lt:α→α→Prop} [DecidableRel lt]
theorem Zoz {p q:List (Rat × α)} {t:Rat × α} (h:t∈addP lt p q):t∈p∨t∈q∨∃s∈p,∃u∈q,t=(s.1+u.1,s.2):=by
 fun_induction addP lt p q with
 | case1 q=>exact .inr (.inl h)
 | case2 s p=>exact .inl h
 | case3 s p u q h1 ih =>
   rcases List.mem_cons.1 h with rfl | h
   ·exact .inl (.head _)
   ·rcases ih h with h | h | ⟨a,ha,b,hb,e⟩
    ·exact .inl (.tail _ h)
    ·exact .inr (.inl h)
    ·exact .inr (.inr ⟨a,.tail _ ha,b,hb,e⟩)
 | case4 s p u q h1 h2 ih =>
   rcases List.mem_cons.1 h with rfl | h
   ·exact .inr (.inl (.head _))
   ·rcases ih h with h | h | ⟨a,ha,b,hb,e⟩
    ·exact .inl h
    ·exact .inr (.inl (.tail _ h))
    ·exact .inr (.inr ⟨a,ha,b,.tail _ hb,e⟩)
 | case5 s p u q h1 h2 h3 ih =>
   rcases ih h with h | h | ⟨a,ha,b,hb,e⟩
   ·exact .inl (.tail _ h)
   ·exact .inr (.inl (.tail _ h))
   ·exact .inr (.inr ⟨a,.tail _ ha,b,.tail _ hb,e⟩)
 | case6 s p u q h1 h2 h3 ih =>
   rcases List.mem_cons.1 h with rfl | h
   ·exact .inr (.inr ⟨s,.head _,u,.head _,rfl⟩)
   ·rcases ih h with h | h | ⟨a,ha,b,hb,e⟩
    ·exact .inl (.tail _ h)
    ·exact .inr (.inl (.tail _ h))
    ·exact .inr (.inr ⟨a,.tail _ ha,b,.tail _ hb,e⟩)
end
def BQ (D B:Nat) (q:Rat):Prop:=q.den ∣ D∧q.num.natAbs≤B*q.den
theorem Zsd {z:Int} {m:Nat} (hm:m≠0) {D B:Nat} (hd:m ∣ D*Nat.gcd z.natAbs m) (hb:z.natAbs≤B*m):BQ D B (mkRat z m):=by
 have h0:0 < Nat.gcd z.natAbs m:=ZDf _ (ZAz hm);obtain⟨c,hc⟩:=Nat.gcd_dvd_right z.natAbs m;obtain⟨a,ha⟩:=Nat.gcd_dvd_left z.natAbs m;unfold BQ;rw [Rat.num_mkRat,Rat.den_mkRat,Zyj hm,ZB7 m z.natAbs];generalize Nat.gcd z.natAbs m=g at *;have e1:m/g=c:=by rw [hc];exact Nat.mul_div_cancel_left _ h0
 have e2:(z/(g:Int)).natAbs=a:=by
  rcases Int.natAbs_eq z with h | h
  ·rw [h,ha,show((g*a:Nat):Int)=(g:Int)*(a:Int) from by simp,ZC4 _ zo];simp
  ·rw [h,ha,show -((g*a:Nat):Int)=(g:Int)*(-(a:Int)) from by simp [Int.mul_neg],ZC4 _ zo];simp
 rw [e1,Zyj hm,e2];constructor
 ·rw [hc,Zzj D] at hd;exact Nat.dvd_of_mul_dvd_mul_left h0 hd
 ·rw [ha,hc,show B*(g*c)=g*(B*c) from by simp only [ZBz]] at hb;exact Nat.le_of_mul_le_mul_left hb h0
theorem BQ.mono {D B E C:Nat} {q:Rat} (h:BQ D B q) (hd:D ∣ E) (hb:B≤C):BQ E C q:=⟨Nat.dvd_trans h.1 hd,Zyz h.2 (Zzf _ hb)⟩
theorem BQ.mul {D B E C:Nat} {a b:Rat} (h:BQ D B a) (k:BQ E C b):BQ (D*E) (B*C) (a*b):=by
 rw [Rat.mul_def'];refine Zsd (ZCh a.den_nz b.den_nz) (Nat.dvd_trans (Nat.mul_dvd_mul h.1 k.1) (ZC7 _ _)) ?_;rw [ZA4]
 calc _≤(B*a.den)*(C*b.den):=ZDd h.2 k.2
  _=B*C*(a.den*b.den):=by simp only [Zz3,ZBz]
theorem BQ.add {D B C:Nat} {a b:Rat} (h:BQ D B a) (k:BQ D C b):BQ D (B+C) (a+b):=by
 obtain⟨x,hx⟩:=h.1;obtain⟨y,hy⟩:=k.1;have e:a+b=mkRat (a.num*b.den+b.num*a.den) (a.den*b.den):=Rat.add_def' a b;rw [e];refine Zsd (ZCh a.den_nz b.den_nz) ?_ ?_
 ·
  rw [←Nat.gcd_mul_left];refine Nat.dvd_gcd ?_ (Nat.dvd_mul_left _ _)
  have e2:((D*(a.num*b.den+b.num*a.den).natAbs:Nat):Int)=((D:Int)*(a.num*b.den+b.num*a.den)).natAbs:=by
   rw [ZA4];simp
  have e3:D*(a.num*b.den+b.num*a.den).natAbs=((D:Int)*(a.num*b.den+b.num*a.den)).natAbs:=zo;rw [e3]
  have e4:(D:Int)*(a.num*b.den+b.num*a.den)=((a.den*b.den:Nat):Int)*(x*a.num+y*b.num):=by
   have h1:(D:Int)=a.den*x:=by rw [hx];simp
   have h2:(D:Int)=b.den*y:=by rw [hy];simp
   rw [Int.mul_add,Int.mul_add,show((a.den*b.den:Nat):Int)=(a.den:Int)*b.den from by simp];congr 1
   ·rw [h1];simp only [Int.mul_assoc,Int.mul_left_comm,Int.mul_comm]
   ·rw [h2];simp only [Int.mul_assoc,Int.mul_left_comm,Int.mul_comm]
  rw [e4,ZA4,ZA8];exact ZC7 _ _
 ·have h1:=h.2;have h2:=k.2
  calc _≤(a.num*b.den).natAbs+(b.num*a.den).natAbs:=zo
   _=a.num.natAbs*b.den+b.num.natAbs*a.den:=by rw [ZA4,ZA4,ZA8,ZA8]
   _≤(B*a.den)*b.den+(C*b.den)*a.den:=ZC5 (Zzf _ h1) (Zzf _ h2)
   _=(B+C)*(a.den*b.den):=by rw [Zze];simp only [Zz3,Zzj b.den]
theorem BQ.neg {D B:Nat} {a:Rat} (h:BQ D B a):BQ D B (-a):=by
 refine⟨h.1,?_⟩;show(-a.num).natAbs≤B*a.den;rw [Int.natAbs_neg];exact h.2
theorem BQ.int (z:Int) {D B:Nat} (h:z.natAbs≤B):BQ D B (z:Rat):=⟨⟨D,(ZAj D).symm⟩,by show z.natAbs≤B*1;omega⟩
end Go.Pol
