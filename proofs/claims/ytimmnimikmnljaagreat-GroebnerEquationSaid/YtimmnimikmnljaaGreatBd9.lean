/- Contracts of the functions that the law reaches, and the rules by which they are walked. They say what a call hands back for every input within the bounds that each names; no other condition. -/
import Derived.Test.YtimmnimikmnljaaGreatBd8
set_option linter.unusedSimpArgs false
set_option linter.unusedVariables false
set_option maxRecDepth 20000
set_option maxHeartbeats 16000000
namespace Go.Proofs.YtimmnimikmnljaaGreat
open Go Go.RowKit Go.Pg
attribute [-bool_to_prop] Bool.and_eq_decide Bool.or_eq_decide Bool.decide_beq_decide decide_eq_decide
attribute [local go_sem] Tryz.underlying46 Tryz.underlying45 Tryz.underlying3 sz3 by3 z3
theorem Zly (l:List Int):Pure Tryz.prog 43 [ints l] (.v (.bool (Zb8 l))):=by
 unfold ints;refine Zaa (tok:=0) (rs:=[.tmp 2]) Tryz.func43 rfl Tryz.ntmps43 Tryz.results43 Tryz.call43 (by rfl) (by simp) ?_;by_cases hbig:64 < l.length
 ·have hr:Zb8 l=false:=by unfold Zb8;simp;omega
  rw [hr]
  repeat' (first|with_reducible refine Za6 ?_|with_reducible refine Zak ?_|with_reducible refine Zar ?_|with_reducible refine Za7 ?_|with_reducible refine Zas ?_|with_reducible refine Zap ?_|with_reducible refine Zac ?_|with_reducible refine Zab ?_|with_reducible refine t_in ?_|with_reducible refine Zae ?_|with_reducible refine Zad ?_|with_reducible refine Zaq ?_|with_reducible refine Zaj ?_|(with_reducible refine Za1 ?_;intro K hK;simp (disch:=omega) only [go_sem];(repeat (first|(refine⟨by omega,?_⟩)|intro _));refine hK _ ?_;clear K hK)|(with_reducible refine Zav ?_ ?_;(focus (simp (disch:=omega) only [go_sem];done)))|(with_reducible refine Zam ?_ ?_;(focus (simp (disch:=omega) only [go_sem];done))))
  simp (disch:=omega) only [go_sem]
 ·by_cases hlast:l.getLast?.getD 1=0
  ·have h0:0 < l.length:=by
    rcases l with _ | ⟨a,r⟩
    ·simp at hlast
    ·simp
   have h5:gI l (l.length - 1)=0:=by rw [Zea (by omega)] at hlast;exact hlast
   have hr:Zb8 l=false:=by unfold Zb8;simp [hlast]
   rw [hr]
   repeat' (first|with_reducible refine Za6 ?_|with_reducible refine Zak ?_|with_reducible refine Zar ?_|with_reducible refine Za7 ?_|with_reducible refine Zas ?_|with_reducible refine Zap ?_|with_reducible refine Zac ?_|with_reducible refine Zab ?_|with_reducible refine t_in ?_|with_reducible refine Zae ?_|with_reducible refine Zad ?_|with_reducible refine Zaq ?_|with_reducible refine Zaj ?_|(with_reducible refine Za1 ?_;intro K hK;simp (disch:=omega) only [go_sem];(repeat (first|(refine⟨by omega,?_⟩)|intro _));refine hK _ ?_;clear K hK)|(with_reducible refine Zav ?_ ?_;(focus (simp (disch:=omega) only [go_sem];done)))|(with_reducible refine Zam ?_ ?_;(focus (simp (disch:=omega) only [go_sem];done))))
   simp (disch:=omega) only [go_sem]
  ·rw [Zlh (by omega) (by simpa using hlast)];have h5:0 < l.length→gI l (l.length - 1)≠0:=λh=>by rw [Zea (by omega)] at hlast;exact hlast
   by_cases h0:0 < l.length
   ·have h5:=h5 h0
    repeat' (first|with_reducible refine Za6 ?_|with_reducible refine Zak ?_|with_reducible refine Zar ?_|with_reducible refine Za7 ?_|with_reducible refine Zas ?_|with_reducible refine Zap ?_|with_reducible refine Zac ?_|with_reducible refine Zab ?_|with_reducible refine t_in ?_|with_reducible refine Zae ?_|with_reducible refine Zad ?_|with_reducible refine Zaq ?_|with_reducible refine Zaj ?_|(with_reducible refine Za1 ?_;intro K hK;simp (disch:=omega) only [go_sem];(repeat (first|(refine⟨by omega,?_⟩)|intro _));refine hK _ ?_;clear K hK)|(with_reducible refine Zav ?_ ?_;(focus (simp (disch:=omega) only [go_sem];done)))|(with_reducible refine Zam ?_ ?_;(focus (simp (disch:=omega) only [go_sem];done))))
    refine Zfu (ι:=Nat) (λk st=>k≤l.length∧st.env 22=.sl 1 (l.map λn=>AV.v (.int .i64 n))∧st.env 23=.v (.int .i64 l.length)∧st.env 24=.v (.int .i64 k)∧(l.take k).all Zfz=true) (λk=>l.length - k) 0 (by rfl) ?_ ?_
    ·rintro k st ⟨hk,e0,e1,e3,ha⟩
     by_cases hlt:k < l.length
     ·by_cases p1:gI l k < 0
      ·repeat' (first|with_reducible refine Za6 ?_|with_reducible refine Zak ?_|with_reducible refine Zar ?_|with_reducible refine Za7 ?_|with_reducible refine Zas ?_|with_reducible refine Zap ?_|with_reducible refine Zac ?_|with_reducible refine Zab ?_|with_reducible refine t_in ?_|with_reducible refine Zae ?_|with_reducible refine Zad ?_|with_reducible refine Zaq ?_|with_reducible refine Zaj ?_|(with_reducible refine Za1 ?_;intro K hK;simp (disch:=omega) only [go_sem,e0,e1,e3];(repeat (first|(refine⟨by omega,?_⟩)|intro _));refine hK _ ?_;clear K hK)|(with_reducible refine Zav ?_ ?_;(focus (simp (disch:=omega) only [go_sem,e0,e1,e3];done)))|(with_reducible refine Zam ?_ ?_;(focus (simp (disch:=omega) only [go_sem,e0,e1,e3];done))))
       rw [Zmn (p:=Zfz) (k:=k) hlt (by unfold Zfz;simp [p1])];simp (disch:=omega) only [go_sem]
      ·by_cases p2:1048576 < gI l k
       ·repeat' (first|with_reducible refine Za6 ?_|with_reducible refine Zak ?_|with_reducible refine Zar ?_|with_reducible refine Za7 ?_|with_reducible refine Zas ?_|with_reducible refine Zap ?_|with_reducible refine Zac ?_|with_reducible refine Zab ?_|with_reducible refine t_in ?_|with_reducible refine Zae ?_|with_reducible refine Zad ?_|with_reducible refine Zaq ?_|with_reducible refine Zaj ?_|(with_reducible refine Za1 ?_;intro K hK;simp (disch:=omega) only [go_sem,e0,e1,e3];(repeat (first|(refine⟨by omega,?_⟩)|intro _));refine hK _ ?_;clear K hK)|(with_reducible refine Zav ?_ ?_;(focus (simp (disch:=omega) only [go_sem,e0,e1,e3];done)))|(with_reducible refine Zam ?_ ?_;(focus (simp (disch:=omega) only [go_sem,e0,e1,e3];done))))
        rw [Zmn (p:=Zfz) (k:=k) hlt (by unfold Zfz;simp [p2])];simp (disch:=omega) only [go_sem]
       ·repeat' (first|with_reducible refine Za6 ?_|with_reducible refine Zak ?_|with_reducible refine Zar ?_|with_reducible refine Za7 ?_|with_reducible refine Zas ?_|with_reducible refine Zap ?_|with_reducible refine Zac ?_|with_reducible refine Zab ?_|with_reducible refine t_in ?_|with_reducible refine Zae ?_|with_reducible refine Zad ?_|with_reducible refine Zaq ?_|with_reducible refine Zaj ?_|(with_reducible refine Za1 ?_;intro K hK;simp (disch:=omega) only [go_sem,e0,e1,e3];(repeat (first|(refine⟨by omega,?_⟩)|intro _));refine hK _ ?_;clear K hK)|(with_reducible refine Zav ?_ ?_;(focus (simp (disch:=omega) only [go_sem,e0,e1,e3];done)))|(with_reducible refine Zam ?_ ?_;(focus (simp (disch:=omega) only [go_sem,e0,e1,e3];done))))
        refine⟨k+1,⟨by omega,by simp (disch:=omega) only [go_sem,e0],by simp (disch:=omega) only [go_sem,e1],by simp (disch:=omega) only [go_sem,e3];rfl,?_⟩,by omega⟩;rw [Zmt (by omega),ha];unfold Zfz;simp [p1,p2]
     ·repeat' (first|with_reducible refine Za6 ?_|with_reducible refine Zak ?_|with_reducible refine Zar ?_|with_reducible refine Za7 ?_|with_reducible refine Zas ?_|with_reducible refine Zap ?_|with_reducible refine Zac ?_|with_reducible refine Zab ?_|with_reducible refine t_in ?_|with_reducible refine Zae ?_|with_reducible refine Zad ?_|with_reducible refine Zaq ?_|with_reducible refine Zaj ?_|(with_reducible refine Za1 ?_;intro K hK;simp (disch:=omega) only [go_sem,e0,e1,e3];(repeat (first|(refine⟨by omega,?_⟩)|intro _));refine hK _ ?_;clear K hK)|(with_reducible refine Zav ?_ ?_;(focus (simp (disch:=omega) only [go_sem,e0,e1,e3];done)))|(with_reducible refine Zam ?_ ?_;(focus (simp (disch:=omega) only [go_sem,e0,e1,e3];done))))
      rw [Zkc (by omega) ha];simp (disch:=omega) only [go_sem]
    ·refine⟨Nat.zero_le _,by simp (disch:=omega) only [go_sem],by simp (disch:=omega) only [go_sem],by simp (disch:=omega) only [go_sem];rfl,by simp⟩
   ·have hnil:l=[]:=List.length_eq_zero_iff.1 (by omega);subst hnil
    repeat' (first|with_reducible refine Za6 ?_|with_reducible refine Zak ?_|with_reducible refine Zar ?_|with_reducible refine Za7 ?_|with_reducible refine Zas ?_|with_reducible refine Zap ?_|with_reducible refine Zac ?_|with_reducible refine Zab ?_|with_reducible refine t_in ?_|with_reducible refine Zae ?_|with_reducible refine Zad ?_|with_reducible refine Zaq ?_|with_reducible refine Zaj ?_|(with_reducible refine Za1 ?_;intro K hK;simp (disch:=omega) only [go_sem];(repeat (first|(refine⟨by omega,?_⟩)|intro _));refine hK _ ?_;clear K hK)|(with_reducible refine Zav ?_ ?_;(focus (simp (disch:=omega) only [go_sem];done)))|(with_reducible refine Zam ?_ ?_;(focus (simp (disch:=omega) only [go_sem];done))))
    refine Zfu (ι:=Unit) (λ_ st=>st.env 23=.v (.int .i64 0)∧st.env 24=.v (.int .i64 0)) (λ_=>0) () (by rfl) ?_ ?_
    ·rintro _ st ⟨e0,e3⟩
     repeat' (first|with_reducible refine Za6 ?_|with_reducible refine Zak ?_|with_reducible refine Zar ?_|with_reducible refine Za7 ?_|with_reducible refine Zas ?_|with_reducible refine Zap ?_|with_reducible refine Zac ?_|with_reducible refine Zab ?_|with_reducible refine t_in ?_|with_reducible refine Zae ?_|with_reducible refine Zad ?_|with_reducible refine Zaq ?_|with_reducible refine Zaj ?_|(with_reducible refine Za1 ?_;intro K hK;simp (disch:=omega) only [go_sem,e0,e3];(repeat (first|(refine⟨by omega,?_⟩)|intro _));refine hK _ ?_;clear K hK)|(with_reducible refine Zav ?_ ?_;(focus (simp (disch:=omega) only [go_sem,e0,e3];done)))|(with_reducible refine Zam ?_ ?_;(focus (simp (disch:=omega) only [go_sem,e0,e3];done))))
     simp (disch:=omega) only [go_sem]
    ·refine⟨by simp (disch:=omega) only [go_sem];rfl,by simp (disch:=omega) only [go_sem]⟩
theorem addF (x y:Int) (h:-9223372036854775808≤x+y∧x+y≤9223372036854775807):Pure Tryz.prog 146 [.v (.int .i64 x),.v (.int .i64 y)] (.v (.int .i64 (x+y))):=by
 refine Zaa (tok:=0) (rs:=[.tmp 4]) Tryz.func146 rfl Tryz.ntmps146 Tryz.results146 Tryz.call146 (by rfl) (by simp) ?_
 repeat' (first|with_reducible refine Za6 ?_|with_reducible refine Zak ?_|with_reducible refine Zar ?_|with_reducible refine Za7 ?_|with_reducible refine Zas ?_|with_reducible refine Zap ?_|with_reducible refine Zac ?_|with_reducible refine Zab ?_|with_reducible refine t_in ?_|with_reducible refine Zae ?_|with_reducible refine Zad ?_|with_reducible refine Zaq ?_|with_reducible refine Zaj ?_|(with_reducible refine Za1 ?_;intro K hK;simp (disch:=omega) only [go_sem];(repeat (first|(refine⟨by omega,?_⟩)|intro _));refine hK _ ?_;clear K hK)|(with_reducible refine Zav ?_ ?_;(focus (simp (disch:=omega) only [go_sem];done)))|(with_reducible refine Zam ?_ ?_;(focus (simp (disch:=omega) only [go_sem];done))))
 simp (disch:=omega) only [go_sem]
theorem subF (x y:Int) (h:-9223372036854775808≤x - y∧x - y≤9223372036854775807):Pure Tryz.prog 121 [.v (.int .i64 x),.v (.int .i64 y)] (.v (.int .i64 (x - y))):=by
 refine Zaa (tok:=0) (rs:=[.tmp 4]) Tryz.func121 rfl Tryz.ntmps121 Tryz.results121 Tryz.call121 (by rfl) (by simp) ?_
 repeat' (first|with_reducible refine Za6 ?_|with_reducible refine Zak ?_|with_reducible refine Zar ?_|with_reducible refine Za7 ?_|with_reducible refine Zas ?_|with_reducible refine Zap ?_|with_reducible refine Zac ?_|with_reducible refine Zab ?_|with_reducible refine t_in ?_|with_reducible refine Zae ?_|with_reducible refine Zad ?_|with_reducible refine Zaq ?_|with_reducible refine Zaj ?_|(with_reducible refine Za1 ?_;intro K hK;simp (disch:=omega) only [go_sem];(repeat (first|(refine⟨by omega,?_⟩)|intro _));refine hK _ ?_;clear K hK)|(with_reducible refine Zav ?_ ?_;(focus (simp (disch:=omega) only [go_sem];done)))|(with_reducible refine Zam ?_ ?_;(focus (simp (disch:=omega) only [go_sem];done))))
 simp (disch:=omega) only [go_sem]
theorem maxFn (x y:Int):Pure Tryz.prog 140 [.v (.int .i64 x),.v (.int .i64 y)] (.v (.int .i64 (max x y))):=by
 refine Zaa (tok:=0) (rs:=[.tmp 4]) Tryz.func140 rfl Tryz.ntmps140 Tryz.results140 Tryz.call140 (by rfl) (by simp) ?_
 repeat' (first|with_reducible refine Za6 ?_|with_reducible refine Zak ?_|with_reducible refine Zar ?_|with_reducible refine Za7 ?_|with_reducible refine Zas ?_|with_reducible refine Zap ?_|with_reducible refine Zac ?_|with_reducible refine Zab ?_|with_reducible refine t_in ?_|with_reducible refine Zae ?_|with_reducible refine Zad ?_|with_reducible refine Zaq ?_|with_reducible refine Zaj ?_|(with_reducible refine Za1 ?_;intro K hK;simp (disch:=omega) only [go_sem];(repeat (first|(refine⟨by omega,?_⟩)|intro _));refine hK _ ?_;clear K hK)|(with_reducible refine Zav ?_ ?_;(focus (simp (disch:=omega) only [go_sem];done)))|(with_reducible refine Zam ?_ ?_;(focus (simp (disch:=omega) only [go_sem];done))))
 simp (disch:=omega) only [go_sem]
def zipI (F:Int→Int→Int) (a b:List Int):List Int:=(List.range (max a.length b.length)).map λi=>F (gI a i) (gI b i)
def upto (n k:Nat) (F:Nat→Int):List AV:=(List.range n).map λi=>AV.v (.int .i64 (if i < k then F i else 0))
theorem upto_len (n k:Nat) (F:Nat→Int):(upto n k F).length=n:=by simp [upto]
theorem Zhh (n:Nat) (F:Nat→Int):List.replicate n (AV.v (.int .i64 0))=upto n 0 F:=by
 refine List.ext_getElem (by simp [upto]) λj h1 h2=>?_;simp [upto]
theorem upto_set {n k:Nat} {F:Nat→Int} (h:k < n):(upto n k F).set k (.v (.int .i64 (F k)))=upto n (k+1) F:=by
 refine List.ext_getElem (by simp [upto]) λj h1 h2=>?_;simp only [upto,List.getElem_set,List.getElem_map,List.getElem_range];by_cases hj:k=j
 ·subst hj;simp
 ·rw [if_neg hj];by_cases h3:j < k
  ·rw [if_pos h3,if_pos (by omega)]
  ·rw [if_neg h3,if_neg (by omega)]
theorem Zr1 (n:Nat) (F:Nat→Int):upto n n F=((List.range n).map F).map λx=>AV.v (.int .i64 x):=by
 refine List.ext_getElem (by simp [upto]) λj h1 h2=>?_;have hj:j < n:=by simpa [upto] using h1
 simp [upto,hj]
theorem Zh4 (a b:List Int) (g:Nat) (F:Int→Int→Int) (ha:a.length≤1000) (hb:b.length≤1000)
 (hF:∀k,k < max a.length b.length→Pure Tryz.prog g [.v (.int .i64 (gI a k)),.v (.int .i64 (gI b k))] (.v (.int .i64 (F (gI a k) (gI b k))))):Pure Tryz.prog 120 [ints a,ints b,.fn g []] (ints (zipI F a b)):=by
 unfold ints;refine Zaa (tok:=0) (rs:=[.tmp 6]) Tryz.func120 rfl Tryz.ntmps120 Tryz.results120 Tryz.call120 (by rfl) (by simp) ?_;obtain⟨n,hn⟩:∃n,n=max a.length b.length:=⟨_,rfl⟩;have hmx:max (a.length:Int) (b.length:Int)=(n:Int):=by omega
 repeat' (first|with_reducible refine Za6 ?_|with_reducible refine Zak ?_|with_reducible refine Zar ?_|with_reducible refine Za7 ?_|with_reducible refine Zas ?_|with_reducible refine Zap ?_|with_reducible refine Zac ?_|with_reducible refine Zab ?_|with_reducible refine t_in ?_|with_reducible refine Zae ?_|with_reducible refine Zad ?_|with_reducible refine Zaq ?_|with_reducible refine Zaj ?_|(with_reducible refine Za1 ?_;intro K hK;simp (disch:=omega) only [go_sem,hmx,Zhh];(repeat (first|(refine⟨by omega,?_⟩)|intro _));refine hK _ ?_;clear K hK)|(with_reducible refine Zav ?_ ?_;(focus (simp (disch:=omega) only [go_sem,hmx,Zhh];done)))|(with_reducible refine Zam ?_ ?_;(focus (simp (disch:=omega) only [go_sem,hmx,Zhh];done))))
 rename_i sv;refine Zfu (ι:=Nat) (λk st=>k≤n∧st.env 0=.sl 1 (a.map λn=>AV.v (.int .i64 n))∧st.env 1=.sl 1 (b.map λn=>AV.v (.int .i64 n))∧st.env 2=.fn g []∧st.env 7=.own 16 sv∧st.env 18=.v (.int .i64 n)∧st.env 19=.v (.int .i64 k)∧st.mem 16=some (.row sv 3 1 (upto n k λi=>F (gI a i) (gI b i)) 0)) (λk=>n - k) 0 (by rfl) ?_ ?_
 ·rintro k st ⟨hk,e0,e1,e2,e7,e18,e19,em⟩
  have hu:=upto_len n k λi=>F (gI a i) (gI b i);by_cases hlt:k < n
  ·have hFk:=hF k (by omega);have hst:=@upto_set n k (λi=>F (gI a i) (gI b i)) hlt;have key:∀(x y:Int) (Q:AE→St→Prop),gI a k=x→gI b k=y→True:=λ_ _ _ _ _=>trivial;by_cases h1:k < a.length<;>by_cases h2:k < b.length
   ·repeat' (first|with_reducible refine Za6 ?_|with_reducible refine Zak ?_|with_reducible refine Zar ?_|with_reducible refine Za7 ?_|with_reducible refine Zas ?_|with_reducible refine Zap ?_|with_reducible refine Zac ?_|with_reducible refine Zab ?_|with_reducible refine t_in ?_|with_reducible refine Zae ?_|with_reducible refine Zad ?_|with_reducible refine Zaq ?_|with_reducible refine Zaj ?_|(with_reducible refine Za1 ?_;intro K hK;simp (disch:=omega) only [go_sem,e0,e1,e2,e7,e18,e19,em,hmx];(repeat (first|(refine⟨by omega,?_⟩)|intro _));refine hK _ ?_;clear K hK)|(with_reducible refine Zav ?_ ?_;(focus (simp (disch:=omega) only [go_sem,e0,e1,e2,e7,e18,e19,em,hmx];done)))|(with_reducible refine Zam ?_ ?_;(focus (simp (disch:=omega) only [go_sem,e0,e1,e2,e7,e18,e19,em,hmx];done))))
    refine Za1 ?_;intro K hK;simp (disch:=omega) only [go_sem,e0,e1,e2,e7,e18,e19,em,hu,hst];(repeat (first|(refine⟨by omega,?_⟩)|intro _));refine Zbe (hFk) ?_ ?_ ?_;(focus (try simp (disch:=omega) only [go_sem,e0,e1,e2,e7,e18,e19,em,hu,hst]));(focus (first|rfl|(simp (disch:=omega) only [go_sem,e0,e1,e2,e7,e18,e19,em,hu,hst];done)));simp (disch:=omega) only [go_sem,e0,e1,e2,e7,e18,e19,em,hu,hst];(repeat (first|(refine⟨by omega,?_⟩)|intro _));refine hK _ ?_;clear K hK
    repeat' (first|with_reducible refine Za6 ?_|with_reducible refine Zak ?_|with_reducible refine Zar ?_|with_reducible refine Za7 ?_|with_reducible refine Zas ?_|with_reducible refine Zap ?_|with_reducible refine Zac ?_|with_reducible refine Zab ?_|with_reducible refine t_in ?_|with_reducible refine Zae ?_|with_reducible refine Zad ?_|with_reducible refine Zaq ?_|with_reducible refine Zaj ?_|(with_reducible refine Za1 ?_;intro K hK;simp (disch:=omega) only [go_sem,e0,e1,e2,e7,e18,e19,em,hmx];(repeat (first|(refine⟨by omega,?_⟩)|intro _));refine hK _ ?_;clear K hK)|(with_reducible refine Zav ?_ ?_;(focus (simp (disch:=omega) only [go_sem,e0,e1,e2,e7,e18,e19,em,hmx];done)))|(with_reducible refine Zam ?_ ?_;(focus (simp (disch:=omega) only [go_sem,e0,e1,e2,e7,e18,e19,em,hmx];done))))
    refine⟨k+1,⟨by omega,by simp (disch:=omega) only [go_sem,e0],by simp (disch:=omega) only [go_sem,e1],by simp (disch:=omega) only [go_sem,e2],by simp (disch:=omega) only [go_sem,e7],by simp (disch:=omega) only [go_sem,e18],by simp (disch:=omega) only [go_sem,e19];rfl,by simp (disch:=omega) only [go_sem]⟩,by omega⟩
   ·have g2:=Zbi (l:=b) (k:=k) (by omega);rw [g2] at hFk;rw [g2] at hst
    repeat' (first|with_reducible refine Za6 ?_|with_reducible refine Zak ?_|with_reducible refine Zar ?_|with_reducible refine Za7 ?_|with_reducible refine Zas ?_|with_reducible refine Zap ?_|with_reducible refine Zac ?_|with_reducible refine Zab ?_|with_reducible refine t_in ?_|with_reducible refine Zae ?_|with_reducible refine Zad ?_|with_reducible refine Zaq ?_|with_reducible refine Zaj ?_|(with_reducible refine Za1 ?_;intro K hK;simp (disch:=omega) only [go_sem,e0,e1,e2,e7,e18,e19,em,hmx];(repeat (first|(refine⟨by omega,?_⟩)|intro _));refine hK _ ?_;clear K hK)|(with_reducible refine Zav ?_ ?_;(focus (simp (disch:=omega) only [go_sem,e0,e1,e2,e7,e18,e19,em,hmx];done)))|(with_reducible refine Zam ?_ ?_;(focus (simp (disch:=omega) only [go_sem,e0,e1,e2,e7,e18,e19,em,hmx];done))))
    refine Za1 ?_;intro K hK;simp (disch:=omega) only [go_sem,e0,e1,e2,e7,e18,e19,em,hu,hst];(repeat (first|(refine⟨by omega,?_⟩)|intro _));refine Zbe (hFk) ?_ ?_ ?_;(focus (try simp (disch:=omega) only [go_sem,e0,e1,e2,e7,e18,e19,em,hu,hst]));(focus (first|rfl|(simp (disch:=omega) only [go_sem,e0,e1,e2,e7,e18,e19,em,hu,hst];done)));simp (disch:=omega) only [go_sem,e0,e1,e2,e7,e18,e19,em,hu,hst];(repeat (first|(refine⟨by omega,?_⟩)|intro _));refine hK _ ?_;clear K hK
    repeat' (first|with_reducible refine Za6 ?_|with_reducible refine Zak ?_|with_reducible refine Zar ?_|with_reducible refine Za7 ?_|with_reducible refine Zas ?_|with_reducible refine Zap ?_|with_reducible refine Zac ?_|with_reducible refine Zab ?_|with_reducible refine t_in ?_|with_reducible refine Zae ?_|with_reducible refine Zad ?_|with_reducible refine Zaq ?_|with_reducible refine Zaj ?_|(with_reducible refine Za1 ?_;intro K hK;simp (disch:=omega) only [go_sem,e0,e1,e2,e7,e18,e19,em,hmx];(repeat (first|(refine⟨by omega,?_⟩)|intro _));refine hK _ ?_;clear K hK)|(with_reducible refine Zav ?_ ?_;(focus (simp (disch:=omega) only [go_sem,e0,e1,e2,e7,e18,e19,em,hmx];done)))|(with_reducible refine Zam ?_ ?_;(focus (simp (disch:=omega) only [go_sem,e0,e1,e2,e7,e18,e19,em,hmx];done))))
    refine⟨k+1,⟨by omega,by simp (disch:=omega) only [go_sem,e0],by simp (disch:=omega) only [go_sem,e1],by simp (disch:=omega) only [go_sem,e2],by simp (disch:=omega) only [go_sem,e7],by simp (disch:=omega) only [go_sem,e18],by simp (disch:=omega) only [go_sem,e19];rfl,by simp (disch:=omega) only [go_sem]⟩,by omega⟩
   ·have g2:=Zbi (l:=a) (k:=k) (by omega);rw [g2] at hFk;rw [g2] at hst
    repeat' (first|with_reducible refine Za6 ?_|with_reducible refine Zak ?_|with_reducible refine Zar ?_|with_reducible refine Za7 ?_|with_reducible refine Zas ?_|with_reducible refine Zap ?_|with_reducible refine Zac ?_|with_reducible refine Zab ?_|with_reducible refine t_in ?_|with_reducible refine Zae ?_|with_reducible refine Zad ?_|with_reducible refine Zaq ?_|with_reducible refine Zaj ?_|(with_reducible refine Za1 ?_;intro K hK;simp (disch:=omega) only [go_sem,e0,e1,e2,e7,e18,e19,em,hmx];(repeat (first|(refine⟨by omega,?_⟩)|intro _));refine hK _ ?_;clear K hK)|(with_reducible refine Zav ?_ ?_;(focus (simp (disch:=omega) only [go_sem,e0,e1,e2,e7,e18,e19,em,hmx];done)))|(with_reducible refine Zam ?_ ?_;(focus (simp (disch:=omega) only [go_sem,e0,e1,e2,e7,e18,e19,em,hmx];done))))
    refine Za1 ?_;intro K hK;simp (disch:=omega) only [go_sem,e0,e1,e2,e7,e18,e19,em,hu,hst];(repeat (first|(refine⟨by omega,?_⟩)|intro _));refine Zbe (hFk) ?_ ?_ ?_;(focus (try simp (disch:=omega) only [go_sem,e0,e1,e2,e7,e18,e19,em,hu,hst]));(focus (first|rfl|(simp (disch:=omega) only [go_sem,e0,e1,e2,e7,e18,e19,em,hu,hst];done)));simp (disch:=omega) only [go_sem,e0,e1,e2,e7,e18,e19,em,hu,hst];(repeat (first|(refine⟨by omega,?_⟩)|intro _));refine hK _ ?_;clear K hK
    repeat' (first|with_reducible refine Za6 ?_|with_reducible refine Zak ?_|with_reducible refine Zar ?_|with_reducible refine Za7 ?_|with_reducible refine Zas ?_|with_reducible refine Zap ?_|with_reducible refine Zac ?_|with_reducible refine Zab ?_|with_reducible refine t_in ?_|with_reducible refine Zae ?_|with_reducible refine Zad ?_|with_reducible refine Zaq ?_|with_reducible refine Zaj ?_|(with_reducible refine Za1 ?_;intro K hK;simp (disch:=omega) only [go_sem,e0,e1,e2,e7,e18,e19,em,hmx];(repeat (first|(refine⟨by omega,?_⟩)|intro _));refine hK _ ?_;clear K hK)|(with_reducible refine Zav ?_ ?_;(focus (simp (disch:=omega) only [go_sem,e0,e1,e2,e7,e18,e19,em,hmx];done)))|(with_reducible refine Zam ?_ ?_;(focus (simp (disch:=omega) only [go_sem,e0,e1,e2,e7,e18,e19,em,hmx];done))))
    refine⟨k+1,⟨by omega,by simp (disch:=omega) only [go_sem,e0],by simp (disch:=omega) only [go_sem,e1],by simp (disch:=omega) only [go_sem,e2],by simp (disch:=omega) only [go_sem,e7],by simp (disch:=omega) only [go_sem,e18],by simp (disch:=omega) only [go_sem,e19];rfl,by simp (disch:=omega) only [go_sem]⟩,by omega⟩
   ·exfalso;omega
  ·have hk':k=n:=by omega
   subst hk'
   repeat' (first|with_reducible refine Za6 ?_|with_reducible refine Zak ?_|with_reducible refine Zar ?_|with_reducible refine Za7 ?_|with_reducible refine Zas ?_|with_reducible refine Zap ?_|with_reducible refine Zac ?_|with_reducible refine Zab ?_|with_reducible refine t_in ?_|with_reducible refine Zae ?_|with_reducible refine Zad ?_|with_reducible refine Zaq ?_|with_reducible refine Zaj ?_|(with_reducible refine Za1 ?_;intro K hK;simp (disch:=omega) only [go_sem,e0,e1,e2,e7,e18,e19,em,hmx];(repeat (first|(refine⟨by omega,?_⟩)|intro _));refine hK _ ?_;clear K hK)|(with_reducible refine Zav ?_ ?_;(focus (simp (disch:=omega) only [go_sem,e0,e1,e2,e7,e18,e19,em,hmx];done)))|(with_reducible refine Zam ?_ ?_;(focus (simp (disch:=omega) only [go_sem,e0,e1,e2,e7,e18,e19,em,hmx];done))))
   unfold zipI;rw [←hn,←Zr1];simp (disch:=omega) only [go_sem,em]
 ·exact⟨Nat.zero_le _,by simp (disch:=omega) only [go_sem],by simp (disch:=omega) only [go_sem],by simp (disch:=omega) only [go_sem],by simp (disch:=omega) only [go_sem],by simp (disch:=omega) only [go_sem],by simp (disch:=omega) only [go_sem];rfl,by simp (disch:=omega) only [go_sem,←Zhh]⟩
theorem Zk8 (F:Int→Int→Int) (a b:List Int):(zipI F a b).length=max a.length b.length:=by simp [zipI]
def Wd (l:List Int):Prop:=l.length≤1000∧∀j,-4503599627370496≤gI l j∧gI l j≤4503599627370496
theorem Sm.wd {l:List Int} (h:Sm l):Wd l:=⟨h.1,λj=>by have:=h.2 j;omega⟩
theorem monMul (a b:List Int) (ha:Wd a) (hb:Wd b):Pure Tryz.prog 91 [ints a,ints b] (ints (Zcx (zipI (·+·) a b))):=by
 have h1:=Zh4 a b 146 (·+·) ha.1 hb.1 λk _=>addF _ _ (by have:=ha.2 k;have:=hb.2 k;omega);have h2:=Zlx (zipI (·+·) a b) (by rw [Zk8];have:=ha.1;have:=hb.1;omega);unfold ints at *;refine Zaa (tok:=0) (rs:=[.tmp 4]) Tryz.func91 rfl Tryz.ntmps91 Tryz.results91 Tryz.call91 (by rfl) (by simp) ?_
 repeat' (first|with_reducible refine Za6 ?_|with_reducible refine Zak ?_|with_reducible refine Zar ?_|with_reducible refine Za7 ?_|with_reducible refine Zas ?_|with_reducible refine Zap ?_|with_reducible refine Zac ?_|with_reducible refine Zab ?_|with_reducible refine t_in ?_|with_reducible refine Zae ?_|with_reducible refine Zad ?_|with_reducible refine Zaq ?_|with_reducible refine Zaj ?_|(with_reducible refine Za1 ?_;intro K hK;simp (disch:=omega) only [go_sem];(repeat (first|(refine⟨by omega,?_⟩)|intro _));refine hK _ ?_;clear K hK)|(with_reducible refine Zav ?_ ?_;(focus (simp (disch:=omega) only [go_sem];done)))|(with_reducible refine Zam ?_ ?_;(focus (simp (disch:=omega) only [go_sem];done))))
 refine Za1 ?_;intro K hK;simp (disch:=omega) only [go_sem];(repeat (first|(refine⟨by omega,?_⟩)|intro _));refine Zbe (h1) ?_ ?_ ?_;(focus (try simp (disch:=omega) only [go_sem]));(focus (first|rfl|(simp (disch:=omega) only [go_sem];done)));simp (disch:=omega) only [go_sem];(repeat (first|(refine⟨by omega,?_⟩)|intro _));refine Zbe (h2) ?_ ?_ ?_;(focus (try simp (disch:=omega) only [go_sem]));(focus (first|rfl|(simp (disch:=omega) only [go_sem];done)));simp (disch:=omega) only [go_sem];(repeat (first|(refine⟨by omega,?_⟩)|intro _));refine hK _ ?_;clear K hK
 repeat' (first|with_reducible refine Za6 ?_|with_reducible refine Zak ?_|with_reducible refine Zar ?_|with_reducible refine Za7 ?_|with_reducible refine Zas ?_|with_reducible refine Zap ?_|with_reducible refine Zac ?_|with_reducible refine Zab ?_|with_reducible refine t_in ?_|with_reducible refine Zae ?_|with_reducible refine Zad ?_|with_reducible refine Zaq ?_|with_reducible refine Zaj ?_|(with_reducible refine Za1 ?_;intro K hK;simp (disch:=omega) only [go_sem];(repeat (first|(refine⟨by omega,?_⟩)|intro _));refine hK _ ?_;clear K hK)|(with_reducible refine Zav ?_ ?_;(focus (simp (disch:=omega) only [go_sem];done)))|(with_reducible refine Zam ?_ ?_;(focus (simp (disch:=omega) only [go_sem];done))))
 simp (disch:=omega) only [go_sem]
theorem monLcm (a b:List Int) (ha:a.length≤1000) (hb:b.length≤1000):Pure Tryz.prog 83 [ints a,ints b] (ints (Zcx (zipI max a b))):=by
 have h1:=Zh4 a b 140 max ha hb λk _=>maxFn _ _;have h2:=Zlx (zipI max a b) (by rw [Zk8];omega);unfold ints at *;refine Zaa (tok:=0) (rs:=[.tmp 4]) Tryz.func83 rfl Tryz.ntmps83 Tryz.results83 Tryz.call83 (by rfl) (by simp) ?_
 repeat' (first|with_reducible refine Za6 ?_|with_reducible refine Zak ?_|with_reducible refine Zar ?_|with_reducible refine Za7 ?_|with_reducible refine Zas ?_|with_reducible refine Zap ?_|with_reducible refine Zac ?_|with_reducible refine Zab ?_|with_reducible refine t_in ?_|with_reducible refine Zae ?_|with_reducible refine Zad ?_|with_reducible refine Zaq ?_|with_reducible refine Zaj ?_|(with_reducible refine Za1 ?_;intro K hK;simp (disch:=omega) only [go_sem];(repeat (first|(refine⟨by omega,?_⟩)|intro _));refine hK _ ?_;clear K hK)|(with_reducible refine Zav ?_ ?_;(focus (simp (disch:=omega) only [go_sem];done)))|(with_reducible refine Zam ?_ ?_;(focus (simp (disch:=omega) only [go_sem];done))))
 refine Za1 ?_;intro K hK;simp (disch:=omega) only [go_sem];(repeat (first|(refine⟨by omega,?_⟩)|intro _));refine Zbe (h1) ?_ ?_ ?_;(focus (try simp (disch:=omega) only [go_sem]));(focus (first|rfl|(simp (disch:=omega) only [go_sem];done)));simp (disch:=omega) only [go_sem];(repeat (first|(refine⟨by omega,?_⟩)|intro _));refine Zbe (h2) ?_ ?_ ?_;(focus (try simp (disch:=omega) only [go_sem]));(focus (first|rfl|(simp (disch:=omega) only [go_sem];done)));simp (disch:=omega) only [go_sem];(repeat (first|(refine⟨by omega,?_⟩)|intro _));refine hK _ ?_;clear K hK
 repeat' (first|with_reducible refine Za6 ?_|with_reducible refine Zak ?_|with_reducible refine Zar ?_|with_reducible refine Za7 ?_|with_reducible refine Zas ?_|with_reducible refine Zap ?_|with_reducible refine Zac ?_|with_reducible refine Zab ?_|with_reducible refine t_in ?_|with_reducible refine Zae ?_|with_reducible refine Zad ?_|with_reducible refine Zaq ?_|with_reducible refine Zaj ?_|(with_reducible refine Za1 ?_;intro K hK;simp (disch:=omega) only [go_sem];(repeat (first|(refine⟨by omega,?_⟩)|intro _));refine hK _ ?_;clear K hK)|(with_reducible refine Zav ?_ ?_;(focus (simp (disch:=omega) only [go_sem];done)))|(with_reducible refine Zam ?_ ?_;(focus (simp (disch:=omega) only [go_sem];done))))
 simp (disch:=omega) only [go_sem]
def divI (a b:List Int):Bool:=(List.range a.length).all λi=>decide (gI a i≤gI b i)
theorem divI_t {a b:List Int} (h:∀j,j < a.length→gI a j≤gI b j):divI a b=true:=by
 unfold divI;rw [List.all_eq_true];intro j hj;exact decide_eq_true (h j (List.mem_range.1 hj))
theorem divI_f {a b:List Int} {j:Nat} (hj:j < a.length) (h:gI b j < gI a j):divI a b=false:=by
 unfold divI;rw [List.all_eq_false];exact⟨j,List.mem_range.2 hj,by simp;omega⟩
theorem Zlz (b:List Int) (k:Nat):Pure Tryz.prog 93 [.sl 1 (b.map λn=>AV.v (.int .i64 n)),.v (.int .i64 k)] (.v (.int .i64 (gI b k))):=by
 have:=monExp b k
 rwa [exp_of] at this
theorem Zfk (b:List Int) (k:Nat):Pure Tryz.prog 52 [.sl 1 (b.map λn=>AV.v (.int .i64 n)),.v (.int .i64 k)] (.v (.int .i64 (gI b k))):=by
 have:=refExp b k
 rwa [exp_of] at this
theorem Zkv (a b:List Int) (ha:a.length≤1000):Pure Tryz.prog 105 [ints a,ints b] (.v (.bool (divI a b))):=by
 unfold ints;refine Zaa (tok:=0) (rs:=[.tmp 4]) Tryz.func105 rfl Tryz.ntmps105 Tryz.results105 Tryz.call105 (by rfl) (by simp) ?_
 repeat' (first|with_reducible refine Za6 ?_|with_reducible refine Zak ?_|with_reducible refine Zar ?_|with_reducible refine Za7 ?_|with_reducible refine Zas ?_|with_reducible refine Zap ?_|with_reducible refine Zac ?_|with_reducible refine Zab ?_|with_reducible refine t_in ?_|with_reducible refine Zae ?_|with_reducible refine Zad ?_|with_reducible refine Zaq ?_|with_reducible refine Zaj ?_|(with_reducible refine Za1 ?_;intro K hK;simp (disch:=omega) only [go_sem];(repeat (first|(refine⟨by omega,?_⟩)|intro _));refine hK _ ?_;clear K hK)|(with_reducible refine Zav ?_ ?_;(focus (simp (disch:=omega) only [go_sem];done)))|(with_reducible refine Zam ?_ ?_;(focus (simp (disch:=omega) only [go_sem];done))))
 refine Zfu (ι:=Nat) (λk st=>k≤a.length∧st.env 7=.sl 1 (a.map λn=>AV.v (.int .i64 n))∧st.env 1=.sl 1 (b.map λn=>AV.v (.int .i64 n))∧st.env 8=.v (.int .i64 a.length)∧st.env 9=.v (.int .i64 k)∧∀j,j < k→gI a j≤gI b j) (λk=>a.length - k) 0 (by rfl) ?_ ?_
 ·rintro k st ⟨hk,e7,e1,e8,e9,hd⟩
  by_cases hlt:k < a.length
  ·have hx:=Zlz b k;by_cases hc:gI b k < gI a k
   ·repeat' (first|with_reducible refine Za6 ?_|with_reducible refine Zak ?_|with_reducible refine Zar ?_|with_reducible refine Za7 ?_|with_reducible refine Zas ?_|with_reducible refine Zap ?_|with_reducible refine Zac ?_|with_reducible refine Zab ?_|with_reducible refine t_in ?_|with_reducible refine Zae ?_|with_reducible refine Zad ?_|with_reducible refine Zaq ?_|with_reducible refine Zaj ?_|(with_reducible refine Za1 ?_;intro K hK;simp (disch:=omega) only [go_sem,e7,e1,e8,e9];(repeat (first|(refine⟨by omega,?_⟩)|intro _));refine hK _ ?_;clear K hK)|(with_reducible refine Zav ?_ ?_;(focus (simp (disch:=omega) only [go_sem,e7,e1,e8,e9];done)))|(with_reducible refine Zam ?_ ?_;(focus (simp (disch:=omega) only [go_sem,e7,e1,e8,e9];done))))
    refine Za1 ?_;intro K hK;simp (disch:=omega) only [go_sem,e7,e1,e8,e9];(repeat (first|(refine⟨by omega,?_⟩)|intro _));refine Zbe (hx) ?_ ?_ ?_;(focus (try simp (disch:=omega) only [go_sem,e7,e1,e8,e9]));(focus (first|rfl|(simp (disch:=omega) only [go_sem,e7,e1,e8,e9];done)));simp (disch:=omega) only [go_sem,e7,e1,e8,e9];(repeat (first|(refine⟨by omega,?_⟩)|intro _));refine hK _ ?_;clear K hK
    repeat' (first|with_reducible refine Za6 ?_|with_reducible refine Zak ?_|with_reducible refine Zar ?_|with_reducible refine Za7 ?_|with_reducible refine Zas ?_|with_reducible refine Zap ?_|with_reducible refine Zac ?_|with_reducible refine Zab ?_|with_reducible refine t_in ?_|with_reducible refine Zae ?_|with_reducible refine Zad ?_|with_reducible refine Zaq ?_|with_reducible refine Zaj ?_|(with_reducible refine Za1 ?_;intro K hK;simp (disch:=omega) only [go_sem];(repeat (first|(refine⟨by omega,?_⟩)|intro _));refine hK _ ?_;clear K hK)|(with_reducible refine Zav ?_ ?_;(focus (simp (disch:=omega) only [go_sem];done)))|(with_reducible refine Zam ?_ ?_;(focus (simp (disch:=omega) only [go_sem];done))))
    rw [divI_f hlt hc];simp (disch:=omega) only [go_sem]
   ·repeat' (first|with_reducible refine Za6 ?_|with_reducible refine Zak ?_|with_reducible refine Zar ?_|with_reducible refine Za7 ?_|with_reducible refine Zas ?_|with_reducible refine Zap ?_|with_reducible refine Zac ?_|with_reducible refine Zab ?_|with_reducible refine t_in ?_|with_reducible refine Zae ?_|with_reducible refine Zad ?_|with_reducible refine Zaq ?_|with_reducible refine Zaj ?_|(with_reducible refine Za1 ?_;intro K hK;simp (disch:=omega) only [go_sem,e7,e1,e8,e9];(repeat (first|(refine⟨by omega,?_⟩)|intro _));refine hK _ ?_;clear K hK)|(with_reducible refine Zav ?_ ?_;(focus (simp (disch:=omega) only [go_sem,e7,e1,e8,e9];done)))|(with_reducible refine Zam ?_ ?_;(focus (simp (disch:=omega) only [go_sem,e7,e1,e8,e9];done))))
    refine Za1 ?_;intro K hK;simp (disch:=omega) only [go_sem,e7,e1,e8,e9];(repeat (first|(refine⟨by omega,?_⟩)|intro _));refine Zbe (hx) ?_ ?_ ?_;(focus (try simp (disch:=omega) only [go_sem,e7,e1,e8,e9]));(focus (first|rfl|(simp (disch:=omega) only [go_sem,e7,e1,e8,e9];done)));simp (disch:=omega) only [go_sem,e7,e1,e8,e9];(repeat (first|(refine⟨by omega,?_⟩)|intro _));refine hK _ ?_;clear K hK
    repeat' (first|with_reducible refine Za6 ?_|with_reducible refine Zak ?_|with_reducible refine Zar ?_|with_reducible refine Za7 ?_|with_reducible refine Zas ?_|with_reducible refine Zap ?_|with_reducible refine Zac ?_|with_reducible refine Zab ?_|with_reducible refine t_in ?_|with_reducible refine Zae ?_|with_reducible refine Zad ?_|with_reducible refine Zaq ?_|with_reducible refine Zaj ?_|(with_reducible refine Za1 ?_;intro K hK;simp (disch:=omega) only [go_sem,e9];(repeat (first|(refine⟨by omega,?_⟩)|intro _));refine hK _ ?_;clear K hK)|(with_reducible refine Zav ?_ ?_;(focus (simp (disch:=omega) only [go_sem,e9];done)))|(with_reducible refine Zam ?_ ?_;(focus (simp (disch:=omega) only [go_sem,e9];done))))
    refine⟨k+1,⟨by omega,by simp (disch:=omega) only [go_sem,e7],by simp (disch:=omega) only [go_sem,e1],by simp (disch:=omega) only [go_sem,e8],by simp (disch:=omega) only [go_sem,e9];rfl,λj hj=>?_⟩,by omega⟩;rcases Nat.lt_or_ge j k with h1 | h1
    ·exact hd j h1
    ·rw [show j=k by omega];omega
  ·repeat' (first|with_reducible refine Za6 ?_|with_reducible refine Zak ?_|with_reducible refine Zar ?_|with_reducible refine Za7 ?_|with_reducible refine Zas ?_|with_reducible refine Zap ?_|with_reducible refine Zac ?_|with_reducible refine Zab ?_|with_reducible refine t_in ?_|with_reducible refine Zae ?_|with_reducible refine Zad ?_|with_reducible refine Zaq ?_|with_reducible refine Zaj ?_|(with_reducible refine Za1 ?_;intro K hK;simp (disch:=omega) only [go_sem,e7,e1,e8,e9];(repeat (first|(refine⟨by omega,?_⟩)|intro _));refine hK _ ?_;clear K hK)|(with_reducible refine Zav ?_ ?_;(focus (simp (disch:=omega) only [go_sem,e7,e1,e8,e9];done)))|(with_reducible refine Zam ?_ ?_;(focus (simp (disch:=omega) only [go_sem,e7,e1,e8,e9];done))))
   rw [divI_t λj hj=>hd j (by omega)];simp (disch:=omega) only [go_sem]
 ·exact⟨Nat.zero_le _,by simp (disch:=omega) only [go_sem],by simp (disch:=omega) only [go_sem],by simp (disch:=omega) only [go_sem],by simp (disch:=omega) only [go_sem];rfl,by simp⟩
theorem Zko (a b:List Int) (ha:a.length≤1000):Pure Tryz.prog 19 [ints a,ints b] (.v (.bool (divI a b))):=by
 unfold ints;refine Zaa (tok:=0) Tryz.func19 rfl Tryz.ntmps19 Tryz.results19 Tryz.call19 (by rfl) (by simp) ?_;(focus (refine wkad w_t w_t w_t ?_;(repeat' first|exact w_t|apply w_l);all_goals intros));refine Zag (ι:=Nat) (λk e m=>k≤a.length∧e 0=.sl 1 (a.map λn=>AV.v (.int .i64 n))∧e 1=.sl 1 (b.map λn=>AV.v (.int .i64 n))∧e 5=.v (.int .i64 k)∧∀j,j < k→gI a j≤gI b j) (λk=>a.length - k) 0 (by rfl) ?_ ?_
 ·rintro k e m ⟨hk,e0,e1,e5,hd⟩
  by_cases hlt:k < a.length
  ·have hx:=Zfk b k;by_cases hc:gI b k < gI a k
   ·rw [divI_f hlt hc];(focus (refine wkld (w_3 e0 e1 e5) (w_1 hx) w_t (w_1 (w_d 4 [(6,.v (.int .i64 (gI b k)))] [] [])) ?_;(repeat' first|exact w_t|apply w_l);all_goals intros))
   ·(focus (refine wkad (w_3 e0 e1 e5) (w_1 hx) (w_1 (w_d 4 [(6,.v (.int .i64 (gI b k)))] [] [])) ?_;(repeat' first|exact w_t|apply w_l);all_goals intros));refine⟨k+1,⟨by omega,by exact gW e0,by exact gW e1,by exact gS,λj hj=>?_⟩,by omega⟩;rcases Nat.lt_or_ge j k with h1 | h1
    ·exact hd j h1
    ·rw [show j=k by omega];omega
  ·rw [divI_t λj hj=>hd j (by omega)];(focus (refine wkld (w_3 e0 e1 e5) w_t w_t w_t ?_;(repeat' first|exact w_t|apply w_l);all_goals intros))
 ·exact⟨Nat.zero_le _,by exact gC,by exact gC,by exact gC,by simp⟩
def copI (a b:List Int):Bool:=(List.range a.length).all λi=>decide (gI a i=0∨gI b i=0)
theorem copI_t {a b:List Int} (h:∀j,j < a.length→gI a j=0∨gI b j=0):copI a b=true:=by
 unfold copI;rw [List.all_eq_true];intro j hj;exact decide_eq_true (h j (List.mem_range.1 hj))
theorem copI_f {a b:List Int} {j:Nat} (hj:j < a.length) (h:gI a j≠0) (h2:gI b j≠0):copI a b=false:=by
 unfold copI;rw [List.all_eq_false];exact⟨j,List.mem_range.2 hj,by simp [h,h2]⟩
theorem Zkw (a b:List Int) (ha:a.length≤1000):Pure Tryz.prog 154 [ints a,ints b] (.v (.bool (copI a b))):=by
 unfold ints;refine Zaa (tok:=0) (rs:=[.tmp 4]) Tryz.func154 rfl Tryz.ntmps154 Tryz.results154 Tryz.call154 (by rfl) (by simp) ?_
 repeat' (first|with_reducible refine Za6 ?_|with_reducible refine Zak ?_|with_reducible refine Zar ?_|with_reducible refine Za7 ?_|with_reducible refine Zas ?_|with_reducible refine Zap ?_|with_reducible refine Zac ?_|with_reducible refine Zab ?_|with_reducible refine t_in ?_|with_reducible refine Zae ?_|with_reducible refine Zad ?_|with_reducible refine Zaq ?_|with_reducible refine Zaj ?_|(with_reducible refine Za1 ?_;intro K hK;simp (disch:=omega) only [go_sem];(repeat (first|(refine⟨by omega,?_⟩)|intro _));refine hK _ ?_;clear K hK)|(with_reducible refine Zav ?_ ?_;(focus (simp (disch:=omega) only [go_sem];done)))|(with_reducible refine Zam ?_ ?_;(focus (simp (disch:=omega) only [go_sem];done))))
 refine Zfu (ι:=Nat) (λk st=>k≤a.length∧st.env 7=.sl 1 (a.map λn=>AV.v (.int .i64 n))∧st.env 1=.sl 1 (b.map λn=>AV.v (.int .i64 n))∧st.env 8=.v (.int .i64 a.length)∧st.env 9=.v (.int .i64 k)∧∀j,j < k→gI a j=0∨gI b j=0) (λk=>a.length - k) 0 (by rfl) ?_ ?_
 ·rintro k st ⟨hk,e7,e1,e8,e9,hd⟩
  by_cases hlt:k < a.length
  ·have hx:=Zlz b k;have next:gI a k=0∨gI b k=0→∀j,j < k+1→gI a j=0∨gI b j=0:=λh j hj=>by
    rcases Nat.lt_or_ge j k with h1 | h1
    ·exact hd j h1
    ·rw [show j=k by omega];exact h
   by_cases hc:gI a k=0
   ·repeat' (first|with_reducible refine Za6 ?_|with_reducible refine Zak ?_|with_reducible refine Zar ?_|with_reducible refine Za7 ?_|with_reducible refine Zas ?_|with_reducible refine Zap ?_|with_reducible refine Zac ?_|with_reducible refine Zab ?_|with_reducible refine t_in ?_|with_reducible refine Zae ?_|with_reducible refine Zad ?_|with_reducible refine Zaq ?_|with_reducible refine Zaj ?_|(with_reducible refine Za1 ?_;intro K hK;simp (disch:=omega) only [go_sem,e7,e1,e8,e9];(repeat (first|(refine⟨by omega,?_⟩)|intro _));refine hK _ ?_;clear K hK)|(with_reducible refine Zav ?_ ?_;(focus (simp (disch:=omega) only [go_sem,e7,e1,e8,e9];done)))|(with_reducible refine Zam ?_ ?_;(focus (simp (disch:=omega) only [go_sem,e7,e1,e8,e9];done))))
    refine⟨k+1,⟨by omega,by simp (disch:=omega) only [go_sem,e7],by simp (disch:=omega) only [go_sem,e1],by simp (disch:=omega) only [go_sem,e8],by simp (disch:=omega) only [go_sem,e9];rfl,next (.inl hc)⟩,by omega⟩
   ·by_cases hc2:gI b k=0
    ·repeat' (first|with_reducible refine Za6 ?_|with_reducible refine Zak ?_|with_reducible refine Zar ?_|with_reducible refine Za7 ?_|with_reducible refine Zas ?_|with_reducible refine Zap ?_|with_reducible refine Zac ?_|with_reducible refine Zab ?_|with_reducible refine t_in ?_|with_reducible refine Zae ?_|with_reducible refine Zad ?_|with_reducible refine Zaq ?_|with_reducible refine Zaj ?_|(with_reducible refine Za1 ?_;intro K hK;simp (disch:=omega) only [go_sem,e7,e1,e8,e9];(repeat (first|(refine⟨by omega,?_⟩)|intro _));refine hK _ ?_;clear K hK)|(with_reducible refine Zav ?_ ?_;(focus (simp (disch:=omega) only [go_sem,e7,e1,e8,e9];done)))|(with_reducible refine Zam ?_ ?_;(focus (simp (disch:=omega) only [go_sem,e7,e1,e8,e9];done))))
     refine Za1 ?_;intro K hK;simp (disch:=omega) only [go_sem,e7,e1,e8,e9];(repeat (first|(refine⟨by omega,?_⟩)|intro _));refine Zbe (hx) ?_ ?_ ?_;(focus (try simp (disch:=omega) only [go_sem,e7,e1,e8,e9]));(focus (first|rfl|(simp (disch:=omega) only [go_sem,e7,e1,e8,e9];done)));simp (disch:=omega) only [go_sem,e7,e1,e8,e9];(repeat (first|(refine⟨by omega,?_⟩)|intro _));refine hK _ ?_;clear K hK
     repeat' (first|with_reducible refine Za6 ?_|with_reducible refine Zak ?_|with_reducible refine Zar ?_|with_reducible refine Za7 ?_|with_reducible refine Zas ?_|with_reducible refine Zap ?_|with_reducible refine Zac ?_|with_reducible refine Zab ?_|with_reducible refine t_in ?_|with_reducible refine Zae ?_|with_reducible refine Zad ?_|with_reducible refine Zaq ?_|with_reducible refine Zaj ?_|(with_reducible refine Za1 ?_;intro K hK;simp (disch:=omega) only [go_sem,e9];(repeat (first|(refine⟨by omega,?_⟩)|intro _));refine hK _ ?_;clear K hK)|(with_reducible refine Zav ?_ ?_;(focus (simp (disch:=omega) only [go_sem,e9];done)))|(with_reducible refine Zam ?_ ?_;(focus (simp (disch:=omega) only [go_sem,e9];done))))
     refine⟨k+1,⟨by omega,by simp (disch:=omega) only [go_sem,e7],by simp (disch:=omega) only [go_sem,e1],by simp (disch:=omega) only [go_sem,e8],by simp (disch:=omega) only [go_sem,e9];rfl,next (.inr hc2)⟩,by omega⟩
    ·repeat' (first|with_reducible refine Za6 ?_|with_reducible refine Zak ?_|with_reducible refine Zar ?_|with_reducible refine Za7 ?_|with_reducible refine Zas ?_|with_reducible refine Zap ?_|with_reducible refine Zac ?_|with_reducible refine Zab ?_|with_reducible refine t_in ?_|with_reducible refine Zae ?_|with_reducible refine Zad ?_|with_reducible refine Zaq ?_|with_reducible refine Zaj ?_|(with_reducible refine Za1 ?_;intro K hK;simp (disch:=omega) only [go_sem,e7,e1,e8,e9];(repeat (first|(refine⟨by omega,?_⟩)|intro _));refine hK _ ?_;clear K hK)|(with_reducible refine Zav ?_ ?_;(focus (simp (disch:=omega) only [go_sem,e7,e1,e8,e9];done)))|(with_reducible refine Zam ?_ ?_;(focus (simp (disch:=omega) only [go_sem,e7,e1,e8,e9];done))))
     refine Za1 ?_;intro K hK;simp (disch:=omega) only [go_sem,e7,e1,e8,e9];(repeat (first|(refine⟨by omega,?_⟩)|intro _));refine Zbe (hx) ?_ ?_ ?_;(focus (try simp (disch:=omega) only [go_sem,e7,e1,e8,e9]));(focus (first|rfl|(simp (disch:=omega) only [go_sem,e7,e1,e8,e9];done)));simp (disch:=omega) only [go_sem,e7,e1,e8,e9];(repeat (first|(refine⟨by omega,?_⟩)|intro _));refine hK _ ?_;clear K hK
     repeat' (first|with_reducible refine Za6 ?_|with_reducible refine Zak ?_|with_reducible refine Zar ?_|with_reducible refine Za7 ?_|with_reducible refine Zas ?_|with_reducible refine Zap ?_|with_reducible refine Zac ?_|with_reducible refine Zab ?_|with_reducible refine t_in ?_|with_reducible refine Zae ?_|with_reducible refine Zad ?_|with_reducible refine Zaq ?_|with_reducible refine Zaj ?_|(with_reducible refine Za1 ?_;intro K hK;simp (disch:=omega) only [go_sem];(repeat (first|(refine⟨by omega,?_⟩)|intro _));refine hK _ ?_;clear K hK)|(with_reducible refine Zav ?_ ?_;(focus (simp (disch:=omega) only [go_sem];done)))|(with_reducible refine Zam ?_ ?_;(focus (simp (disch:=omega) only [go_sem];done))))
     rw [copI_f hlt hc hc2];simp (disch:=omega) only [go_sem]
  ·repeat' (first|with_reducible refine Za6 ?_|with_reducible refine Zak ?_|with_reducible refine Zar ?_|with_reducible refine Za7 ?_|with_reducible refine Zas ?_|with_reducible refine Zap ?_|with_reducible refine Zac ?_|with_reducible refine Zab ?_|with_reducible refine t_in ?_|with_reducible refine Zae ?_|with_reducible refine Zad ?_|with_reducible refine Zaq ?_|with_reducible refine Zaj ?_|(with_reducible refine Za1 ?_;intro K hK;simp (disch:=omega) only [go_sem,e7,e1,e8,e9];(repeat (first|(refine⟨by omega,?_⟩)|intro _));refine hK _ ?_;clear K hK)|(with_reducible refine Zav ?_ ?_;(focus (simp (disch:=omega) only [go_sem,e7,e1,e8,e9];done)))|(with_reducible refine Zam ?_ ?_;(focus (simp (disch:=omega) only [go_sem,e7,e1,e8,e9];done))))
   rw [copI_t λj hj=>hd j (by omega)];simp (disch:=omega) only [go_sem]
 ·exact⟨Nat.zero_le _,by simp (disch:=omega) only [go_sem],by simp (disch:=omega) only [go_sem],by simp (disch:=omega) only [go_sem],by simp (disch:=omega) only [go_sem];rfl,by simp⟩
def outL (F:Nat→Int) (k:Nat):List AV:=(List.range k).map λi=>AV.v (.int .i64 (F i))
theorem Zlq (F:Nat→Int) (k:Nat):(outL F k).length=k:=by simp [outL]
theorem Zjf (F:Nat→Int) (k:Nat):outL F k++[AV.v (.int .i64 (F k))]=outL F (k+1):=by simp [outL,List.range_succ]
theorem Zlp (F:Nat→Int):[AV.v (.int .i64 (F 0))]=outL F (0+1):=by simp [outL,List.range_succ]
theorem Zjg (F:Nat→Int) (n:Nat):AV.sl 1 (outL F n)=ints ((List.range n).map F):=by simp [outL,ints,Function.comp_def]
theorem nil_wk {n:Nat} {F:Nat→Int} (h:n=0):Wk (.v (.slice none 0 0)) (ints ((List.range n).map F)):=by subst h;exact .nil 1
theorem mrMul' (a b:List Int) (ha:Wd a) (hb:Wd b):Pure Tryz.prog 116 [ints a,ints b] (if max a.length b.length=0 then .v (.slice none 0 0) else .sl 1 (outL (λi=>gI a i+gI b i) (max a.length b.length))):=by
 obtain⟨n,hn⟩:∃n,n=max a.length b.length:=⟨_,rfl⟩;have hal:=ha.1;have hbl:=hb.1;rw [←hn]
 have hcode:∀r:AV,(n=0→r=.v (.slice none 0 0))→(n≠0→r=.sl 1 (outL (λi=>gI a i+gI b i) n))→Pure Tryz.prog 116 [ints a,ints b] r:=by
  intro r hr0 hr1;unfold ints;refine Zaa (tok:=0) (rs:=[.tmp 4]) Tryz.func116 rfl Tryz.ntmps116 Tryz.results116 Tryz.call116 (by rfl) (by simp) ?_;(focus (refine wkap w_t w_t (w_r 0) ?_;(repeat' first|exact w_t|apply w_l);all_goals intros));refine Zag (ι:=Nat) (λk e m=>k≤n∧e 0=.sl 1 (a.map λn=>AV.v (.int .i64 n))∧e 1=.sl 1 (b.map λn=>AV.v (.int .i64 n))∧e 6=.v (.int .i64 k)∧(k=0→e 5=.v (.slice none 0 0))∧(k≠0→∃sv,e 5=.own 28 sv∧m 28=some (.row sv 3 1 (outL (λi=>gI a i+gI b i) k) 0))) (λk=>n - k) 0 (by rfl) ?_ ?_
  ·rintro k e m ⟨hk,e0,e1,e6,hz,hp⟩
   by_cases hlt:k < n
   ·have hxa:=Zfk a k;have hxb:=Zfk b k;have p1:=ha.2 k;have p2:=hb.2 k;by_cases hk0:k=0
    ·subst hk0;have e5:=hz rfl;have o1:=Zlp (λi=>gI a i+gI b i);by_cases hka:0 < a.length;all_goals
      (focus (refine wkap (w_4 e0 e1 e6 e5) (w_2 hxa hxb) (w_r 0) ?_;(repeat' first|exact w_t|apply w_l);all_goals intros));refine⟨0+1,⟨by omega,by exact gW e0,by exact gW e1,by exact gV e6,λh=>by omega,λ_=>⟨_,by exact gS,by(simp (disch:=omega) only [go_sem,←o1]<;>repeat' first|rfl|refine⟨?_,?_⟩)⟩⟩,by omega⟩
    ·obtain⟨sv,e5,em⟩:=hp hk0;have hol:=Zlq (λi=>gI a i+gI b i) k;have hos:=Zjf (λi=>gI a i+gI b i) k;by_cases hka:k < a.length;all_goals
      (focus (refine wkap (w_6 e0 e1 e6 e5 em hol) (w_2 hxa hxb) (w_r 0) ?_;(repeat' first|exact w_t|apply w_l);all_goals intros));refine⟨k+1,⟨by omega,by exact gW e0,by exact gW e1,by exact gV e6,λh=>by omega,λ_=>⟨_,by exact gS,by exact gW hos⟩⟩,by omega⟩
   ·have hk':k=n:=by omega
    subst hk';by_cases hk0:k=0
    ·have e5:=hz hk0;rw [hr0 hk0];(focus (refine wklp (w_4 e0 e1 e6 e5) w_t w_t (w_r 0) ?_;(repeat' first|exact w_t|apply w_l);all_goals intros))
    ·obtain⟨sv,e5,em⟩:=hp hk0;rw [hr1 hk0];(focus (refine wklp (w_5 e0 e1 e6 e5 em) w_t (w_1 em) (w_r 0) ?_;(repeat' first|exact w_t|apply w_l);all_goals intros))
  ·exact⟨Nat.zero_le _,by exact gC,by exact gC,by exact gS,λ_=>by exact gC,λh=>absurd rfl h⟩
 exact hcode _ (λh=>by rw [if_pos h]) (λh=>by rw [if_neg h])
theorem mrMul (a b:List Int) (ha:Wd a) (hb:Wd b):Pure Tryz.prog 116 [ints a,ints b] (ints (zipI (·+·) a b)):=by
 refine(mrMul' a b ha hb).wk ?_;split
 ·rename_i h;exact nil_wk h
 ·rw [Zjg];exact .refl _
theorem refLcm' (a b:List Int) (ha:Wd a) (hb:Wd b):Pure Tryz.prog 84 [ints a,ints b] (if max a.length b.length=0 then .v (.slice none 0 0) else .sl 1 (outL (λi=>max (gI a i) (gI b i)) (max a.length b.length))):=by
 obtain⟨n,hn⟩:∃n,n=max a.length b.length:=⟨_,rfl⟩;have hal:=ha.1;have hbl:=hb.1;rw [←hn]
 have hcode:∀r:AV,(n=0→r=.v (.slice none 0 0))→(n≠0→r=.sl 1 (outL (λi=>max (gI a i) (gI b i)) n))→Pure Tryz.prog 84 [ints a,ints b] r:=by
  intro r hr0 hr1;unfold ints;refine Zaa (tok:=0) (rs:=[.tmp 4]) Tryz.func84 rfl Tryz.ntmps84 Tryz.results84 Tryz.call84 (by rfl) (by simp) ?_;(focus (refine wkad w_t w_t w_t ?_;(repeat' first|exact w_t|apply w_l);all_goals intros));refine Zag (ι:=Nat) (λk e m=>k≤n∧e 0=.sl 1 (a.map λn=>AV.v (.int .i64 n))∧e 1=.sl 1 (b.map λn=>AV.v (.int .i64 n))∧e 6=.v (.int .i64 k)∧(k=0→e 5=.v (.slice none 0 0))∧(k≠0→∃sv,e 5=.own 28 sv∧m 28=some (.row sv 3 1 (outL (λi=>max (gI a i) (gI b i)) k) 0))) (λk=>n - k) 0 (by rfl) ?_ ?_
  ·rintro k e m ⟨hk,e0,e1,e6,hz,hp⟩
   by_cases hlt:k < n
   ·have hxa:=Zfk a k;have hxb:=Zfk b k;have p1:=ha.2 k;have p2:=hb.2 k;by_cases hk0:k=0
    ·subst hk0;have e5:=hz rfl;have o1:=Zlp (λi=>max (gI a i) (gI b i));by_cases hka:0 < a.length;all_goals
      (focus (refine wkad (w_4 e0 e1 e6 e5) (w_2 hxa hxb) w_t ?_;(repeat' first|exact w_t|apply w_l);all_goals intros));refine⟨0+1,⟨by omega,by exact gW e0,by exact gW e1,by exact gV e6,λh=>by omega,λ_=>⟨_,by exact gS,by(simp (disch:=omega) only [go_sem,←o1]<;>repeat' first|rfl|refine⟨?_,?_⟩)⟩⟩,by omega⟩
    ·obtain⟨sv,e5,em⟩:=hp hk0;have hol:=Zlq (λi=>max (gI a i) (gI b i)) k;have hos:=Zjf (λi=>max (gI a i) (gI b i)) k;by_cases hka:k < a.length;all_goals
      (focus (refine wkad (w_6 e0 e1 e6 e5 em hol) (w_2 hxa hxb) w_t ?_;(repeat' first|exact w_t|apply w_l);all_goals intros));refine⟨k+1,⟨by omega,by exact gW e0,by exact gW e1,by exact gV e6,λh=>by omega,λ_=>⟨_,by exact gS,by exact gW hos⟩⟩,by omega⟩
   ·have hk':k=n:=by omega
    subst hk';by_cases hk0:k=0
    ·have e5:=hz hk0;rw [hr0 hk0];(focus (refine wkld (w_4 e0 e1 e6 e5) w_t w_t w_t ?_;(repeat' first|exact w_t|apply w_l);all_goals intros))
    ·obtain⟨sv,e5,em⟩:=hp hk0;rw [hr1 hk0];(focus (refine wkld (w_5 e0 e1 e6 e5 em) w_t (w_1 em) w_t ?_;(repeat' first|exact w_t|apply w_l);all_goals intros))
  ·exact⟨Nat.zero_le _,by exact gC,by exact gC,by exact gS,λ_=>by exact gC,λh=>absurd rfl h⟩
 exact hcode _ (λh=>by rw [if_pos h]) (λh=>by rw [if_neg h])
theorem refLcm (a b:List Int) (ha:Wd a) (hb:Wd b):Pure Tryz.prog 84 [ints a,ints b] (ints (zipI max a b)):=by
 refine(refLcm' a b ha hb).wk ?_;split
 ·rename_i h;exact nil_wk h
 ·rw [Zjg];exact .refl _
def quoI (a b:List Int):List Int:=if divI b a=true then Zcx (zipI (· - ·) a b) else []
def quoR (a b:List Int):List Int:=if divI b a=true then Zcx ((List.range a.length).map λi=>gI a i - gI b i) else []
theorem monQuo (a b:List Int) (ha:Wd a) (hb:Wd b):Pure Tryz.prog 70 [ints a,ints b] (.tup [ints (quoI a b),.v (.bool (divI b a))]):=by
 have hal:=ha.1;have hbl:=hb.1;have h0:=Zkv b a hb.1;have h1:=Zh4 a b 121 (· - ·) ha.1 hb.1 λk _=>subF _ _ (by have:=ha.2 k;have:=hb.2 k;omega);have h2:=Zlx (zipI (· - ·) a b) (by rw [Zk8];omega);by_cases hd:divI b a=true
 ·unfold quoI;rw [if_pos hd,hd];rw [hd] at h0;unfold ints at *;refine Zaa (tok:=0) (rs:=[.tmp 4,.tmp 5]) Tryz.func70 rfl Tryz.ntmps70 Tryz.results70 Tryz.call70 (by rfl) (by simp) ?_
  (repeat' (first|(with_reducible first|refine Za6 ?_|refine Zak ?_|refine Zar ?_|refine Za7 ?_|refine Zas ?_|refine Zap ?_|refine Zac ?_|refine Zab ?_|refine t_in ?_|refine Zae ?_|refine Zad ?_|refine Zaq ?_|refine Zaj ?_|refine Zoz ?_|refine Zjj ?_|refine Zjk ?_|refine Zo0 ?_|refine Zjl ?_|refine Zov ?_|refine Zje ?_|refine Zow ?_|refine c_t ?_|refine c_f ?_)|((with_reducible first|refine Za1 ?_);intro K hK)|((with_reducible first|refine Zrf ?_|refine Zpn ?_);refine hK _ ?_;clear K hK)|((with_reducible first|refine Zbf ?_);intro sv)|(first|refine g_y rfl ?_|refine g_n rfl ?_|refine g_nN rfl ?_)|((with_reducible first|refine Zig ?_ ?_|refine Zj1 ?_ ?_);(focus (first|omega|(simp (disch:=omega) only [go_sem];first|done|omega))))|((with_reducible first|apply o_op|apply Zo1|apply o_g|apply Zox|apply r_c);(focus (simp (disch:=omega) only [go_sem];rfl)))));((first|(with_reducible refine Znc (h0) ?_ ?_ ?_ ?_)|(with_reducible refine Zls (h0) ?_ ?_ ?_ ?_)|((with_reducible apply Zn2 (c:=h0));(focus rfl)));(focus (first|rfl|(simp (disch:=omega) only [go_sem];done)));(focus (simp (disch:=omega) only [go_sem];done));(focus (first|rfl|(simp (disch:=omega) only [go_sem];done))));(repeat' (first|(with_reducible first|refine Za6 ?_|refine Zak ?_|refine Zar ?_|refine Za7 ?_|refine Zas ?_|refine Zap ?_|refine Zac ?_|refine Zab ?_|refine t_in ?_|refine Zae ?_|refine Zad ?_|refine Zaq ?_|refine Zaj ?_|refine Zoz ?_|refine Zjj ?_|refine Zjk ?_|refine Zo0 ?_|refine Zjl ?_|refine Zov ?_|refine Zje ?_|refine Zow ?_|refine c_t ?_|refine c_f ?_)|((with_reducible first|refine Za1 ?_);intro K hK)|((with_reducible first|refine Zrf ?_|refine Zpn ?_);refine hK _ ?_;clear K hK)|((with_reducible first|refine Zbf ?_);intro sv)|(first|refine g_y rfl ?_|refine g_n rfl ?_|refine g_nN rfl ?_)|((with_reducible first|refine Zig ?_ ?_|refine Zj1 ?_ ?_);(focus (first|omega|(simp (disch:=omega) only [go_sem];first|done|omega))))|((with_reducible first|apply o_op|apply Zo1|apply o_g|apply Zox|apply r_c);(focus (simp (disch:=omega) only [go_sem];rfl)))));((first|(with_reducible refine Znc (h1) ?_ ?_ ?_ ?_)|(with_reducible refine Zls (h1) ?_ ?_ ?_ ?_)|((with_reducible apply Zn2 (c:=h1));(focus rfl)));(focus (first|rfl|(simp (disch:=omega) only [go_sem];done)));(focus (simp (disch:=omega) only [go_sem];done));(focus (first|rfl|(simp (disch:=omega) only [go_sem];done))));(repeat' (first|(with_reducible first|refine Za6 ?_|refine Zak ?_|refine Zar ?_|refine Za7 ?_|refine Zas ?_|refine Zap ?_|refine Zac ?_|refine Zab ?_|refine t_in ?_|refine Zae ?_|refine Zad ?_|refine Zaq ?_|refine Zaj ?_|refine Zoz ?_|refine Zjj ?_|refine Zjk ?_|refine Zo0 ?_|refine Zjl ?_|refine Zov ?_|refine Zje ?_|refine Zow ?_|refine c_t ?_|refine c_f ?_)|((with_reducible first|refine Za1 ?_);intro K hK)|((with_reducible first|refine Zrf ?_|refine Zpn ?_);refine hK _ ?_;clear K hK)|((with_reducible first|refine Zbf ?_);intro sv)|(first|refine g_y rfl ?_|refine g_n rfl ?_|refine g_nN rfl ?_)|((with_reducible first|refine Zig ?_ ?_|refine Zj1 ?_ ?_);(focus (first|omega|(simp (disch:=omega) only [go_sem];first|done|omega))))|((with_reducible first|apply o_op|apply Zo1|apply o_g|apply Zox|apply r_c);(focus (simp (disch:=omega) only [go_sem];rfl)))));((first|(with_reducible refine Znc (h2) ?_ ?_ ?_ ?_)|(with_reducible refine Zls (h2) ?_ ?_ ?_ ?_)|((with_reducible apply Zn2 (c:=h2));(focus rfl)));(focus (first|rfl|(simp (disch:=omega) only [go_sem];done)));(focus (simp (disch:=omega) only [go_sem];done));(focus (first|rfl|(simp (disch:=omega) only [go_sem];done))));(repeat' (first|(with_reducible first|refine Za6 ?_|refine Zak ?_|refine Zar ?_|refine Za7 ?_|refine Zas ?_|refine Zap ?_|refine Zac ?_|refine Zab ?_|refine t_in ?_|refine Zae ?_|refine Zad ?_|refine Zaq ?_|refine Zaj ?_|refine Zoz ?_|refine Zjj ?_|refine Zjk ?_|refine Zo0 ?_|refine Zjl ?_|refine Zov ?_|refine Zje ?_|refine Zow ?_|refine c_t ?_|refine c_f ?_)|((with_reducible first|refine Za1 ?_);intro K hK)|((with_reducible first|refine Zrf ?_|refine Zpn ?_);refine hK _ ?_;clear K hK)|((with_reducible first|refine Zbf ?_);intro sv)|(first|refine g_y rfl ?_|refine g_n rfl ?_|refine g_nN rfl ?_)|((with_reducible first|refine Zig ?_ ?_|refine Zj1 ?_ ?_);(focus (first|omega|(simp (disch:=omega) only [go_sem];first|done|omega))))|((with_reducible first|apply o_op|apply Zo1|apply o_g|apply Zox|apply r_c);(focus (simp (disch:=omega) only [go_sem];rfl)))))
  simp (disch:=omega) only [go_sem]
 ·have hd':divI b a=false:=by simpa using hd
  refine Pure.wk (r:=.tup [.v (.slice none 0 0),.v (.bool (divI b a))]) ?_ ?_
  ·rw [hd'];rw [hd'] at h0;unfold ints at *;refine Zaa (tok:=0) (rs:=[.tmp 4,.tmp 5]) Tryz.func70 rfl Tryz.ntmps70 Tryz.results70 Tryz.call70 (by rfl) (by simp) ?_
   (repeat' (first|(with_reducible first|refine Za6 ?_|refine Zak ?_|refine Zar ?_|refine Za7 ?_|refine Zas ?_|refine Zap ?_|refine Zac ?_|refine Zab ?_|refine t_in ?_|refine Zae ?_|refine Zad ?_|refine Zaq ?_|refine Zaj ?_|refine Zoz ?_|refine Zjj ?_|refine Zjk ?_|refine Zo0 ?_|refine Zjl ?_|refine Zov ?_|refine Zje ?_|refine Zow ?_|refine c_t ?_|refine c_f ?_)|((with_reducible first|refine Za1 ?_);intro K hK)|((with_reducible first|refine Zrf ?_|refine Zpn ?_);refine hK _ ?_;clear K hK)|((with_reducible first|refine Zbf ?_);intro sv)|(first|refine g_y rfl ?_|refine g_n rfl ?_|refine g_nN rfl ?_)|((with_reducible first|refine Zig ?_ ?_|refine Zj1 ?_ ?_);(focus (first|omega|(simp (disch:=omega) only [go_sem];first|done|omega))))|((with_reducible first|apply o_op|apply Zo1|apply o_g|apply Zox|apply r_c);(focus (simp (disch:=omega) only [go_sem];rfl)))));((first|(with_reducible refine Znc (h0) ?_ ?_ ?_ ?_)|(with_reducible refine Zls (h0) ?_ ?_ ?_ ?_)|((with_reducible apply Zn2 (c:=h0));(focus rfl)));(focus (first|rfl|(simp (disch:=omega) only [go_sem];done)));(focus (simp (disch:=omega) only [go_sem];done));(focus (first|rfl|(simp (disch:=omega) only [go_sem];done))));(repeat' (first|(with_reducible first|refine Za6 ?_|refine Zak ?_|refine Zar ?_|refine Za7 ?_|refine Zas ?_|refine Zap ?_|refine Zac ?_|refine Zab ?_|refine t_in ?_|refine Zae ?_|refine Zad ?_|refine Zaq ?_|refine Zaj ?_|refine Zoz ?_|refine Zjj ?_|refine Zjk ?_|refine Zo0 ?_|refine Zjl ?_|refine Zov ?_|refine Zje ?_|refine Zow ?_|refine c_t ?_|refine c_f ?_)|((with_reducible first|refine Za1 ?_);intro K hK)|((with_reducible first|refine Zrf ?_|refine Zpn ?_);refine hK _ ?_;clear K hK)|((with_reducible first|refine Zbf ?_);intro sv)|(first|refine g_y rfl ?_|refine g_n rfl ?_|refine g_nN rfl ?_)|((with_reducible first|refine Zig ?_ ?_|refine Zj1 ?_ ?_);(focus (first|omega|(simp (disch:=omega) only [go_sem];first|done|omega))))|((with_reducible first|apply o_op|apply Zo1|apply o_g|apply Zox|apply r_c);(focus (simp (disch:=omega) only [go_sem];rfl)))))
   simp (disch:=omega) only [go_sem]
  ·unfold quoI;rw [if_neg hd];exact(Wk.nil 1).pair
theorem refQuo (a b:List Int) (ha:Wd a) (hb:Wd b):Pure Tryz.prog 77 [ints a,ints b] (.tup [ints (quoR a b),.v (.bool (divI b a))]):=by
 have hal:=ha.1;have hbl:=hb.1;have h0:=Zko b a hb.1;have hc:=refCut ((List.range a.length).map λi=>gI a i - gI b i) (by simpa using ha.1);by_cases hd:divI b a=true
 ·have hq:quoR a b=Zcx ((List.range a.length).map λi=>gI a i - gI b i):=by unfold quoR;rw [if_pos hd]
  rw [←hq] at hc;rw [←Zjg] at hc;rw [hd];rw [hd] at h0;unfold ints at h0 hc ⊢;refine Zaa (tok:=0) Tryz.func77 rfl Tryz.ntmps77 Tryz.results77 Tryz.call77 (by rfl) (by simp) ?_;(focus (refine wkad w_t (w_1 h0) w_t ?_;(repeat' first|exact w_t|apply w_l);all_goals intros));refine Zag (ι:=Nat) (λk e m=>k≤a.length∧e 0=.sl 1 (a.map λn=>AV.v (.int .i64 n))∧e 1=.sl 1 (b.map λn=>AV.v (.int .i64 n))∧e 7=.v (.int .i64 k)∧(k=0→e 6=.v (.slice none 0 0))∧(k≠0→∃sv,e 6=.own 28 sv∧m 28=some (.row sv 3 1 (outL (λi=>gI a i - gI b i) k) 0))) (λk=>a.length - k) 0 (by rfl) ?_ ?_
  ·rintro k e m ⟨hk,e0,e1,e7,hz,hp⟩
   by_cases hlt:k < a.length
   ·have hx:=Zfk b k;have p1:=ha.2 k;have p2:=hb.2 k;by_cases hk0:k=0
    ·subst hk0;have e6:=hz rfl;have o1:=Zlp (λi=>gI a i - gI b i);(focus (refine wkad (w_4 e0 e1 e7 e6) (w_1 hx) (w_1 (w_d 7 [(7,.v (.int .i64 (gI b 0)))] [10,11] [27])) ?_;(repeat' first|exact w_t|apply w_l);all_goals intros));refine⟨0+1,⟨by omega,by exact gW e0,by exact gW e1,by exact gS,λh=>by omega,λ_=>⟨_,by exact gC,by(simp (disch:=omega) only [go_sem,←o1]<;>repeat' first|rfl|refine⟨?_,?_⟩)⟩⟩,by omega⟩
    ·obtain⟨sv,e6,em⟩:=hp hk0;have hol:=Zlq (λi=>gI a i - gI b i) k;have hos:=Zjf (λi=>gI a i - gI b i) k;(focus (refine wkad (w_6 e0 e1 e7 e6 em hol) (w_1 hx) (w_1 (w_d 7 [(7,.v (.int .i64 (gI b k)))] [10,11] [27])) ?_;(repeat' first|exact w_t|apply w_l);all_goals intros));refine⟨k+1,⟨by omega,by exact gW e0,by exact gW e1,by exact gS,λh=>by omega,λ_=>⟨_,by exact gC,by exact gW hos⟩⟩,by omega⟩
   ·have hk':k=a.length:=by omega
    by_cases hk0:k=0
    ·have e6:=hz hk0;have ha0:a.length=0:=by omega
     rw [ha0] at hc;have hc:=hc.nil1;(focus (refine wkld (w_4 e0 e1 e7 e6) (w_1 hc) w_t w_t ?_;(repeat' first|exact w_t|apply w_l);all_goals intros))
    ·obtain⟨sv,e6,em⟩:=hp hk0;subst hk';(focus (refine wkax (w_5 e0 e1 e7 e6 em) w_t w_t (w_1 hc) w_t w_t (w_r 0) ?_;(repeat' first|exact w_t|apply w_l);all_goals intros))
     (all_goals (try simp (disch:=omega) only [go_sem,em,decide_eq_true,decide_eq_false,if_pos,if_neg,Int.reduceAdd,Int.reduceSub,Int.reduceToNat,Int.zero_add]));(all_goals first|done|rfl|(congr 2;first|done|omega|(rw [Bool.eq_iff_iff];simp only [bool_to_prop,Bool.false_eq_true,iff_true,true_iff,iff_false,false_iff];omega))|skip)
  ·exact⟨Nat.zero_le _,by exact gC,by exact gC,by exact gC,λ_=>by exact gC,λh=>absurd rfl h⟩
 ·have hd':divI b a=false:=by simpa using hd
  refine Pure.wk (r:=.tup [.v (.slice none 0 0),.v (.bool (divI b a))]) ?_ ?_
  ·rw [hd'];rw [hd'] at h0;unfold ints at h0 ⊢;refine Zaa (tok:=0) Tryz.func77 rfl Tryz.ntmps77 Tryz.results77 Tryz.call77 (by rfl) (by simp) ?_;(focus (refine wkad w_t (w_1 h0) w_t ?_;(repeat' first|exact w_t|apply w_l);all_goals intros));simp (disch:=omega) only [go_sem]
  ·unfold quoR;rw [if_neg hd];exact(Wk.nil 1).pair
section
attribute [local go_sem] Tryz.underlying4
theorem sz23:szOf Tryz.prog 46=some 1:=by kernel_rfl
attribute [local go_sem] sz23
theorem Zms (l:List Int):(Zcx l).length≤l.length:=by unfold Zcx;rw [List.length_take];omega
def Zne (l:List Int):List Int:=if Zb8 (Zcx l)=true then Zcx l else []
theorem monNorm (l:List Int) (hs:l.length≤1000):Pure Tryz.prog 76 [ints l] (ints (Zne l)):=by
 have h1:=Zlx l hs;have h2:=Zly (Zcx l);have hl:=Zms l;by_cases hr:Zb8 (Zcx l)=true
 ·unfold Zne;rw [if_pos hr];rw [hr] at h2;unfold ints at *;refine Zaa (tok:=0) (rs:=[.tmp 2]) Tryz.func76 rfl Tryz.ntmps76 Tryz.results76 Tryz.call76 (by rfl) (by simp) ?_;(focus (refine wkld w_t (w_2 h1 h2) w_t w_t ?_;(repeat' first|exact w_t|apply w_l);all_goals intros))
 ·have hr':Zb8 (Zcx l)=false:=by simpa using hr
  rw [hr'] at h2;refine Pure.wk (r:=.v (.slice none 0 0)) ?_ (by unfold Zne;rw [if_neg hr];exact .nil 1);unfold ints at *;refine Zaa (tok:=0) (rs:=[.tmp 2]) Tryz.func76 rfl Tryz.ntmps76 Tryz.results76 Tryz.call76 (by rfl) (by simp) ?_;(focus (refine wkld w_t (w_2 h1 h2) w_t w_t ?_;(repeat' first|exact w_t|apply w_l);all_goals intros))
theorem mrNorm (l:List Int) (hs:l.length≤1000):Pure Tryz.prog 133 [ints l] (ints (Zne l)):=by
 have h1:=refCut l hs;have h2:=Zp7 (Zcx l);have hl:=Zms l;by_cases hr:Zb8 (Zcx l)=true
 ·unfold Zne;rw [if_pos hr];rw [hr] at h2;unfold ints at *;refine Zaa (tok:=0) (rs:=[.tmp 2]) Tryz.func133 rfl Tryz.ntmps133 Tryz.results133 Tryz.call133 (by rfl) (by simp) ?_;(focus (refine wkld w_t (w_2 h1 h2) w_t w_t ?_;(repeat' first|exact w_t|apply w_l);all_goals intros))
 ·have hr':Zb8 (Zcx l)=false:=by simpa using hr
  rw [hr'] at h2;refine Pure.wk (r:=.v (.slice none 0 0)) ?_ (by unfold Zne;rw [if_neg hr];exact .nil 1);unfold ints at *;refine Zaa (tok:=0) (rs:=[.tmp 2]) Tryz.func133 rfl Tryz.ntmps133 Tryz.results133 Tryz.call133 (by rfl) (by simp) ?_;(focus (refine wkld w_t (w_2 h1 h2) w_t w_t ?_;(repeat' first|exact w_t|apply w_l);all_goals intros))
def lt1 (x y:Int):Int:=if x < y then -1 else 1
def lexC (a b:List Int):Nat→Int
 | 0=>0
 | n+1=>if gI a n=gI b n then lexC a b n else lt1 (gI a n) (gI b n)
def cmpI (a b:List Int) (o:Int):Int :=
 if o=1∧sumT a a.length≠sumT b b.length then lt1 (sumT a a.length) (sumT b b.length) else lexC a b (max a.length b.length)
theorem Znq {a b:List Int} {k:Nat} (h0:0 < k) (h:gI a (k - 1)=gI b (k - 1)):lexC a b (k - 1)=lexC a b k:=by
 cases k with
 | zero=>omega
 | succ k=>simp only [lexC];rw [if_pos (by simpa using h)];rfl
theorem Znr {a b:List Int} {k:Nat} (h0:0 < k) (h:gI a (k - 1)≠gI b (k - 1)):lexC a b k=lt1 (gI a (k - 1)) (gI b (k - 1)):=by
 cases k with
 | zero=>omega
 | succ k=>simp only [lexC];rw [if_neg (by simpa using h)];rfl
theorem Zsd {x y:Int} (h:x≠y):sgn (x - y)=lt1 x y:=by
 unfold sgn lt1;by_cases h1:x < y
 ·rw [if_pos (by omega),if_pos h1]
 ·rw [if_neg (by omega),if_pos (by omega),if_neg h1]
theorem Zqk (a b:List Int) (o:Int) (ha:Sm a) (hb:Sm b):Pure Tryz.prog 51 [ints a,ints b,.v (.int .i64 o)] (.v (.int .i64 (cmpI a b o))):=by
 have hal:=ha.1;have hbl:=hb.1;have d1:=Znk a ha;have d2:=Znk b hb;unfold ints at *;refine Zaa (tok:=0) (rs:=[.tmp 6]) Tryz.func51 rfl Tryz.ntmps51 Tryz.results51 Tryz.call51 (by rfl) (by simp) ?_;obtain⟨n,hn⟩:∃n,n=max a.length b.length:=⟨_,rfl⟩;have hmx:max (a.length:Int) (b.length:Int)=(n:Int):=by omega
 by_cases hbig:o=1∧sumT a a.length≠sumT b b.length
 ·obtain⟨ho,hd⟩:=hbig;have hc:cmpI a b o=lt1 (sumT a a.length) (sumT b b.length):=by unfold cmpI;rw [if_pos ⟨ho,hd⟩]
  rw [hc];unfold lt1;by_cases hlt:sumT a a.length < sumT b b.length
  ·rw [if_pos hlt];(focus (refine wklp w_t (w_2 d1 d2) w_t (w_r 0) ?_;(repeat' first|exact w_t|apply w_l);all_goals intros))
  ·rw [if_neg hlt];(focus (refine wklp w_t (w_2 d1 d2) w_t (w_r 0) ?_;(repeat' first|exact w_t|apply w_l);all_goals intros))
 ·have hc:cmpI a b o=lexC a b n:=by unfold cmpI;rw [if_neg hbig,hn]
  rw [hc];have loop:∀(e:Nat→AV) (m:Mem),e 0=.sl 1 (a.map λn=>AV.v (.int .i64 n))→e 1=.sl 1 (b.map λn=>AV.v (.int .i64 n))→True:=λ_ _ _ _=>trivial;have hd0:o=1→sumT a a.length=sumT b b.length:=λho=>Decidable.byContradiction λh=>hbig ⟨ho,h⟩;by_cases ho:o=1;all_goals
   first
   | (have hd:=hd0 ho
      (focus (refine wkap (w_1 hmx) (w_2 d1 d2) (w_r 0) ?_;(repeat' first|exact w_t|apply w_l);all_goals intros)))
   | ((focus (refine wkap (w_1 hmx) w_t (w_r 0) ?_;(repeat' first|exact w_t|apply w_l);all_goals intros)))
   refine Zag (ι:=Nat) (λk e m=>k≤n∧e 0=.sl 1 (a.map λn=>AV.v (.int .i64 n))∧e 1=.sl 1 (b.map λn=>AV.v (.int .i64 n))∧e 9=.v (.int .i64 ((k:Int) - 1))∧lexC a b k=lexC a b n) (λk=>k) n (by rfl) ?_ ?_
   ·rintro k e m ⟨hk,e0,e1,e9,hl⟩
    by_cases hk0:0 < k
    ·have hp:=Zhx hk0;rw [hp] at e9;have x1:=Zlz a (k - 1);have x2:=Zlz b (k - 1);by_cases hx:gI a (k - 1)=gI b (k - 1)
     ·(focus (refine wkap (w_3 e0 e1 e9) (w_2 x1 x2) (w_r 0) ?_;(repeat' first|exact w_t|apply w_l);all_goals intros));exact⟨k - 1,⟨by omega,by exact gW e0,by exact gW e1,by exact gW e9,by rw [Znq hk0 hx,hl]⟩,by omega⟩
     ·rw [←hl,Znr hk0 hx];unfold lt1;by_cases hlt:gI a (k - 1) < gI b (k - 1)
      ·rw [if_pos hlt];(focus (refine wklp (w_3 e0 e1 e9) (w_2 x1 x2) w_t (w_r 0) ?_;(repeat' first|exact w_t|apply w_l);all_goals intros))
      ·rw [if_neg hlt];(focus (refine wklp (w_3 e0 e1 e9) (w_2 x1 x2) w_t (w_r 0) ?_;(repeat' first|exact w_t|apply w_l);all_goals intros))
    ·have hk':k=0:=by omega
     subst hk';rw [←hl,show lexC a b 0=0 from rfl];(focus (refine wklp (w_3 e0 e1 e9) w_t w_t (w_r 0) ?_;(repeat' first|exact w_t|apply w_l);all_goals intros))
   ·exact⟨Nat.le_refl _,by exact gC,by exact gC,by exact gW hmx,rfl⟩
end
attribute [local go_sem] Tryz.underlying4 sz23
theorem mrCmp (a b:List Int) (o:Int) (ha:Sm a) (hb:Sm b):Pure Tryz.prog 62 [ints a,ints b,.v (.int .i64 o)] (.v (.int .i64 (cmpI a b o))):=by
 have hal:=ha.1;have hbl:=hb.1;have d1:=Zi8 a ha;have d2:=Zi8 b hb;have q1:=Zi1 ha a.length;have q2:=Zi1 hb b.length;unfold ints at *;refine Zaa (tok:=0) (rs:=[.tmp 6]) Tryz.func62 rfl Tryz.ntmps62 Tryz.results62 Tryz.call62 (by rfl) (by simp) ?_;obtain⟨n,hn⟩:∃n,n=max a.length b.length:=⟨_,rfl⟩;have hmx:max (a.length:Int) (b.length:Int)=(n:Int):=by omega
 by_cases hbig:o=1∧sumT a a.length≠sumT b b.length
 ·obtain⟨ho,hd⟩:=hbig;have hc:cmpI a b o=lt1 (sumT a a.length) (sumT b b.length):=by unfold cmpI;rw [if_pos ⟨ho,hd⟩]
  rw [hc];have hs:=Zsm (sumT a a.length - sumT b b.length);rw [Zsd hd] at hs;(focus (refine wklp w_t (w_5 d1 d2 d1 d2 hs) w_t (w_r 0) ?_;(repeat' first|exact w_t|apply w_l);all_goals intros))
 ·have hc:cmpI a b o=lexC a b n:=by unfold cmpI;rw [if_neg hbig,hn]
  rw [hc];have hd0:o=1→sumT a a.length=sumT b b.length:=λho=>Decidable.byContradiction λh=>hbig ⟨ho,h⟩;by_cases ho:o=1;all_goals
   first
   | (have hd:=hd0 ho
      (focus (refine wkap (w_1 hmx) (w_2 d1 d2) (w_r 0) ?_;(repeat' first|exact w_t|apply w_l);all_goals intros)))
   | ((focus (refine wkap (w_1 hmx) w_t (w_r 0) ?_;(repeat' first|exact w_t|apply w_l);all_goals intros)))
   refine Zag (ι:=Nat) (λk e m=>k≤n∧e 0=.sl 1 (a.map λn=>AV.v (.int .i64 n))∧e 1=.sl 1 (b.map λn=>AV.v (.int .i64 n))∧e 7=.v (.int .i64 ((k:Int) - 1))∧lexC a b k=lexC a b n) (λk=>k) n (by rfl) ?_ ?_
   ·rintro k e m ⟨hk,e0,e1,e9,hl⟩
    by_cases hk0:0 < k
    ·have hp:=Zhx hk0;rw [hp] at e9;have x1:=Zfk a (k - 1);have x2:=Zfk b (k - 1);have p1:=ha.2 (k - 1);have p2:=hb.2 (k - 1);by_cases hx:gI a (k - 1)=gI b (k - 1)
     ·(focus (refine wkap (w_3 e0 e1 e9) (w_2 x1 x2) (w_r 0) ?_;(repeat' first|exact w_t|apply w_l);all_goals intros));exact⟨k - 1,⟨by omega,by exact gW e0,by exact gW e1,by exact gW e9,by rw [Znq hk0 hx,hl]⟩,by omega⟩
     ·have hs:=Zsm (gI a (k - 1) - gI b (k - 1));rw [Zsd hx] at hs;rw [←hl,Znr hk0 hx];(focus (refine wklp (w_3 e0 e1 e9) (w_5 x1 x2 x1 x2 hs) w_t (w_r 0) ?_;(repeat' first|exact w_t|apply w_l);all_goals intros))
    ·have hk':k=0:=by omega
     subst hk';rw [←hl,show lexC a b 0=0 from rfl];(focus (refine wklp (w_3 e0 e1 e9) w_t w_t (w_r 0) ?_;(repeat' first|exact w_t|apply w_l);all_goals intros))
   ·exact⟨Nat.le_refl _,by exact gC,by exact gC,by exact gW hmx,rfl⟩
def low (x:Int):Bool:=!decide (262144 < x)
def rightL (ls:List (List Int)):Bool:=ls.all λl=>Zb8 l && l.all low
def gLs (ls:List (List Int)) (k:Nat):List Int:=ls.getD k []
end Go.Proofs.YtimmnimikmnljaaGreat
namespace Go.Proofs.YtimmnimikmnljaaGreat
open Go Go.RowKit Go.Pg
def Can (l:List Int):Prop:=(∀j,0≤gI l j)∧(l.length=0∨gI l (l.length - 1)≠0)
def LTm (a b:List Int):Prop:=∃k,gI a k < gI b k∧∀j,k < j→gI a j=gI b j
def ltM (a b:List Int):Prop:=lexC a b (max a.length b.length)=-1
instance:DecidableRel ltM:=λa b=>inferInstanceAs (Decidable (lexC a b (max a.length b.length)=-1))
theorem Ztd {a b:List Int}:∀n,lexC a b n=-1↔∃k,k < n∧gI a k < gI b k∧∀j,k < j→j < n→gI a j=gI b j
 | 0=>by
   constructor
   ·intro h;exact absurd h (by show ¬(0:Int)=-1;omega)
   ·rintro ⟨k,h,_⟩;omega
 | n+1=>by
   unfold lexC;by_cases h:gI a n=gI b n
   ·rw [if_pos h,Ztd n];constructor
    ·rintro ⟨k,h1,h2,h3⟩
     exact⟨k,by omega,h2,λj h4 h5=>by by_cases hj:j=n;subst hj;exact h;exact h3 j h4 (by omega)⟩
    ·rintro ⟨k,h1,h2,h3⟩
     have:k≠n:=by rintro rfl;omega
     exact⟨k,by omega,h2,λj h4 h5=>h3 j h4 (by omega)⟩
   ·rw [if_neg h];unfold lt1;constructor
    ·intro h1;by_cases h2:gI a n < gI b n
     ·exact⟨n,by omega,h2,λj h3 h4=>by omega⟩
     ·rw [if_neg h2] at h1;omega
    ·rintro ⟨k,h1,h2,h3⟩
     by_cases hk:k=n
     ·subst hk;rw [if_pos h2]
     ·exact absurd (h3 n (by omega) (by omega)) h
theorem Zf7 {a b:List Int}:ltM a b↔LTm a b:=by
 unfold ltM LTm;rw [Ztd];constructor
 ·rintro ⟨k,h1,h2,h3⟩
  refine⟨k,h2,λj h4=>?_⟩;by_cases hj:j < max a.length b.length
  ·exact h3 j h4 hj
  ·rw [Zbi (by omega),Zbi (by omega)]
 ·rintro ⟨k,h2,h3⟩
  refine⟨k,?_,h2,λj h4 _=>h3 j h4⟩;by_cases hk:k < max a.length b.length
  ·exact hk
  ·rw [Zbi (by omega),Zbi (by omega)] at h2;omega
theorem Zjr {a b:List Int}:∀n,(∀j,j < n→gI a j=gI b j)→lexC a b n=0
 | 0,_=>rfl
 | n+1,h=>by unfold lexC;rw [if_pos (h n (by omega)),Zjr n λj hj=>h j (by omega)]
theorem Zfd {a b:List Int}:∀n,lexC a b n=0∧(∀j,j < n→gI a j=gI b j)∨lexC a b n=-1∨lexC a b n=1
 | 0=>.inl ⟨rfl,λj h=>by omega⟩
 | n+1=>by
   unfold lexC;by_cases h:gI a n=gI b n
   ·rw [if_pos h];rcases @Zfd a b n with⟨h1,h2⟩ | h1
    ·exact .inl ⟨h1,λj hj=>by by_cases e:j=n;subst e;exact h;exact h2 j (by omega)⟩
    ·exact .inr h1
   ·rw [if_neg h];unfold lt1;split
    ·exact .inr (.inl rfl)
    ·exact .inr (.inr rfl)
theorem Zgq {a b:List Int}:∀n,lexC b a n=- lexC a b n
 | 0=>rfl
 | n+1=>by
   unfold lexC;by_cases h:gI a n=gI b n
   ·rw [if_pos h,if_pos h.symm,Zgq n]
   ·rw [if_neg h,if_neg (λe=>h e.symm)];unfold lt1;by_cases h1:gI a n < gI b n
    ·rw [if_pos h1,if_neg (by omega)];rfl
    ·rw [if_neg h1,if_pos (by omega)]
theorem Zmj {a b:List Int} (ha:Can a) (hb:Can b) (h:∀j,gI a j=gI b j):a=b:=by
 have hl:a.length=b.length:=by
  have h1:=h (a.length - 1);have h2:=h (b.length - 1);rcases Nat.lt_trichotomy a.length b.length with hl | hl | hl
  ·rcases hb.2 with hb0 | hb0
   ·omega
   ·rw [←h2,Zbi (by omega)] at hb0;exact absurd rfl hb0
  ·exact hl
  ·rcases ha.2 with ha0 | ha0
   ·omega
   ·rw [h1,Zbi (by omega)] at ha0;exact absurd rfl ha0
 refine List.ext_getElem hl λj h1 h2=>?_;have:=h j
 rwa [Zfr h1,Zfr h2] at this
theorem ordM:Go.Pol.KO Can ltM where
 irr x h:=by obtain⟨k,h1,_⟩:=Zf7.1 h;omega
 tr x y z h g:=by
  obtain⟨k,h1,h2⟩:=Zf7.1 h;obtain⟨i,g1,g2⟩:=Zf7.1 g;rw [Zf7];rcases Nat.lt_trichotomy k i with h3 | h3 | h3
  ·exact⟨i,by rw [h2 i h3];exact g1,λj hj=>by rw [h2 j (by omega),g2 j hj]⟩
  ·subst h3;exact⟨k,by omega,λj hj=>by rw [h2 j hj,g2 j hj]⟩
  ·exact⟨k,by rw [←g2 k h3];exact h1,λj hj=>by rw [h2 j hj,g2 j (by omega)]⟩
 tri x y hx hy:=by
  rcases @Zfd x y (max x.length y.length) with⟨_,h⟩ | h | h
  ·refine .inr (.inl (Zmj hx hy λj=>?_));by_cases hj:j < max x.length y.length
   ·exact h j hj
   ·rw [Zbi (by omega),Zbi (by omega)]
  ·exact .inl h
  ·refine .inr (.inr ?_);unfold ltM;rw [Nat.max_comm,Zgq,h]
theorem Zdi (F:Int→Int→Int) (h0:F 0 0=0) (a b:List Int) (j:Nat):gI (zipI F a b) j=F (gI a j) (gI b j):=by
 by_cases h:j < max a.length b.length
 ·rw [Zfr (by unfold zipI;simpa using h)];unfold zipI;simp only [List.getElem_map,List.getElem_range]
 ·rw [Zbi (by unfold zipI;simp only [List.length_map,List.length_range];omega),Zbi (by omega),Zbi (by omega),h0]
abbrev mulM (a b:List Int):List Int:=zipI (·+·) a b
theorem Zd6 (a b:List Int):(mulM a b).length=max a.length b.length:=by simp [mulM,zipI]
theorem mulK:Go.Pol.KM Can ltM mulM where
 comm x y:=by
  unfold mulM zipI;rw [Nat.max_comm];exact List.map_congr_left λi _=>Int.add_comm _ _
 dom x y hx hy:=by
  refine⟨λj=>by rw [Zdi _ rfl];have:=hx.1 j;have:=hy.1 j;omega,?_⟩;rw [Zd6,Zdi _ rfl];have a1:=hx.1 (max x.length y.length - 1);have b1:=hy.1 (max x.length y.length - 1);rcases Nat.le_total x.length y.length with h | h
  ·rw [Nat.max_eq_right h] at *;rcases hy.2 with h1 | h1
   ·exact .inl h1
   ·exact .inr (by omega)
  ·rw [Nat.max_eq_left h] at *;rcases hx.2 with h1 | h1
   ·exact .inl h1
   ·exact .inr (by omega)
 mono x y z _ _ _ h:=by
  obtain⟨k,h1,h2⟩:=Zf7.1 h;rw [Zf7];exact⟨k,by rw [Zdi _ rfl,Zdi _ rfl];omega,λj hj=>by rw [Zdi _ rfl,Zdi _ rfl,h2 j hj]⟩
def mvN (v:Nat→Rat) (m:List Int):Nat→Rat
 | 0=>1
 | n+1=>mvN v m n*v n ^ (gI m n).toNat
def mv (v:Nat→Rat) (m:List Int):Rat:=mvN v m m.length
end Go.Proofs.YtimmnimikmnljaaGreat
namespace Go.Pol
def evl {α:Type} (φ:α→Rat):List (Rat × α)→Rat
 | []=>0
 | t :: p=>t.1*φ t.2+evl φ p
section
variable {α:Type} {D:α→Prop} {lt:α→α→Prop} [DecidableRel lt]
theorem evl_addP (o:KO D lt) (φ:α→Rat) {p q:List (Rat × α)} (hp:∀t∈p,D t.2) (hq:∀t∈q,D t.2):evl φ (addP lt p q)=evl φ p+evl φ q:=by
 fun_induction addP lt p q with
 | case1 q=>show evl φ q=0+evl φ q;rw [Rat.zero_add]
 | case2 s p=>show evl φ (s :: p)=evl φ (s :: p)+0;rw [Rat.add_zero]
 | case3 s p u q h1 ih =>
   have:=ih (λt h=>hp t (.tail _ h)) hq;simp only [evl] at this ⊢;rw [this];grind
 | case4 s p u q h1 h2 ih =>
   have:=ih hp (λt h=>hq t (.tail _ h));simp only [evl] at this ⊢;rw [this];grind
 | case5 s p u q h1 h2 h3 ih =>
   have e:s.2=u.2:=by rcases o.tri s.2 u.2 (hp s (.head _)) (hq u (.head _)) with h | h | h;exact absurd h h2;exact h;exact absurd h h1
   have:=ih (λt h=>hp t (.tail _ h)) (λt h=>hq t (.tail _ h));simp only [evl] at this ⊢;have e2:s.1*φ s.2+u.1*φ u.2=0:=by rw [e,←Rat.add_mul,h3,Rat.zero_mul]
   rw [this];grind
 | case6 s p u q h1 h2 h3 ih =>
   have e:s.2=u.2:=by rcases o.tri s.2 u.2 (hp s (.head _)) (hq u (.head _)) with h | h | h;exact absurd h h2;exact h;exact absurd h h1
   have:=ih (λt h=>hp t (.tail _ h)) (λt h=>hq t (.tail _ h));simp only [evl] at this ⊢;rw [this,e];grind
end
section
variable {α:Type} {D:α→Prop} {lt:α→α→Prop}
def Zbg (a:Rat) (p:List (Rat × α)):List (Rat × α):=p.map λs=>(s.1*a,s.2)
theorem Zei {a:Rat} {p:List (Rat × α)} (hp:Srt D lt p) (h:a≠0):Srt D lt (Zbg a p):=by
 refine⟨λu hu=>?_,List.pairwise_map.2 hp.2⟩;obtain⟨s,hs,rfl⟩:=List.mem_map.1 hu;have:=hp.1 s hs;exact⟨by show s.1*a≠0;intro h0;rcases Rat.mul_eq_zero.1 h0 with h1 | h1;exact this.1 h1;exact h h1,this.2⟩
end
section
variable {α:Type} [DecidableEq α]
theorem Zt2 (a:Rat) (p:List (Rat × α)) (x:α):cof (Zbg a p) x=cof p x*a:=by
 induction p with
 | nil=>show(0:Rat)=0*a;rw [Rat.zero_mul]
 | cons s p ih =>
   show(if s.2=x then s.1*a else 0)+cof (Zbg a p) x=((if s.2=x then s.1 else 0)+cof p x)*a;rw [ih];split<;>grind
end
section
variable {α:Type} {D:α→Prop} {lt:α→α→Prop} [DecidableEq α] [DecidableRel lt]
end
section
variable {α:Type} {lt:α→α→Prop} [DecidableRel lt]
end
section
variable {α:Type} {D:α→Prop} {lt:α→α→Prop} [DecidableRel lt]
def subP (lt:α→α→Prop) [DecidableRel lt] (p q:List (Rat × α)):List (Rat × α):=addP lt p (Zbg (-1) q)
theorem neg1:(-1:Rat)≠0:=by decide
theorem Zoe (o:KO D lt) {p q:List (Rat × α)} (hp:Srt D lt p) (hq:Srt D lt q):Srt D lt (subP lt p q):=Zd8 o hp (Zei hq neg1)
end
section
variable {α:Type} {D:α→Prop} {lt:α→α→Prop} [DecidableEq α] [DecidableRel lt]
theorem Zlc (o:KO D lt) {p q:List (Rat × α)} (hp:Srt D lt p) (hq:Srt D lt q) (x:α):cof (subP lt p q) x=cof p x - cof q x:=by
 unfold subP;rw [Zgu o x hp.dom (Zei hq neg1).dom,Zt2]
 grind
end
section
variable {α:Type} {lt:α→α→Prop} [DecidableRel lt]
theorem Zht {p q:List (Rat × α)} {t:Rat × α} (h:t∈addP lt p q):t∈p∨t∈q∨∃s∈p,∃u∈q,t=(s.1+u.1,s.2):=by
 fun_induction addP lt p q with
 | case1 q=>exact .inr (.inl h)
 | case2 s p=>exact .inl h
 | case3 s p u q h1 ih =>
   rcases List.mem_cons.1 h with rfl | h
   ·exact .inl (.head _)
   ·rcases ih h with h | h | ⟨a,ha,b,hb,e⟩
    ·exact .inl (.tail _ h)
    ·exact .inr (.inl h)
    ·exact .inr (.inr ⟨a,.tail _ ha,b,hb,e⟩)
 | case4 s p u q h1 h2 ih =>
   rcases List.mem_cons.1 h with rfl | h
   ·exact .inr (.inl (.head _))
   ·rcases ih h with h | h | ⟨a,ha,b,hb,e⟩
    ·exact .inl h
    ·exact .inr (.inl (.tail _ h))
    ·exact .inr (.inr ⟨a,ha,b,.tail _ hb,e⟩)
 | case5 s p u q h1 h2 h3 ih =>
   rcases ih h with h | h | ⟨a,ha,b,hb,e⟩
   ·exact .inl (.tail _ h)
   ·exact .inr (.inl (.tail _ h))
   ·exact .inr (.inr ⟨a,.tail _ ha,b,.tail _ hb,e⟩)
 | case6 s p u q h1 h2 h3 ih =>
   rcases List.mem_cons.1 h with rfl | h
   ·exact .inr (.inr ⟨s,.head _,u,.head _,rfl⟩)
   ·rcases ih h with h | h | ⟨a,ha,b,hb,e⟩
    ·exact .inl (.tail _ h)
    ·exact .inr (.inl (.tail _ h))
    ·exact .inr (.inr ⟨a,.tail _ ha,b,.tail _ hb,e⟩)
end
def BQ (D B:Nat) (q:Rat):Prop:=q.den ∣ D∧q.num.natAbs≤B*q.den
theorem Zql {z:Int} {m:Nat} (hm:m≠0) {D B:Nat} (hd:m ∣ D*Nat.gcd z.natAbs m) (hb:z.natAbs≤B*m):BQ D B (mkRat z m):=by
 have h0:0 < Nat.gcd z.natAbs m:=Nat.gcd_pos_of_pos_right _ (Nat.pos_of_ne_zero hm);obtain⟨c,hc⟩:=Nat.gcd_dvd_right z.natAbs m;obtain⟨a,ha⟩:=Nat.gcd_dvd_left z.natAbs m;unfold BQ;rw [Rat.num_mkRat,Rat.den_mkRat,if_neg hm,Nat.gcd_comm m z.natAbs];generalize Nat.gcd z.natAbs m=g at *;have e1:m/g=c:=by rw [hc];exact Nat.mul_div_cancel_left _ h0
 have e2:(z/(g:Int)).natAbs=a:=by
  rcases Int.natAbs_eq z with h | h
  ·rw [h,ha,show((g*a:Nat):Int)=(g:Int)*(a:Int) from by simp,Int.mul_ediv_cancel_left _ (by omega)];simp
  ·rw [h,ha,show -((g*a:Nat):Int)=(g:Int)*(-(a:Int)) from by simp [Int.mul_neg],Int.mul_ediv_cancel_left _ (by omega)];simp
 rw [e1,if_neg hm,e2];constructor
 ·rw [hc,Nat.mul_comm D] at hd;exact Nat.dvd_of_mul_dvd_mul_left h0 hd
 ·rw [ha,hc,show B*(g*c)=g*(B*c) from by simp only [Nat.mul_left_comm]] at hb;exact Nat.le_of_mul_le_mul_left hb h0
theorem BQ.mono {D B E C:Nat} {q:Rat} (h:BQ D B q) (hd:D ∣ E) (hb:B≤C):BQ E C q:=⟨Nat.dvd_trans h.1 hd,Nat.le_trans h.2 (Nat.mul_le_mul_right _ hb)⟩
theorem BQ.mul {D B E C:Nat} {a b:Rat} (h:BQ D B a) (k:BQ E C b):BQ (D*E) (B*C) (a*b):=by
 rw [Rat.mul_def'];refine Zql (Nat.mul_ne_zero a.den_nz b.den_nz) (Nat.dvd_trans (Nat.mul_dvd_mul h.1 k.1) (Nat.dvd_mul_right _ _)) ?_;rw [Int.natAbs_mul]
 calc _≤(B*a.den)*(C*b.den):=Nat.mul_le_mul h.2 k.2
  _=B*C*(a.den*b.den):=by simp only [Nat.mul_assoc,Nat.mul_left_comm]
theorem BQ.add {D B C:Nat} {a b:Rat} (h:BQ D B a) (k:BQ D C b):BQ D (B+C) (a+b):=by
 obtain⟨x,hx⟩:=h.1;obtain⟨y,hy⟩:=k.1;have e:a+b=mkRat (a.num*b.den+b.num*a.den) (a.den*b.den):=Rat.add_def' a b;rw [e];refine Zql (Nat.mul_ne_zero a.den_nz b.den_nz) ?_ ?_
 ·
  rw [←Nat.gcd_mul_left];refine Nat.dvd_gcd ?_ (Nat.dvd_mul_left _ _)
  have e2:((D*(a.num*b.den+b.num*a.den).natAbs:Nat):Int)=((D:Int)*(a.num*b.den+b.num*a.den)).natAbs:=by
   rw [Int.natAbs_mul];simp
  have e3:D*(a.num*b.den+b.num*a.den).natAbs=((D:Int)*(a.num*b.den+b.num*a.den)).natAbs:=by omega
  rw [e3]
  have e4:(D:Int)*(a.num*b.den+b.num*a.den)=((a.den*b.den:Nat):Int)*(x*a.num+y*b.num):=by
   have h1:(D:Int)=a.den*x:=by rw [hx];simp
   have h2:(D:Int)=b.den*y:=by rw [hy];simp
   rw [Int.mul_add,Int.mul_add,show((a.den*b.den:Nat):Int)=(a.den:Int)*b.den from by simp];congr 1
   ·rw [h1];simp only [Int.mul_assoc,Int.mul_left_comm,Int.mul_comm]
   ·rw [h2];simp only [Int.mul_assoc,Int.mul_left_comm,Int.mul_comm]
  rw [e4,Int.natAbs_mul,Int.natAbs_natCast];exact Nat.dvd_mul_right _ _
 ·have h1:=h.2;have h2:=k.2
  calc _≤(a.num*b.den).natAbs+(b.num*a.den).natAbs:=by omega
   _=a.num.natAbs*b.den+b.num.natAbs*a.den:=by rw [Int.natAbs_mul,Int.natAbs_mul,Int.natAbs_natCast,Int.natAbs_natCast]
   _≤(B*a.den)*b.den+(C*b.den)*a.den:=Nat.add_le_add (Nat.mul_le_mul_right _ h1) (Nat.mul_le_mul_right _ h2)
   _=(B+C)*(a.den*b.den):=by rw [Nat.add_mul];simp only [Nat.mul_assoc,Nat.mul_comm b.den]
theorem BQ.neg {D B:Nat} {a:Rat} (h:BQ D B a):BQ D B (-a):=by
 refine⟨h.1,?_⟩;show(-a.num).natAbs≤B*a.den;rw [Int.natAbs_neg];exact h.2
theorem BQ.int (z:Int) {D B:Nat} (h:z.natAbs≤B):BQ D B (z:Rat):=⟨⟨D,(Nat.one_mul D).symm⟩,by show z.natAbs≤B*1;omega⟩
end Go.Pol
namespace Go.Proofs.YtimmnimikmnljaaGreat
open Go Go.RowKit Go.Pg
attribute [-bool_to_prop] Bool.and_eq_decide Bool.or_eq_decide Bool.decide_beq_decide decide_eq_decide
attribute [local go_sem] Tryz.underlying40 Tryz.underlying3 Tryz.underlying104 Tryz.underlying115 Tryz.underlying4 Tryz.underlying42 Tryz.underlying44 Tryz.underlying27 Tryz.underlying141 sz3 by3 z3 szL byL zL szB zB Zce zNat Zcf zInt Zcd zRat szShape zShape eqShape Tryz.underlying166
theorem intOf (n:Nat) (hn:n < 9223372036854775808):Pure Tryz.prog 129 [.v (.int .i64 (n:Int))] (intA false n):=by
 have l4:(toL n).length≤4:=Zai.2 (by omega);have hm:=Zh8 false n (by omega);rw [Zh7,Bool.false_and] at hm;refine Zaa (tok:=0) Tryz.func129 rfl Tryz.ntmps129 Tryz.results129 Tryz.call129 (by rfl) (by simp) ?_;(focus (refine wkvp w_t (w_2 (natOf n (by omega)) hm) ?_;(repeat' first|exact w_t|apply w_l);all_goals intros));simp (disch:=omega) only [go_sem]
theorem Zoo:Pure Tryz.prog 130 [] (lim (toL 1)):=by
 rw [toL_one];refine Zaa (tok:=0) Tryz.func130 rfl Tryz.ntmps130 Tryz.results130 Tryz.call130 (by rfl) (by simp) ?_;(focus (refine wkvp w_t w_t ?_;(repeat' first|exact w_t|apply w_l);all_goals intros));exact gC
theorem Zgk (n:Nat):Pure Tryz.prog 124 [lim (toL n)] (intA false n):=by
 refine Zaa (tok:=0) Tryz.func124 rfl Tryz.ntmps124 Tryz.results124 Tryz.call124 (by rfl) (by simp) ?_;(focus (refine wkvp w_t w_t ?_;(repeat' first|exact w_t|apply w_l);all_goals intros));simp (disch:=omega) only [go_sem]
theorem Zkp (n:Nat) (hn:(toL n).length≤100000000):Pure Tryz.prog 86 [lim (toL n)] (.v (.bool (decide (n=1)))):=by
 by_cases h0:n=0
 ·subst h0;rw [Za3];refine Zaa (tok:=0) Tryz.func86 rfl Tryz.ntmps86 Tryz.results86 Tryz.call86 (by rfl) (by simp) ?_;(focus (refine wkvp w_t w_t ?_;(repeat' first|exact w_t|apply w_l);all_goals intros));simp (disch:=omega) only [go_sem,Bool.and_self]
 ·have hd:decide (n=1)=(((((toL (n/65536)).length+1:Nat):Int) == 1) && (((n%65536:Nat):Int) == 1)):=by
   have hp:=@Zbo (n/65536);rw [Bool.eq_iff_iff];simp only [decide_eq_true_eq,Bool.and_eq_true,beq_iff_eq];omega
  rw [Ze3 (by omega),hd];refine Zaa (tok:=0) Tryz.func86 rfl Tryz.ntmps86 Tryz.results86 Tryz.call86 (by rfl) (by simp) ?_;(focus (refine wkvp (w_1 @u16s_c) w_t ?_;(repeat' first|exact w_t|apply w_l);all_goals intros));simp (disch:=omega) only [go_sem]
theorem Zi9 (s:Bool) (n d:Nat) (h2:(toL d).length≤10000000) (h0:d≠0):Pure Tryz.prog 88 [ratA s n d] (.tup [intA s n,lim (toL d)]):=by
 have hb:Zml d≠0:=λe=>h0 (Zgv.1 e);refine Zaa (tok:=0) Tryz.func88 rfl Tryz.ntmps88 Tryz.results88 Tryz.call88 (by rfl) (by simp) ?_
 (repeat' (first|(with_reducible first|refine stp ?_|apply gx1|apply gx2|apply gx3|apply gx4|apply gx5|apply gx6|apply gx7|apply gy8|apply gz2|apply gz3|refine gw0 (Zta d (by omega)) ?_ ?_|refine gw3 (Zta d (by omega)) ?_ ?_ ?_)|(with_reducible refine Zbf ?_;intro _)|((with_reducible refine gE ?_);(try simp (disch:=omega) only [go_sem])<;>first|rfl|omega)|with_reducible refine Zaf (by decide) ?_|((with_reducible apply gy1);iterate 3 focus rfl)|((with_reducible apply gy2);iterate 3 focus rfl)|((with_reducible apply gy3);iterate 2 focus rfl)|((with_reducible apply gy4);iterate 1 focus rfl)|((with_reducible apply gy5);iterate 4 focus rfl)|((with_reducible apply gy5c);iterate 4 focus rfl)|((with_reducible apply gy6);iterate 4 focus rfl)|((with_reducible apply Zc0);iterate 3 focus rfl)|((with_reducible apply Zcz);iterate 1 focus rfl)|((with_reducible apply gy7);iterate 1 focus rfl)|((with_reducible apply gy9);(focus ((with_reducible refine gE ?_);(try simp (disch:=omega) only [go_sem])<;>rfl)))|((with_reducible apply gz1);(focus first|rfl|(simp (disch:=omega) only [go_sem];done)))|((with_reducible apply Za2 (Zcg []) [] [2]);(focus kernel_rfl);(focus rfl);(focus kernel_rfl);(focus (simp only [List.length_cons,List.length_nil,Nat.reduceAdd];rfl)))))
 simp (disch:=omega) only [go_sem]
theorem Zfl (q:Rat) {k:Nat} (h:Sz q k) (hk:k≤10000000):Pure Tryz.prog 88 [ratQ q] (.tup [intZ q.num,lim (toL q.den)]) :=
 Zi9 _ _ _ (Nat.le_trans h.2 hk) q.den_nz
theorem Zgl (s:Bool) (n m:Nat) (hn:(toL n).length≤10000000) (hm:(toL m).length≤10000000) (h0:m≠0):Pure Tryz.prog 126 [intA s n,lim (toL m)] (ratQ (mkRat (zI s n) m)):=by
 have cn:=intNorm s n (by omega);have hz:=Zdq s n;rw [Zop _ _ h0];generalize zI s n=z at *;subst hz;have hmp:=Zbo.2 (Nat.pos_of_ne_zero h0);have g0:Nat.gcd z.natAbs m≠0:=Nat.ne_of_gt (Nat.gcd_pos_of_pos_right _ (by omega));have hg:(toL (Nat.gcd z.natAbs m)).length≤10000000:=Nat.le_trans (Zdl (Nat.le_of_dvd (by omega) (Nat.gcd_dvd_right _ _))) hm;have cg:=nGcd z.natAbs m (by omega) (by omega);have c1:=Zkp m (by omega);have c2:=Zkp (Nat.gcd z.natAbs m) (by omega);by_cases hz0:z.natAbs=0
 ·have hzz:z=0:=by omega
  subst hzz;have l0:(toL 0).length=0:=by rw [Za3];rfl
  have n0:Int.natAbs 0=0:=rfl;have hd:decide ((0:Int) < 0)=false:=rfl;have cn:Pure Tryz.prog 168 [intA s 0] (.agg [.v (.bool false),lim (toL 0)]):=cn;rw [n0] at hn ⊢;rw [Nat.gcd_zero_left,Nat.zero_div,Nat.div_self (by omega),hd];refine Zho (r:=.agg [.v (.bool false),.v (.slice none 0 0),lim (toL 1)]) ?_ (.aggL (.cons (.refl _) (.cons ?_ (VkL.refl _))))
  ·refine Zaa (tok:=0) Tryz.func126 rfl Tryz.ntmps126 Tryz.results126 Tryz.call126 (by rfl) (by simp) ?_;(focus (refine wkvp (w_1 l0) (w_3 (Zo7 m (by omega)) cn Zoo) ?_;(repeat' first|exact w_t|apply w_l);all_goals intros));simp (disch:=omega) only [go_sem]
  ·show Vk _ (.sl 1 (u16s (toL 0)));rw [Za3];exact .nil 1
 ·have hzp:=Zbo.2 (Nat.pos_of_ne_zero hz0);by_cases hm1:m=1
  ·subst hm1;rw [Nat.gcd_one_right,Nat.div_one,Nat.div_one];refine Zaa (tok:=0) Tryz.func126 rfl Tryz.ntmps126 Tryz.results126 Tryz.call126 (by rfl) (by simp) ?_;(focus (refine wkvp w_t (w_3 (Zo7 1 (by omega)) cn c1) ?_;(repeat' first|exact w_t|apply w_l);all_goals intros));simp (disch:=omega) only [go_sem]
  ·have d1:decide (m=1)=false:=decide_eq_false hm1;rw [d1] at c1;by_cases hg1:Nat.gcd z.natAbs m=1
   ·have d2:decide (Nat.gcd z.natAbs m=1)=true:=decide_eq_true hg1;rw [d2] at c2;rw [hg1,Nat.div_one,Nat.div_one];refine Zaa (tok:=0) Tryz.func126 rfl Tryz.ntmps126 Tryz.results126 Tryz.call126 (by rfl) (by simp) ?_;(focus (refine wkvp w_t (w_5 (Zo7 m (by omega)) cn c1 cg c2) ?_;(repeat' first|exact w_t|apply w_l);all_goals intros));simp (disch:=omega) only [go_sem]
   ·have d2:decide (Nat.gcd z.natAbs m=1)=false:=decide_eq_false hg1;rw [d2] at c2;refine Zaa (tok:=0) Tryz.func126 rfl Tryz.ntmps126 Tryz.results126 Tryz.call126 (by rfl) (by simp) ?_;(focus (refine wkvd w_t (w_7 (Zo7 m (by omega)) cn c1 cg c2 (Zs9 z.natAbs (Nat.gcd z.natAbs m) (by omega) (by omega) g0) (Zs9 m (Nat.gcd z.natAbs m) (by omega) (by omega) g0)) w_t ?_;(repeat' first|exact w_t|apply w_l);all_goals intros));simp (disch:=omega) only [go_sem]
theorem ratMake (z w:Int) (hz:(toL z.natAbs).length≤10000000) (hw:(toL w.natAbs).length≤10000000) (h0:w≠0):Pure Tryz.prog 122 [intZ z,intZ w] (.tup [ratQ (Rat.divInt z w),.v (.int .i64 0)]):=by
 have e:Rat.divInt z w=mkRat (zI (decide (z < 0) != decide (w < 0)) z.natAbs) w.natAbs:=by
  have ez:=Zch z;unfold zI at ez ⊢;rcases (by omega:w < 0∨0 < w) with h | h
  ·rw [decide_eq_true h];have hw1:w=-((w.natAbs:Nat):Int):=by omega
   rw [show Rat.divInt z w=Rat.divInt z (-((w.natAbs:Nat):Int)) by rw [←hw1],Rat.divInt_neg',Rat.divInt_ofNat];congr 1;by_cases h1:z < 0
   ·simp only [decide_eq_true h1,bne_self_eq_false,Bool.false_eq_true,if_false];omega
   ·simp only [decide_eq_false h1,Bool.false_bne,if_true];omega
  ·rw [decide_eq_false (by omega:¬w < 0)];have hw1:w=((w.natAbs:Nat):Int):=by omega
   rw [show Rat.divInt z w=Rat.divInt z ((w.natAbs:Nat):Int) by rw [←hw1],Rat.divInt_ofNat];congr 1;by_cases h1:z < 0
   ·simp only [decide_eq_true h1,Bool.bne_false,if_true];omega
   ·simp only [decide_eq_false h1,bne_self_eq_false,Bool.false_eq_true,if_false];omega
 have c:=Zgl (decide (z < 0) != decide (w < 0)) z.natAbs w.natAbs hz hw (by omega);rw [←e] at c;have cs:=iSign w (by omega);have hs:w.sign≠0:=λh=>h0 (Int.sign_eq_zero_iff_zero.1 h);refine Zaa (tok:=0) Tryz.func122 rfl Tryz.ntmps122 Tryz.results122 Tryz.call122 (by rfl) (by simp) ?_;have hne (a b:Bool):(!(a == b))=(a != b):=rfl;(focus (refine wkvp (w_1 hne) (w_2 cs c) ?_;(repeat' first|exact w_t|apply w_l);all_goals intros));simp (disch:=omega) only [go_sem]
theorem Zf3 (q:Rat) {k:Nat} (h:Sz q k) (hk:k≤10000000):Pure Tryz.prog 42 [ratQ q] (.v (.int .i64 q.num.sign)):=by
 have h1:=h.1;refine Zaa (tok:=0) Tryz.func42 rfl Tryz.ntmps42 Tryz.results42 Tryz.call42 (by rfl) (by simp) ?_;(focus (refine wkvp w_t (w_2 (Zfl q h hk) (iSign q.num (by omega))) ?_;(repeat' first|exact w_t|apply w_l);all_goals intros));simp (disch:=omega) only [go_sem]
theorem Zsp (s t:Bool) (n m:Nat) (hn:(toL n).length≤100000000) (hm:(toL m).length≤100000000):Pure Tryz.prog 127 [.sl 2 [intA s n,intA t m]] (intZ (zI s n+zI t m)):=by
 have cz:=iAdd0 s n hn;have ca:=iAddA (zI s n) t m (by rw [Zdq];exact hn) hm;generalize zI s n=z at *;generalize zI t m=w at *;refine Zaa (tok:=0) Tryz.func127 rfl Tryz.ntmps127 Tryz.results127 Tryz.call127 (by rfl) (by simp) ?_;(focus (refine wkvp w_t w_t ?_;(repeat' first|exact w_t|apply w_l);all_goals intros));refine Zag (ι:=Nat) (λk e mm=>k≤2∧e 6=.sl 2 [intA s n,intA t m]∧e 7=.v (.int .i64 2)∧e 8=.v (.int .i64 (k:Int))∧∃g2 g,e 2=.pbox 2 g2 0∧mm 2=some (.box g2 42 [.v (.bool false),.v (.slice none 0 0)] false)∧e 3=.pbox 3 g 0∧mm 3=some (.box g 42 (sumC z w k) false)) (λk=>2 - k) 0 (by rfl) ?_ ?_
 ·rintro k e mm ⟨hk,e6,e7,e8,g2,g,e2,m2,e3,m3⟩
  match k,hk with
  | 0,_ =>
    simp only [sumC] at m3;(focus (refine wkvp (w_8 e6 e7 e8 e2 m2 e3 m3 @Int.natCast_zero) (w_1 cz) ?_;(repeat' first|exact w_t|apply w_l);all_goals intros));exact⟨1,⟨by omega,by exact gW e6,by exact gW e7,by exact gW e8,g2,g,by exact gW e2,by exact gW m2,by exact gW e3,by(simp (disch:=omega) only [go_sem,m3,sumC]<;>repeat' first|rfl|refine⟨?_,?_⟩)⟩,by omega⟩
  | 1,_ =>
    simp only [sumC] at m3;(focus (refine wkvp (w_8 e6 e7 e8 e2 m2 e3 m3 @Int.natCast_one) (w_1 ca) ?_;(repeat' first|exact w_t|apply w_l);all_goals intros));exact⟨2,⟨by omega,by exact gW e6,by exact gW e7,by exact gW e8,g2,g,by exact gW e2,by exact gW m2,by exact gW e3,by(simp (disch:=omega) only [go_sem,m3,sumC]<;>repeat' first|rfl|refine⟨?_,?_⟩)⟩,by omega⟩
  | 2,_ =>
    simp only [sumC] at m3;(focus (refine wkvp (w_7 e6 e7 e8 e2 m2 e3 m3) w_t ?_;(repeat' first|exact w_t|apply w_l);all_goals intros));simp (disch:=omega) only [go_sem,e2]
 ·exact⟨by omega,by exact gC,by exact gC,by exact gC,_,_,by exact gC,by exact gC,by exact gC,by(simp (disch:=omega) only [go_sem,sumC]<;>repeat' first|rfl|refine⟨?_,?_⟩)⟩
theorem ratSum (z w:Int) (hz:(toL z.natAbs).length≤100000000) (hw:(toL w.natAbs).length≤100000000):Pure Tryz.prog 127 [.sl 2 [intZ z,intZ w]] (intZ (z+w)):=by
 have:=Zsp (decide (z < 0)) (decide (w < 0)) z.natAbs w.natAbs hz hw
 rwa [Zch,Zch] at this
end Go.Proofs.YtimmnimikmnljaaGreat
