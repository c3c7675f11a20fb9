/- Contracts of the functions that the law reaches, and the rules by which they are walked. They say what a call hands back for every input within the bounds that each names; no other condition. -/
import Derived.Test.YtpkcophcldjboaaGreatDoorBg10
set_option linter.unusedSimpArgs false
set_option linter.unusedVariables false
set_option maxRecDepth 20000
set_option maxHeartbeats 16000000
namespace Go.Proofs.YtpkcophcldjboaaGreatDoor
open Go Go.RowKit Go.Pg Go.Pol Go.Proofs.Tryz
attribute [-bool_to_prop] Bool.and_eq_decide Bool.or_eq_decide Bool.decide_beq_decide decide_eq_decide
attribute [local go_sem] Zaw Zay Zax Zah Zap Zai Bool.and_self Zal Za8 Zba Zb4 Zb6 Zca Zbg Zcg Zb0 Zb2 Zdc Zdf Zde Zdd Zb8 Zb9 Zdt Zdu Zen Zer Zel Zem
theorem Zyp (a0 a1 a2:Int) (V0 V1 V2 V3 V4 V5 V6 V7 V8 V9 V10:List AV) (c1:Pure prog 127 [iv a1,iv a2,iv a1] (.sl 4 V0)) (c2:Pure prog 127 [iv a1,iv a0,iv a2] (.sl 4 V1)) (c3:Pure prog 26 [.sl 4 V0,.sl 4 V1] (.sl 4 V2)) (c4:Pure prog 127 [iv a2,iv a0,iv a2] (.sl 4 V3)) (c5:Pure prog 127 [iv a2,iv a1,iv a0] (.sl 4 V4)) (c6:Pure prog 26 [.sl 4 V3,.sl 4 V4] (.sl 4 V5)) (c7:Pure prog 127 [iv a0,iv a1,iv a0] (.sl 4 V6)) (c8:Pure prog 127 [iv a0,iv a2,iv a1] (.sl 4 V7)) (c9:Pure prog 26 [.sl 4 V6,.sl 4 V7] (.sl 4 V8)) (c10:Pure prog 68 [.sl 4 V2,.sl 4 V5] (.sl 4 V9)) (c11:Pure prog 68 [.sl 4 V9,.sl 4 V8] (.sl 4 V10)):Pure prog 195 [.sl 1 [iv a0,iv a1,iv a2]] (.tup [.sl 1 [iv a0,iv a1,iv a2],.sl 1 [.sl 4 V2,.sl 4 V5,.sl 4 V8],.sl 4 V10,iv 0]):=by
 refine pI func195 rfl ntmps195 results195 call195 ?_
 (refine wkax w_t w_t w_t w_t w_t w_t w_t (w_r 0) (w_s ?_);intros)
 apply Zcf (N:=65) (Zdv [(9,.sl 4 V0),(19,.sl 4 V1),(20,.sl 4 V2),(30,.sl 4 V3),(40,.sl 4 V4),(41,.sl 4 V5),(51,.sl 4 V6),(61,.sl 4 V7),(62,.sl 4 V8)]) [] []
 ·kernel_rfl
 ·rfl
 ·kernel_rfl
 ·rfl
 (refine wkax w_t (w_11 c1 c2 c3 c4 c5 c6 c7 c8 c9 c10 c11) (w_1 (w_d 2 [(8,.sl 4 V9),(12,.sl 4 V10)] [] [])) w_t w_t w_t w_y (w_r 0) (w_s ?_);intros)
 all_goals exact gL
theorem rlCenter (a0 a1 a2:Int) (h0:0≤a0∧a0 < 40) (h1:0≤a1∧a1 < 40) (h2:0≤a2∧a2 < 40):Pure prog 195 [.sl 1 [iv a0,iv a1,iv a2]] (.tup [.sl 1 [iv a0,iv a1,iv a2],.sl 1 [qpA (mulX (pX a1 a2 a1) (pX a1 a0 a2)),qpA (mulX (pX a2 a0 a2) (pX a2 a1 a0)),qpA (mulX (pX a0 a1 a0) (pX a0 a2 a1))],qpA (Zav (Zav (mulX (pX a1 a2 a1) (pX a1 a0 a2)) (mulX (pX a2 a0 a2) (pX a2 a1 a0))) (mulX (pX a0 a1 a0) (pX a0 a2 a1))),iv 0]):=by
 have x0:=Za9 (Zan (.inr rfl) h1 h2 h1);have x1:=Za9 (Zan (.inr rfl) h1 h0 h2);have x2:=Za9 (Zan (.inr rfl) h2 h0 h2);have x3:=Za9 (Zan (.inr rfl) h2 h1 h0);have x4:=Za9 (Zan (.inr rfl) h0 h1 h0);have x5:=Za9 (Zan (.inr rfl) h0 h2 h1);have x6:=x0.mul x1;have x7:=x2.mul x3;have x8:=x6.add x7;have x9:=x4.mul x5;exact Zyp a0 a1 a2 _ _ _ _ _ _ _ _ _ _ _ (Zc6 _ _ _ (Zan (.inr rfl) h1 h2 h1)) (Zc6 _ _ _ (Zan (.inr rfl) h1 h0 h2)) (Zg1 (x0.s) (x1.s)) (Zc6 _ _ _ (Zan (.inr rfl) h2 h0 h2)) (Zc6 _ _ _ (Zan (.inr rfl) h2 h1 h0)) (Zg1 (x2.s) (x3.s)) (Zc6 _ _ _ (Zan (.inr rfl) h0 h1 h0)) (Zc6 _ _ _ (Zan (.inr rfl) h0 h2 h1)) (Zg1 (x4.s) (x5.s)) (Zk2 (x6.s) (x7.s)) (Zk2 (x8.s) (x9.s))
theorem Zyk (M GG:List AV) (i:Nat) (nm:ByteArray) (rb:Bool) (rn rd:List Nat) (a0 a1:Int) (V0 V1 V2:List AV) (hi:i < M.length) (hs:M.getD i .u=.agg [iv 2,strA nm,.sl 1 [iv a0,iv a1],.v (.bool rb),lim rn,lim rd]) (c1:Pure prog 29 [iv 1] (.sl 4 V0)) (c2:Pure prog 66 [.agg [.v (.bool rb),lim rn,lim rd]] (.sl 4 V1)) (c3:Pure prog 193 [.sl 4 V1,.sl 4 V0] (.sl 1 [.sl 4 V2,.sl 4 V1])):Pure prog 126 [.agg [.sl 6 M,.sl 5 GG],iv i] (.tup [.sl 1 [iv a0,iv a1],.sl 1 [.sl 4 V2,.sl 4 V1],.sl 4 V0,iv 0]):=by
 refine pI func126 rfl ntmps126 results126 call126 ?_
 (refine wkad (w_2 hi hs) (w_3 c1 c2 c3) w_t (w_s ?_);intros)
 all_goals exact gL
theorem rlParts2 (M GG:List AV) (i:Nat) (nm:ByteArray) (r:Rat) (a0 a1:Int) (hi:i < M.length) (hs:M.getD i .u=.agg [iv 2,strA nm,.sl 1 [iv a0,iv a1],.v (.bool (decide (r.num < 0))),lim (toL r.num.natAbs),lim (toL r.den)]) (hr:Sz r 2) (h0:0≤a0∧a0 < 40) (h1:0≤a1∧a1 < 40):Pure prog 126 [.agg [.sl 6 M,.sl 5 GG],iv i] (.tup [.sl 1 [iv a0,iv a1],.sl 1 [qpA (subX (nX 1) (nX r)),qpA (nX r)],qpA (nX 1),iv 0]):=by
 have x0:=Zch hr;have x1:=Zch Zh7;exact Zyk M GG i nm _ _ _ a0 a1 _ _ _ hi hs (Zfy) (Ztk hr) (Zji _ _ (x0.s) (x1.s))
theorem Zyj (M GG:List AV) (i:Nat) (nm:ByteArray) (rb:Bool) (rn rd:List Nat) (a0 a1 a2:Int) (V0 V1:List AV) (hi:i < M.length) (hs:M.getD i .u=.agg [iv 3,strA nm,.sl 1 [iv a0,iv a1,iv a2],.v (.bool rb),lim rn,lim rd]) (c1:Pure prog 29 [iv 1] (.sl 4 V0)) (c2:Pure prog 29 [iv (-1)] (.sl 4 V1)):Pure prog 126 [.agg [.sl 6 M,.sl 5 GG],iv i] (.tup [.sl 1 [iv a0,iv a1,iv a2],.sl 1 [.sl 4 V0,.sl 4 V1,.sl 4 V0],.sl 4 V0,iv 0]):=by
 refine pI func126 rfl ntmps126 results126 call126 ?_
 (refine wkad (w_2 hi hs) (w_2 c1 c2) w_t (w_s ?_);intros)
 all_goals exact gL
theorem rlParts3 (M GG:List AV) (i:Nat) (nm:ByteArray) (rb:Bool) (rn rd:List Nat) (a0 a1 a2:Int) (hi:i < M.length) (hs:M.getD i .u=.agg [iv 3,strA nm,.sl 1 [iv a0,iv a1,iv a2],.v (.bool rb),lim rn,lim rd]) (h0:0≤a0∧a0 < 40) (h1:0≤a1∧a1 < 40) (h2:0≤a2∧a2 < 40):Pure prog 126 [.agg [.sl 6 M,.sl 5 GG],iv i] (.tup [.sl 1 [iv a0,iv a1,iv a2],.sl 1 [qpA (nX 1),qpA (nX (-1)),qpA (nX 1)],qpA (nX 1),iv 0]):=by
 exact Zyj M GG i nm rb rn rd a0 a1 a2 _ _ hi hs (Zfy) (rlNumM)
theorem Zyi (M GG:List AV) (i:Nat) (nm:ByteArray) (rb:Bool) (rn rd:List Nat) (a0 a1:Int) (V0 V1 V2:List AV) (hi:i < M.length) (hs:M.getD i .u=.agg [iv 5,strA nm,.sl 1 [iv a0,iv a1],.v (.bool rb),lim rn,lim rd]) (t:Int) (c1:Pure prog 29 [iv 1] (.sl 4 V0)) (c2:Pure prog 194 [.agg [.sl 6 M,.sl 5 GG],iv i] (iv t)) (c3:Pure prog 58 [.agg [iv 3,iv t,iv 0,iv 0]] (.sl 4 V1)) (c4:Pure prog 193 [.sl 4 V1,.sl 4 V0] (.sl 1 [.sl 4 V2,.sl 4 V1])):Pure prog 126 [.agg [.sl 6 M,.sl 5 GG],iv i] (.tup [.sl 1 [iv a0,iv a1],.sl 1 [.sl 4 V2,.sl 4 V1],.sl 4 V0,iv 0]):=by
 refine pI func126 rfl ntmps126 results126 call126 ?_
 (refine wkad (w_2 hi hs) (w_4 c1 c2 c3 c4) w_t (w_s ?_);intros)
 all_goals exact gL
theorem rlParts5 (M GG:List AV) (i:Nat) (nm:ByteArray) (rb:Bool) (rn rd:List Nat) (a0 a1:Int) (hi:i < M.length) (hs:M.getD i .u=.agg [iv 5,strA nm,.sl 1 [iv a0,iv a1],.v (.bool rb),lim rn,lim rd]) (t:Int) (hT:Qt.ok ⟨3,t,0,0⟩=true) (cp:Pure prog 194 [.agg [.sl 6 M,.sl 5 GG],iv i] (iv t)) (h0:0≤a0∧a0 < 40) (h1:0≤a1∧a1 < 40):Pure prog 126 [.agg [.sl 6 M,.sl 5 GG],iv i] (.tup [.sl 1 [iv a0,iv a1],.sl 1 [qpA (subX (nX 1) (ofX ⟨3,t,0,0⟩)),qpA (ofX ⟨3,t,0,0⟩)],qpA (nX 1),iv 0]):=by
 have x0:=Za9 hT;have x1:=Zch Zh7;exact Zyi M GG i nm rb rn rd a0 a1 _ _ _ hi hs t (Zfy) (cp) (Zvp hT) (Zji _ _ (x0.s) (x1.s))
theorem Zyf (M GG:List AV) (i:Nat) (nm:ByteArray) (rb:Bool) (rn rd:List Nat) (a0 a1 a2 a3:Int) (V0 V1 V2 V3 V4:List AV) (hi:i < M.length) (hs:M.getD i .u=.agg [iv 9,strA nm,.sl 1 [iv a0,iv a1,iv a2,iv a3],.v (.bool rb),lim rn,lim rd]) (c1:Pure prog 29 [iv 1] (.sl 4 V0)) (c2:Pure prog 128 [iv a0,iv a2,iv a3] (.sl 4 V1)) (c3:Pure prog 128 [iv a1,iv a2,iv a3] (.sl 4 V2)) (c4:Pure prog 129 [.sl 4 V1,.sl 4 V2] (.sl 4 V3)) (c5:Pure prog 193 [.sl 4 V1,.sl 4 V3] (.sl 1 [.sl 4 V4,.sl 4 V1])):Pure prog 126 [.agg [.sl 6 M,.sl 5 GG],iv i] (.tup [.sl 1 [iv a0,iv a1],.sl 1 [.sl 4 V4,.sl 4 V1],.sl 4 V3,iv 0]):=by
 refine pI func126 rfl ntmps126 results126 call126 ?_
 (refine wkad (w_2 hi hs) (w_5 c1 c2 c3 c4 c5) (w_2 (w_d 12 [(9,.sl 4 V1),(19,.sl 4 V2),(20,.sl 4 V3)] [] []) (w_d 13 [(11,.sl 4 V1),(13,.sl 1 [.sl 4 V4,.sl 4 V1])] [] [])) (w_s ?_);intros)
 all_goals exact gL
theorem rlParts9 (M GG:List AV) (i:Nat) (nm:ByteArray) (rb:Bool) (rn rd:List Nat) (a0 a1 a2 a3:Int) (hi:i < M.length) (hs:M.getD i .u=.agg [iv 9,strA nm,.sl 1 [iv a0,iv a1,iv a2,iv a3],.v (.bool rb),lim rn,lim rd]) (h0:0≤a0∧a0 < 40) (h1:0≤a1∧a1 < 40) (h2:0≤a2∧a2 < 40) (h3:0≤a3∧a3 < 40):Pure prog 126 [.agg [.sl 6 M,.sl 5 GG],iv i] (.tup [.sl 1 [iv a0,iv a1],.sl 1 [qpA (subX (subX (aX a0 a2 a3) (aX a1 a2 a3)) (aX a0 a2 a3)),qpA (aX a0 a2 a3)],qpA (subX (aX a0 a2 a3) (aX a1 a2 a3)),iv 0]):=by
 have x0:=Za9 (Zan (.inl rfl) h0 h2 h3);have x1:=Za9 (Zan (.inl rfl) h1 h2 h3);have x2:=x0.sub x1;exact Zyf M GG i nm rb rn rd a0 a1 a2 a3 _ _ _ _ _ hi hs (Zfy) (Zir _ _ _ (Zan (.inl rfl) h0 h2 h3)) (Zir _ _ _ (Zan (.inl rfl) h1 h2 h3)) (Zjy (x0.s) (x1.s)) (Zji _ _ (x0.s) (x2.s))
theorem Zyh (M GG:List AV) (i:Nat) (nm:ByteArray) (rb:Bool) (rn rd:List Nat) (a0 a1 a2:Int) (V0 V1 V2 V3:List AV) (hi:i < M.length) (hs:M.getD i .u=.agg [iv 7,strA nm,.sl 1 [iv a0,iv a1,iv a2],.v (.bool rb),lim rn,lim rd]) (c1:Pure prog 29 [iv 1] (.sl 4 V0)) (c2:Pure prog 127 [iv a2,iv a1,iv a2] (.sl 4 V1)) (c3:Pure prog 127 [iv a0,iv a1,iv a2] (.sl 4 V2)) (c4:Pure prog 193 [.sl 4 V2,.sl 4 V1] (.sl 1 [.sl 4 V3,.sl 4 V2])):Pure prog 126 [.agg [.sl 6 M,.sl 5 GG],iv i] (.tup [.sl 1 [iv a1,iv a2],.sl 1 [.sl 4 V3,.sl 4 V2],.sl 4 V1,iv 0]):=by
 refine pI func126 rfl ntmps126 results126 call126 ?_
 (refine wkad (w_2 hi hs) (w_4 c1 c2 c3 c4) (w_2 (w_d 15 [(9,.sl 4 V1)] [] []) (w_d 16 [(11,.sl 4 V2),(13,.sl 1 [.sl 4 V3,.sl 4 V2])] [] [])) (w_s ?_);intros)
 all_goals exact gL
theorem rlParts7 (M GG:List AV) (i:Nat) (nm:ByteArray) (rb:Bool) (rn rd:List Nat) (a0 a1 a2:Int) (hi:i < M.length) (hs:M.getD i .u=.agg [iv 7,strA nm,.sl 1 [iv a0,iv a1,iv a2],.v (.bool rb),lim rn,lim rd]) (h0:0≤a0∧a0 < 40) (h1:0≤a1∧a1 < 40) (h2:0≤a2∧a2 < 40):Pure prog 126 [.agg [.sl 6 M,.sl 5 GG],iv i] (.tup [.sl 1 [iv a1,iv a2],.sl 1 [qpA (subX (pX a2 a1 a2) (pX a0 a1 a2)),qpA (pX a0 a1 a2)],qpA (pX a2 a1 a2),iv 0]):=by
 have x0:=Za9 (Zan (.inr rfl) h0 h1 h2);have x1:=Za9 (Zan (.inr rfl) h2 h1 h2);exact Zyh M GG i nm rb rn rd a0 a1 a2 _ _ _ _ hi hs (Zfy) (Zc6 _ _ _ (Zan (.inr rfl) h2 h1 h2)) (Zc6 _ _ _ (Zan (.inr rfl) h0 h1 h2)) (Zji _ _ (x0.s) (x1.s))
theorem Zyg (M GG:List AV) (i:Nat) (nm:ByteArray) (rb:Bool) (rn rd:List Nat) (a0 a1 a2:Int) (V0 V1 V2 V3 V4 V5 V6 V7:List AV) (hi:i < M.length) (hs:M.getD i .u=.agg [iv 8,strA nm,.sl 1 [iv a0,iv a1,iv a2],.v (.bool rb),lim rn,lim rd]) (c1:Pure prog 29 [iv 1] (.sl 4 V0)) (c2:Pure prog 127 [iv a2,iv a1,iv a2] (.sl 4 V1)) (c3:Pure prog 127 [iv a0,iv a1,iv a2] (.sl 4 V2)) (c4:Pure prog 193 [.sl 4 V2,.sl 4 V1] (.sl 1 [.sl 4 V3,.sl 4 V2])) (c5:Pure prog 29 [iv 2] (.sl 4 V4)) (c6:Pure prog 26 [.sl 4 V4,.sl 4 V3] (.sl 4 V5)) (c7:Pure prog 26 [.sl 4 V4,.sl 4 V2] (.sl 4 V6)) (c8:Pure prog 129 [.v (.slice none 0 0),.sl 4 V1] (.sl 4 V7)):Pure prog 126 [.agg [.sl 6 M,.sl 5 GG],iv i] (.tup [.sl 1 [iv a1,iv a2,iv a0],.sl 1 [.sl 4 V5,.sl 4 V6,.sl 4 V7],.sl 4 V1,iv 0]):=by
 refine pI func126 rfl ntmps126 results126 call126 ?_
 (refine wkax (w_2 hi hs) (w_8 c1 c2 c3 c4 c5 c6 c7 c8) (w_3 (w_d 18 [(9,.sl 4 V1)] [] []) (w_d 19 [(9,.sl 4 V2),(11,.sl 1 [.sl 4 V3,.sl 4 V2])] [] []) (w_d 21 [(14,.sl 4 V5),(19,.sl 4 V6),(21,.sl 4 V7)] [] [])) w_t w_t w_t w_y (w_r 0) (w_s ?_);intros)
 all_goals exact gL
theorem rlParts8 (M GG:List AV) (i:Nat) (nm:ByteArray) (rb:Bool) (rn rd:List Nat) (a0 a1 a2:Int) (hi:i < M.length) (hs:M.getD i .u=.agg [iv 8,strA nm,.sl 1 [iv a0,iv a1,iv a2],.v (.bool rb),lim rn,lim rd]) (h0:0≤a0∧a0 < 40) (h1:0≤a1∧a1 < 40) (h2:0≤a2∧a2 < 40):Pure prog 126 [.agg [.sl 6 M,.sl 5 GG],iv i] (.tup [.sl 1 [iv a1,iv a2,iv a0],.sl 1 [qpA (twX (subX (pX a2 a1 a2) (pX a0 a1 a2))),qpA (twX (pX a0 a1 a2)),qpA (subX ([]) (pX a2 a1 a2))],qpA (pX a2 a1 a2),iv 0]):=by
 have x0:=Za9 (Zan (.inr rfl) h0 h1 h2);have x1:=Za9 (Zan (.inr rfl) h2 h1 h2);have x2:=Zch Zeh;have x3:=x1.sub x0;exact Zyg M GG i nm rb rn rd a0 a1 a2 _ _ _ _ _ _ _ _ hi hs (Zfy) (Zc6 _ _ _ (Zan (.inr rfl) h2 h1 h2)) (Zc6 _ _ _ (Zan (.inr rfl) h0 h1 h2)) (Zji _ _ (x0.s) (x1.s)) (rlNum2) (Zg1 (x2.s) (x3.s)) (Zg1 (x2.s) (x0.s)) (Zhr (Zjy (XL.nil.s) (x1.s)) (.cons (.nil 4) (.cons (.refl _) .nil)))
theorem Zvu (M GG:List AV) (i:Nat) (nm:ByteArray) (rb:Bool) (rn rd:List Nat) (a0 a1 a2:Int) (V0 V1 V2 V3 V4 V5:List AV) (hi:i < M.length) (hs:M.getD i .u=.agg [iv 10,strA nm,.sl 1 [iv a0,iv a1,iv a2],.v (.bool rb),lim rn,lim rd]) (c1:Pure prog 29 [iv 1] (.sl 4 V0)) (c2:Pure prog 127 [iv a1,iv a0,iv a1] (.sl 4 V1)) (c3:Pure prog 29 [iv 2] (.sl 4 V2)) (c4:Pure prog 127 [iv a2,iv a0,iv a1] (.sl 4 V3)) (c5:Pure prog 26 [.sl 4 V2,.sl 4 V3] (.sl 4 V4)) (c6:Pure prog 193 [.sl 4 V4,.sl 4 V1] (.sl 1 [.sl 4 V5,.sl 4 V4])):Pure prog 126 [.agg [.sl 6 M,.sl 5 GG],iv i] (.tup [.sl 1 [iv a0,iv a1],.sl 1 [.sl 4 V5,.sl 4 V4],.sl 4 V1,iv 0]):=by
 refine pI func126 rfl ntmps126 results126 call126 ?_
 (refine wkad (w_2 hi hs) (w_6 c1 c2 c3 c4 c5 c6) (w_2 (w_d 23 [(9,.sl 4 V1)] [] []) (w_d 24 [(2,.sl 4 V2),(12,.sl 4 V3),(13,.sl 4 V4),(15,.sl 1 [.sl 4 V5,.sl 4 V4])] [] [])) (w_s ?_);intros)
 all_goals exact gL
theorem Zym (M GG:List AV) (i:Nat) (nm:ByteArray) (rb:Bool) (rn rd:List Nat) (a0 a1 a2:Int) (hi:i < M.length) (hs:M.getD i .u=.agg [iv 10,strA nm,.sl 1 [iv a0,iv a1,iv a2],.v (.bool rb),lim rn,lim rd]) (h0:0≤a0∧a0 < 40) (h1:0≤a1∧a1 < 40) (h2:0≤a2∧a2 < 40):Pure prog 126 [.agg [.sl 6 M,.sl 5 GG],iv i] (.tup [.sl 1 [iv a0,iv a1],.sl 1 [qpA (subX (pX a1 a0 a1) (twX (pX a2 a0 a1))),qpA (twX (pX a2 a0 a1))],qpA (pX a1 a0 a1),iv 0]):=by
 have x0:=Zch Zeh;have x1:=Za9 (Zan (.inr rfl) h2 h0 h1);have x2:=(Zch Zeh).mul x1;have x3:=Za9 (Zan (.inr rfl) h1 h0 h1);exact Zvu M GG i nm rb rn rd a0 a1 a2 _ _ _ _ _ _ hi hs (Zfy) (Zc6 _ _ _ (Zan (.inr rfl) h1 h0 h1)) (rlNum2) (Zc6 _ _ _ (Zan (.inr rfl) h2 h0 h1)) (Zg1 (x0.s) (x1.s)) (Zji _ _ (x2.s) (x3.s))
theorem Zvt (M GG:List AV) (i:Nat) (nm:ByteArray) (rb:Bool) (rn rd:List Nat) (a0 a1 a2:Int) (V0 V1 V2 V3 V4:List AV) (hi:i < M.length) (hs:M.getD i .u=.agg [iv 11,strA nm,.sl 1 [iv a0,iv a1,iv a2],.v (.bool rb),lim rn,lim rd]) (c1:Pure prog 29 [iv 1] (.sl 4 V0)) (c2:Pure prog 195 [.sl 1 [iv a0,iv a1,iv a2]] (.tup [.sl 1 [iv a0,iv a1,iv a2],.sl 1 [.sl 4 V1,.sl 4 V2,.sl 4 V3],.sl 4 V4,iv 0])):Pure prog 126 [.agg [.sl 6 M,.sl 5 GG],iv i] (.tup [.sl 1 [iv a0,iv a1,iv a2],.sl 1 [.sl 4 V1,.sl 4 V2,.sl 4 V3],.sl 4 V4,iv 0]):=by
 refine pI func126 rfl ntmps126 results126 call126 ?_
 (refine wkad (w_2 hi hs) (w_2 c1 c2) w_t (w_s ?_);intros)
 all_goals exact gL
theorem Zyl (M GG:List AV) (i:Nat) (nm:ByteArray) (rb:Bool) (rn rd:List Nat) (a0 a1 a2:Int) (hi:i < M.length) (hs:M.getD i .u=.agg [iv 11,strA nm,.sl 1 [iv a0,iv a1,iv a2],.v (.bool rb),lim rn,lim rd]) (h0:0≤a0∧a0 < 40) (h1:0≤a1∧a1 < 40) (h2:0≤a2∧a2 < 40):Pure prog 126 [.agg [.sl 6 M,.sl 5 GG],iv i] (.tup [.sl 1 [iv a0,iv a1,iv a2],.sl 1 [qpA (mulX (pX a1 a2 a1) (pX a1 a0 a2)),qpA (mulX (pX a2 a0 a2) (pX a2 a1 a0)),qpA (mulX (pX a0 a1 a0) (pX a0 a2 a1))],qpA (Zav (Zav (mulX (pX a1 a2 a1) (pX a1 a0 a2)) (mulX (pX a2 a0 a2) (pX a2 a1 a0))) (mulX (pX a0 a1 a0) (pX a0 a2 a1))),iv 0]):=by
 exact Zvt M GG i nm rb rn rd a0 a1 a2 _ _ _ _ _ hi hs (Zfy) (rlCenter a0 a1 a2 h0 h1 h2)
theorem rlParts0 (M GG:List AV) (i:Nat) (k:Int) (nm:ByteArray) (A0:List AV) (rb:Bool) (rn rd:List Nat) (hi:i < M.length) (hs:M.getD i .u=.agg [iv k,strA nm,.sl 1 A0,.v (.bool rb),lim rn,lim rd]) (hk:¬k=2∧¬k=3∧¬k=5∧¬k=9∧¬k=7∧¬k=8∧¬k=10∧¬k=11):Pure prog 126 [.agg [.sl 6 M,.sl 5 GG],iv i] (.tup [.v (.slice none 0 0),.v (.slice none 0 0),.v (.slice none 0 0),iv 8]):=by
 obtain⟨k2,k3,k5,k9,k7,k8,k10,k11⟩:=hk;have c1:=Zfy;generalize (nX 1).map qtA=V at *;refine pI func126 rfl ntmps126 results126 call126 ?_
 (refine wkad (w_10 hi hs k2 k3 k5 k9 k7 k8 k10 k11) (w_1 c1) w_t (w_s ?_);intros)
 all_goals exact gL
theorem l2 {l:List Int} (h:l.length=2):∃a b,l=[a,b]:=by
 match l,h with
 | [a,b],_=>exact⟨a,b,rfl⟩
theorem l3 {l:List Int} (h:l.length=3):∃a b c,l=[a,b,c]:=by
 match l,h with
 | [a,b,c],_=>exact⟨a,b,c,rfl⟩
theorem l4 {l:List Int} (h:l.length=4):∃a b c d,l=[a,b,c,d]:=by
 match l,h with
 | [a,b,c,d],_=>exact⟨a,b,c,d,rfl⟩
abbrev tOf (ss:List RS) (i:Nat):Int:=(prN ((ss.take i).map RS.k)).1
theorem none_q {r:RQ} (h:r.none=true):Sz r.q 2:=by
 unfold RQ.none at h;simp only [ZC2,ZEz,ZDb] at h;obtain⟨s,l,d⟩:=r;simp only at h;obtain⟨rfl,hl,hd⟩:=h;obtain rfl:=List.length_eq_zero_iff.1 hl;obtain rfl:=List.length_eq_zero_iff.1 hd;exact⟨by decide +kernel,by decide +kernel⟩
theorem errS_r {ss:List RS} {i:Nat} (hi:i < ss.length) (h:errS ss i=0):(ss[i].k=2∧ss[i].r.ok=true)∨(ss[i].k≠2∧ss[i].r.none=true):=by
 unfold errS at h;rw [show ss.getD i RS.zero=ss[i] from by rw [ZCx,ZCs hi];rfl] at h;generalize ss[i]=s at *;simp only at h;split at h
 ·omega
 ·split at h
  ·omega
  ·split at h
   ·omega
   ·split at h
    ·omega
    ·rename_i hn;by_cases hk:s.k=2
     ·left;refine⟨hk,?_⟩
      cases hr:s.r.ok with
      | true=>rfl
      | false=>exact absurd (.inl ⟨hk,hr⟩) hn
     ·right;refine⟨hk,?_⟩
      cases hr:s.r.none with
      | true=>rfl
      | false=>exact absurd (.inr ⟨hk,hr⟩) hn
theorem st_a {ss:List RS} {i:Nat} (hi:i < ss.length) (hl:ss.length≤8) (he:errS ss i=0) (hr:ss[i].r.lm 2):StA ss[i].k (tOf ss i) i ss.length ss[i].ar ss[i].r.q:=by
 obtain⟨h1,h2,h3,h4⟩:=Zls hi he;have ht:0≤tOf ss i∧tOf ss i≤16:=by have h:=Zy9 ss (k:=i) hl;exact⟨h.1,h.2.1⟩
 have hz:Sz ss[i].r.q 2:=by
  rcases errS_r hi he with⟨_,h⟩ | ⟨_,h⟩
  ·exact(RQ.ok_av hr h).2
  ·exact none_q h
 generalize ss[i]=s at *;unfold arS at h1 h2;refine⟨zo,hz,λk hk=>by have:=h3 k hk;omega,λk hk=>(h3 k hk).2,zo,⟨?_,?_,?_,?_,?_⟩,?_⟩<;>intro hk
 ·rw [hk] at h2;simp at h2;omega
 ·rw [hk] at h2;simp at h2;omega
 ·rcases hk with hk | hk<;>rw [hk] at h2<;>simp at h2<;>omega
 ·rcases hk with hk | hk | hk<;>rw [hk] at h2<;>simp at h2<;>omega
 ·rw [hk] at h2;simp at h2;omega
 ·rw [hk] at h2;simp at h2;omega
def cmR:Option Cb→AV
 | none=>.tup [.agg [.v (.slice none 0 0),.v (.slice none 0 0),.v (.slice none 0 0)],iv 8]
 | some c=>if c.be.length=0 then .tup [.agg [.v (.slice none 0 0),.v (.slice none 0 0),.v (.slice none 0 0)],iv 3] else .tup [c.av,iv 0]
def rpR:Option Cb→AV
 | none=>.tup [.v (.slice none 0 0),.v (.slice none 0 0),.v (.slice none 0 0),iv 8]
 | some c=>.tup [ivs c.ps,.sl 1 (c.ab.map qpA),qpA c.be,iv 0]
theorem ZBu {k t:Int} {a:List Int} {r:Rat} (hk:¬k=2∧¬k=3∧¬k=5∧¬k=9∧¬k=7∧¬k=8∧¬k=10∧¬k=11):cbOf k a r t=none:=by
 obtain⟨k2,k3,k5,k9,k7,k8,k10,k11⟩:=hk;unfold cbOf;rw [ZCg k2,ZCg k3,ZCg k5,ZCg k9,ZCg k7,ZCg k8,ZCg k10,ZCg k11]
theorem Zhd {ss:List RS} {gs:List RG} {i f:Nat} {k:Int} {nm rb rn rd:AV} {A0 A1:List AV} {c:Cb} (hi:i < ss.length) (hs:(ss.map RS.av).getD i .u=.agg [iv k,nm,.sl 1 A0,rb,rn,rd]) (c0:Pure prog 86 [iv k] (.tup [.agg [.fn f []],.v (.bool true)]))
 (c1:Pure prog 87 [.sl 1 A1] (.sl 1 A1)) (h01:A0=A1) (c2:Pure prog f [figA ss gs,iv i,.sl 1 A1] c.av) (hb:c.be.length≤4):Pure prog 38 [figA ss gs,iv i] (cmR (some c)):=by
 subst h01;have h:=elComb1 (ss.map RS.av) (gs.map RG.av) i k nm A0 rb rn rd f _ _ _ (by rw [ZCj];exact hi) hs c0 c1 c2 (by rw [ZCj];omega);rw [ZCj] at h;exact h
theorem elComb (ss:List RS) (gs:List RG) (i:Nat) (hi:i < ss.length) (h8:ss.length≤8) (he:errS ss i=0) (hr:ss[i].r.lm 2):Pure prog 38 [figA ss gs,iv i] (cmR (cbOf ss[i].k ss[i].ar ss[i].r.q (tOf ss i))):=by
 have hM:(ss.map RS.av).getD i .u=.agg [iv ss[i].k,strA ss[i].nm,ivs ss[i].ar,.v (.bool ss[i].r.s),lim ss[i].r.l,lim ss[i].r.d]:=Zak RS.av hi;have hl:i < (ss.map RS.av).length:=by rw [ZCj];exact hi
 have hA:=st_a hi h8 he hr;obtain⟨h1,h2,h3,h4⟩:=Zls hi he;have hg:∀k,k < ss[i].ar.length→0≤gI ss[i].ar k∧gI ss[i].ar k < 40:=λk hk=>by have:=h3 k hk;omega
 have ht:=hA.tr;have cp:Pure prog 207 [.agg [.sl 6 (ss.map RS.av),.sl 5 (gs.map RG.av)],iv i] (iv (tOf ss i)):=elParam ss gs i zo zo;generalize tOf ss i=t at *;generalize ss[i]=s at *;obtain⟨k,nm,ar,r⟩:=s;simp only at hM hA h1 h2 h3 h4 hg hr ⊢;by_cases k2:k=2
 ·subst k2;obtain⟨a0,a1,rfl⟩:=l2 (show ar.length=2 by simp [arS] at h2;omega);have g0:0≤a0∧a0 < 40:=hg 0 zs;have g1:0≤a1∧a1 < 40:=hg 1 zs;obtain⟨hv,hz⟩:=RQ.ok_av hr (h4 rfl);have hv:AV.agg [.v (.bool r.s),lim r.l,lim r.d]=.agg [.v (.bool (decide (r.q.num < 0))),lim (toL r.q.num.natAbs),lim (toL r.q.den)]:=hv;simp only [AV.agg.injEq,List.cons.injEq,and_true] at hv;rw [hv.1,hv.2.1,hv.2.2] at hM;exact Zhd hi hM elSch2 (Zg0 _ _ [] zs) rfl (ZBc _ _ i a0 a1 2 _ _ r.q hl hM hz g0 g1) (Zl0 (show cbOf 2 [a0,a1] r.q t=some _ from rfl) hA.sz hA.rg hA.n40 hA.tr hA.l).be.l
 by_cases k3:k=3
 ·subst k3;obtain⟨a0,a1,a2,rfl⟩:=l3 (show ar.length=3 by simp [arS] at h2;omega);have g0:0≤a0∧a0 < 40:=hg 0 zs;have g1:0≤a1∧a1 < 40:=hg 1 zs;have g2:0≤a2∧a2 < 40:=hg 2 zs;exact Zhd hi hM elSch3 (Zg0 _ _ [a2] zs) rfl (ZA8 _ _ i a0 a1 a2 g0 g1 g2) (Zl0 (show cbOf 3 [a0,a1,a2] r.q t=some _ from rfl) hA.sz hA.rg hA.n40 hA.tr hA.l).be.l
 by_cases k5:k=5
 ·subst k5;obtain⟨a0,a1,rfl⟩:=l2 (show ar.length=2 by simp [arS] at h2;omega);have g0:0≤a0∧a0 < 40:=hg 0 zs;have g1:0≤a1∧a1 < 40:=hg 1 zs;exact Zhd hi hM elSch5 (Zg0 _ _ [] zs) rfl (elOnLine _ _ i a0 a1 t (show Qt.ok ⟨3,t,0,0⟩=true by unfold Qt.ok;rw [ZDb];exact .inl ⟨rfl,ht.1,ht.2,rfl,rfl⟩) cp g0 g1) (Zl0 (show cbOf 5 [a0,a1] r.q t=some _ from rfl) hA.sz hA.rg hA.n40 hA.tr hA.l).be.l
 by_cases k9:k=9
 ·subst k9;obtain⟨a0,a1,a2,a3,rfl⟩:=l4 (show ar.length=4 by simp [arS] at h2;omega);have g0:0≤a0∧a0 < 40:=hg 0 zs;have g1:0≤a1∧a1 < 40:=hg 1 zs;have g2:0≤a2∧a2 < 40:=hg 2 zs;have g3:0≤a3∧a3 < 40:=hg 3 zs;exact Zhd hi hM elSch9 (Zg0 _ _ [a2,a3] zs) rfl (elMet _ _ i a0 a1 a2 a3 g0 g1 g2 g3) (Zl0 (show cbOf 9 [a0,a1,a2,a3] r.q t=some _ from rfl) hA.sz hA.rg hA.n40 hA.tr hA.l).be.l
 by_cases k7:k=7
 ·subst k7;obtain⟨a0,a1,a2,rfl⟩:=l3 (show ar.length=3 by simp [arS] at h2;omega);have g0:0≤a0∧a0 < 40:=hg 0 zs;have g1:0≤a1∧a1 < 40:=hg 1 zs;have g2:0≤a2∧a2 < 40:=hg 2 zs;exact Zhd hi hM elSch7 (Zg0 _ _ [a2] zs) rfl (elFoot _ _ i a0 a1 a2 g0 g1 g2) (Zl0 (show cbOf 7 [a0,a1,a2] r.q t=some _ from rfl) hA.sz hA.rg hA.n40 hA.tr hA.l).be.l
 by_cases k8:k=8
 ·subst k8;obtain⟨a0,a1,a2,rfl⟩:=l3 (show ar.length=3 by simp [arS] at h2;omega);have g0:0≤a0∧a0 < 40:=hg 0 zs;have g1:0≤a1∧a1 < 40:=hg 1 zs;have g2:0≤a2∧a2 < 40:=hg 2 zs;exact Zhd hi hM elSch8 (Zg0 _ _ [a2] zs) rfl (Zwp _ _ i a0 a1 a2 g0 g1 g2) (Zl0 (show cbOf 8 [a0,a1,a2] r.q t=some _ from rfl) hA.sz hA.rg hA.n40 hA.tr hA.l).be.l
 by_cases k10:k=10
 ·subst k10;obtain⟨a0,a1,a2,rfl⟩:=l3 (show ar.length=3 by simp [arS] at h2;omega);have g0:0≤a0∧a0 < 40:=hg 0 zs;have g1:0≤a1∧a1 < 40:=hg 1 zs;have g2:0≤a2∧a2 < 40:=hg 2 zs;exact Zhd hi hM elSch10 (Zg0 _ _ [a2] zs) rfl (elOther _ _ i a0 a1 a2 g0 g1 g2) (Zl0 (show cbOf 10 [a0,a1,a2] r.q t=some _ from rfl) hA.sz hA.rg hA.n40 hA.tr hA.l).be.l
 by_cases k11:k=11
 ·subst k11;obtain⟨a0,a1,a2,rfl⟩:=l3 (show ar.length=3 by simp [arS] at h2;omega);have g0:0≤a0∧a0 < 40:=hg 0 zs;have g1:0≤a1∧a1 < 40:=hg 1 zs;have g2:0≤a2∧a2 < 40:=hg 2 zs;exact Zhd hi hM elSch11 (Zg0 _ _ [a2] zs) rfl (elCenter _ _ i a0 a1 a2 g0 g1 g2) (Zl0 (show cbOf 11 [a0,a1,a2] r.q t=some _ from rfl) hA.sz hA.rg hA.n40 hA.tr hA.l).be.l
 rw [ZBu ⟨k2,k3,k5,k9,k7,k8,k10,k11⟩];exact elComb0 _ _ i k _ _ _ _ _ hl hM (elSch0 k ⟨k2,k3,k5,k9,k7,k8,k10,k11⟩)
theorem rlPartsG (ss:List RS) (gs:List RG) (i:Nat) (hi:i < ss.length) (h8:ss.length≤8) (he:errS ss i=0) (hr:ss[i].r.lm 2):Pure prog 126 [figA ss gs,iv i] (rpR (cbOf ss[i].k ss[i].ar ss[i].r.q (tOf ss i))):=by
 have hM:(ss.map RS.av).getD i .u=.agg [iv ss[i].k,strA ss[i].nm,ivs ss[i].ar,.v (.bool ss[i].r.s),lim ss[i].r.l,lim ss[i].r.d]:=Zak RS.av hi;have hl:i < (ss.map RS.av).length:=by rw [ZCj];exact hi
 have hA:=st_a hi h8 he hr;obtain⟨h1,h2,h3,h4⟩:=Zls hi he;have hg:∀k,k < ss[i].ar.length→0≤gI ss[i].ar k∧gI ss[i].ar k < 40:=λk hk=>by have:=h3 k hk;omega
 have ht:=hA.tr;have cp:Pure prog 194 [.agg [.sl 6 (ss.map RS.av),.sl 5 (gs.map RG.av)],iv i] (iv (tOf ss i)):=rlParam ss gs i zo zo;generalize tOf ss i=t at *;generalize ss[i]=s at *;obtain⟨k,nm,ar,r⟩:=s;simp only at hM hA h1 h2 h3 h4 hg hr ⊢;by_cases k2:k=2
 ·subst k2;obtain⟨a0,a1,rfl⟩:=l2 (show ar.length=2 by simp [arS] at h2;omega);have g0:0≤a0∧a0 < 40:=hg 0 zs;have g1:0≤a1∧a1 < 40:=hg 1 zs;obtain⟨hv,hz⟩:=RQ.ok_av hr (h4 rfl);have hv:AV.agg [.v (.bool r.s),lim r.l,lim r.d]=.agg [.v (.bool (decide (r.q.num < 0))),lim (toL r.q.num.natAbs),lim (toL r.q.den)]:=hv;simp only [AV.agg.injEq,List.cons.injEq,and_true] at hv;rw [hv.1,hv.2.1,hv.2.2] at hM;exact rlParts2 _ _ i _ r.q a0 a1 hl hM hz g0 g1
 by_cases k3:k=3
 ·subst k3;obtain⟨a0,a1,a2,rfl⟩:=l3 (show ar.length=3 by simp [arS] at h2;omega);have g0:0≤a0∧a0 < 40:=hg 0 zs;have g1:0≤a1∧a1 < 40:=hg 1 zs;have g2:0≤a2∧a2 < 40:=hg 2 zs;exact rlParts3 _ _ i _ _ _ _ a0 a1 a2 hl hM g0 g1 g2
 by_cases k5:k=5
 ·subst k5;obtain⟨a0,a1,rfl⟩:=l2 (show ar.length=2 by simp [arS] at h2;omega);have g0:0≤a0∧a0 < 40:=hg 0 zs;have g1:0≤a1∧a1 < 40:=hg 1 zs;exact rlParts5 _ _ i _ _ _ _ a0 a1 hl hM t (show Qt.ok ⟨3,t,0,0⟩=true by unfold Qt.ok;rw [ZDb];exact .inl ⟨rfl,ht.1,ht.2,rfl,rfl⟩) cp g0 g1
 by_cases k9:k=9
 ·subst k9;obtain⟨a0,a1,a2,a3,rfl⟩:=l4 (show ar.length=4 by simp [arS] at h2;omega);have g0:0≤a0∧a0 < 40:=hg 0 zs;have g1:0≤a1∧a1 < 40:=hg 1 zs;have g2:0≤a2∧a2 < 40:=hg 2 zs;have g3:0≤a3∧a3 < 40:=hg 3 zs;exact rlParts9 _ _ i _ _ _ _ a0 a1 a2 a3 hl hM g0 g1 g2 g3
 by_cases k7:k=7
 ·subst k7;obtain⟨a0,a1,a2,rfl⟩:=l3 (show ar.length=3 by simp [arS] at h2;omega);have g0:0≤a0∧a0 < 40:=hg 0 zs;have g1:0≤a1∧a1 < 40:=hg 1 zs;have g2:0≤a2∧a2 < 40:=hg 2 zs;exact rlParts7 _ _ i _ _ _ _ a0 a1 a2 hl hM g0 g1 g2
 by_cases k8:k=8
 ·subst k8;obtain⟨a0,a1,a2,rfl⟩:=l3 (show ar.length=3 by simp [arS] at h2;omega);have g0:0≤a0∧a0 < 40:=hg 0 zs;have g1:0≤a1∧a1 < 40:=hg 1 zs;have g2:0≤a2∧a2 < 40:=hg 2 zs;exact rlParts8 _ _ i _ _ _ _ a0 a1 a2 hl hM g0 g1 g2
 by_cases k10:k=10
 ·subst k10;obtain⟨a0,a1,a2,rfl⟩:=l3 (show ar.length=3 by simp [arS] at h2;omega);have g0:0≤a0∧a0 < 40:=hg 0 zs;have g1:0≤a1∧a1 < 40:=hg 1 zs;have g2:0≤a2∧a2 < 40:=hg 2 zs;exact Zym _ _ i _ _ _ _ a0 a1 a2 hl hM g0 g1 g2
 by_cases k11:k=11
 ·subst k11;obtain⟨a0,a1,a2,rfl⟩:=l3 (show ar.length=3 by simp [arS] at h2;omega);have g0:0≤a0∧a0 < 40:=hg 0 zs;have g1:0≤a1∧a1 < 40:=hg 1 zs;have g2:0≤a2∧a2 < 40:=hg 2 zs;exact Zyl _ _ i _ _ _ _ a0 a1 a2 hl hM g0 g1 g2
 rw [ZBu ⟨k2,k3,k5,k9,k7,k8,k10,k11⟩];exact rlParts0 _ _ i k _ _ _ _ _ hl hM ⟨k2,k3,k5,k9,k7,k8,k10,k11⟩
theorem rxTwo (p:QTs) (hp:XS p):Pure prog 64 [qpA p,ratQ 2] (qpA (twX p)):=by
 rw [Zjv hp.x.1];exact Zpe hp (Zeh.mono zd) zd
theorem rxHalf (p:QTs) (hp:XS p):Pure prog 64 [qpA p,ratQ (1/2)] (qpA (hfX p)):=by
 rw [Zob hp.x.1];exact Zpe hp (Zjg.mono zd) (by decide +kernel)
theorem tw_ex {p:QTs} (h:EX p):EX (twX p):=by rw [Zjv h];exact h.scl zd
theorem Zwm (m:Bool) (a0 a1 a2 a3 a4:Int) (V0 V1 V2 V3 V4 V5 V6:List AV) (c1:Pure prog 81 [iv a4,iv a3,iv a2] (.sl 4 V0)) (c2:Pure prog 81 [iv a4,iv a3,iv a1] (.sl 4 V1)) (c3:Pure prog 80 [.sl 4 V0,.sl 4 V1] (.sl 4 V2)) (c4:Pure prog 79 [.sl 4 V2] (.sl 4 V3)) (c5:Pure prog 85 [.agg [iv 1,iv a3,iv a4,.v (.bool m)],iv a0] (.sl 4 V4)) (c6:Pure prog 82 [.sl 4 V4,.sl 4 V3] (.sl 4 V5)) (c7:Pure prog 20 [iv 1] (.sl 4 V6)):Pure prog 36 [iv a0,iv a1,iv a2,.agg [iv 1,iv a3,iv a4,.v (.bool m)]] (.agg [.sl 4 V5,.sl 4 V6]):=by
 refine pI func36 rfl ntmps36 results36 call36 ?_
 (refine wkad w_t (w_7 c1 c2 c3 c4 c5 c6 c7) (w_1 (w_d 4 [(5,.sl 4 V0),(11,.sl 4 V1),(12,.sl 4 V2),(13,.sl 4 V3)] [] [])) (w_s ?_);intros)
 all_goals exact gL
theorem ZA7 (m:Bool) (a0 a1 a2 a3 a4:Int) (h0:0≤a0∧a0 < 40) (h1:0≤a1∧a1 < 40) (h2:0≤a2∧a2 < 40) (h3:0≤a3∧a3 < 40) (h4:0≤a4∧a4 < 40):Pure prog 36 [iv a0,iv a1,iv a2,.agg [iv 1,iv a3,iv a4,.v (.bool m)]] (.agg [qpA (Zav (aX a0 a3 a4) (hfX (subX (pX a4 a3 a2) (pX a4 a3 a1)))),qpA (nX 1)]):=by
 have x0:=Za9 (Zan (.inr rfl) h4 h3 h2);have x1:=Za9 (Zan (.inr rfl) h4 h3 h1);have x2:=x0.sub x1;have x3:=Za9 (Zan (.inl rfl) h0 h3 h4);have x4:=(Zch Zjg).mul x2;exact Zwm m a0 a1 a2 a3 a4 _ _ _ _ _ _ _ (Zdy _ _ _ (Zan (.inr rfl) h4 h3 h2)) (Zdy _ _ _ (Zan (.inr rfl) h4 h3 h1)) (Zi9 (x0.s) (x1.s)) (elHfX x2) ((show Pl.at ⟨1,a3,a4,m⟩ a0=aX a0 a3 a4 from ZCh rfl) ▸ elAt 1 a3 a4 a0 m ⟨λ_=>Zan (.inl rfl) h0 h3 h4,λ_ _=>Zan (.inr rfl) h3 h0 h4,λ_ _=>Zan (.inr rfl) h0 h3 h4⟩) (Zj3 (x3.s) (x4.s)) (Zib)
theorem Zwl (k:Int) (hk:¬k=1) (a0 a1 a2 a3 a4:Int) (V0 V1 V2 V3 V4 V5 V6 V7 V8 V9 V10 V11:List AV) (c1:Pure prog 81 [iv a1,iv a2,iv a1] (.sl 4 V0)) (c2:Pure prog 83 [iv a1,iv a2,iv a3] (.sl 4 V1)) (c3:Pure prog 83 [iv a1,iv a2,iv a4] (.sl 4 V2)) (c4:Pure prog 82 [.sl 4 V1,.sl 4 V2] (.sl 4 V3)) (c5:Pure prog 83 [iv a1,iv a2,iv a0] (.sl 4 V4)) (c6:Pure prog 84 [.sl 4 V4] (.sl 4 V5)) (c7:Pure prog 80 [.sl 4 V3,.sl 4 V5] (.sl 4 V6)) (c8:Pure prog 84 [.sl 4 V6] (.sl 4 V7)) (c9:Pure prog 80 [.sl 4 V0,.sl 4 V7] (.sl 4 V8)) (c10:Pure prog 85 [.agg [iv k,iv a3,iv a4,.v (.bool true)],iv a0] (.sl 4 V9)) (c11:Pure prog 82 [.sl 4 V9,.sl 4 V8] (.sl 4 V10)) (c12:Pure prog 20 [iv 1] (.sl 4 V11)):Pure prog 36 [iv a0,iv a1,iv a2,.agg [iv k,iv a3,iv a4,.v (.bool true)]] (.agg [.sl 4 V10,.sl 4 V11]):=by
 refine pI func36 rfl ntmps36 results36 call36 ?_
 (refine wkax (w_1 hk) (w_12 c1 c2 c3 c4 c5 c6 c7 c8 c9 c10 c11 c12) (w_1 (w_d 6 [(4,.sl 4 V1),(9,.sl 4 V2),(10,.sl 4 V3),(14,.sl 4 V4),(15,.sl 4 V5),(16,.sl 4 V6)] [] [])) w_t w_t w_t w_y (w_r 0) (w_s ?_);intros)
 all_goals exact gL
theorem ZA6 (k:Int) (hk:¬k=1) (a0 a1 a2 a3 a4:Int) (h0:0≤a0∧a0 < 40) (h1:0≤a1∧a1 < 40) (h2:0≤a2∧a2 < 40) (h3:0≤a3∧a3 < 40) (h4:0≤a4∧a4 < 40):Pure prog 36 [iv a0,iv a1,iv a2,.agg [iv k,iv a3,iv a4,.v (.bool true)]] (.agg [qpA (Zav (pX a3 a0 a4) (subX (pX a1 a2 a1) (twX (subX (Zav (aX a1 a2 a3) (aX a1 a2 a4)) (twX (aX a1 a2 a0)))))),qpA (nX 1)]):=by
 have x0:=Za9 (Zan (.inl rfl) h1 h2 h3);have x1:=Za9 (Zan (.inl rfl) h1 h2 h4);have x2:=Za9 (Zan (.inl rfl) h1 h2 h0);have x3:=x0.add x1;have x4:=(Zch Zeh).mul x2;have x5:=x3.sub x4;have x6:=Za9 (Zan (.inr rfl) h1 h2 h1);have x7:=(Zch Zeh).mul x5;have x8:=Za9 (Zan (.inr rfl) h3 h0 h4);have x9:=x6.sub x7;exact Zwl k hk a0 a1 a2 a3 a4 _ _ _ _ _ _ _ _ _ _ _ _ (Zdy _ _ _ (Zan (.inr rfl) h1 h2 h1)) (Zj4 _ _ _ (Zan (.inl rfl) h1 h2 h3)) (Zj4 _ _ _ (Zan (.inl rfl) h1 h2 h4)) (Zj3 (x0.s) (x1.s)) (Zj4 _ _ _ (Zan (.inl rfl) h1 h2 h0)) (Zwj x2) (Zi9 (x3.s) (x4.s)) (Zwj x5) (Zi9 (x6.s) (x7.s)) ((show Pl.at ⟨k,a3,a4,true⟩ a0=pX a3 a0 a4 from by unfold Pl.at;rw [ZCg hk,ZCh rfl]) ▸ elAt k a3 a4 a0 true ⟨λ_=>Zan (.inl rfl) h0 h3 h4,λ_ _=>Zan (.inr rfl) h3 h0 h4,λ_ _=>Zan (.inr rfl) h0 h3 h4⟩) (Zj3 (x8.s) (x9.s)) (Zib)
theorem Zwk (k:Int) (hk:¬k=1) (a0 a1 a2 a3 a4:Int) (V0 V1 V2 V3 V4 V5 V6:List AV) (c1:Pure prog 83 [iv a1,iv a2,iv a4] (.sl 4 V0)) (c2:Pure prog 83 [iv a1,iv a2,iv a3] (.sl 4 V1)) (c3:Pure prog 80 [.sl 4 V0,.sl 4 V1] (.sl 4 V2)) (c4:Pure prog 84 [.sl 4 V2] (.sl 4 V3)) (c5:Pure prog 85 [.agg [iv k,iv a3,iv a4,.v (.bool false)],iv a0] (.sl 4 V4)) (c6:Pure prog 82 [.sl 4 V4,.sl 4 V3] (.sl 4 V5)) (c7:Pure prog 20 [iv 1] (.sl 4 V6)):Pure prog 36 [iv a0,iv a1,iv a2,.agg [iv k,iv a3,iv a4,.v (.bool false)]] (.agg [.sl 4 V5,.sl 4 V6]):=by
 refine pI func36 rfl ntmps36 results36 call36 ?_
 (refine wkad (w_1 hk) (w_7 c1 c2 c3 c4 c5 c6 c7) (w_1 (w_d 2 [(4,.sl 4 V0),(9,.sl 4 V1),(10,.sl 4 V2),(11,.sl 4 V3)] [] [])) (w_s ?_);intros)
 all_goals exact gL
theorem ZA5 (k:Int) (hk:¬k=1) (a0 a1 a2 a3 a4:Int) (h0:0≤a0∧a0 < 40) (h1:0≤a1∧a1 < 40) (h2:0≤a2∧a2 < 40) (h3:0≤a3∧a3 < 40) (h4:0≤a4∧a4 < 40):Pure prog 36 [iv a0,iv a1,iv a2,.agg [iv k,iv a3,iv a4,.v (.bool false)]] (.agg [qpA (Zav (pX a0 a3 a4) (twX (subX (aX a1 a2 a4) (aX a1 a2 a3)))),qpA (nX 1)]):=by
 have x0:=Za9 (Zan (.inl rfl) h1 h2 h4);have x1:=Za9 (Zan (.inl rfl) h1 h2 h3);have x2:=x0.sub x1;have x3:=Za9 (Zan (.inr rfl) h0 h3 h4);have x4:=(Zch Zeh).mul x2;exact Zwk k hk a0 a1 a2 a3 a4 _ _ _ _ _ _ _ (Zj4 _ _ _ (Zan (.inl rfl) h1 h2 h4)) (Zj4 _ _ _ (Zan (.inl rfl) h1 h2 h3)) (Zi9 (x0.s) (x1.s)) (Zwj x2) ((show Pl.at ⟨k,a3,a4,false⟩ a0=pX a0 a3 a4 from by unfold Pl.at;rw [ZCg hk,ZCg zs]) ▸ elAt k a3 a4 a0 false ⟨λ_=>Zan (.inl rfl) h0 h3 h4,λ_ _=>Zan (.inr rfl) h3 h0 h4,λ_ _=>Zan (.inr rfl) h0 h3 h4⟩) (Zj3 (x3.s) (x4.s)) (Zib)
theorem elTurned (p:Pl) (a0 a1 a2:Int) (h0:0≤a0∧a0 < 40) (h1:0≤a1∧a1 < 40) (h2:0≤a2∧a2 < 40) (h3:0≤p.q∧p.q < 40) (h4:0≤p.r∧p.r < 40):Pure prog 36 [iv a0,iv a1,iv a2,p.av] (.agg [qpA (tuX a0 a1 a2 p),qpA (nX 1)]):=by
 obtain⟨k,q,r,m⟩:=p;unfold tuX;simp only;split
 ·rename_i hk;obtain rfl:=hk;exact ZA7 m a0 a1 a2 q r h0 h1 h2 h3 h4
 ·rename_i hk
  cases m with
  | true=>rw [ZCh rfl];exact ZA6 k hk a0 a1 a2 q r h0 h1 h2 h3 h4
  | false=>rw [ZCg zs];exact ZA5 k hk a0 a1 a2 q r h0 h1 h2 h3 h4
theorem rfHalf:Pure prog 49 [iv 1,iv 2] (ratQ (1/2)):=by
 have h:=qFrac 1 2 zo zo zo
 rwa [show mkRat ((1:Nat):Int) 2=(1/2:Rat) from by decide +kernel] at h
theorem Zvs (m:Bool) (a0 a1 a2 a3 a4:Int) (rb:Bool) (rn rd:List Nat) (V0 V1 V2 V3 V4 V5:List AV) (c1:Pure prog 128 [iv a0,iv a3,iv a4] (.sl 4 V0)) (c2:Pure prog 127 [iv a4,iv a3,iv a2] (.sl 4 V1)) (c3:Pure prog 127 [iv a4,iv a3,iv a1] (.sl 4 V2)) (c4:Pure prog 129 [.sl 4 V1,.sl 4 V2] (.sl 4 V3)) (c5:Pure prog 64 [.sl 4 V3,.agg [.v (.bool rb),lim rn,lim rd]] (.sl 4 V4)) (c6:Pure prog 68 [.sl 4 V0,.sl 4 V4] (.sl 4 V5)) (c7:Pure prog 49 [iv 1,iv 2] (.agg [.v (.bool rb),lim rn,lim rd])):Pure prog 125 [.sl 1 [iv a0,iv a1,iv a2],iv 1,iv a3,iv a4,.v (.bool m)] (.sl 4 V5):=by
 refine pI func125 rfl ntmps125 results125 call125 ?_
 (refine wkad w_t (w_7 c1 c2 c3 c4 c5 c6 c7) w_t (w_s ?_);intros)
 all_goals exact gL
theorem Zye (m:Bool) (a0 a1 a2 a3 a4:Int) (h0:0≤a0∧a0 < 40) (h1:0≤a1∧a1 < 40) (h2:0≤a2∧a2 < 40) (h3:0≤a3∧a3 < 40) (h4:0≤a4∧a4 < 40):Pure prog 125 [.sl 1 [iv a0,iv a1,iv a2],iv 1,iv a3,iv a4,.v (.bool m)] (qpA (Zav (aX a0 a3 a4) (hfX (subX (pX a4 a3 a2) (pX a4 a3 a1))))):=by
 have x0:=Za9 (Zan (.inr rfl) h4 h3 h2);have x1:=Za9 (Zan (.inr rfl) h4 h3 h1);have x2:=x0.sub x1;have x3:=Za9 (Zan (.inl rfl) h0 h3 h4);have x4:=(Zch Zjg).mul x2;exact Zvs m a0 a1 a2 a3 a4 _ _ _ _ _ _ _ _ _ (Zir _ _ _ (Zan (.inl rfl) h0 h3 h4)) (Zc6 _ _ _ (Zan (.inr rfl) h4 h3 h2)) (Zc6 _ _ _ (Zan (.inr rfl) h4 h3 h1)) (Zjy (x0.s) (x1.s)) (rxHalf _ (x2.s)) (Zk2 (x3.s) (x4.s)) (rfHalf)
theorem Zvr (k:Int) (hk:¬k=1) (a0 a1 a2 a3 a4:Int) (rb:Bool) (rn rd:List Nat) (V0 V1 V2 V3 V4 V5 V6 V7 V8 V9 V10:List AV) (c1:Pure prog 127 [iv a3,iv a0,iv a4] (.sl 4 V0)) (c2:Pure prog 128 [iv a1,iv a2,iv a3] (.sl 4 V1)) (c3:Pure prog 128 [iv a1,iv a2,iv a4] (.sl 4 V2)) (c4:Pure prog 68 [.sl 4 V1,.sl 4 V2] (.sl 4 V3)) (c5:Pure prog 128 [iv a1,iv a2,iv a0] (.sl 4 V4)) (c6:Pure prog 64 [.sl 4 V4,.agg [.v (.bool rb),lim rn,lim rd]] (.sl 4 V5)) (c7:Pure prog 129 [.sl 4 V3,.sl 4 V5] (.sl 4 V6)) (c8:Pure prog 64 [.sl 4 V6,.agg [.v (.bool rb),lim rn,lim rd]] (.sl 4 V7)) (c9:Pure prog 129 [.sl 4 V0,.sl 4 V7] (.sl 4 V8)) (c10:Pure prog 127 [iv a1,iv a2,iv a1] (.sl 4 V9)) (c11:Pure prog 68 [.sl 4 V8,.sl 4 V9] (.sl 4 V10)) (c12:Pure prog 65 [iv 2] (.agg [.v (.bool rb),lim rn,lim rd])):Pure prog 125 [.sl 1 [iv a0,iv a1,iv a2],iv k,iv a3,iv a4,.v (.bool true)] (.sl 4 V10):=by
 refine pI func125 rfl ntmps125 results125 call125 ?_
 (refine wkax (w_1 hk) (w_12 c1 c2 c3 c4 c5 c6 c7 c8 c9 c10 c11 c12) w_t w_t w_t w_t w_y (w_r 0) (w_s ?_);intros)
 all_goals exact gL
theorem Zyd (k:Int) (hk:¬k=1) (a0 a1 a2 a3 a4:Int) (h0:0≤a0∧a0 < 40) (h1:0≤a1∧a1 < 40) (h2:0≤a2∧a2 < 40) (h3:0≤a3∧a3 < 40) (h4:0≤a4∧a4 < 40):Pure prog 125 [.sl 1 [iv a0,iv a1,iv a2],iv k,iv a3,iv a4,.v (.bool true)] (qpA (Zav (subX (pX a3 a0 a4) (twX (subX (Zav (aX a1 a2 a3) (aX a1 a2 a4)) (twX (aX a1 a2 a0))))) (pX a1 a2 a1))):=by
 have x0:=Za9 (Zan (.inl rfl) h1 h2 h3);have x1:=Za9 (Zan (.inl rfl) h1 h2 h4);have x2:=Za9 (Zan (.inl rfl) h1 h2 h0);have x3:=x0.add x1;have x4:=(Zch Zeh).mul x2;have x5:=x3.sub x4;have x6:=Za9 (Zan (.inr rfl) h3 h0 h4);have x7:=(Zch Zeh).mul x5;have x8:=x6.sub x7;have x9:=Za9 (Zan (.inr rfl) h1 h2 h1);exact Zvr k hk a0 a1 a2 a3 a4 _ _ _ _ _ _ _ _ _ _ _ _ _ _ (Zc6 _ _ _ (Zan (.inr rfl) h3 h0 h4)) (Zir _ _ _ (Zan (.inl rfl) h1 h2 h3)) (Zir _ _ _ (Zan (.inl rfl) h1 h2 h4)) (Zk2 (x0.s) (x1.s)) (Zir _ _ _ (Zan (.inl rfl) h1 h2 h0)) (rxTwo _ (x2.s)) (Zjy (x3.s) (x4.s)) (rxTwo _ (x5.s)) (Zjy (x6.s) (x7.s)) (Zc6 _ _ _ (Zan (.inr rfl) h1 h2 h1)) (Zk2 (x8.s) (x9.s)) (qOf 2 zo)
theorem Zvq (k:Int) (hk:¬k=1) (a0 a1 a2 a3 a4:Int) (rb:Bool) (rn rd:List Nat) (V0 V1 V2 V3 V4 V5:List AV) (c1:Pure prog 127 [iv a0,iv a3,iv a4] (.sl 4 V0)) (c2:Pure prog 128 [iv a1,iv a2,iv a4] (.sl 4 V1)) (c3:Pure prog 128 [iv a1,iv a2,iv a3] (.sl 4 V2)) (c4:Pure prog 129 [.sl 4 V1,.sl 4 V2] (.sl 4 V3)) (c5:Pure prog 64 [.sl 4 V3,.agg [.v (.bool rb),lim rn,lim rd]] (.sl 4 V4)) (c6:Pure prog 68 [.sl 4 V0,.sl 4 V4] (.sl 4 V5)) (c7:Pure prog 65 [iv 2] (.agg [.v (.bool rb),lim rn,lim rd])):Pure prog 125 [.sl 1 [iv a0,iv a1,iv a2],iv k,iv a3,iv a4,.v (.bool false)] (.sl 4 V5):=by
 refine pI func125 rfl ntmps125 results125 call125 ?_
 (refine wkad (w_1 hk) (w_7 c1 c2 c3 c4 c5 c6 c7) w_t (w_s ?_);intros)
 all_goals exact gL
theorem Zyc (k:Int) (hk:¬k=1) (a0 a1 a2 a3 a4:Int) (h0:0≤a0∧a0 < 40) (h1:0≤a1∧a1 < 40) (h2:0≤a2∧a2 < 40) (h3:0≤a3∧a3 < 40) (h4:0≤a4∧a4 < 40):Pure prog 125 [.sl 1 [iv a0,iv a1,iv a2],iv k,iv a3,iv a4,.v (.bool false)] (qpA (Zav (pX a0 a3 a4) (twX (subX (aX a1 a2 a4) (aX a1 a2 a3))))):=by
 have x0:=Za9 (Zan (.inl rfl) h1 h2 h4);have x1:=Za9 (Zan (.inl rfl) h1 h2 h3);have x2:=x0.sub x1;have x3:=Za9 (Zan (.inr rfl) h0 h3 h4);have x4:=(Zch Zeh).mul x2;exact Zvq k hk a0 a1 a2 a3 a4 _ _ _ _ _ _ _ _ _ (Zc6 _ _ _ (Zan (.inr rfl) h0 h3 h4)) (Zir _ _ _ (Zan (.inl rfl) h1 h2 h4)) (Zir _ _ _ (Zan (.inl rfl) h1 h2 h3)) (Zjy (x0.s) (x1.s)) (rxTwo _ (x2.s)) (Zk2 (x3.s) (x4.s)) (qOf 2 zo)
theorem rlTurned (p:Pl) (a0 a1 a2:Int) (h0:0≤a0∧a0 < 40) (h1:0≤a1∧a1 < 40) (h2:0≤a2∧a2 < 40) (h3:0≤p.q∧p.q < 40) (h4:0≤p.r∧p.r < 40):Pure prog 125 [.sl 1 [iv a0,iv a1,iv a2],iv p.k,iv p.q,iv p.r,.v (.bool p.mid)] (qpA (tuX a0 a1 a2 p)):=by
 rw [tu_eq (n:=40) ⟨h3,h4⟩ zd h0 h1 h2];obtain⟨k,q,r,m⟩:=p;simp only at h3 h4;have eA:∀x y z:Int,(0≤x∧x < 40)→(0≤y∧y < 40)→(0≤z∧z < 40)→EX (aX x y z):=λx y z h1 h2 h3=>(Za9 (Zan (.inl rfl) h1 h2 h3)).x.1;have eP:∀x y z:Int,(0≤x∧x < 40)→(0≤y∧y < 40)→(0≤z∧z < 40)→EX (pX x y z):=λx y z h1 h2 h3=>(Za9 (Zan (.inr rfl) h1 h2 h3)).x.1;unfold tuR;simp only;split
 ·rename_i hk;obtain rfl:=hk;rw [←Zob ((eP _ _ _ h4 h3 h2).sub (eP _ _ _ h4 h3 h1))];exact Zye m a0 a1 a2 q r h0 h1 h2 h3 h4
 ·rename_i hk
  cases m with
  | true =>
    rw [ZCh rfl,←Zjv (eA _ _ _ h1 h2 h0),←Zjv (((eA _ _ _ h1 h2 h3).add (eA _ _ _ h1 h2 h4)).sub (tw_ex (eA _ _ _ h1 h2 h0)))];exact Zyd k hk a0 a1 a2 q r h0 h1 h2 h3 h4
  | false =>
    rw [ZCg zs,←Zjv ((eA _ _ _ h1 h2 h4).sub (eA _ _ _ h1 h2 h3))];exact Zyc k hk a0 a1 a2 q r h0 h1 h2 h3 h4
theorem ZBe (k q r:Int) (mid:Bool) (ps:List Int) (hn:ps.length≤100) (AB AT MU AS OT:Nat→List AV) (W PY PR IN:Nat→Nat→List AV) (BE DD AA:List AV) (hA:∀i,i < ps.length→AA.getD i .u=.sl 4 (AB i)) (hlA:AA.length=ps.length)
 (cAt:∀i,i < ps.length→Pure prog 85 [.agg [iv k,iv q,iv r,.v (.bool mid)],iv (gI ps i)] (.sl 4 (AT i)))
 (cMu:∀i,i < ps.length→Pure prog 40 [.sl 4 (AB i),.sl 4 (AT i)] (.sl 4 (MU i)))
 (cAd:∀i,i < ps.length→Pure prog 82 [.sl 4 (AS i),.sl 4 (MU i)] (.sl 4 (AS (i+1)))) (h0:AS 0=[])
 (cB:mid=true→Pure prog 40 [.sl 4 (BE),.sl 4 (AS ps.length)] (.sl 4 (OT 0))) (cW:∀i j,mid=true→i < j→j < ps.length→Pure prog 40 [.sl 4 (AB i),.sl 4 (AB j)] (.sl 4 (W i j)))
 (cP:∀i j,mid=true→i < j→j < ps.length→Pure prog 81 [iv (gI ps i),iv (gI ps j),iv (gI ps i)] (.sl 4 (PY i j)))
 (cT:∀i j,mid=true→i < j→j < ps.length→Pure prog 40 [.sl 4 (W i j),.sl 4 (PY i j)] (.sl 4 (PR i j)))
 (cS:∀i d,mid=true→i+1+d < ps.length→Pure prog 80 [.sl 4 (IN i d),.sl 4 (PR i (i+1+d))] (.sl 4 (IN i (d+1))))
 (hI:∀i,IN i 0=OT i) (hO:∀i,i < ps.length→IN i (ps.length - (i+1))=OT (i+1)) (cD:mid=true→Pure prog 40 [.sl 4 (BE),.sl 4 (BE)] (.sl 4 (DD))) :
 Pure prog 39 [.agg [.sl 1 (ps.map iv),.sl 1 AA,.sl 4 BE],.agg [iv k,iv q,iv r,.v (.bool mid)]] (if mid=true then .agg [.sl 4 (OT ps.length),.sl 4 DD] else .agg [.sl 4 (AS ps.length),.sl 4 BE]):=by
 have hlp:(ps.map iv).length=ps.length:=ZCj ..;have hg:∀i,i < ps.length→(ps.map iv).getD i .u=iv (gI ps i):=λi h=>by rw [Zfb h];exact Zak iv h
 generalize ps.map iv=PS at *;refine pI func39 rfl ntmps39 results39 call39 ?_
 (refine wkad (w_1 hlp) w_t w_t (w_s ?_);intros)
 rename_i g2 g3 g4;refine Zdj (Frz.nil (d:=5) 4 (gC)) ?_;refine Zad (ι:=Nat) (λi e m=>i≤ps.length∧((e 2=.pbox 2 g2 0∧m 2=some (.box g2 83 [.sl 1 PS,.sl 1 AA,.sl 4 BE] false))∧(e 3=.pbox 3 g3 0∧m 3=some (.box g3 79 [iv k,iv q,iv r,.v (.bool mid)] false))∧(e 4=.pbox 4 g4 0∧m 4=some (.box g4 29 [.v (.slice none 0 0),.v (.slice none 0 0)] false)))∧(e 12=.sl 1 PS∧e 13=iv ps.length∧e 14=iv i)∧e 5=.sl 4 (AS i)) (λi=>ps.length - i) 0 zr ?_ ?_
 ·rintro i e m ⟨hi,⟨⟨e2,m2⟩,⟨e3,m3⟩,⟨e4,m4⟩⟩,⟨e12,e13,e14⟩,e5⟩
  by_cases hlt:i < ps.length
  ·have hgi:=hg i hlt;have hai:=hA i hlt;have c1:=cAt i hlt;have c2:=cMu i hlt;have c3:=cAd i hlt;clear cAt cMu cAd cB cW cP cT cS hI hO cD hA hg h0
   (refine wkad (w_14 e2 m2 e3 m3 e4 m4 e12 e13 e14 e5 hlp hgi hai hlA) (w_3 c1 c2 c3) (w_1 (w_d 5 [(8,.sl 4 (AT i)),(9,.sl 4 (MU i)),(10,.sl 4 (AS (i+1)))] [] [])) (w_s ?_);intros)
   exact⟨i+1,⟨zo,⟨⟨gW e2,gW m2⟩,⟨gW e3,gW m3⟩,⟨gW e4,gW m4⟩⟩,⟨gW e12,gW e13,gS⟩,gC⟩,zo⟩
  ·have:i=ps.length:=zo;subst this
   cases mid with
   | false =>
     rw [ZCg zs];clear cAt cMu cAd cB cW cP cT cS hI hO cD hA hg h0
     (refine wkad (w_11 e2 m2 e3 m3 e4 m4 e12 e13 e14 e5 hlp) w_t w_t (w_s ?_);intros)
     all_goals exact gM (w_2 e4 m4)
   | true =>
     rw [ZCh rfl];have cb:=cB rfl;have cd:=cD rfl;clear cAt cMu cAd cB cD h0
     (refine wkad (w_11 e2 m2 e3 m3 e4 m4 e12 e13 e14 e5 hlp) (w_1 cb) w_t (w_s ?_);intros)
     refine Zad (ι:=Nat) (λi e m=>i≤ps.length∧((e 2=.pbox 2 g2 0∧m 2=some (.box g2 83 [.sl 1 PS,.sl 1 AA,.sl 4 BE] false))∧(e 3=.pbox 3 g3 0∧m 3=some (.box g3 79 [iv k,iv q,iv r,.v (.bool true)] false))∧(e 4=.pbox 4 g4 0∧m 4=some (.box g4 29 [.v (.slice none 0 0),.v (.slice none 0 0)] false)))∧(e 44=iv ps.length∧e 45=iv i)∧e 5=.sl 4 (OT i)) (λi=>ps.length - i) 0 zr ?_ ?_
     ·clear e2 m2 e3 m3 e4 m4 e12 e13 e14 e5 cb
      rintro i e m ⟨hi,⟨⟨e2,m2⟩,⟨e3,m3⟩,⟨e4,m4⟩⟩,⟨e44,e45⟩,e5⟩
      by_cases hlt:i < ps.length
      ·have hai:=hA i hlt;have hgi:=hg i hlt
       (refine wkax (w_10 e2 m2 e3 m3 e4 m4 e44 e45 e5 hlp) w_t w_t w_t w_t w_t w_t (w_r 0) (w_s ?_);intros)
       rw [←hI i] at e5;refine Zad (ι:=Nat) (λd e m=>i+1+d≤ps.length∧((e 2=.pbox 2 g2 0∧m 2=some (.box g2 83 [.sl 1 PS,.sl 1 AA,.sl 4 BE] false))∧(e 3=.pbox 3 g3 0∧m 3=some (.box g3 79 [iv k,iv q,iv r,.v (.bool true)] false))∧(e 4=.pbox 4 g4 0∧m 4=some (.box g4 29 [.v (.slice none 0 0),.v (.slice none 0 0)] false)))∧(e 44=iv ps.length∧e 45=iv i∧e 8=iv i∧e 9=iv ((i+1+d:Nat):Int))∧e 5=.sl 4 (IN i d)) (λd=>ps.length - (i+1+d)) 0 zr ?_ ?_
       ·clear e2 m2 e3 m3 e4 m4 e44 e45 e5
        rintro d e m ⟨hd,⟨⟨e2,m2⟩,⟨e3,m3⟩,⟨e4,m4⟩⟩,⟨e44,e45,e8,e9⟩,e5⟩
        by_cases hld:i+1+d < ps.length
        ·have haj:=hA (i+1+d) hld;have hgj:=hg (i+1+d) hld;have c1:=cW i (i+1+d) rfl zo hld;have c2:=cP i (i+1+d) rfl zo hld;have c3:=cT i (i+1+d) rfl zo hld;have c4:=cS i d rfl hld;have hs:((i+1+d:Nat):Int)+1=((i+1+(d+1):Nat):Int):=zo;clear cW cP cT cS hI hO hA hg;generalize hj:i+1+d=j at *
         (refine wkad (w_18 e2 m2 e3 m3 e4 m4 e44 e45 e8 e9 e5 hlp hlA hai hgi haj hgj hs) (w_4 c1 c2 c3 c4) (w_2 (w_d 16 [(10,.sl 4 (W i j))] [] []) (w_d 17 [(17,.sl 4 (PY i j)),(18,.sl 4 (PR i j)),(19,.sl 4 (IN i (d+1)))] [] [])) (w_s ?_);intros)
         exact⟨d+1,⟨zo,⟨⟨gW e2,gW m2⟩,⟨gW e3,gW m3⟩,⟨gW e4,gW m4⟩⟩,⟨gW e44,gW e45,gW e8,gW hs⟩,gC⟩,zo⟩
        ·have hd2:d=ps.length - (i+1):=zo;rw [hd2,hO i hlt] at e5;have hjN:((i+1+d:Nat):Int)=(ps.length:Int):=zo;rw [hjN] at e9;clear cW cP cT cS hI hO hA hg
         (refine wkad (w_12 e2 m2 e3 m3 e4 m4 e44 e45 e8 e9 e5 hlp) w_t w_t (w_s ?_);intros)
         exact⟨i+1,⟨zo,⟨⟨gW e2,gW m2⟩,⟨gW e3,gW m3⟩,⟨gW e4,gW m4⟩⟩,⟨gW e44,gS⟩,gW e5⟩,zo⟩
       ·exact⟨zo,⟨⟨gW e2,gW m2⟩,⟨gW e3,gW m3⟩,⟨gW e4,gW m4⟩⟩,⟨gW e44,gW e45,gC,gS⟩,gW e5⟩
      ·have:i=ps.length:=zo;subst this;clear cW cP cT cS hI hO hA hg
       (refine wkad (w_10 e2 m2 e3 m3 e4 m4 e44 e45 e5 hlp) (w_1 cd) w_t (w_s ?_);intros)
       all_goals exact gM (w_2 e4 m4)
     ·exact⟨ZCr _,⟨⟨gW e2,gW m2⟩,⟨gW e3,gW m3⟩,⟨gW e4,gW m4⟩⟩,⟨gW hlp,gC⟩,gC⟩
 ·exact⟨ZCr _,⟨⟨gC,gC⟩,⟨gC,gC⟩,⟨gC,gC⟩⟩,⟨gC,gW hlp,gC⟩,by rw [h0];exact gC⟩
theorem rlFormT (M G:List AV) (i0:Nat) (sk k a b c q r:Int) (mid:Bool) (nm:AV) (A0:List AV) (rb rn rd:AV) (hi0:i0 < M.length) (hs:M.getD i0 .u=.agg [iv sk,nm,.sl 1 A0,rb,rn,rd]) (cv:Pure prog 124 [.agg [iv k,iv a,iv b,iv c],iv i0] (.tup [iv q,iv r,.v (.bool mid)])) (hk:sk=4) (TU ON:List AV) (ct:Pure prog 125 [.sl 1 A0,iv k,iv q,iv r,.v (.bool mid)] (.sl 4 (TU))) (c1:Pure prog 29 [iv 1] (.sl 4 (ON))) :
 Pure prog 63 [.agg [.sl 6 M,.sl 5 G],iv i0,.agg [iv k,iv a,iv b,iv c]] (.tup [.agg [.sl 4 TU,.sl 4 ON],iv 0]):=by
 subst hk;refine pI func63 rfl ntmps63 results63 call63 ?_
 (refine wkad (w_2 hi0 hs) (w_3 cv ct c1) (w_1 (w_d 3 [(11,.sl 4 TU),(12,.sl 4 ON)] [] [6])) (w_s ?_);intros)
 all_goals exact gL
theorem rlFormE (M G:List AV) (i0:Nat) (sk k a b c q r:Int) (mid:Bool) (nm:AV) (A0:List AV) (rb rn rd:AV) (hi0:i0 < M.length) (hs:M.getD i0 .u=.agg [iv sk,nm,.sl 1 A0,rb,rn,rd]) (cv:Pure prog 124 [.agg [iv k,iv a,iv b,iv c],iv i0] (.tup [iv q,iv r,.v (.bool mid)])) (hk:¬sk=4) (z:Int) (hz:¬z=0) (cp:Pure prog 126 [.agg [.sl 6 M,.sl 5 G],iv i0] (.tup [.v (.slice none 0 0),.v (.slice none 0 0),.v (.slice none 0 0),iv z])) :
 Pure prog 63 [.agg [.sl 6 M,.sl 5 G],iv i0,.agg [iv k,iv a,iv b,iv c]] (.tup [.agg [.v (.slice none 0 0),.v (.slice none 0 0)],iv z]):=by
 refine pI func63 rfl ntmps63 results63 call63 ?_
 (refine wkad (w_4 hi0 hs hk hz) (w_2 cv cp) w_t (w_s ?_);intros)
 all_goals exact gL
theorem rlFormZ (M G:List AV) (i0:Nat) (sk k a b c q r:Int) (mid:Bool) (nm:AV) (A0:List AV) (rb rn rd:AV) (hi0:i0 < M.length) (hs:M.getD i0 .u=.agg [iv sk,nm,.sl 1 A0,rb,rn,rd]) (cv:Pure prog 124 [.agg [iv k,iv a,iv b,iv c],iv i0] (.tup [iv q,iv r,.v (.bool mid)])) (hk:¬sk=4) (PS AA BE:List AV) (hB:BE.length=0) (cp:Pure prog 126 [.agg [.sl 6 M,.sl 5 G],iv i0] (.tup [.sl 1 PS,.sl 1 AA,.sl 4 BE,iv 0])) :
 Pure prog 63 [.agg [.sl 6 M,.sl 5 G],iv i0,.agg [iv k,iv a,iv b,iv c]] (.tup [.agg [.v (.slice none 0 0),.v (.slice none 0 0)],iv 3]):=by
 refine pI func63 rfl ntmps63 results63 call63 ?_
 (refine wkad (w_4 hi0 hs hk hB) (w_2 cv cp) w_t (w_s ?_);intros)
 all_goals exact gL
theorem rlFormO (M G:List AV) (i0:Nat) (sk k a b c q r:Int) (mid:Bool) (nm:AV) (A0:List AV) (rb rn rd:AV) (hi0:i0 < M.length) (hs:M.getD i0 .u=.agg [iv sk,nm,.sl 1 A0,rb,rn,rd]) (cv:Pure prog 124 [.agg [iv k,iv a,iv b,iv c],iv i0] (.tup [iv q,iv r,.v (.bool mid)])) (hk:¬sk=4) (ps:List Int) (hn:ps.length≤100) (AB AT MU AS OT:Nat→List AV) (W PY PR IN:Nat→Nat→List AV) (BE DD AA:List AV) (XT:Nat→List AV) (hA:∀i,i < ps.length→AA.getD i .u=.sl 4 (AB i)) (hlA:AA.length=ps.length) (hB:¬BE.length=0)
 (cp:Pure prog 126 [.agg [.sl 6 M,.sl 5 G],iv i0] (.tup [.sl 1 (ps.map iv),.sl 1 AA,.sl 4 BE,iv 0]))
 (cX:∀i,i < ps.length→Pure prog 127 [iv (gI ps i),iv q,iv r] (.sl 4 (XT i))) (h1m:k=1→mid=false) (cA:k=1→∀i,i < ps.length→Pure prog 128 [iv (gI ps i),iv q,iv r] (.sl 4 (AT i)))
 (cM:mid=true→∀i,i < ps.length→Pure prog 127 [iv q,iv (gI ps i),iv r] (.sl 4 (AT i))) (hX:¬k=1→mid=false→∀i,XT i=AT i)
 (cMu:∀i,i < ps.length→Pure prog 26 [.sl 4 (AB i),.sl 4 (AT i)] (.sl 4 (MU i)))
 (cAd:∀i,i < ps.length→Pure prog 68 [.sl 4 (AS i),.sl 4 (MU i)] (.sl 4 (AS (i+1)))) (h0:AS 0=[])
 (cB:mid=true→Pure prog 26 [.sl 4 (BE),.sl 4 (AS ps.length)] (.sl 4 (OT 0))) (cW:∀i j,mid=true→i < j→j < ps.length→Pure prog 26 [.sl 4 (AB i),.sl 4 (AB j)] (.sl 4 (W i j)))
 (cP:∀i j,mid=true→i < j→j < ps.length→Pure prog 127 [iv (gI ps i),iv (gI ps j),iv (gI ps i)] (.sl 4 (PY i j)))
 (cT:∀i j,mid=true→i < j→j < ps.length→Pure prog 26 [.sl 4 (W i j),.sl 4 (PY i j)] (.sl 4 (PR i j)))
 (cS:∀i d,mid=true→i+1+d < ps.length→Pure prog 129 [.sl 4 (IN i d),.sl 4 (PR i (i+1+d))] (.sl 4 (IN i (d+1))))
 (hI:∀i,IN i 0=OT i) (hO:∀i,i < ps.length→IN i (ps.length - (i+1))=OT (i+1)) (cD:mid=true→Pure prog 26 [.sl 4 (BE),.sl 4 (BE)] (.sl 4 (DD))) :
 Pure prog 63 [.agg [.sl 6 M,.sl 5 G],iv i0,.agg [iv k,iv a,iv b,iv c]] (.tup [if mid=true then .agg [.sl 4 (OT ps.length),.sl 4 DD] else .agg [.sl 4 (AS ps.length),.sl 4 BE],iv 0]):=by
 have hlp:(ps.map iv).length=ps.length:=ZCj ..;have hg:∀i,i < ps.length→(ps.map iv).getD i .u=iv (gI ps i):=λi h=>by rw [Zfb h];exact Zak iv h
 generalize ps.map iv=PS at *;refine pI func63 rfl ntmps63 results63 call63 ?_
 (refine wkad (w_5 hi0 hs hk hB hlp) (w_2 cv cp) w_t (w_s ?_);intros)
 rename_i g3 g5 g6;clear cv cp hs;refine Zdj (Frz.nil (d:=15) 4 (gC)) ?_;refine Zad (ι:=Nat) (λi e m=>i≤ps.length∧((e 5=.pbox 5 g5 0∧m 5=some (.box g5 39 [iv k,iv a,iv b,iv c] false))∧(e 6=.pbox 6 g6 0∧m 6=some (.box g6 29 [.v (.slice none 0 0),.v (.slice none 0 0)] false))∧e 8=iv q∧e 9=iv r∧e 10=.v (.bool mid)∧e 11=.sl 1 PS∧e 12=.sl 1 AA∧e 13=.sl 4 BE)∧e 16=iv i∧e 15=.sl 4 (AS i)) (λi=>ps.length - i) 0 zr ?_ ?_
 ·rintro i e m ⟨hi,⟨⟨e5,m5⟩,⟨e6,m6⟩,e8,e9,e10,e11,e12,e13⟩,e16,e15⟩
  by_cases hlt:i < ps.length
  ·have hgi:=hg i hlt;have hai:=hA i hlt;have c0:=cX i hlt;have c2:=cMu i hlt;have c3:=cAd i hlt;clear cMu cAd cB cW cP cT cS hI hO cD hA hg h0 cX;by_cases h1:k=1
   ·have c1:=cA h1 i hlt;obtain rfl:=h1m h1;clear cA cM hX h1m
    (refine wkad (w_17 e5 m5 e6 m6 e8 e9 e10 e11 e12 e13 e16 e15 hlp hgi hai hlA h1) (w_4 c0 c1 c2 c3) w_t (w_s ?_);intros)
    exact⟨i+1,⟨zo,⟨⟨gW e5,gW m5⟩,⟨gW e6,gW m6⟩,gW e8,gW e9,gW e10,gW e11,gW e12,gW e13⟩,gS,gC⟩,zo⟩
   ·cases mid with
    | false =>
      have hXi:=hX h1 rfl i;clear cA cM hX h1m;rw [hXi] at c0
      (refine wkad (w_17 e5 m5 e6 m6 e8 e9 e10 e11 e12 e13 e16 e15 hlp hgi hai hlA h1) (w_3 c0 c2 c3) w_t (w_s ?_);intros)
      exact⟨i+1,⟨zo,⟨⟨gW e5,gW m5⟩,⟨gW e6,gW m6⟩,gW e8,gW e9,gW e10,gW e11,gW e12,gW e13⟩,gS,gC⟩,zo⟩
    | true =>
      have c1:=cM rfl i hlt;clear cA cM hX h1m
      (refine wkad (w_17 e5 m5 e6 m6 e8 e9 e10 e11 e12 e13 e16 e15 hlp hgi hai hlA h1) (w_4 c0 c1 c2 c3) w_t (w_s ?_);intros)
      exact⟨i+1,⟨zo,⟨⟨gW e5,gW m5⟩,⟨gW e6,gW m6⟩,gW e8,gW e9,gW e10,gW e11,gW e12,gW e13⟩,gS,gC⟩,zo⟩
  ·have:i=ps.length:=zo;subst this;clear cX h1m cA cM hX cMu cAd h0
   cases mid with
   | false =>
     rw [ZCg zs];clear cB cW cP cT cS hI hO cD hA hg
     (refine wkad (w_14 e5 m5 e6 m6 e8 e9 e10 e11 e12 e13 e16 e15 hlp hlA) w_t w_t (w_s ?_);intros)
     all_goals exact gM (w_2 e6 m6)
   | true =>
     rw [ZCh rfl];have cb:=cB rfl;have cd:=cD rfl;clear cB cD
     (refine wkad (w_14 e5 m5 e6 m6 e8 e9 e10 e11 e12 e13 e16 e15 hlp hlA) (w_1 cb) w_t (w_s ?_);intros)
     refine Zad (ι:=Nat) (λi e m=>i≤ps.length∧((e 6=.pbox 6 g6 0∧m 6=some (.box g6 29 [.v (.slice none 0 0),.v (.slice none 0 0)] false))∧e 11=.sl 1 PS∧e 12=.sl 1 AA∧e 13=.sl 4 BE)∧e 18=iv i∧e 15=.sl 4 (OT i)) (λi=>ps.length - i) 0 zr ?_ ?_
     ·clear e5 m5 e6 m6 e8 e9 e10 e11 e12 e13 e16 e15 cb
      rintro i e m ⟨hi,⟨⟨e6,m6⟩,e11,e12,e13⟩,e18,e15⟩
      by_cases hlt:i < ps.length
      ·have hai:=hA i hlt;have hgi:=hg i hlt
       (refine wkax (w_9 e6 m6 e11 e12 e13 e18 e15 hlp hlA) w_t w_t w_t w_t w_t w_t (w_r 0) (w_s ?_);intros)
       rw [←hI i] at e15;refine Zad (ι:=Nat) (λd e m=>i+1+d≤ps.length∧((e 6=.pbox 6 g6 0∧m 6=some (.box g6 29 [.v (.slice none 0 0),.v (.slice none 0 0)] false))∧e 11=.sl 1 PS∧e 12=.sl 1 AA∧e 13=.sl 4 BE)∧(e 18=iv i∧e 19=iv ((i+1+d:Nat):Int))∧e 15=.sl 4 (IN i d)) (λd=>ps.length - (i+1+d)) 0 zr ?_ ?_
       ·clear e6 m6 e11 e12 e13 e18 e15
        rintro d e m ⟨hd,⟨⟨e6,m6⟩,e11,e12,e13⟩,⟨e18,e19⟩,e15⟩
        by_cases hld:i+1+d < ps.length
        ·have haj:=hA (i+1+d) hld;have hgj:=hg (i+1+d) hld;have c1:=cW i (i+1+d) rfl zo hld;have c2:=cP i (i+1+d) rfl zo hld;have c3:=cT i (i+1+d) rfl zo hld;have c4:=cS i d rfl hld;have hs:((i+1+d:Nat):Int)+1=((i+1+(d+1):Nat):Int):=zo;clear cW cP cT cS hI hO hA hg;generalize hj:i+1+d=j at *
         (refine wkad (w_15 e6 m6 e11 e12 e13 e18 e19 e15 hlp hlA hai hgi haj hgj hs) (w_4 c1 c2 c3 c4) (w_1 (w_d 28 [(9,.sl 4 (W i j)),(22,.sl 4 (PY i j)),(23,.sl 4 (PR i j)),(24,.sl 4 (IN i (d+1)))] [] [])) (w_s ?_);intros)
         exact⟨d+1,⟨zo,⟨⟨gW e6,gW m6⟩,gW e11,gW e12,gW e13⟩,⟨gW e18,gW hs⟩,gC⟩,zo⟩
        ·have hd2:d=ps.length - (i+1):=zo;rw [hd2,hO i hlt] at e15;have hjN:((i+1+d:Nat):Int)=(ps.length:Int):=zo;rw [hjN] at e19;clear cW cP cT cS hI hO hA hg
         (refine wkad (w_10 e6 m6 e11 e12 e13 e18 e19 e15 hlp hlA) w_t w_t (w_s ?_);intros)
         exact⟨i+1,⟨zo,⟨⟨gW e6,gW m6⟩,gW e11,gW e12,gW e13⟩,gS,gW e15⟩,zo⟩
       ·exact⟨zo,⟨⟨gW e6,gW m6⟩,gW e11,gW e12,gW e13⟩,⟨gW e18,gS⟩,gW e15⟩
      ·have:i=ps.length:=zo;subst this;clear cW cP cT cS hI hO hA hg
       (refine wkad (w_9 e6 m6 e11 e12 e13 e18 e15 hlp hlA) (w_1 cd) w_t (w_s ?_);intros)
       all_goals exact gM (w_2 e6 m6)
     ·exact⟨ZCr _,⟨⟨gW e6,gW m6⟩,gW e11,gW e12,gW e13⟩,gC,gC⟩
 ·exact⟨ZCr _,⟨⟨gC,gC⟩,⟨gC,gC⟩,gC,gC,gC,gC,gC,gC⟩,gC,by rw [h0];exact gC⟩
theorem cbl_b {c:Cb} (h:CbL c) (p:Pl):c.be.length*(afS c p c.ps.length).length≤12:=by
 obtain⟨hb,h⟩:=h;rcases h with⟨u,v,e,hp,h1,h2⟩ | ⟨u,v,w,e,hp,h1,h2⟩
 ·have s1:=Zfv c p 0;have s2:=Zfv c p 1;rw [e] at s1 s2;have s0:(afS c p 0).length=0:=rfl;have s1:(afS c p 1).length≤(afS c p 0).length+u.length:=s1;have s2:(afS c p 2).length≤(afS c p 1).length+v.length:=s2;rw [hp];have:=ZEc c.be.length (show(afS c p 2).length≤u.length+v.length by omega);omega
 ·have s1:=Zfv c p 0;have s2:=Zfv c p 1;have s3:=Zfv c p 2;rw [e] at s1 s2 s3;have s0:(afS c p 0).length=0:=rfl;have s1:(afS c p 1).length≤(afS c p 0).length+u.length:=s1;have s2:(afS c p 2).length≤(afS c p 1).length+v.length:=s2;have s3:(afS c p 3).length≤(afS c p 2).length+w.length:=s3;rw [hp];have:=ZEc c.be.length (show(afS c p 3).length≤u.length+v.length+w.length by omega);omega
theorem cbl_w {c:Cb} (h:CbL c) {i j:Nat} (hij:i < j) (hj:j < c.ps.length):(c.ab.getD i []).length*(c.ab.getD j []).length≤12:=by
 obtain⟨hb,h⟩:=h;rcases h with⟨u,v,e,hp,h1,h2⟩ | ⟨u,v,w,e,hp,h1,h2⟩
 ·rw [e];obtain rfl:i=0:=zo;obtain rfl:j=1:=zo;show u.length*v.length≤12;omega
 ·rw [e];have:(i=0∧j=1)∨(i=0∧j=2)∨(i=1∧j=2):=zo;rcases this with⟨rfl,rfl⟩ | ⟨rfl,rfl⟩ | ⟨rfl,rfl⟩
  ·show u.length*v.length≤12;omega
  ·show u.length*w.length≤12;omega
  ·show v.length*w.length≤12;omega
theorem pl_k (n:Qt) (x:Int):(plOf n x).k=n.k:=by
 unfold plOf
 repeat' split
 all_goals rfl
theorem pl_m {n:Qt} {x:Int} (h:n.k=1):(plOf n x).mid=false:=by
 unfold plOf;rw [ZCh h]
 repeat' split
 all_goals rfl
theorem af_res (c:Cb) (p:Pl):(if p.mid=true then AV.agg [.sl 4 ((out2 c c.ps.length (mulX c.be (afS c p c.ps.length)) c.ps.length).map qtA),.sl 4 ((mulX c.be c.be).map qtA)] else .agg [.sl 4 ((afS c p c.ps.length).map qtA),.sl 4 (c.be.map qtA)])=.agg [qpA (afN c p),qpA (afD c p)]:=by
 unfold afN afD;split<;>rfl
theorem aa_at (c:Cb) {i:Nat} (h:i < c.ab.length):(c.ab.map qpA).getD i .u=.sl 4 ((c.ab.getD i []).map qtA):=by
 rw [Zeg h];exact Zak qpA h
theorem elAffine (c:Cb) (p:Pl) {n:Int} (hc:CbOk c n) (hl:CbL c) (hp:PlOk p n) (hn:n≤40):Pure prog 39 [c.av,p.av] (.agg [qpA (afN c p),qpA (afD c p)]):=by
 have h3:=hc.few;have b40:∀{z:Int},(0≤z∧z < n)→0≤z∧z < 40:=λh=>zo;have hq:=b40 hp.q;have hr:=b40 hp.r;have key:=ZBe p.k p.q p.r p.mid c.ps zo (λi=>(c.ab.getD i []).map qtA) (λi=>(p.at (gI c.ps i)).map qtA) (λi=>(mulX (c.ab.getD i []) (p.at (gI c.ps i))).map qtA) (λi=>(afS c p i).map qtA) (λi=>(out2 c c.ps.length (mulX c.be (afS c p c.ps.length)) i).map qtA)
  (λi j=>(mulX (c.ab.getD i []) (c.ab.getD j [])).map qtA) (λi j=>(pX (gI c.ps i) (gI c.ps j) (gI c.ps i)).map qtA) (λi j=>(prT c i j).map qtA) (λi d=>(in2 c i (out2 c c.ps.length (mulX c.be (afS c p c.ps.length)) i) d).map qtA) (c.be.map qtA) ((mulX c.be c.be).map qtA) (c.ab.map qpA) (λi hi=>aa_at c (by rw [hc.len];exact hi)) (by rw [ZCj];exact hc.len)
  (λi hi=>elAt p.k p.q p.r (gI c.ps i) p.mid ⟨λ_=>Zan (.inl rfl) (b40 (Zd9 hc hi)) hq hr,λ_ _=>Zan (.inr rfl) hq (b40 (Zd9 hc hi)) hr,λ_ _=>Zan (.inr rfl) (b40 (Zd9 hc hi)) hq hr⟩)
  (λi hi=>Zia (Zh6 hc hi).s (Zwz hp (Zd9 hc hi) hn).s (ZCk (ZDe (Zh6 hc hi).l (Zwz hp (Zd9 hc hi) hn).l) zd)) (λi hi=>Zj3 ((Zl2 hc hp hn i zo).mono zo zd zo) ((Zh6 hc hi).mul (Zwz hp (Zd9 hc hi) hn)).s) rfl
  (λ_=>Zia hc.be.s ((Zl2 hc hp hn _ (ZCi _)).mono zo zd zo) (cbl_b hl p)) (λi j _ hij hj=>Zia (Zh6 hc zo).s (Zh6 hc hj).s (cbl_w hl hij hj))
  (λi j _ hij hj=>Zdy _ _ _ (Zan (.inr rfl) (b40 (Zd9 hc zo)) (b40 (Zd9 hc hj)) (b40 (Zd9 hc zo))))
  (λi j _ hij hj=>Zia ((Zh6 hc (show i < _ by omega)).mul (Zh6 hc hj)).s (xs_of (Zan (.inr rfl) (b40 (Zd9 hc zo)) (b40 (Zd9 hc hj)) (b40 (Zd9 hc zo)))) (ZCk (ZDe (ZCk (Zc4 _ _) (cbl_w hl hij hj)) (Zjk _)) zd))
  (λi d _ hd=>Zi9 ((Zuv hc hn (Znr hc hn (ZB4 hc hp hn) i zo) d zo).mono zo zd zo) (Zy8 hc hn zo hd).s)
  (λ_=>rfl) (λ_ _=>rfl) (λ_=>Zia hc.be.s hc.be.s (ZCk (ZDe hl.1 hl.1) zd))
 rw [af_res] at key;exact key
theorem rlFormA {M G:List AV} {i0:Nat} {sk a b d:Int} {nm:AV} {A0:List AV} {rb rn rd:AV} (c:Cb) (p:Pl) {n:Int} (hc:CbOk c n) (hl:CbL c) (hp:PlOk p n) (hn:n≤40) (hb0:c.be≠[]) (h1m:p.k=1→p.mid=false) (hi0:i0 < M.length) (hs:M.getD i0 .u=.agg [iv sk,nm,.sl 1 A0,rb,rn,rd]) (hk:¬sk=4)
 (cv:Pure prog 124 [.agg [iv p.k,iv a,iv b,iv d],iv i0] (.tup [iv p.q,iv p.r,.v (.bool p.mid)])) (cp:Pure prog 126 [.agg [.sl 6 M,.sl 5 G],iv i0] (.tup [ivs c.ps,.sl 1 (c.ab.map qpA),qpA c.be,iv 0])) :
 Pure prog 63 [.agg [.sl 6 M,.sl 5 G],iv i0,.agg [iv p.k,iv a,iv b,iv d]] (.tup [.agg [qpA (afN c p),qpA (afD c p)],iv 0]):=by
 have h3:=hc.few;have b40:∀{z:Int},(0≤z∧z < n)→0≤z∧z < 40:=λh=>zo;have hq:=b40 hp.q;have hr:=b40 hp.r;have key:=rlFormO M G i0 sk p.k a b d p.q p.r p.mid nm A0 rb rn rd hi0 hs cv hk c.ps zo (λi=>(c.ab.getD i []).map qtA) (λi=>(p.at (gI c.ps i)).map qtA) (λi=>(mulX (c.ab.getD i []) (p.at (gI c.ps i))).map qtA) (λi=>(afS c p i).map qtA) (λi=>(out2 c c.ps.length (mulX c.be (afS c p c.ps.length)) i).map qtA)
  (λi j=>(mulX (c.ab.getD i []) (c.ab.getD j [])).map qtA) (λi j=>(pX (gI c.ps i) (gI c.ps j) (gI c.ps i)).map qtA) (λi j=>(prT c i j).map qtA) (λi d=>(in2 c i (out2 c c.ps.length (mulX c.be (afS c p c.ps.length)) i) d).map qtA) (c.be.map qtA) ((mulX c.be c.be).map qtA) (c.ab.map qpA) (λi=>(pX (gI c.ps i) p.q p.r).map qtA) (λi hi=>aa_at c (by rw [hc.len];exact hi)) (by rw [ZCj];exact hc.len) (by rw [ZCj];exact λh=>hb0 (List.length_eq_zero_iff.1 h)) cp
  (λi hi=>Zc6 _ _ _ (Zan (.inr rfl) (b40 (Zd9 hc hi)) hq hr)) h1m
  (λh i hi=>by rw [show p.at (gI c.ps i)=aX (gI c.ps i) p.q p.r from ZCh h];exact Zir _ _ _ (Zan (.inl rfl) (b40 (Zd9 hc hi)) hq hr))
  (λh i hi=>by rw [show p.at (gI c.ps i)=pX p.q (gI c.ps i) p.r from by unfold Pl.at;rw [ZCg (λh1=>by rw [h1m h1] at h;cases h),ZCh h]];exact Zc6 _ _ _ (Zan (.inr rfl) hq (b40 (Zd9 hc hi)) hr))
  (λh h' i=>by rw [show p.at (gI c.ps i)=pX (gI c.ps i) p.q p.r from by unfold Pl.at;rw [ZCg h,ZCg (by rw [h'];simp)]])
  (λi hi=>Zg1 (Zh6 hc hi).s (Zwz hp (Zd9 hc hi) hn).s) (λi hi=>Zk2 ((Zl2 hc hp hn i zo).mono zo zd zo) ((Zh6 hc hi).mul (Zwz hp (Zd9 hc hi) hn)).s) rfl
  (λ_=>Zg1 hc.be.s ((Zl2 hc hp hn _ (ZCi _)).mono zo zd zo)) (λi j _ hij hj=>Zg1 (Zh6 hc zo).s (Zh6 hc hj).s)
  (λi j _ hij hj=>Zc6 _ _ _ (Zan (.inr rfl) (b40 (Zd9 hc zo)) (b40 (Zd9 hc hj)) (b40 (Zd9 hc zo))))
  (λi j _ hij hj=>Zg1 ((Zh6 hc (show i < _ by omega)).mul (Zh6 hc hj)).s (xs_of (Zan (.inr rfl) (b40 (Zd9 hc zo)) (b40 (Zd9 hc hj)) (b40 (Zd9 hc zo)))))
  (λi d _ hd=>Zjy ((Zuv hc hn (Znr hc hn (ZB4 hc hp hn) i zo) d zo).mono zo zd zo) (Zy8 hc hn zo hd).s)
  (λ_=>rfl) (λ_ _=>rfl) (λ_=>Zg1 hc.be.s hc.be.s)
 rw [af_res] at key;exact key
abbrev wA (be:QTs) (w:QTs):AV:=.agg [qpA w,qpA be]
theorem Ztq (M G:List AV) (i:Nat) (hi:i < M.length):Pure prog 21 [.agg [.sl 6 M,.sl 5 G],iv i] (iv 0):=by
 refine pI func21 rfl ntmps21 results21 call21 ?_
 (refine wkap (w_1 hi) w_t (w_r 0) (w_s ?_);intros)
 all_goals exact gL
theorem rlChkR (M G:List AV) (p:Int) (h:p < 0∨(M.length:Int)≤p):Pure prog 21 [.agg [.sl 6 M,.sl 5 G],iv p] (iv 2):=by
 rcases h with h | h
 all_goals
  refine pI func21 rfl ntmps21 results21 call21 ?_
  (refine wkap (w_1 h) w_t (w_r 0) (w_s ?_);intros)
  all_goals exact gL
theorem few25 (ss:List RS) (gs:List RG) (b:Bool) (c:Pure prog 15 [figA ss gs] (.v (.bool b))):Pure prog 6 [.agg [.sl 6 (ss.map RS.av),.sl 5 (gs.map RG.av)]] (.v (.bool b)):=by
 have c:Pure prog 15 [.agg [.sl 6 (ss.map RS.av),.sl 5 (gs.map RG.av)]] (.v (.bool b)):=c;generalize ss.map RS.av=M at *;generalize gs.map RG.av=N at *;refine pI func6 rfl ntmps6 results6 call6 ?_
 (refine wkap w_t (w_1 c) (w_r 0) (w_s ?_);intros)
 all_goals exact gL
theorem elLmA (M G:List AV) (i:Nat) (k a b c:Int) (hi:i < M.length) (c1:Pure prog 31 [.agg [iv k,iv a,iv b,iv c]] (.v (.bool false))):Pure prog 11 [.agg [.sl 6 M,.sl 5 G],iv i,.agg [iv k,iv a,iv b,iv c]] (.tup [.agg [.v (.slice none 0 0),.v (.slice none 0 0)],iv 1]):=by
 refine pI func11 rfl ntmps11 results11 call11 ?_
 (refine wkad (w_1 hi) (w_1 c1) w_t (w_s ?_);intros)
 all_goals exact gL
theorem elLmV (M G:List AV) (i:Nat) (k a b c:Int) (R:AV) (pq:List Int) (nk na nb nc sg sk:Int) (nm:ByteArray) (A0:List AV) (rb:Bool) (rn rd:List Nat) (hi:i < M.length) (hs:M.getD i .u=.agg [iv sk,strA nm,.sl 1 A0,.v (.bool rb),lim rn,lim rd]) (hpl:pq.length≤100)
 (c1:Pure prog 31 [.agg [iv k,iv a,iv b,iv c]] (.v (.bool true))) (c2:Pure prog 32 [.agg [iv k,iv a,iv b,iv c]] (.sl 1 (pq.map iv))) (c3:Pure prog 33 [.agg [iv k,iv a,iv b,iv c]] (.tup [.agg [iv nk,iv na,iv nb,iv nc],iv sg]))
 (hP:∀j,j < pq.length→(M.length:Int)≤gI pq j→R=.tup [.agg [.v (.slice none 0 0),.v (.slice none 0 0)],iv 2])
 (hD:(∀j,j < pq.length→gI pq j < (M.length:Int)) →
  (sg=0∧∃O N,Pure prog 35 [.agg [iv k,iv a,iv b,iv c]] (.sl 4 O)∧Pure prog 20 [iv 1] (.sl 4 N)∧R=.tup [.agg [.sl 4 O,.sl 4 N],iv 0])
  ∨ (¬sg=0∧∃PN O N,Pure prog 32 [.agg [iv nk,iv na,iv nb,iv nc]] (.sl 1 PN)∧Pure prog 34 [.sl 1 PN,iv i] (.v (.bool false))∧Pure prog 35 [.agg [iv k,iv a,iv b,iv c]] (.sl 4 O)∧Pure prog 20 [iv 1] (.sl 4 N)∧R=.tup [.agg [.sl 4 O,.sl 4 N],iv 0])
  ∨ (¬sg=0∧∃PN,Pure prog 32 [.agg [iv nk,iv na,iv nb,iv nc]] (.sl 1 PN)∧Pure prog 34 [.sl 1 PN,iv i] (.v (.bool true)) ∧
    ((sk=4∧∃a0 a1 a2 pk pq pr pm T N SG TT,A0=[iv a0,iv a1,iv a2]∧Pure prog 37 [.agg [iv nk,iv na,iv nb,iv nc],iv i] (.agg [iv pk,iv pq,iv pr,.v (.bool pm)])∧Pure prog 36 [iv a0,iv a1,iv a2,.agg [iv pk,iv pq,iv pr,.v (.bool pm)]] (.agg [.sl 4 T,.sl 4 N])∧Pure prog 20 [iv sg] (.sl 4 SG)∧Pure prog 40 [.sl 4 SG,.sl 4 T] (.sl 4 TT)∧R=.tup [.agg [.sl 4 TT,.sl 4 N],iv 0])
    ∨ (¬sk=4∧∃z,¬z=0∧Pure prog 38 [.agg [.sl 6 M,.sl 5 G],iv i] (.tup [.agg [.v (.slice none 0 0),.v (.slice none 0 0),.v (.slice none 0 0)],iv z])∧R=.tup [.agg [.v (.slice none 0 0),.v (.slice none 0 0)],iv z])
    ∨ (¬sk=4∧∃PS AB BE pk pq pr pm T N SG TT,Pure prog 38 [.agg [.sl 6 M,.sl 5 G],iv i] (.tup [.agg [.sl 1 PS,.sl 1 AB,.sl 4 BE],iv 0])∧Pure prog 37 [.agg [iv nk,iv na,iv nb,iv nc],iv i] (.agg [iv pk,iv pq,iv pr,.v (.bool pm)])∧Pure prog 39 [.agg [.sl 1 PS,.sl 1 AB,.sl 4 BE],.agg [iv pk,iv pq,iv pr,.v (.bool pm)]] (.agg [.sl 4 T,.sl 4 N])∧Pure prog 20 [iv sg] (.sl 4 SG)∧Pure prog 40 [.sl 4 SG,.sl 4 T] (.sl 4 TT)∧R=.tup [.agg [.sl 4 TT,.sl 4 N],iv 0])))) :
 Pure prog 11 [.agg [.sl 6 M,.sl 5 G],iv i,.agg [iv k,iv a,iv b,iv c]] (R):=by
 have hlp:(pq.map iv).length=pq.length:=ZCj ..;have hg:∀j,j < pq.length→(pq.map iv).getD j .u=iv (gI pq j):=λj h=>by rw [Zfb h];exact Zak iv h
 generalize pq.map iv=PQ at *;refine pI func11 rfl ntmps11 results11 call11 ?_
 (refine wkad (w_2 hi hlp) (w_2 c1 c2) w_t (w_s ?_);intros)
 rename_i g3 g5 g6;refine Zad (ι:=Nat) (λj e m=>j≤pq.length∧(e 1=iv i∧(e 3=.pbox 3 g3 0∧m 3=some (.box g3 25 [.sl 6 M,.sl 5 G] false))∧(e 5=.pbox 5 g5 0∧m 5=some (.box g5 39 [iv k,iv a,iv b,iv c] false))∧(e 6=.pbox 6 g6 0∧m 6=some (.box g6 29 [.v (.slice none 0 0),.v (.slice none 0 0)] false)))∧(e 31=.sl 1 PQ∧e 32=iv pq.length∧e 33=iv j)∧∀j',j' < j→gI pq j' < (M.length:Int)) (λj=>pq.length - j) 0 zr ?_ ?_
 ·rintro j e m ⟨hj,⟨e1,⟨e3,m3⟩,⟨e5,m5⟩,⟨e6,m6⟩⟩,⟨e31,e32,e33⟩,hall⟩
  by_cases hlt:j < pq.length
  ·have hgj:=hg j hlt;have hPj:=hP j hlt;clear hP hD hg c1 c2 c3;by_cases hb:(M.length:Int)≤gI pq j
   ·obtain rfl:=hPj hb;clear hall;generalize gI pq j=z at *
    (refine wkad (w_13 e1 e3 m3 e5 m5 e6 m6 e31 e32 e33 hlp hgj hb) w_t w_t (w_s ?_);intros)
    all_goals exact gM (w_2 e6 m6)
   ·have hall2:∀j',j' < j+1→gI pq j' < (M.length:Int):=λj' h'=>by
     by_cases h2:j'=j
     ·rw [h2];omega
     ·exact hall j' zo
    clear hall hPj;have hb':¬(M.length:Int)≤gI pq j:=hb;generalize hz:gI pq j=z at hgj hb'
    (refine wkad (w_13 e1 e3 m3 e5 m5 e6 m6 e31 e32 e33 hlp hgj hb') w_t w_t (w_s ?_);intros)
    exact⟨j+1,⟨zo,⟨gW e1,⟨gW e3,gW m3⟩,⟨gW e5,gW m5⟩,⟨gW e6,gW m6⟩⟩,⟨gW e31,gW e32,gS⟩,hall2⟩,zo⟩
  ·have hjn:j=pq.length:=zo;subst hjn;have hD:=hD hall;clear hP hall hg c1 c2;rcases hD with⟨hg0,O,N,d1,d2,rfl⟩ | ⟨hg0,PN,O,N,d1,d2,d3,d4,rfl⟩ | ⟨hg0,PN,d1,d2,hD⟩
   ·(refine wkad (w_12 e1 e3 m3 e5 m5 e6 m6 e31 e32 e33 hlp hg0) (w_3 c3 d1 d2) w_t (w_s ?_);intros)
    all_goals exact gM (w_2 e6 m6)
   ·(refine wkad (w_12 e1 e3 m3 e5 m5 e6 m6 e31 e32 e33 hlp hg0) (w_5 c3 d1 d2 d3 d4) w_t (w_s ?_);intros)
    all_goals exact gM (w_2 e6 m6)
   ·rcases hD with⟨h4,a0,a1,a2,pk,pq,pr,pm,T,N,SG,TT,rfl,f1,f2,f3,f4,rfl⟩ | ⟨h4,z,hz,f1,rfl⟩ | ⟨h4,PS,AB,BE,pk,pq,pr,pm,T,N,SG,TT,f0,f1,f2,f3,f4,rfl⟩
    ·(refine wkad (w_15 e1 e3 m3 e5 m5 e6 m6 e31 e32 e33 hlp hg0 h4 hi hs) (w_7 c3 d1 d2 f1 f2 f3 f4) (w_2 (w_d 17 [(14,.agg [iv pk,iv pq,iv pr,.v (.bool pm)]),(15,.agg [.sl 4 T,.sl 4 N])] [] [13]) (w_d 22 [(1,.sl 4 SG),(4,.sl 4 TT)] [6] [])) (w_s ?_);intros)
     all_goals exact gM (w_2 e6 m6)
    ·(refine wkad (w_16 e1 e3 m3 e5 m5 e6 m6 e31 e32 e33 hlp hg0 h4 hz hi hs) (w_4 c3 d1 d2 f1) w_t (w_s ?_);intros)
     all_goals exact gM (w_2 e6 m6)
    ·(refine wkad (w_15 e1 e3 m3 e5 m5 e6 m6 e31 e32 e33 hlp hg0 h4 hi hs) (w_8 c3 d1 d2 f0 f1 f2 f3 f4) (w_2 (w_d 21 [(3,.agg [iv pk,iv pq,iv pr,.v (.bool pm)]),(4,.agg [.sl 4 T,.sl 4 N])] [] [13]) (w_d 22 [(1,.sl 4 SG),(4,.sl 4 TT)] [6] [])) (w_s ?_);intros)
     all_goals exact gM (w_2 e6 m6)
 ·exact⟨ZCr _,⟨gC,⟨gC,gC⟩,⟨gC,gC⟩,⟨gC,gC⟩⟩,⟨gC,gW hlp,gC⟩,λj' h=>absurd h zo⟩
theorem rlLmC (M G:List AV) (i:Nat) (k a b c z:Int) (hz:¬z=0) (hi:i < M.length) (c2:Pure prog 61 [.agg [iv k,iv a,iv b,iv c],iv M.length,iv 64] (iv z)):Pure prog 23 [.agg [.sl 6 M,.sl 5 G],iv i,.agg [iv k,iv a,iv b,iv c]] (.tup [.agg [.v (.slice none 0 0),.v (.slice none 0 0)],iv z]):=by
 have c1:=Ztq M G i hi;refine pI func23 rfl ntmps23 results23 call23 ?_
 (refine wkad (w_1 hz) (w_2 c1 c2) w_t (w_s ?_);intros)
 all_goals exact gL
theorem rlLmN (M G:List AV) (i:Nat) (k a b c nk na nb nc sg:Int) (O N:List AV) (hi:i < M.length) (c2:Pure prog 61 [.agg [iv k,iv a,iv b,iv c],iv M.length,iv 64] (iv 0)) (c3:Pure prog 62 [.agg [iv k,iv a,iv b,iv c]] (.tup [.agg [iv nk,iv na,iv nb,iv nc],iv sg]))
 (c45:sg=0∨∃ON,Pure prog 58 [.agg [iv nk,iv na,iv nb,iv nc]] (.sl 4 ON)∧Pure prog 57 [.sl 4 ON,iv i] (.v (.bool false))) (c6:Pure prog 58 [.agg [iv k,iv a,iv b,iv c]] (.sl 4 O)) (c7:Pure prog 29 [iv 1] (.sl 4 N)):Pure prog 23 [.agg [.sl 6 M,.sl 5 G],iv i,.agg [iv k,iv a,iv b,iv c]] (.tup [.agg [.sl 4 O,.sl 4 N],iv 0]):=by
 have c1:=Ztq M G i hi;by_cases h0:sg=0
 ·clear c45;refine pI func23 rfl ntmps23 results23 call23 ?_
  (refine wkad (w_1 h0) (w_5 c1 c2 c3 c6 c7) w_t (w_s ?_);intros)
  all_goals exact gL
 ·obtain⟨ON,c4,c5⟩:=c45.resolve_left h0;refine pI func23 rfl ntmps23 results23 call23 ?_
  (refine wkad (w_1 h0) (w_7 c1 c2 c3 c4 c5 c6 c7) w_t (w_s ?_);intros)
  all_goals exact gL
theorem rlLmO (M G:List AV) (i:Nat) (k a b c nk na nb nc sg z:Int) (N0 D0:AV) (ON TT:List AV) (rb:Bool) (rn rd:List Nat) (hi:i < M.length) (h0:¬sg=0) (c2:Pure prog 61 [.agg [iv k,iv a,iv b,iv c],iv M.length,iv 64] (iv 0)) (c3:Pure prog 62 [.agg [iv k,iv a,iv b,iv c]] (.tup [.agg [iv nk,iv na,iv nb,iv nc],iv sg])) (c4:Pure prog 58 [.agg [iv nk,iv na,iv nb,iv nc]] (.sl 4 ON))
 (c5:Pure prog 57 [.sl 4 ON,iv i] (.v (.bool true))) (hN:(∃l,N0=.sl 4 l)∨N0=.v (.slice none 0 0)) (hDD:(∃l,D0=.sl 4 l)∨D0=.v (.slice none 0 0)) (c6:Pure prog 63 [.agg [.sl 6 M,.sl 5 G],iv i,.agg [iv nk,iv na,iv nb,iv nc]] (.tup [.agg [N0,D0],iv z])) (c7:Pure prog 65 [iv sg] (.agg [.v (.bool rb),lim rn,lim rd]))
 (c8:Pure prog 64 [N0,.agg [.v (.bool rb),lim rn,lim rd]] (.sl 4 TT)):Pure prog 23 [.agg [.sl 6 M,.sl 5 G],iv i,.agg [iv k,iv a,iv b,iv c]] (.tup [.agg [.sl 4 TT,D0],iv z]):=by
 have c1:=Ztq M G i hi;rcases hN with⟨l,rfl⟩ | rfl<;>rcases hDD with⟨l',rfl⟩ | rfl
 all_goals
  refine pI func23 rfl ntmps23 results23 call23 ?_
  (refine wkad (w_1 h0) (w_8 c1 c2 c3 c4 c5 c6 c7 c8) (w_1 (w_d 11 [(3,.agg [.v (.bool rb),lim rn,lim rd]),(4,.sl 4 TT)] [6] [])) (w_s ?_);intros)
  all_goals exact gL
theorem chk_0 {q:Qt} {n:Int} (hok:q.ok=true) (h:∀j,j < q.pts.length→gI q.pts j < n):q.chk n 64=0:=by
 unfold Qt.chk;rw [ZCh hok];have hr:=hok;unfold Qt.ok at hr;simp at hr;by_cases h3:q.k=3
 ·rw [ZCh h3,ZCg zo]
 ·rw [ZCg h3,ZCg λhb=>?_]
  obtain⟨y,hy,hn⟩:∃y,(y=q.a∨y=q.b∨y=q.c)∧n≤y:=by
   rcases hb with hb | hb | hb
   ·exact⟨q.a,.inl rfl,hb⟩
   ·exact⟨q.b,.inr (.inl rfl),hb⟩
   ·exact⟨q.c,.inr (.inr rfl),hb⟩
  have:=Zuw hok h3 hy;obtain⟨t,ht,e⟩:=List.any_eq_true.1 this;obtain rfl:y=t:=by simpa using e
  obtain⟨j,hj,e⟩:=List.mem_iff_getElem.1 ht;have:=h j hj;rw [Zfb hj,e] at this;omega
theorem chk_2 {q:Qt} {n:Int} {j:Nat} (hj:j < q.pts.length) (h:n≤gI q.pts j):q.chk n 64=2:=by
 have hm:gI q.pts j∈q.pts:=by rw [Zfb hj];exact ZCt hj
 have hh:hasQ (gI q.pts j) q=true:=List.any_eq_true.2 ⟨_,hm,by simp⟩;obtain⟨hok,h3,ho⟩:=Zmu hh;unfold Qt.chk;rw [ZCh hok,ZCg h3,ZCh zo]
theorem ZAl {n:Qt} {x:Int} (hn:n.norm=(n,1)):hasT x (ofX n)=hasQ x n:=by
 unfold ofX;rw [hn];simp only;rw [ZCg zd];unfold hasT hasP;simp
theorem Zr2 {q:Qt} {n x:Int} (hc:q.chk n 64=0) (hs:q.norm.2≠0) (hx:hasQ x q.norm.1=true):0≤q.norm.1.a∧q.norm.1.a < n∧0≤q.norm.1.b∧q.norm.1.b < n∧0≤q.norm.1.c∧q.norm.1.c < n:=by
 obtain⟨h1,h2,_⟩:=Zmu hx;have ha:=Zkj hs (Zuw h1 h2 (.inl rfl));have hb:=Zkj hs (Zuw h1 h2 (.inr (.inl rfl)));have hcc:=Zkj hs (Zuw h1 h2 (.inr (.inr rfl)))
 have hok:q.ok=true:=by
  cases h:q.ok with
  | true=>rfl
  | false=>unfold Qt.norm at hs;rw [ZCg (by rw [h];simp)] at hs;exact absurd rfl hs
 have h3:¬q.k=3:=λh=>by
  unfold Qt.norm at h2;rw [ZCh hok,ZCg zo,ZCg zo] at h2;exact h2 h
 unfold Qt.chk at hc;rw [ZCh hok,ZCg h3] at hc;have hr:=hok;unfold Qt.ok at hr;simp at hr;split at hc
 ·omega
 ·omega
theorem Zpa {s:Int} (h:s=-1∨s=1):Sz (s:Rat) 2:=by
 rcases h with rfl | rfl
 ·exact Zxm.mono zd
 ·exact Zh7.mono zd
def lmA (q:Qt) (n:Int) (z:Int × XX) (N:AV):AV:=if q.chk n 64=0 then (if z.1=0 then .tup [.agg [qpA z.2.1,qpA z.2.2],iv 0] else .tup [.agg [N,.v (.slice none 0 0)],iv z.1]) else .tup [.agg [.v (.slice none 0 0),.v (.slice none 0 0)],iv (q.chk n 64)]
abbrev lmS (ss:List RS) (i:Nat) (hi:i < ss.length) (q:Qt):Int × XX:=lmX ss[i].k ss[i].ar ss[i].r.q (tOf ss i) i q
theorem nx1:nX 1=onX:=by decide +kernel
theorem scl_no (s:Int) (p:QTs) (h:EX p) (hs:s=-1∨s=1):mulX (nX (s:Rat)) p=sclT (s:Rat) p:=by
 show mulX (cstT (s:Rat)) p=_;rw [Zoj h,ZCg (by rcases hs with rfl | rfl<;>decide +kernel)]
theorem sg_of {q:Qt} (h:q.norm.2≠0):q.norm.2=-1∨q.norm.2=1:=by
 rcases Zgi q with g | g | g
 ·exact .inl g
 ·exact absurd g h
 ·exact .inr g
theorem XS.l12 {p q:QTs} (hp:p.length≤1) (hq:q.length≤12):p.length*q.length≤12:=ZCk (ZDe hp hq) zd
theorem elNumS {s:Int} (h:s=-1∨s=1):Pure prog 20 [iv s] (qpA (nX (s:Rat))):=by
 rcases h with rfl | rfl
 ·exact elNumM
 ·exact Zib
theorem Zsw (ss:List RS) (gs:List RG) (i:Nat) (hi:i < ss.length) (h8:ss.length≤8) (he:errS ss i=0) (hr:ss[i].r.lm 2) (k a b c:Int):Pure prog 11 [figA ss gs,iv i,.agg [iv k,iv a,iv b,iv c]] (lmA ⟨k,a,b,c⟩ ss.length (lmS ss i hi ⟨k,a,b,c⟩) (.v (.slice none 0 0))):=by
 have hM:(ss.map RS.av).getD i .u=.agg [iv ss[i].k,strA ss[i].nm,ivs ss[i].ar,.v (.bool ss[i].r.s),lim ss[i].r.l,lim ss[i].r.d]:=Zak RS.av hi;have hl:i < (ss.map RS.av).length:=by rw [ZCj];exact hi
 have hlm:((ss.map RS.av).length:Int)=ss.length:=by rw [ZCj]
 have hA:=st_a hi h8 he hr;have cc:=elComb ss gs i hi h8 he hr;have c1:=Zlb k a b c;generalize hq:(⟨k,a,b,c⟩:Qt)=q at *;have hqv:q.av=.agg [iv k,iv a,iv b,iv c]:=by rw [←hq]
 cases hok:q.ok with
 | false =>
   rw [hok] at c1;have h1:q.chk ss.length 64=1:=by unfold Qt.chk;rw [ZCg (by rw [hok];simp)]
   unfold lmA;rw [ZCg (by rw [h1];decide),h1];exact elLmA _ _ i k a b c hl (by rw [←hqv];exact c1)
 | true =>
   rw [hok] at c1;have c2:Pure prog 32 [q.av] (ivs q.pts):=by rw [←hq];exact Znm k a b c
   have c3:Pure prog 33 [q.av] (.tup [q.norm.1.av,iv q.norm.2]):=by rw [←hq];exact Zy3 k a b c
   have co:=exOfS hok;have cN:Pure prog 32 [q.norm.1.av] (ivs q.norm.1.pts):=Znm q.norm.1.k q.norm.1.a q.norm.1.b q.norm.1.c;have cs:=slConI q.norm.1.pts i (by have:=Zt3 q.norm.1;omega);have cs:Pure prog 34 [ivs q.norm.1.pts,iv i] (.v (.bool (hasQ i q.norm.1))):=cs;have cp:Pure prog 37 [q.norm.1.av,iv i] (Pl.av (plOf q.norm.1 i)):=elPlaced q.norm.1.k q.norm.1.a q.norm.1.b q.norm.1.c i;rw [hqv] at c1 c2 c3 co;refine elLmV _ _ i k a b c _ q.pts q.norm.1.k q.norm.1.a q.norm.1.b q.norm.1.c q.norm.2 ss[i].k ss[i].nm (ss[i].ar.map iv) ss[i].r.s ss[i].r.l ss[i].r.d hl hM (by have:=Zt3 q;omega) c1 c2 c3 (λj hj hle=>?_) (λhall=>?_)
   ·rw [hlm] at hle;have h2:=chk_2 hj hle;unfold lmA;rw [ZCg (by rw [h2];decide),h2]
   ·rw [hlm] at hall;have h0:=chk_0 hok hall;have hlA:∀z N,lmA q ss.length z N=if z.1=0 then .tup [.agg [qpA z.2.1,qpA z.2.2],iv 0] else .tup [.agg [N,.v (.slice none 0 0)],iv z.1]:=λz N=>by unfold lmA;rw [ZCh h0]
    rw [hlA];by_cases hs:q.norm.2=0
    ·refine .inl ⟨hs,_,_,co,Zib,?_⟩;rw [show lmS ss i hi q=(0,(ofX q,[((1:Rat),[])])) from by unfold lmS lmX;rw [ZCh (Or.inl hs)],ZCh rfl,nx1]
    ·cases hh:hasQ i q.norm.1 with
     | false =>
       rw [hh] at cs;refine .inr (.inl ⟨hs,_,_,_,cN,cs,co,Zib,?_⟩);rw [show lmS ss i hi q=(0,(ofX q,[((1:Rat),[])])) from by unfold lmS lmX;rw [ZCh (Or.inr hh)],ZCh rfl,nx1]
     | true =>
       rw [hh] at cs;have hsg:=sg_of hs;have hpl:=Znv hs (Zr2 h0 hs hh) (i:Int);have hln:lmS ss i hi q=if ss[i].k=4 then ((0:Int),(sclT (q.norm.2:Rat) (tuX (gI ss[i].ar 0) (gI ss[i].ar 1) (gI ss[i].ar 2) (plOf q.norm.1 i)),[((1:Rat),[])]))
        else match cbOf ss[i].k ss[i].ar ss[i].r.q (tOf ss i) with
         | none=>((8:Int),(([]:QTs),([]:QTs)))
         | some c=>if c.be=[] then (3,([],[])) else (0,(sclT (q.norm.2:Rat) (afN c (plOf q.norm.1 i)),afD c (plOf q.norm.1 i))):=by
        show lmX _ _ _ _ _ _=_;unfold lmX;rw [ZCg (by rintro (h | h);exact hs h;rw [hh] at h;cases h)];rfl
       refine .inr (.inr ⟨hs,_,cN,cs,?_⟩);rw [hln];have b40:∀{z:Int},(0≤z∧z < (ss.length:Int))→0≤z∧z < 40:=λh=>zo;by_cases h4:ss[i].k=4
       ·refine .inl ⟨h4,?_⟩;have h3:=hA.l4 h4;obtain⟨a0,a1,a2,har⟩:=l3 h3;have g:∀j,j < 3→0≤gI ss[i].ar j∧gI ss[i].ar j < 40:=λj hj=>b40 (hA.rg j zo);rw [har] at g;have g0:0≤a0∧a0 < 40:=g 0 zd;have g1:0≤a1∧a1 < 40:=g 1 zd;have g2:0≤a2∧a2 < 40:=g 2 zd;have hx:=tu_xl hpl hA.n40 (by have:=hA.rg 0 zo;rw [har] at this;exact this:0≤a0∧a0 < (ss.length:Int)) (by have:=hA.rg 1 zo;rw [har] at this;exact this:0≤a1∧a1 < (ss.length:Int)) (by have:=hA.rg 2 zo;rw [har] at this;exact this:0≤a2∧a2 < (ss.length:Int));refine⟨a0,a1,a2,_,_,_,_,_,_,_,_,by rw [har];rfl,cp,elTurned (plOf q.norm.1 i) a0 a1 a2 g0 g1 g2 (b40 hpl.q) (b40 hpl.r),elNumS hsg,Zia (Zs2 (Zpa hsg)) hx.s (XS.l12 (Zgm _) (ZCk hx.l zd)),?_⟩
        rw [ZCh h4,ZCh rfl,har];show AV.tup [.agg [qpA (sclT (q.norm.2:Rat) (tuX a0 a1 a2 (plOf q.norm.1 i))),qpA onX],iv 0]=_;rw [←scl_no _ _ hx.x.1 hsg,nx1]
       ·refine .inr ?_;rw [ZCg h4]
        cases hc:cbOf ss[i].k ss[i].ar ss[i].r.q (tOf ss i) with
        | none =>
          rw [hc] at cc;exact .inl ⟨h4,8,by decide,cc,by simp only;rw [ZCg zd]⟩
        | some cb =>
          rw [hc] at cc;have ok:=Zl0 hc hA.sz hA.rg hA.n40 hA.tr hA.l;have cl:=ZBv hc (λg=>by rcases g with g | g;exact hA.l.1 g;exact hA.l.2.1 g);simp only;by_cases hb:cb.be=[]
          ·have cc:Pure prog 38 [figA ss gs,iv i] (.tup [.agg [.v (.slice none 0 0),.v (.slice none 0 0),.v (.slice none 0 0)],iv 3]):=by
            have h:=cc;unfold cmR at h;simp only at h;rw [ZCh (by rw [hb];rfl)] at h;exact h
           rw [ZCh hb];exact .inl ⟨h4,3,by decide,cc,by simp only;rw [ZCg zd]⟩
          ·have cc:Pure prog 38 [figA ss gs,iv i] (.tup [cb.av,iv 0]):=by
            have h:=cc;unfold cmR at h;simp only at h;rw [ZCg (λh=>hb (List.length_eq_zero_iff.1 h))] at h;exact h
           rw [ZCg hb,ZCh rfl];have hl12:=af_len (plOf q.norm.1 i) cl;have hx:=ZB3 ok hpl hA.n40;refine .inr ⟨h4,_,_,_,_,_,_,_,_,_,_,_,cc,cp,elAffine cb (plOf q.norm.1 i) ok cl hpl hA.n40,elNumS hsg,Zia (Zs2 (Zpa hsg)) hx.s (XS.l12 (Zgm _) hl12.1),?_⟩;rw [←scl_no _ _ hx.x.1 hsg]
theorem rlLemma (ss:List RS) (gs:List RG) (i:Nat) (hi:i < ss.length) (h8:ss.length≤8) (he:errS ss i=0) (hr:ss[i].r.lm 2) (k a b c:Int):Pure prog 23 [figA ss gs,iv i,.agg [iv k,iv a,iv b,iv c]] (lmA ⟨k,a,b,c⟩ ss.length (lmS ss i hi ⟨k,a,b,c⟩) (.sl 4 [])):=by
 have hM:(ss.map RS.av).getD i .u=.agg [iv ss[i].k,strA ss[i].nm,ivs ss[i].ar,.v (.bool ss[i].r.s),lim ss[i].r.l,lim ss[i].r.d]:=Zak RS.av hi;have hl:i < (ss.map RS.av).length:=by rw [ZCj];exact hi
 have hlm:((ss.map RS.av).length:Int)=ss.length:=by rw [ZCj]
 have hA:=st_a hi h8 he hr;have cc:=rlPartsG ss gs i hi h8 he hr;have c2:=rqCheck k a b c ss.length 64;rw [←hlm] at c2;generalize hq:(⟨k,a,b,c⟩:Qt)=q at *;have hqv:q.av=.agg [iv k,iv a,iv b,iv c]:=by rw [←hq]
 rw [hqv] at c2;by_cases h0:q.chk ss.length 64=0
 ·rw [show q.chk ((ss.map RS.av).length:Int) 64=0 from by rw [hlm];exact h0] at c2;have hlA:∀z N,lmA q ss.length z N=if z.1=0 then .tup [.agg [qpA z.2.1,qpA z.2.2],iv 0] else .tup [.agg [N,.v (.slice none 0 0)],iv z.1]:=λz N=>by unfold lmA;rw [ZCh h0]
  rw [hlA]
  have hok:q.ok=true:=by
   cases h:q.ok with
   | true=>rfl
   | false=>unfold Qt.chk at h0;rw [ZCg (by rw [h];simp)] at h0;cases h0
  have c3:Pure prog 62 [q.av] (.tup [q.norm.1.av,iv q.norm.2]):=by rw [←hq];exact Ztm k a b c
  have co:=Zvp hok;rw [hqv] at c3 co;by_cases hs:q.norm.2=0
  ·have key:=rlLmN (ss.map RS.av) (gs.map RG.av) i k a b c _ _ _ _ _ _ _ hl c2 c3 (.inl hs) co Zfy
   have e:(if (lmS ss i hi q).1=0 then AV.tup [.agg [qpA (lmS ss i hi q).2.1,qpA (lmS ss i hi q).2.2],iv 0] else .tup [.agg [.sl 4 [],.v (.slice none 0 0)],iv (lmS ss i hi q).1])=.tup [.agg [qpA (ofX q),qpA (nX 1)],iv 0]:=by
    have:lmS ss i hi q=(0,(ofX q,[((1:Rat),[])])):=by show lmX _ _ _ _ _ _=_;unfold lmX;rw [ZCh (.inl hs)]
    rw [this,ZCh rfl,nx1]
   rw [e];exact key
  ·have hnf:=Zr3 hok hs;have cO:=Zvp (Zg7 hnf);have ch:=rxHasS (xs_of (Zg7 hnf)) (i:Int);rw [ZAl hnf] at ch
   cases hh:hasQ i q.norm.1 with
   | false =>
     rw [hh] at ch;have key:=rlLmN (ss.map RS.av) (gs.map RG.av) i k a b c _ _ _ _ _ _ _ hl c2 c3 (.inr ⟨_,cO,ch⟩) co Zfy
     have e:(if (lmS ss i hi q).1=0 then AV.tup [.agg [qpA (lmS ss i hi q).2.1,qpA (lmS ss i hi q).2.2],iv 0] else .tup [.agg [.sl 4 [],.v (.slice none 0 0)],iv (lmS ss i hi q).1])=.tup [.agg [qpA (ofX q),qpA (nX 1)],iv 0]:=by
      have:lmS ss i hi q=(0,(ofX q,[((1:Rat),[])])):=by show lmX _ _ _ _ _ _=_;unfold lmX;rw [ZCh (.inr hh)]
      rw [this,ZCh rfl,nx1]
     rw [e];exact key
   | true =>
     rw [hh] at ch;have hsg:=sg_of hs;have hsgn:(q.norm.2:Rat)≠0:=by rcases hsg with h | h<;>rw [h]<;>decide +kernel
     have hrg:=Zr2 h0 hs hh;have hpl:=Znv hs hrg (i:Int);have hln:lmS ss i hi q=if ss[i].k=4 then ((0:Int),(sclT (q.norm.2:Rat) (tuX (gI ss[i].ar 0) (gI ss[i].ar 1) (gI ss[i].ar 2) (plOf q.norm.1 i)),[((1:Rat),[])]))
      else match cbOf ss[i].k ss[i].ar ss[i].r.q (tOf ss i) with
       | none=>((8:Int),(([]:QTs),([]:QTs)))
       | some c=>if c.be=[] then (3,([],[])) else (0,(sclT (q.norm.2:Rat) (afN c (plOf q.norm.1 i)),afD c (plOf q.norm.1 i))):=by
      show lmX _ _ _ _ _ _=_;unfold lmX;rw [ZCg (by rintro (h | h);exact hs h;rw [hh] at h;cases h)];rfl
     rw [hln];have b40:∀{z:Int},(0≤z∧z < (ss.length:Int))→0≤z∧z < 40:=λh=>zo;have cv:=rlView q.norm.1.k q.norm.1.a q.norm.1.b q.norm.1.c i zo zo zo;rw [show vwX ⟨q.norm.1.k,q.norm.1.a,q.norm.1.b,q.norm.1.c⟩ (i:Int)=((plOf q.norm.1 i).q,(plOf q.norm.1 i).r,(plOf q.norm.1 i).mid) from vw_pl hnf hh] at cv;have cQ:Pure prog 65 [iv q.norm.2] (ratQ (q.norm.2:Rat)):=qOfS (by rcases hsg with h | h;exact .inl h;exact .inr (.inr h));have cZ:=Zhr (Zpe XL.nil.s (Zpa hsg) hsgn) (.cons (.nil 4) (.cons (.refl _) .nil));by_cases h4:ss[i].k=4
     ·have h3:=hA.l4 h4;obtain⟨a0,a1,a2,har⟩:=l3 h3;have g:∀j,j < 3→0≤gI ss[i].ar j∧gI ss[i].ar j < 40:=λj hj=>b40 (hA.rg j zo);rw [har] at g;have g0:0≤a0∧a0 < 40:=g 0 zd;have g1:0≤a1∧a1 < 40:=g 1 zd;have g2:0≤a2∧a2 < 40:=g 2 zd;have hx:=tu_xl hpl hA.n40 (by have:=hA.rg 0 zo;rw [har] at this;exact this:0≤a0∧a0 < (ss.length:Int)) (by have:=hA.rg 1 zo;rw [har] at this;exact this:0≤a1∧a1 < (ss.length:Int)) (by have:=hA.rg 2 zo;rw [har] at this;exact this:0≤a2∧a2 < (ss.length:Int));have ct:=rlTurned (plOf q.norm.1 i) a0 a1 a2 g0 g1 g2 (b40 hpl.q) (b40 hpl.r);rw [pl_k] at ct;rw [har] at hM;have cf:=rlFormT (ss.map RS.av) (gs.map RG.av) i ss[i].k q.norm.1.k q.norm.1.a q.norm.1.b q.norm.1.c _ _ _ _ _ _ _ _ hl hM cv h4 _ _ ct Zfy
      rw [ZCh h4,har,ZCh rfl];show Pure _ _ _ (.tup [.agg [qpA (sclT (q.norm.2:Rat) (tuX a0 a1 a2 (plOf q.norm.1 i))),qpA onX],iv 0]);rw [←nx1];exact rlLmO (ss.map RS.av) (gs.map RG.av) i k a b c _ _ _ _ _ 0 _ _ _ _ _ _ _ hl hs c2 c3 cO ch (.inl ⟨_,rfl⟩) (.inl ⟨_,rfl⟩) cf cQ (Zpe hx.s (Zpa hsg) hsgn)
     ·rw [ZCg h4]
      cases hc:cbOf ss[i].k ss[i].ar ss[i].r.q (tOf ss i) with
      | none =>
        rw [hc] at cc;have cf:=rlFormE (ss.map RS.av) (gs.map RG.av) i ss[i].k q.norm.1.k q.norm.1.a q.norm.1.b q.norm.1.c _ _ _ _ _ _ _ _ hl hM cv h4 8 zd cc;simp only;rw [ZCg zd];exact rlLmO (ss.map RS.av) (gs.map RG.av) i k a b c _ _ _ _ _ 8 _ _ _ _ _ _ _ hl hs c2 c3 cO ch (.inr rfl) (.inr rfl) cf cQ cZ
      | some cb =>
        rw [hc] at cc;have ok:=Zl0 hc hA.sz hA.rg hA.n40 hA.tr hA.l;have cl:=ZBv hc (λg=>by rcases g with g | g;exact hA.l.1 g;exact hA.l.2.1 g);simp only;by_cases hb:cb.be=[]
        ·have cf:=rlFormZ (ss.map RS.av) (gs.map RG.av) i ss[i].k q.norm.1.k q.norm.1.a q.norm.1.b q.norm.1.c _ _ _ _ _ _ _ _ hl hM cv h4 _ _ _ (by rw [hb];rfl) cc;rw [ZCh hb];simp only;rw [ZCg zd];exact rlLmO (ss.map RS.av) (gs.map RG.av) i k a b c _ _ _ _ _ 3 _ _ _ _ _ _ _ hl hs c2 c3 cO ch (.inr rfl) (.inr rfl) cf cQ cZ
        ·have hx:=ZB3 ok hpl hA.n40;have cf:=rlFormA (M:=ss.map RS.av) (G:=gs.map RG.av) cb (plOf q.norm.1 i) ok cl hpl hA.n40 hb (λh=>pl_m (by rw [pl_k] at h;exact h)) hl hM h4 (by rw [pl_k];exact cv) cc;rw [pl_k] at cf;rw [ZCg hb,ZCh rfl];exact rlLmO (ss.map RS.av) (gs.map RG.av) i k a b c _ _ _ _ _ 0 _ _ _ _ _ _ _ hl hs c2 c3 cO ch (.inl ⟨_,rfl⟩) (.inl ⟨_,rfl⟩) cf cQ (Zpe hx.s (Zpa hsg) hsgn)
 ·have e:lmA q ss.length (lmS ss i hi q) (.sl 4 [])=.tup [.agg [.v (.slice none 0 0),.v (.slice none 0 0)],iv (q.chk ss.length 64)]:=by unfold lmA;rw [ZCg h0]
  rw [e,←hlm];exact rlLmC _ _ i k a b c _ (by rw [hlm];exact h0) hl c2
attribute [local go_sem] Zjw Zox
theorem elReplV (A B BN BD N1 N2 D1 D2 R1 R2:List AV) (k a b c:Int) (i j:Nat) (hi:i≤1000000) (hj:j≤1000000) (h1:R1.length≤100000000) (h2:R2.length≤100000000)
 (c1:Pure prog 52 [.sl 4 A,.agg [iv k,iv a,iv b,iv c]] (iv i)) (c2:Pure prog 52 [.sl 4 B,.agg [iv k,iv a,iv b,iv c]] (iv j))
 (c3:Pure prog 54 [.sl 4 A,.agg [iv k,iv a,iv b,iv c],.agg [.sl 4 BN,.sl 4 BD]] (.agg [.sl 4 N1,.sl 4 N2])) (c4:Pure prog 54 [.sl 4 B,.agg [iv k,iv a,iv b,iv c],.agg [.sl 4 BN,.sl 4 BD]] (.agg [.sl 4 D1,.sl 4 D2]))
 (c5:Pure prog 53 [.sl 4 N1,.sl 4 BD,.v (.int .i64 ((j:Int) - (i:Int)))] (.sl 4 R1)) (c6:Pure prog 53 [.sl 4 D1,.sl 4 BD,.v (.int .i64 ((i:Int) - (j:Int)))] (.sl 4 R2)) :
 Pure prog 19 [.agg [.sl 4 A,.sl 4 B],.agg [iv k,iv a,iv b,iv c],.agg [.sl 4 BN,.sl 4 BD]] (if 4000 < R1.length∨4000 < R2.length then .tup [.agg [.v (.slice none 0 0),.v (.slice none 0 0)],iv 4] else .tup [.agg [.sl 4 R1,.sl 4 R2],iv 0]):=by
 by_cases g1:4000 < R1.length
 ·rw [ZCh (.inl g1)];have g1':(R1.length:Int) > 4000:=zo;refine pI func19 rfl ntmps19 results19 call19 ?_
  (refine wkax (w_1 g1') (w_6 c1 c2 c3 c5 c4 c6) (w_3 (w_d 1 [(3,iv i),(7,iv j)] [] []) (w_d 2 [(4,.agg [.sl 4 N1,.sl 4 N2]),(11,.sl 4 R1)] [] []) (w_d 3 [(4,.agg [.sl 4 D1,.sl 4 D2]),(11,.sl 4 R2)] [] [])) w_t w_t w_t w_y (w_r 0) (w_s ?_);intros)
  all_goals exact gL
 ·by_cases g2:4000 < R2.length
  ·rw [ZCh (.inr g2)];have g1':¬(R1.length:Int) > 4000:=zo;have g2':(R2.length:Int) > 4000:=zo;refine pI func19 rfl ntmps19 results19 call19 ?_
   (refine wkax (w_2 g1' g2') (w_6 c1 c2 c3 c5 c4 c6) (w_3 (w_d 1 [(3,iv i),(7,iv j)] [] []) (w_d 2 [(4,.agg [.sl 4 N1,.sl 4 N2]),(11,.sl 4 R1)] [] []) (w_d 3 [(4,.agg [.sl 4 D1,.sl 4 D2]),(11,.sl 4 R2)] [] [])) w_t w_t w_t w_y (w_r 0) (w_s ?_);intros)
   all_goals exact gL
  ·rw [ZCg zo];have g1':¬(R1.length:Int) > 4000:=zo;have g2':¬(R2.length:Int) > 4000:=zo;refine pI func19 rfl ntmps19 results19 call19 ?_
   (refine wkax (w_2 g1' g2') (w_6 c1 c2 c3 c5 c4 c6) (w_3 (w_d 1 [(3,iv i),(7,iv j)] [] []) (w_d 2 [(4,.agg [.sl 4 N1,.sl 4 N2]),(11,.sl 4 R1)] [] []) (w_d 3 [(4,.agg [.sl 4 D1,.sl 4 D2]),(11,.sl 4 R2)] [] [])) w_t w_t w_t w_y (w_r 0) (w_s ?_);intros)
   all_goals exact gL
def elR (z:Int × XX) (N:AV):AV:=if z.1=0 then .tup [.agg [if z.2.1=[] then N else qpA z.2.1,qpA z.2.2],iv 0] else .tup [.agg [.v (.slice none 0 0),.v (.slice none 0 0)],iv z.1]
theorem Zwo {z:Int × XX} (N:AV) {k:Int} {y:XX} (h:z=(k,y)) (hk:k≠0):elR z N=.tup [.agg [.v (.slice none 0 0),.v (.slice none 0 0)],iv k]:=by subst h;unfold elR;rw [ZCg hk]
theorem elT_e {k:Int} {y:XX} (hk:k≠0):elT (k,y)=(k,([],[])):=by unfold elT;rw [ZCh hk]
theorem elT_z {y:XX} (h:y.2=[]):elT (0,y)=(3,([],[])):=by unfold elT;rw [ZCg zs,ZCh h]
theorem elT_n {y:XX} (h:y.2≠[]) (h1:y.1=[]):elT (0,y)=(0,([],[((1:Rat),[])])):=by unfold elT;rw [ZCg zs,ZCg h,ZCh h1]
theorem elT_o {y:XX} (h:y.2≠[]) (h1:y.1≠[]):elT (0,y)=(0,y):=by unfold elT;rw [ZCg zs,ZCg h,ZCg h1]
theorem elF_l {lem:Qt→Int × XX} {q:Qt} {l:List Qt} {x:XX} (h:(lem q).1≠0):elF lem (q :: l) x=((lem q).1,([],[])):=by show(if _ then _ else _)=_;rw [ZCh h]
theorem elF_b {lem:Qt→Int × XX} {q:Qt} {l:List Qt} {x:XX} (h:(lem q).1=0) (hb:4000 < (elS q (lem q).2 x).1.length∨4000 < (elS q (lem q).2 x).2.length):elF lem (q :: l) x=(4,([],[])):=by show(if _ then _ else _)=_;rw [ZCg (by rw [h];simp),ZCh hb]
theorem elF_s {lem:Qt→Int × XX} {q:Qt} {l:List Qt} {x:XX} (h:(lem q).1=0) (hb:¬(4000 < (elS q (lem q).2 x).1.length∨4000 < (elS q (lem q).2 x).2.length)):elF lem (q :: l) x=elF lem l (elS q (lem q).2 x):=by
 show(if _ then _ else _)=_;rw [ZCg (by rw [h];simp),ZCg hb]
abbrev nilA:AV:=.v (.slice none 0 0)
theorem elElR (M G N D:List AV) (p:Int) (h:p < 0∨(M.length:Int)≤p):Pure prog 8 [.agg [.sl 6 M,.sl 5 G],iv p,.agg [.sl 4 N,.sl 4 D]] (.tup [.agg [.v (.slice none 0 0),.v (.slice none 0 0)],iv 2]):=by
 rcases h with h | h
 all_goals
  refine pI func8 rfl ntmps8 results8 call8 ?_
  (refine wkad (w_1 h) w_t w_t (w_s ?_);intros)
  all_goals exact gL
theorem elElV (M G:List AV) (i:Nat) (hi:i < M.length) (l:List Qt) (x0:XX) (lem:Qt→Int × XX) (I:List Qt→XX→Prop) (hll:l.length≤1000000)
 (ch:Pure prog 18 [iv i,.sl 1 [qpA x0.1,qpA x0.2]] (.sl 4 (l.map Qt.av))) (cn:Pure prog 20 [iv 1] (.sl 4 [.agg [.v (.bool false),lim [1],lim [1],.sl 4 []]])) (h0:I l x0)
 (hb:∀l y,I l y→y.1.length≤1000000∧y.2.length≤1000000)
 (hI:∀q r y,I (q :: r) y→Pure prog 11 [.agg [.sl 6 M,.sl 5 G],iv i,q.av] (if (lem q).1=0 then .tup [.agg [qpA (lem q).2.1,qpA (lem q).2.2],iv 0] else .tup [.agg [.v (.slice none 0 0),.v (.slice none 0 0)],iv (lem q).1])
  ∧ ((lem q).1=0→Pure prog 19 [.agg [qpA y.1,qpA y.2],q.av,.agg [qpA (lem q).2.1,qpA (lem q).2.2]] (if 4000 < (elS q (lem q).2 y).1.length∨4000 < (elS q (lem q).2 y).2.length then .tup [.agg [.v (.slice none 0 0),.v (.slice none 0 0)],iv 4] else .tup [.agg [qpA (elS q (lem q).2 y).1,qpA (elS q (lem q).2 y).2],iv 0])
    ∧ (¬(4000 < (elS q (lem q).2 y).1.length∨4000 < (elS q (lem q).2 y).2.length)→I r (elS q (lem q).2 y)))) :
 Pure prog 8 [.agg [.sl 6 M,.sl 5 G],iv i,.agg [qpA x0.1,qpA x0.2]] (elR (elT (elF lem l x0)) nilA):=by
 have hg:∀j (h:j < l.length),(l.map Qt.av).getD j .u=Qt.av l[j]:=λj h=>Zak Qt.av h;have hlm:(l.map Qt.av).length=l.length:=ZCj ..;obtain⟨R,hR⟩:∃R,R=elR (elT (elF lem l x0)) nilA:=⟨_,rfl⟩;rw [←hR];show Pure _ _ [_,_,.agg [.sl 4 (x0.1.map qtA),.sl 4 (x0.2.map qtA)]] _;have ch:Pure prog 18 [iv i,.sl 1 [.sl 4 (x0.1.map qtA),.sl 4 (x0.2.map qtA)]] (.sl 4 (l.map Qt.av)):=ch;obtain⟨y1,hy1⟩:∃y,y=x0.1.map qtA:=⟨_,rfl⟩;obtain⟨y2,hy2⟩:∃y,y=x0.2.map qtA:=⟨_,rfl⟩;rw [←hy1,←hy2] at ch ⊢;generalize l.map Qt.av=LA at *;refine pI func8 rfl ntmps8 results8 call8 ?_
 (refine wkax (w_2 hi hlm) w_t w_t (w_1 ch) w_t w_t w_y (w_r 0) (w_s ?_);intros)
 rename_i g3 g5 g6 svx;refine Zad (ι:=Nat × XX) (λs e m=>s.1≤l.length∧(e 1=iv i∧(e 3=.pbox 3 g3 0∧m 3=some (.box g3 25 [.sl 6 M,.sl 5 G] false))∧(e 5=.pbox 5 g5 0∧m 5=some (.box g5 29 [.sl 4 (s.2.1.map qtA),.sl 4 (s.2.2.map qtA)] false))∧(e 6=.pbox 6 g6 0∧m 6=some (.box g6 29 [.v (.slice none 0 0),.v (.slice none 0 0)] false)))∧(e 28=.sl 4 LA∧e 29=iv l.length∧e 30=iv s.1)∧I (l.drop s.1) s.2∧elF lem (l.drop s.1) s.2=elF lem l x0) (λs=>l.length - s.1) (0,x0) zr ?_ ?_
 ·rintro ⟨j,y⟩ e m ⟨hj,⟨e1,⟨e3,m3⟩,⟨e5,m5⟩,⟨e6,m6⟩⟩,⟨e28,e29,e30⟩,hIy,hF⟩
  simp only at hj e30 m5 hIy hF;by_cases hlt:j < l.length
  ·have hgj:=hg j hlt;have hdr:l.drop j=l[j] :: l.drop (j+1):=ZEg hlt;rw [hdr] at hIy hF;obtain⟨cL,h2⟩:=hI _ _ _ hIy;clear hI hg ch cn h0 hb hdr hIy;generalize l[j]=q at *;by_cases hz:(lem q).1=0
   ·rw [ZCh hz] at cL;obtain⟨cR,hn⟩:=h2 hz;clear h2;by_cases hbig:4000 < (elS q (lem q).2 y).1.length∨4000 < (elS q (lem q).2 y).2.length
    ·rw [ZCh hbig] at cR;have hres:R=.tup [.agg [.v (.slice none 0 0),.v (.slice none 0 0)],iv 4]:=by rw [hR,←hF,elF_b hz hbig,elT_e zd];exact Zwo _ rfl zd
     subst hres;have cL:Pure prog 11 [.agg [.sl 6 M,.sl 5 G],iv i,q.av] (.tup [.agg [.sl 4 ((lem q).2.1.map qtA),.sl 4 ((lem q).2.2.map qtA)],iv 0]):=cL;have cR:Pure prog 19 [.agg [.sl 4 (y.1.map qtA),.sl 4 (y.2.map qtA)],q.av,.agg [.sl 4 ((lem q).2.1.map qtA),.sl 4 ((lem q).2.2.map qtA)]] _:=cR;clear hF hR hn hz hbig hy1 hy2;generalize (lem q).2.1.map qtA=B1 at *;generalize (lem q).2.2.map qtA=B2 at *;generalize y.1.map qtA=Y1 at *;generalize y.2.map qtA=Y2 at *;obtain⟨q1,q2,q3,q4⟩:=q;have cL:Pure prog 11 [.agg [.sl 6 M,.sl 5 G],iv i,.agg [iv q1,iv q2,iv q3,iv q4]] _:=cL;have cR:Pure prog 19 [.agg [.sl 4 Y1,.sl 4 Y2],.agg [iv q1,iv q2,iv q3,iv q4],.agg [.sl 4 B1,.sl 4 B2]] _:=cR
     have hgj:LA.getD j .u=.agg [iv q1,iv q2,iv q3,iv q4]:=hgj
     (refine wkad (w_12 e1 e3 m3 e5 m5 e6 m6 e28 e29 e30 hlm hgj) (w_2 cL cR) w_t (w_s ?_);intros)
     all_goals exact gM (w_2 e6 m6)
    ·rw [ZCg hbig] at cR;have hn:=hn hbig;rw [elF_s hz hbig] at hF;have cL:Pure prog 11 [.agg [.sl 6 M,.sl 5 G],iv i,q.av] (.tup [.agg [.sl 4 ((lem q).2.1.map qtA),.sl 4 ((lem q).2.2.map qtA)],iv 0]):=cL;have cR:Pure prog 19 [.agg [.sl 4 (y.1.map qtA),.sl 4 (y.2.map qtA)],q.av,.agg [.sl 4 ((lem q).2.1.map qtA),.sl 4 ((lem q).2.2.map qtA)]] (.tup [.agg [.sl 4 ((elS q (lem q).2 y).1.map qtA),.sl 4 ((elS q (lem q).2 y).2.map qtA)],iv 0]):=cR;generalize elS q (lem q).2 y=y' at *;obtain⟨Z1,hZ1⟩:∃Z,Z=y'.1.map qtA:=⟨_,rfl⟩;obtain⟨Z2,hZ2⟩:∃Z,Z=y'.2.map qtA:=⟨_,rfl⟩;rw [←hZ1,←hZ2] at cR;clear hR hz hbig hy1 hy2
     generalize (lem q).2.1.map qtA=B1 at *;generalize (lem q).2.2.map qtA=B2 at *;generalize y.1.map qtA=Y1 at *;generalize y.2.map qtA=Y2 at *;obtain⟨q1,q2,q3,q4⟩:=q;have cL:Pure prog 11 [.agg [.sl 6 M,.sl 5 G],iv i,.agg [iv q1,iv q2,iv q3,iv q4]] _:=cL;have cR:Pure prog 19 [.agg [.sl 4 Y1,.sl 4 Y2],.agg [iv q1,iv q2,iv q3,iv q4],.agg [.sl 4 B1,.sl 4 B2]] _:=cR;have hgj:LA.getD j .u=.agg [iv q1,iv q2,iv q3,iv q4]:=hgj
     (refine wkad (w_12 e1 e3 m3 e5 m5 e6 m6 e28 e29 e30 hlm hgj) (w_2 cL cR) w_t (w_s ?_);intros)
     exact⟨(j+1,y'),⟨by show j+1≤_;omega,⟨gW e1,⟨gW e3,gW m3⟩,⟨gW e5,by rw [←hZ1,←hZ2];exact gW m5⟩,⟨gW e6,gW m6⟩⟩,⟨gW e28,gW e29,gS⟩,hn,hF⟩,by simp only;omega⟩
   ·rw [ZCg hz] at cL;have hres:R=.tup [.agg [.v (.slice none 0 0),.v (.slice none 0 0)],iv (lem q).1]:=by rw [hR,←hF,elF_l hz,elT_e hz];exact Zwo _ rfl hz
    subst hres;clear hF h2 hR hy1 hy2;generalize (lem q).1=z at *;generalize y.1.map qtA=Y1 at *;generalize y.2.map qtA=Y2 at *;obtain⟨q1,q2,q3,q4⟩:=q;have cL:Pure prog 11 [.agg [.sl 6 M,.sl 5 G],iv i,.agg [iv q1,iv q2,iv q3,iv q4]] _:=cL;have hgj:LA.getD j .u=.agg [iv q1,iv q2,iv q3,iv q4]:=hgj
    (refine wkad (w_13 e1 e3 m3 e5 m5 e6 m6 e28 e29 e30 hlm hgj hz) (w_1 cL) w_t (w_s ?_);intros)
    all_goals exact gM (w_2 e6 m6)
  ·have hjl:j=l.length:=zo;subst hjl;rw [ZHz] at hIy hF;have hF:(0,y)=elF lem l x0:=hF;obtain⟨b1,b2⟩:=hb _ _ hIy;have l1:(y.1.map qtA).length=y.1.length:=ZCj ..;have l2:(y.2.map qtA).length=y.2.length:=ZCj ..;clear hI hg ch h0 hb hIy hy1 hy2;by_cases n2:y.2=[]
   ·have hres:R=.tup [.agg [.v (.slice none 0 0),.v (.slice none 0 0)],iv 3]:=by rw [hR,←hF,elT_z n2];exact Zwo _ rfl zd
    subst hres;rw [n2] at m5;clear cn hF hR l1 l2;have m5:m 5=some (.box g5 29 [.sl 4 (y.1.map qtA),.sl 4 []] false):=m5;generalize y.1.map qtA=Y1 at *
    (refine wkad (w_11 e1 e3 m3 e5 m5 e6 m6 e28 e29 e30 hlm) w_t w_t (w_s ?_);intros)
    all_goals exact gM (w_2 e6 m6)
   ·have k2:¬y.2.length=0:=λh=>n2 (List.length_eq_zero_iff.1 h);have k2':¬(y.2.length:Int)=0:=zo;by_cases n1:y.1=[]
    ·have hres:R=.tup [.agg [.v (.slice none 0 0),.sl 4 [.agg [.v (.bool false),lim [1],lim [1],.sl 4 []]]],iv 0]:=by
      rw [hR,←hF,elT_n n2 n1];show AV.tup [.agg [.v (.slice none 0 0),.sl 4 [qtA ((1:Rat),[])]],iv 0]=_;rw [Ze2];rfl
     subst hres;rw [n1] at m5;have m5:m 5=some (.box g5 29 [.sl 4 [],.sl 4 (y.2.map qtA)] false):=m5;clear hF hR l1;generalize y.2.map qtA=Y2 at *
     (refine wkad (w_13 e1 e3 m3 e5 m5 e6 m6 e28 e29 e30 hlm l2 k2') (w_1 cn) w_t (w_s ?_);intros)
     all_goals exact gM (w_2 e6 m6)
    ·have k1:¬y.1.length=0:=λh=>n1 (List.length_eq_zero_iff.1 h);have k1':¬(y.1.length:Int)=0:=zo
     have hres:R=.tup [.agg [.sl 4 (y.1.map qtA),.sl 4 (y.2.map qtA)],iv 0]:=by
      rw [hR,←hF,elT_o n2 n1];unfold elR;rw [ZCh rfl,ZCg n1]
     subst hres;clear hF hR cn;generalize y.1.map qtA=Y1 at *;generalize y.2.map qtA=Y2 at *
     (refine wkad (w_15 e1 e3 m3 e5 m5 e6 m6 e28 e29 e30 hlm l1 l2 k1' k2') w_t w_t (w_s ?_);intros)
     all_goals exact gM (w_4 e5 m5 e6 m6)
 ·exact⟨ZCr _,⟨gC,⟨gC,gC⟩,⟨gC,by rw [←hy1,←hy2];exact gC⟩,⟨gC,gC⟩⟩,⟨gC,gW hlm,gC⟩,h0,rfl⟩
theorem scl_i1 (p:QTs):sclT ((1:Int):Rat) p=p:=by show sclT 1 p=_;exact Zk1 p
structure RoundOk (x:Int) (q:Qt) (l:List Qt) (K N:Nat) (y b:XX):Prop where
 h:EI x (q :: l) K N y
 hq:hasQ x q=true
 nf:q.norm=(q,1)
 b:LmOk x b
 k:K≤60000
 n:N≤900
section
variable {x:Int} {q:Qt} {l:List Qt} {K N:Nat} {y b:XX}
theorem RoundOk.l1 (h:RoundOk x q l K N y b):(elS q b y).1=rsX (rpN q y.1 b.1 b.2) b.2 (moQ q y.2 - moQ q y.1)∧(rsX (rpN q y.1 b.1 b.2) b.2 (moQ q y.2 - moQ q y.1)).length≤1728000:=by
 obtain⟨m1,m2⟩:=h.h.mo h.hq;refine⟨?_,Ztn h.h.l1 h.b.ln h.b.ld zo⟩;exact(rs_pw (rs_xb (i:=0) h.h.x1 h.b.xn h.b.xd m1 zo).1 h.b.xd.1 _).symm
theorem RoundOk.l2 (h:RoundOk x q l K N y b):(elS q b y).2=rsX (rpN q y.2 b.1 b.2) b.2 (moQ q y.1 - moQ q y.2)∧(rsX (rpN q y.2 b.1 b.2) b.2 (moQ q y.1 - moQ q y.2)).length≤1728000:=by
 obtain⟨m1,m2⟩:=h.h.mo h.hq;refine⟨?_,Ztn h.h.l2 h.b.ln h.b.ld zo⟩;exact(rs_pw (rs_xb (i:=0) h.h.x2 h.b.xn h.b.xd m2 zo).1 h.b.xd.1 _).symm
end
theorem elPart {x:Int} {q:Qt} {K N:Nat} {p:QTs} {b:XX} (z:Int) (hp:XB p K N) (lp:p.length≤4000) (hm:moQ q p≤2) (hz:(moQ q p:Int)+z≤2) (hz1:z≤2) (nf:q.norm=(q,1)) (hb:LmOk x b) (hK:K≤60000) (hN:N≤900) :
 Pure prog 52 [qpA p,q.av] (iv (moQ q p))∧Pure prog 54 [qpA p,q.av,.agg [qpA b.1,qpA b.2]] (.agg [qpA (rpN q p b.1 b.2),qpA (rpD q p b.2)])∧Pure prog 53 [qpA (rpN q p b.1 b.2),qpA b.2,iv z] (qpA (rsX (rpN q p b.1 b.2) b.2 z.toNat)):=by
 have hmq:maxQ=1000:=rfl;refine⟨elMost p q (n:=N) zo hp.2.1 zo,?_,?_⟩
 ·have c:=ZAu p b.1 b.2 q (L:=12) (LA:=4000) (M:=2) hp hb.xn hb.xd lp zd zd (by rw [nf];exact hm) hb.ln hb.ld zd zo zd zo;rw [nf] at c;simp only at c;rw [ZCg zd,scl_i1] at c;exact c
 ·refine elRaised _ _ z zo λi hi=>?_;have hx:=rs_xb (i:=i) hp hb.xn hb.xd hm zo;have hl:=Ztn (i:=i) (q:=q) lp hb.ln hb.ld zo;have h12:=ZDe hl hb.ld;exact ZAw _ _ hx hb.xd zo (ZCk h12 zd) zo (by have:=hb.ld;omega) zo zo
theorem elRepl {x:Int} {q:Qt} {l:List Qt} {K N:Nat} {y b:XX} (h:RoundOk x q l K N y b):Pure prog 19 [.agg [qpA y.1,qpA y.2],q.av,.agg [qpA b.1,qpA b.2]] (if 4000 < (elS q b y).1.length∨4000 < (elS q b y).2.length then .tup [.agg [.v (.slice none 0 0),.v (.slice none 0 0)],iv 4] else .tup [.agg [qpA (elS q b y).1,qpA (elS q b y).2],iv 0]):=by
 obtain⟨m1,m2⟩:=h.h.mo h.hq;obtain⟨c1,c3,c5⟩:=elPart ((moQ q y.2:Int) - (moQ q y.1:Int)) h.h.x1 h.h.l1 m1 zo zo h.nf h.b h.k h.n;obtain⟨c2,c4,c6⟩:=elPart ((moQ q y.1:Int) - (moQ q y.2:Int)) h.h.x2 h.h.l2 m2 zo zo h.nf h.b h.k h.n;obtain⟨e1,l1⟩:=h.l1;obtain⟨e2,l2⟩:=h.l2;rw [show((moQ q y.2:Int) - (moQ q y.1:Int)).toNat=moQ q y.2 - moQ q y.1 by omega,←e1] at c5;rw [show((moQ q y.1:Int) - (moQ q y.2:Int)).toNat=moQ q y.1 - moQ q y.2 by omega,←e2] at c6;rw [←e1] at l1;rw [←e2] at l2;have k:=elReplV _ _ _ _ _ _ _ _ _ _ q.k q.a q.b q.c (moQ q y.1) (moQ q y.2) zo zo (by rw [ZCj];omega) (by rw [ZCj];omega) c1 c2 c3 c4 c5 c6
 rwa [ZCj,ZCj] at k
def lemQ (ss:List RS) (i:Nat) (hi:i < ss.length) (q:Qt):Int × XX:=if q.chk ss.length 64=0 then lmS ss i hi q else (q.chk ss.length 64,([],[]))
theorem lemQ_av {ss:List RS} {i:Nat} {hi:i < ss.length} {q:Qt}:lmA q ss.length (lmS ss i hi q) nilA=if (lemQ ss i hi q).1=0 then .tup [.agg [qpA (lemQ ss i hi q).2.1,qpA (lemQ ss i hi q).2.2],iv 0] else .tup [.agg [nilA,nilA],iv (lemQ ss i hi q).1]:=by
 unfold lmA lemQ;by_cases h:q.chk ss.length 64=0
 ·rw [ZCh h,ZCh h]
 ·rw [ZCg h,ZCg h,ZCg h]
theorem chk_okQ {q:Qt} {n:Int} (h:q.chk n 64=0):q.ok=true:=by
 cases g:q.ok with
 | true=>rfl
 | false=>unfold Qt.chk at h;rw [ZCg (by rw [g];simp)] at h;cases h
theorem Zn5 {ss:List RS} {i:Nat} (hi:i < ss.length) (h8:ss.length≤8) (he:errS ss i=0) (hr:ss[i].r.lm 2) {q:Qt} (h0:(lemQ ss i hi q).1=0):LmOk i (lemQ ss i hi q).2:=by
 have hA:=st_a hi h8 he hr;unfold lemQ at h0 ⊢;by_cases h:q.chk ss.length 64=0
 ·rw [ZCh h] at h0 ⊢;exact lm_ok hA (chk_okQ h) (λhs hx=>Zr2 h hs hx) h0
 ·rw [ZCg h] at h0;exact absurd h0 h
def Ahead (x:Int) (l:List Qt) (y:XX):Prop:=∃K N,EI x l K N y∧K+l.length*1472≤50000∧N+l.length*20≤900∧∀q∈l,hasQ x q=true∧q.norm=(q,1)
theorem Ahead.beg {x:Int} {K N:Nat} {n d:QTs} (h1:XB n K N) (h2:XB d K N) (l1:n.length≤4000) (l2:d.length≤4000) (c1:∀t∈n,t.2.length≤2) (c2:∀t∈d,t.2.length≤2) (hk:K+(flQ n++flQ d).length*1472≤50000) (hn:N+(flQ n++flQ d).length*20≤900):Ahead x (hvL x (flQ n++flQ d)) (n,d):=by
 have hl:=Zoa x (flQ n++flQ d);have e1:(hvL x (flQ n++flQ d)).length*1472≤(flQ n++flQ d).length*1472:=ZCw _ hl;have e2:(hvL x (flQ n++flQ d)).length*20≤(flQ n++flQ d).length*20:=ZCw _ hl;refine⟨K,N,EI.beg h1 h2 l1 l2 c1 c2,zo,zo,λq hq=>?_⟩;obtain⟨hm,hx⟩:=Zsd.1 hq;refine⟨hx,?_⟩;rcases List.mem_append.1 hm with g | g
 ·obtain⟨t,ht,hqt⟩:=Znz.1 g;exact(h1.1.1 t ht).2.2 q hqt
 ·obtain⟨t,ht,hqt⟩:=Znz.1 g;exact(h2.1.1 t ht).2.2 q hqt
theorem Ahead.round {x:Int} {q:Qt} {l:List Qt} {y b:XX} (h:Ahead x (q :: l) y) (hb:LmOk x b):∃K N,RoundOk x q l K N y b:=by
 obtain⟨K,N,h1,h2,h3,h4⟩:=h;rw [ZCu] at h2 h3;exact⟨K,N,h1,(h4 q (.head _)).1,(h4 q (.head _)).2,hb,zo,zo⟩
theorem Ahead.step {x:Int} {q:Qt} {l:List Qt} {y b:XX} (h:Ahead x (q :: l) y) (hb:LmOk x b) (hn:¬(4000 < (elS q b y).1.length∨4000 < (elS q b y).2.length)):Ahead x l (elS q b y):=by
 obtain⟨K,N,h1,h2,h3,h4⟩:=h;rw [ZCu] at h2 h3;exact⟨K+1472,N+20,h1.step (h4 q (.head _)).1 hb zo zo,zo,zo,λu hu=>h4 u (.tail _ hu)⟩
abbrev elZ (ss:List RS) (i:Nat) (hi:i < ss.length) (x:XX):Int × XX:=elF (lemQ ss i hi) (hvL i (flQ x.1++flQ x.2)) x
theorem elElim (ss:List RS) (gs:List RG) (i:Nat) (hi:i < ss.length) (h8:ss.length≤8) (he:errS ss i=0) (hr:ss[i].r.lm 2) (x:XX) (l1:x.1.length≤1000000) (l2:x.2.length≤1000000) (q1:∀t∈x.1,t.2.length≤1000000) (q2:∀t∈x.2,t.2.length≤1000000) (hf:(flQ x.1++flQ x.2).length≤1000000) (h0:Ahead i (hvL i (flQ x.1++flQ x.2)) x):Pure prog 8 [figA ss gs,iv i,.agg [qpA x.1,qpA x.2]] (elR (elT (elZ ss i hi x)) nilA):=by
 have hP:flP [x.1,x.2]=flQ x.1++flQ x.2:=by show flQ x.1++(flQ x.2++[])=_;rw [ZDo]
 have ch:=elHaving i [x.1,x.2] (by show 2≤1000000;decide) (λp hp=>by
  rcases List.mem_cons.1 hp with rfl | hp
  ·exact⟨l1,q1⟩
  ·rw [List.mem_singleton.1 hp];exact⟨l2,q2⟩) (by rw [hP];exact hf)
 rw [hP] at ch;have hn:=Zib;rw [nx1,show qpA onX=.sl 4 [.agg [.v (.bool false),lim [1],lim [1],.sl 4 []]] from by show AV.sl 4 [qtA ((1:Rat),[])]=_;rw [Ze2];rfl] at hn;refine elElV (ss.map RS.av) (gs.map RG.av) i (by rw [ZCj];exact hi) _ x (lemQ ss i hi) (Ahead i) (ZCk (Zoa _ _) hf) ch hn h0 ?_ ?_
 ·rintro l y ⟨K,N,h1,-⟩
  have:=h1.l1;have:=h1.l2;exact⟨zo,zo⟩
 ·intro q r y hI;refine⟨?_,λhz=>?_⟩
  ·have c:=Zsw ss gs i hi h8 he hr q.k q.a q.b q.c;have c:Pure prog 11 [figA ss gs,iv i,q.av] (lmA q ss.length (lmS ss i hi q) nilA):=c;rw [lemQ_av] at c;exact c
  ·have ok:=Zn5 hi h8 he hr hz;obtain⟨K,N,hR⟩:=hI.round ok;exact⟨elRepl hR,λhn=>hI.step ok hn⟩
theorem elZ_ok {ss:List RS} {i:Nat} (hi:i < ss.length) (h8:ss.length≤8) (he:errS ss i=0) (hr:ss[i].r.lm 2) {x:XX} (h0:Ahead i (hvL i (flQ x.1++flQ x.2)) x) {w:XX} (h:elT (elZ ss i hi x)=(0,w)):w.2≠[]∧alQ (noP i) w.1∧alQ (noP i) w.2∧XB w.1 50000 900∧XB w.2 50000 900∧w.1.length≤4000∧w.2.length≤4000:=by
 obtain⟨K,N,h1,h2,h3,h4⟩:=h0;refine el_free (K:=50000) (N:=900) h (λg=>?_) zd;have hz:elZ ss i hi x=(0,(elZ ss i hi x).2):=by rw [←g]
 have r:=el_run hz h1 λq hq=>⟨(h4 q hq).1,λh=>Zn5 hi h8 he hr h⟩;exact⟨r.x1.mono h2 h3,r.x2.mono h2 h3,r.l1,r.l2,r.c1,r.c2,r.a1,r.a2⟩
abbrev midS:List RS:=[⟨1,⟨#[65]⟩,[],⟨false,[],[]⟩⟩,⟨1,⟨#[66]⟩,[],⟨false,[],[]⟩⟩,⟨1,⟨#[67]⟩,[],⟨false,[],[]⟩⟩,⟨2,⟨#[77]⟩,[1,2],⟨false,[1],[2]⟩⟩]
def midL:Nat→List AV
 | 0=>[.agg [iv 1,strA .empty,.v (.slice none 0 0),.v (.bool false),.v (.slice none 0 0),.v (.slice none 0 0)],.agg [iv 1,strA .empty,.v (.slice none 0 0),.v (.bool false),.v (.slice none 0 0),.v (.slice none 0 0)],.agg [iv 1,strA .empty,.v (.slice none 0 0),.v (.bool false),.v (.slice none 0 0),.v (.slice none 0 0)],.agg [iv 2,strA .empty,.sl 1 [iv 1,iv 2],.v (.bool false),lim [1],lim [2]]]
 | 1=>[.agg [iv 1,strA ⟨#[65]⟩,.v (.slice none 0 0),.v (.bool false),.v (.slice none 0 0),.v (.slice none 0 0)],.agg [iv 1,strA .empty,.v (.slice none 0 0),.v (.bool false),.v (.slice none 0 0),.v (.slice none 0 0)],.agg [iv 1,strA .empty,.v (.slice none 0 0),.v (.bool false),.v (.slice none 0 0),.v (.slice none 0 0)],.agg [iv 2,strA .empty,.sl 1 [iv 1,iv 2],.v (.bool false),lim [1],lim [2]]]
 | 2=>[.agg [iv 1,strA ⟨#[65]⟩,.v (.slice none 0 0),.v (.bool false),.v (.slice none 0 0),.v (.slice none 0 0)],.agg [iv 1,strA ⟨#[66]⟩,.v (.slice none 0 0),.v (.bool false),.v (.slice none 0 0),.v (.slice none 0 0)],.agg [iv 1,strA .empty,.v (.slice none 0 0),.v (.bool false),.v (.slice none 0 0),.v (.slice none 0 0)],.agg [iv 2,strA .empty,.sl 1 [iv 1,iv 2],.v (.bool false),lim [1],lim [2]]]
 | 3=>[.agg [iv 1,strA ⟨#[65]⟩,.v (.slice none 0 0),.v (.bool false),.v (.slice none 0 0),.v (.slice none 0 0)],.agg [iv 1,strA ⟨#[66]⟩,.v (.slice none 0 0),.v (.bool false),.v (.slice none 0 0),.v (.slice none 0 0)],.agg [iv 1,strA ⟨#[67]⟩,.v (.slice none 0 0),.v (.bool false),.v (.slice none 0 0),.v (.slice none 0 0)],.agg [iv 2,strA .empty,.sl 1 [iv 1,iv 2],.v (.bool false),lim [1],lim [2]]]
 | _=>[.agg [iv 1,strA ⟨#[65]⟩,.v (.slice none 0 0),.v (.bool false),.v (.slice none 0 0),.v (.slice none 0 0)],.agg [iv 1,strA ⟨#[66]⟩,.v (.slice none 0 0),.v (.bool false),.v (.slice none 0 0),.v (.slice none 0 0)],.agg [iv 1,strA ⟨#[67]⟩,.v (.slice none 0 0),.v (.bool false),.v (.slice none 0 0),.v (.slice none 0 0)],.agg [iv 2,strA ⟨#[77]⟩,.sl 1 [iv 1,iv 2],.v (.bool false),lim [1],lim [2]]]
theorem lwMid:Pure prog 16 [] (figA midS []):=by
 have cF:Pure prog 49 [iv 1,iv 2] (.agg [.v (.bool false),lim [1],lim [2]]):=by
  have h:=rfHalf
  rwa [show ratQ (1/2)=.agg [.v (.bool false),lim [1],lim [2]] from by
   show AV.agg [.v (.bool (decide ((1/2:Rat).num < 0))),lim (toL (1/2:Rat).num.natAbs),lim (toL (1/2:Rat).den)]=_;rw [show(1/2:Rat).num=1 from by decide +kernel,show(1/2:Rat).den=2 from by decide +kernel,show toL 2=[2] from by decide +kernel,show toL (Int.natAbs 1)=[1] from by decide +kernel];rfl] at h
 refine Zfg (r:=.agg [.sl 6 [.agg [iv 1,strA ⟨#[65]⟩,.v (.slice none 0 0),.v (.bool false),.v (.slice none 0 0),.v (.slice none 0 0)],.agg [iv 1,strA ⟨#[66]⟩,.v (.slice none 0 0),.v (.bool false),.v (.slice none 0 0),.v (.slice none 0 0)],.agg [iv 1,strA ⟨#[67]⟩,.v (.slice none 0 0),.v (.bool false),.v (.slice none 0 0),.v (.slice none 0 0)],.agg [iv 2,strA ⟨#[77]⟩,.sl 1 [iv 1,iv 2],.v (.bool false),lim [1],lim [2]]],.v (.slice none 0 0)]) ?_ (Vk.aggL (.cons (Vk.slL rfl zd zd ?_) (.cons (.nil 5) .nil)))
 ·refine pI func16 rfl ntmps16 results16 call16 ?_
  (refine wkad w_t (w_1 cF) (w_1 (w_d 2 [(3,.sl 1 [iv 1,iv 2]),(4,.agg [.v (.bool false),lim [1],lim [2]])] [] [2])) (w_s ?_);intros)
  rename_i g0 g1 s11 g2;refine Zad (ι:=Nat) (λi e m=>i≤4∧(e 2=.pbox 2 g2 0∧m 2=some (.box g2 25 [.own 11 s11,.v (.slice none 0 0)] false))∧(e 0=.pbox 0 g0 0∧m 0=some (.box g0 25 [.v (.slice none 0 0),.v (.slice none 0 0)] false))∧e 3=iv i∧m 11=some (.row s11 76 6 (midL i) 0)) (λi=>4 - i) 0 zr ?_ ?_
  ·rintro i e m ⟨hi,⟨e2,m2⟩,⟨e0,m0'⟩,e3,m11⟩
   have h5:i=0∨i=1∨i=2∨i=3∨i=4:=zo;rcases h5 with rfl | rfl | rfl | rfl | rfl
   ·rw [show midL 0=[.agg [iv 1,strA .empty,.v (.slice none 0 0),.v (.bool false),.v (.slice none 0 0),.v (.slice none 0 0)],.agg [iv 1,strA .empty,.v (.slice none 0 0),.v (.bool false),.v (.slice none 0 0),.v (.slice none 0 0)],.agg [iv 1,strA .empty,.v (.slice none 0 0),.v (.bool false),.v (.slice none 0 0),.v (.slice none 0 0)],.agg [iv 2,strA .empty,.sl 1 [iv 1,iv 2],.v (.bool false),lim [1],lim [2]]] from rfl] at m11
    (refine wkad (w_4 e2 m2 e3 m11) w_t (w_1 (w_d 6 [(5,.sl 1 [.v (.int .u8 65)])] [9] [])) (w_s ?_);intros)
    exact⟨1,⟨zo,⟨gW e2,gW m2⟩,⟨gW e0,gW m0'⟩,gC,by rw [show midL 1=[.agg [iv 1,strA ⟨#[65]⟩,.v (.slice none 0 0),.v (.bool false),.v (.slice none 0 0),.v (.slice none 0 0)],.agg [iv 1,strA .empty,.v (.slice none 0 0),.v (.bool false),.v (.slice none 0 0),.v (.slice none 0 0)],.agg [iv 1,strA .empty,.v (.slice none 0 0),.v (.bool false),.v (.slice none 0 0),.v (.slice none 0 0)],.agg [iv 2,strA .empty,.sl 1 [iv 1,iv 2],.v (.bool false),lim [1],lim [2]]] from rfl];exact gW m11⟩,zo⟩
   ·rw [show midL 1=[.agg [iv 1,strA ⟨#[65]⟩,.v (.slice none 0 0),.v (.bool false),.v (.slice none 0 0),.v (.slice none 0 0)],.agg [iv 1,strA .empty,.v (.slice none 0 0),.v (.bool false),.v (.slice none 0 0),.v (.slice none 0 0)],.agg [iv 1,strA .empty,.v (.slice none 0 0),.v (.bool false),.v (.slice none 0 0),.v (.slice none 0 0)],.agg [iv 2,strA .empty,.sl 1 [iv 1,iv 2],.v (.bool false),lim [1],lim [2]]] from rfl] at m11
    (refine wkad (w_4 e2 m2 e3 m11) w_t (w_1 (w_d 6 [(5,.sl 1 [.v (.int .u8 66)])] [9] [])) (w_s ?_);intros)
    exact⟨2,⟨zo,⟨gW e2,gW m2⟩,⟨gW e0,gW m0'⟩,gC,by rw [show midL 2=[.agg [iv 1,strA ⟨#[65]⟩,.v (.slice none 0 0),.v (.bool false),.v (.slice none 0 0),.v (.slice none 0 0)],.agg [iv 1,strA ⟨#[66]⟩,.v (.slice none 0 0),.v (.bool false),.v (.slice none 0 0),.v (.slice none 0 0)],.agg [iv 1,strA .empty,.v (.slice none 0 0),.v (.bool false),.v (.slice none 0 0),.v (.slice none 0 0)],.agg [iv 2,strA .empty,.sl 1 [iv 1,iv 2],.v (.bool false),lim [1],lim [2]]] from rfl];exact gW m11⟩,zo⟩
   ·rw [show midL 2=[.agg [iv 1,strA ⟨#[65]⟩,.v (.slice none 0 0),.v (.bool false),.v (.slice none 0 0),.v (.slice none 0 0)],.agg [iv 1,strA ⟨#[66]⟩,.v (.slice none 0 0),.v (.bool false),.v (.slice none 0 0),.v (.slice none 0 0)],.agg [iv 1,strA .empty,.v (.slice none 0 0),.v (.bool false),.v (.slice none 0 0),.v (.slice none 0 0)],.agg [iv 2,strA .empty,.sl 1 [iv 1,iv 2],.v (.bool false),lim [1],lim [2]]] from rfl] at m11
    (refine wkad (w_4 e2 m2 e3 m11) w_t (w_1 (w_d 6 [(5,.sl 1 [.v (.int .u8 67)])] [9] [])) (w_s ?_);intros)
    exact⟨3,⟨zo,⟨gW e2,gW m2⟩,⟨gW e0,gW m0'⟩,gC,by rw [show midL 3=[.agg [iv 1,strA ⟨#[65]⟩,.v (.slice none 0 0),.v (.bool false),.v (.slice none 0 0),.v (.slice none 0 0)],.agg [iv 1,strA ⟨#[66]⟩,.v (.slice none 0 0),.v (.bool false),.v (.slice none 0 0),.v (.slice none 0 0)],.agg [iv 1,strA ⟨#[67]⟩,.v (.slice none 0 0),.v (.bool false),.v (.slice none 0 0),.v (.slice none 0 0)],.agg [iv 2,strA .empty,.sl 1 [iv 1,iv 2],.v (.bool false),lim [1],lim [2]]] from rfl];exact gW m11⟩,zo⟩
   ·rw [show midL 3=[.agg [iv 1,strA ⟨#[65]⟩,.v (.slice none 0 0),.v (.bool false),.v (.slice none 0 0),.v (.slice none 0 0)],.agg [iv 1,strA ⟨#[66]⟩,.v (.slice none 0 0),.v (.bool false),.v (.slice none 0 0),.v (.slice none 0 0)],.agg [iv 1,strA ⟨#[67]⟩,.v (.slice none 0 0),.v (.bool false),.v (.slice none 0 0),.v (.slice none 0 0)],.agg [iv 2,strA .empty,.sl 1 [iv 1,iv 2],.v (.bool false),lim [1],lim [2]]] from rfl] at m11
    (refine wkad (w_4 e2 m2 e3 m11) w_t (w_1 (w_d 6 [(5,.sl 1 [.v (.int .u8 77)])] [9] [])) (w_s ?_);intros)
    exact⟨4,⟨zo,⟨gW e2,gW m2⟩,⟨gW e0,gW m0'⟩,gC,by rw [show midL 4=[.agg [iv 1,strA ⟨#[65]⟩,.v (.slice none 0 0),.v (.bool false),.v (.slice none 0 0),.v (.slice none 0 0)],.agg [iv 1,strA ⟨#[66]⟩,.v (.slice none 0 0),.v (.bool false),.v (.slice none 0 0),.v (.slice none 0 0)],.agg [iv 1,strA ⟨#[67]⟩,.v (.slice none 0 0),.v (.bool false),.v (.slice none 0 0),.v (.slice none 0 0)],.agg [iv 2,strA ⟨#[77]⟩,.sl 1 [iv 1,iv 2],.v (.bool false),lim [1],lim [2]]] from rfl];exact gW m11⟩,zo⟩
   ·rw [show midL 4=[.agg [iv 1,strA ⟨#[65]⟩,.v (.slice none 0 0),.v (.bool false),.v (.slice none 0 0),.v (.slice none 0 0)],.agg [iv 1,strA ⟨#[66]⟩,.v (.slice none 0 0),.v (.bool false),.v (.slice none 0 0),.v (.slice none 0 0)],.agg [iv 1,strA ⟨#[67]⟩,.v (.slice none 0 0),.v (.bool false),.v (.slice none 0 0),.v (.slice none 0 0)],.agg [iv 2,strA ⟨#[77]⟩,.sl 1 [iv 1,iv 2],.v (.bool false),lim [1],lim [2]]] from rfl] at m11
    (refine wkad (w_6 e2 m2 e0 m0' e3 m11) w_t w_t (w_s ?_);intros)
    all_goals exact gM (w_3 e0 m0' m11)
  ·exact⟨zo,⟨gC,gC⟩,⟨gC,gC⟩,gC,by rw [show midL 0=[.agg [iv 1,strA .empty,.v (.slice none 0 0),.v (.bool false),.v (.slice none 0 0),.v (.slice none 0 0)],.agg [iv 1,strA .empty,.v (.slice none 0 0),.v (.bool false),.v (.slice none 0 0),.v (.slice none 0 0)],.agg [iv 1,strA .empty,.v (.slice none 0 0),.v (.bool false),.v (.slice none 0 0),.v (.slice none 0 0)],.agg [iv 2,strA .empty,.sl 1 [iv 1,iv 2],.v (.bool false),lim [1],lim [2]]] from rfl];exact gC⟩
 ·exact(.cons (.refl _) (.cons (.refl _) (.cons (.nil 1) (.cons (.refl _) (.cons (.nil 1) (.cons (.nil 1) (.cons (.refl _) (.cons (.refl _) (.cons (.nil 1) (.cons (.refl _) (.cons (.nil 1) (.cons (.nil 1) (.cons (.refl _) (.cons (.refl _) (.cons (.nil 1) (.cons (.refl _) (.cons (.nil 1) (.cons (.nil 1) (.cons (.refl _) (.cons (.refl _) (.cons (.refl _) (.cons (.refl _) (.cons (.refl _) (.cons (.refl _) .nil))))))))))))))))))))))))
attribute [go_sem] szSlStr zSlStr
theorem mid_e:∀i,i < midS.length→errS midS i=0:=by decide +kernel
theorem mid_r:∀s∈midS,s.r.lm 2:=by
 intro s hs;have h:∀s∈midS,(∀x∈s.r.l,x < 65536)∧(∀x∈s.r.d,x < 65536)∧s.r.l.length≤2∧s.r.d.length≤2:=by decide
 obtain⟨h1,h2,h3,h4⟩:=h s hs;exact⟨h1,h2,h3,h4⟩
theorem mid_L (q:Qt) (r:Int × XX) (h:lmX 2 [1,2] (1/2) 0 3 q=r):lmS midS 3 zd q=r:=by
 rw [←h];show lmX 2 [1,2] (RQ.q ⟨false,[1],[2]⟩) _ 3 q=_;rw [show RQ.q ⟨false,[1],[2]⟩=(1/2:Rat) from by decide +kernel];rfl
theorem awL1:Pure prog 11 [figA midS [],iv 3,.agg [iv 1,iv 3,iv 0,iv 1]] (.tup [.agg [qpA [((1/2:Rat),[(⟨1,0,1,2⟩:Qt)])],qpA onX],iv 0]):=by
 have c:=Zsw midS [] 3 zd zd (mid_e 3 zd) (mid_r _ (ZCt _)) 1 3 0 1;rw [mid_L _ _ mid1] at c;exact c
theorem awL2:Pure prog 11 [figA midS [],iv 3,.agg [iv 2,iv 3,iv 0,iv 3]] (.tup [.agg [qpA [((1/2:Rat),pM 0 1),((1/2:Rat),pM 0 2),((-1/4:Rat),pM 1 2)],qpA onX],iv 0]):=by
 have c:=Zsw midS [] 3 zd zd (mid_e 3 zd) (mid_r _ (ZCt _)) 2 3 0 3;rw [mid_L _ _ mid2] at c;exact c
theorem awT1:Pure prog 17 [qpA [((1/2:Rat),[(⟨1,0,1,2⟩:Qt)])],.sl 1 [strA ⟨#[65]⟩,strA ⟨#[66]⟩,strA ⟨#[67]⟩,strA ⟨#[77]⟩]] (.tup [strA ⟨#[49,47,50,42,83,40,65,44,32,66,44,32,67,41]⟩,iv 0]):=by
 have c:=exText [((1/2:Rat),[(⟨1,0,1,2⟩:Qt)])] [⟨#[65]⟩,⟨#[66]⟩,⟨#[67]⟩,⟨#[77]⟩] zd zd zd (k:=1) zo (λt ht=>by
  rw [List.mem_singleton.1 ht];exact⟨by decide,by decide +kernel,by decide +kernel⟩)
 rw [ZCh (by decide +kernel),show eTxt [⟨#[65]⟩,⟨#[66]⟩,⟨#[67]⟩,⟨#[77]⟩] [((1/2:Rat),[(⟨1,0,1,2⟩:Qt)])]=⟨#[49,47,50,42,83,40,65,44,32,66,44,32,67,41]⟩from by decide +kernel] at c;exact c
theorem awT2:Pure prog 17 [qpA [((1/2:Rat),pM 0 1),((1/2:Rat),pM 0 2),((-1/4:Rat),pM 1 2)],.sl 1 [strA ⟨#[65]⟩,strA ⟨#[66]⟩,strA ⟨#[67]⟩,strA ⟨#[77]⟩]] (.tup [strA ⟨#[49,47,50,42,80,40,65,44,32,66,44,32,65,41,32,43,32,49,47,50,42,80,40,65,44,32,67,44,32,65,41,32,45,32,49,47,52,42,80,40,66,44,32,67,44,32,66,41]⟩,iv 0]):=by
 have c:=exText [((1/2:Rat),pM 0 1),((1/2:Rat),pM 0 2),((-1/4:Rat),pM 1 2)] [⟨#[65]⟩,⟨#[66]⟩,⟨#[67]⟩,⟨#[77]⟩] zd zd zd (k:=1) zo (λt ht=>by
  rcases List.mem_cons.1 ht with rfl | ht
  ·exact⟨by decide,by decide +kernel,by decide +kernel⟩
  rcases List.mem_cons.1 ht with rfl | ht
  ·exact⟨by decide,by decide +kernel,by decide +kernel⟩
  rw [List.mem_singleton.1 ht];exact⟨by decide,by decide +kernel,by decide +kernel⟩)
 rw [ZCh (by decide +kernel),show eTxt [⟨#[65]⟩,⟨#[66]⟩,⟨#[67]⟩,⟨#[77]⟩] [((1/2:Rat),pM 0 1),((1/2:Rat),pM 0 2),((-1/4:Rat),pM 1 2)]=⟨#[49,47,50,42,80,40,65,44,32,66,44,32,65,41,32,43,32,49,47,50,42,80,40,65,44,32,67,44,32,65,41,32,45,32,49,47,52,42,80,40,66,44,32,67,44,32,66,41]⟩from by decide +kernel] at c;exact c
theorem awake34V (M A1 A2 D1:List AV) (cm:Pure prog 16 [] (.agg [.sl 6 M,.sl 5 []])) (c1:Pure prog 11 [.agg [.sl 6 M,.sl 5 []],iv 3,.agg [iv 1,iv 3,iv 0,iv 1]] (.tup [.agg [.sl 4 A1,.sl 4 D1],iv 0]))
 (c2:Pure prog 11 [.agg [.sl 6 M,.sl 5 []],iv 3,.agg [iv 2,iv 3,iv 0,iv 3]] (.tup [.agg [.sl 4 A2,.sl 4 [.agg [.v (.bool false),lim [1],lim [1],.sl 4 []]]],iv 0]))
 (t1:Pure prog 17 [.sl 4 A1,.sl 1 [strA ⟨#[65]⟩,strA ⟨#[66]⟩,strA ⟨#[67]⟩,strA ⟨#[77]⟩]] (.tup [strA ⟨#[49,47,50,42,83,40,65,44,32,66,44,32,67,41]⟩,iv 0])) (t2:Pure prog 17 [.sl 4 A2,.sl 1 [strA ⟨#[65]⟩,strA ⟨#[66]⟩,strA ⟨#[67]⟩,strA ⟨#[77]⟩]] (.tup [strA ⟨#[49,47,50,42,80,40,65,44,32,66,44,32,65,41,32,43,32,49,47,50,42,80,40,65,44,32,67,44,32,65,41,32,45,32,49,47,52,42,80,40,66,44,32,67,44,32,66,41]⟩,iv 0])) :
 Pure prog 7 [] (.v (.bool true)):=by
 refine pI func7 rfl ntmps7 results7 call7 ?_
 (refine wkax w_t (w_3 cm c1 c2) w_t w_t (w_2 t1 t2) w_t w_y (w_r 0) (w_s ?_);intros)
 all_goals exact gL
theorem awake34:Pure prog 7 [] (.v (.bool true)):=by
 have h2:=awL2;rw [show qpA onX=.sl 4 [.agg [.v (.bool false),lim [1],lim [1],.sl 4 []]] from by show AV.sl 4 [qtA ((1:Rat),[])]=_;rw [Ze2];rfl] at h2;exact awake34V _ _ _ _ lwMid awL1 h2 awT1 awT2
section
variable {N n:Nat} {cs:List AV}
theorem shQFrac (h:Zcd prog N n 29 cs):∃l m:List RE,cs=[.sl 4 (l.map RE.av),.sl 4 (m.map RE.av)]∧(l.length≤N∧(∀t∈l,t.r.lm N)∧∀t∈l,t.q.length≤N)∧m.length≤N∧(∀t∈m,t.r.lm N)∧∀t∈m,t.q.length≤N:=by
 obtain⟨m,rfl,hs⟩:=Zce underlying29 zk h;obtain⟨x,y,rfl,h1,hs⟩:=hs.inv;obtain⟨x2,y,rfl,h2,hs⟩:=hs.inv;obtain rfl:=hs.inv0;obtain⟨l,rfl,hl⟩:=Zxx underlying27 h1;obtain⟨m,rfl,hm⟩:=Zxx underlying27 h2;exact⟨l,m,rfl,hl,hm⟩
end
def ZAt (l1 l2:List RE):Bool:=decide (0 < l2.length) && (Zgz 3 2 l1 && Zgz 2 2 l2)
theorem lwFineV (N D:List AV) (b1 b2:Bool) (hl:D.length≤9223372036854775807) (c1:Pure prog 14 [.sl 4 N,iv 3,iv 2] (.v (.bool b1))) (c2:Pure prog 14 [.sl 4 D,iv 2,iv 2] (.v (.bool b2))):Pure prog 5 [.agg [.sl 4 N,.sl 4 D]] (.v (.bool (decide (0 < D.length) && (b1 && b2)))):=by
 by_cases h:0 < D.length
 ·have h':(D.length:Int) > 0:=zo;rw [ZCp h]
  cases b1 with
  | true =>
    refine pI func5 rfl ntmps5 results5 call5 ?_
    (refine wkad (w_1 h') (w_2 c1 c2) w_t (w_s ?_);intros)
    all_goals exact gL
  | false =>
    refine pI func5 rfl ntmps5 results5 call5 ?_
    (refine wkad (w_1 h') (w_1 c1) w_t (w_s ?_);intros)
    all_goals exact gL
 ·have h':¬(D.length:Int) > 0:=zo;rw [ZCq h];refine pI func5 rfl ntmps5 results5 call5 ?_
  (refine wkad (w_1 h') w_t w_t (w_s ?_);intros)
  all_goals exact gL
theorem lwFine (l1 l2:List RE) (hl1:l1.length≤9223372036854775807) (hr1:∀t∈l1,t.r.lm 9223372036854775807) (hq1:∀t∈l1,t.q.length≤9223372036854775807) (hl2:l2.length≤9223372036854775807) (hr2:∀t∈l2,t.r.lm 9223372036854775807) (hq2:∀t∈l2,t.q.length≤9223372036854775807):Pure prog 5 [.agg [.sl 4 (l1.map RE.av),.sl 4 (l2.map RE.av)]] (.v (.bool (ZAt l1 l2))):=by
 have c:=lwFineV (l1.map RE.av) (l2.map RE.av) _ _ (by rw [ZCj];exact hl2) (Zx2 l1 3 2 zo zo hl1 hr1 hq1) (Zx2 l2 2 2 zo zo hl2 hr2 hq2)
 rwa [ZCj] at c
structure FineX (x:XX):Prop where
 x1:XB x.1 17 2
 x2:XB x.2 17 2
 l1:x.1.length≤3
 l2:x.2.length≤2
 ne:x.2≠[]
theorem fine_x {l1 l2:List RE} {k:Nat} (hr1:∀t∈l1,t.r.lm k) (hr2:∀t∈l2,t.r.lm k) (h:ZAt l1 l2=true):FineX (l1.map RE.rt,l2.map RE.rt)∧l1.map RE.av=(l1.map RE.rt).map qtA∧l2.map RE.av=(l2.map RE.rt).map qtA:=by
 unfold ZAt at h;rw [ZC2,ZC2,ZDb] at h;obtain⟨h1,h2,h3⟩:=h;obtain⟨x1,n1⟩:=Ztf hr1 h2 zo;obtain⟨x2,n2⟩:=Ztf hr2 h3 zo;refine⟨⟨x1,x2,n1,n2,λe=>?_⟩,Ztg hr1 h2,Ztg hr2 h3⟩;have e':(l2.map RE.rt).length=0:=by rw [show l2.map RE.rt=[] from e];rfl
 rw [ZCj] at e';omega
theorem fl_len {p:QTs} {L n:Nat} (hl:p.length≤L) (hq:∀t∈p,t.2.length≤n):(flQ p).length≤L*n:=by
 have key:∀p:QTs,(∀t∈p,t.2.length≤n)→(flQ p).length≤p.length*n:=by
  intro p
  induction p with
  | nil=>intro _;exact ZCr _
  | cons t p ih =>
    intro h;have h1:=ih λu hu=>h u (.tail _ hu);have h2:=h t (.head _);show(t.2++flQ p).length≤(p.length+1)*n;rw [ZDa,ZC8];omega
 exact ZCk (key p hq) (ZCw _ hl)
theorem FineX.fl {x:XX} (h:FineX x):(flQ x.1++flQ x.2).length≤10:=by
 have h1:=fl_len h.l1 h.x1.2.1;have h2:=fl_len h.l2 h.x2.2.1;rw [ZDa];omega
theorem FineX.ahead {x:XX} (h:FineX x) (i:Int):Ahead i (hvL i (flQ x.1++flQ x.2)) x:=by
 have hf:=h.fl;have a1:=h.l1;have a2:=h.l2;exact Ahead.beg h.x1 h.x2 zo zo h.x1.2.1 h.x2.2.1 zo zo
theorem elR_vk (z:Int × XX):Vk (elR z nilA) (if z.1=0 then .tup [.agg [qpA z.2.1,qpA z.2.2],iv 0] else .tup [.agg [nilA,nilA],iv z.1]):=by
 unfold elR;split
 ·refine .tupL (.cons (.aggL (.cons ?_ (.refl _))) (.refl _));split
  ·rename_i h;rw [h];exact .nil 4
  ·exact .refl _
 ·exact .refl _
theorem elElimF {ss:List RS} (gs:List RG) {i:Nat} (hi:i < ss.length) (h8:ss.length≤8) (he:errS ss i=0) (hr:ss[i].r.lm 2) {x:XX} (h:FineX x):Pure prog 8 [figA ss gs,iv i,.agg [qpA x.1,qpA x.2]] (if (elT (elZ ss i hi x)).1=0 then .tup [.agg [qpA (elT (elZ ss i hi x)).2.1,qpA (elT (elZ ss i hi x)).2.2],iv 0] else .tup [.agg [nilA,nilA],iv (elT (elZ ss i hi x)).1]):=by
 have a1:=h.l1;have a2:=h.l2;have hf:=h.fl;exact Zfg (elElim ss gs i hi h8 he hr x zo zo (λt ht=>by have:=h.x1.2.1 t ht;omega) (λt ht=>by have:=h.x2.2.1 t ht;omega) zo (h.ahead i)) (elR_vk _)
def FrR (p:Int) (R:AV):Prop:=(∃z:Int,¬z=0∧R=.tup [.agg [nilA,nilA],iv z])∨(∃N D:List AV,R=.tup [.agg [.sl 4 N,.sl 4 D],iv 0]∧¬(D.length:Int)=0∧D.length≤1000000∧Pure prog 12 [.sl 4 N,iv p] (.v (.bool false))∧Pure prog 12 [.sl 4 D,iv p] (.v (.bool false))∧Pure prog 13 [.sl 4 N] (.v (.bool true))∧Pure prog 13 [.sl 4 D] (.v (.bool true)))
attribute [local go_sem] stQ
theorem Zt0 {l:List Qt} {q:Qt} {j:Nat} (hj:j≤l.length) (ha:Asc Qt.cmp l) (h1:0 < j→∀h:j - 1 < l.length,¬0 < Qt.cmp l[j - 1] q) (h2:∀t (h:t < l.length),j≤t→0 < Qt.cmp l[t] q):putQ Qt.cmp l q=l.take j++(q :: l.drop j):=by
 have hc:∀t (h:t < l.length),t < j→Qt.cmp l[t] q≤0:=λt h ht=>by
  have g:=h1 zo zo;by_cases e:t=j - 1
  ·subst e;omega
  ·have g2:Qt.cmp l[t] l[j - 1]≤0:=List.pairwise_iff_getElem.1 ha t (j - 1) h zo zo;exact qtO.le_tr g2 zo
 rw [Zpn hc hj];congr 1;refine Ztz λa t e=>?_
 have hjl:j < l.length:=by
  by_cases h:j < l.length
  ·exact h
  ·rw [ZEx zo] at e;cases e
 rw [ZEg hjl] at e;injection e with e1 _
 have:=h2 j hjl (ZCi _);rw [←e1];omega
theorem hvL_y {x:Int} {l:List Qt} {q:Qt} (h:hasQ x q=true) (h0:tmQ q (hvL x l)=0):hvL x (l++[q])=putQ Qt.cmp (hvL x l) q:=by rw [Zkm];unfold hvR;rw [ZCh ⟨h,h0⟩]
theorem hvL_n {x:Int} {l:List Qt} {q:Qt} (h:¬(hasQ x q=true∧tmQ q (hvL x l)=0)):hvL x (l++[q])=hvL x l:=by rw [Zkm];unfold hvR;rw [ZCg h]
theorem rlHaving (x:Int) (a c:QTs) (hl:a.length+c.length≤1000000) (hq:∀t∈a++c,t.2.length≤1000000) (hk:∀t∈a++c,∀q∈t.2,q.norm=(q,1)) (hn:(flQ (a++c)).length≤1000000):Pure prog 22 [qpA a,qpA c,iv x] (.sl 4 ((hvL x (flQ (a++c))).map Qt.av)):=by
 have hla:(a.map qtA).length=a.length:=ZCj ..;have hlc:(c.map qtA).length=c.length:=ZCj ..;have happ:a.map qtA++c.map qtA=(a++c).map qtA:=List.map_append.symm;have hpn:(a++c).length≤1000000:=by rw [ZDa];exact hl
 obtain⟨p,hp⟩:∃p,p=a++c:=⟨_,rfl⟩;rw [←hp] at hq hk hn happ hpn ⊢;have hpm:(p.map qtA).length=p.length:=ZCj ..;have hpg:∀j (h:j < p.length),(p.map qtA).getD j .u=.agg [.v (.bool (decide (p[j].1.num < 0))),lim (toL p[j].1.num.natAbs),lim (toL p[j].1.den),.sl 4 (p[j].2.map Qt.av)]:=λj h=>Zak qtA h;have hqj:∀j (h:j < p.length),p[j].2.length≤1000000:=λj h=>hq _ (ZCt h);have hkj:∀j (h:j < p.length),∀q∈p[j].2,q.norm=(q,1):=λj h=>hk _ (ZCt h);have htj:∀j (h:j < p.length),flQ (p.take (j+1))=flQ (p.take j)++p[j].2:=λj h=>Zsr h;have hnj:∀j,(flQ (p.take j)).length≤1000000:=λj=>ZCk (ZAs (f:=λt:Rat × List Qt=>t.2) p j) hn
 show Pure _ _ [.sl 4 (a.map qtA),.sl 4 (c.map qtA),iv x] _;generalize a.map qtA=AA at *;generalize c.map qtA=CC at *;generalize p.map qtA=PP at *;refine pI func22 rfl ntmps22 results22 call22 ?_
 (refine wkad (w_2 hla hlc) w_t w_t (w_s ?_);intros)
 rename_i s1 s2 s3;refine Zdj (Frz.own (d:=8) (k:=13) (sv:=s3) (ty:=57) (mm:=4) (es:=AA++CC) (pub:=0) (gC) (gC)) ?_;rw [happ];refine Zdj (Frz.nil (d:=7) 4 (gC)) ?_;refine Zad (ι:=Nat) (λi e m=>i≤p.length∧(e 2=iv x∧e 8=.sl 4 PP∧e 9=iv i)∧e 7=.sl 4 ((hvL x (flQ (p.take i))).map Qt.av)) (λi=>p.length - i) 0 zr ?_ ?_
 ·rintro i e m ⟨hi,⟨e2,e8,e9⟩,e7⟩
  by_cases hlt:i < p.length
  ·have hgi:=hpg i hlt;have lw:=hqj i hlt;have hkw:=hkj i hlt;have htk:=htj i hlt;have hnk:=hnj (i+1);rw [htk] at hnk;clear hpg hqj htj hnj hkj hn hk hq;obtain⟨V,hV⟩:∃V,V=flQ (p.take i):=⟨_,rfl⟩;rw [←hV] at e7 hnk htk;generalize p[i]=t at *;obtain⟨t1,w⟩:=t;simp only at htk lw hgi hnk hkw;have hwm:(w.map Qt.av).length=w.length:=ZCj ..;have hwe:∀b (h:b < w.length),(w.map Qt.av).getD b .u=Qt.av w[b]:=λb h=>Zak Qt.av h;have hws:∀b (h:b < w.length),V++w.take (b+1)=(V++w.take b)++[w[b]]:=λb h=>by rw [ZEs h,ZDv]
   have hwn:∀b,(V++w.take b).length≤1000000:=λb=>by rw [ZDa] at hnk ⊢;rw [ZCz];omega
   have hwk:∀b (h:b < w.length),w[b].norm=(w[b],1):=λb h=>hkw _ (ZCt h);have hwf:w.take w.length=w:=ZDu;generalize w.map Qt.av=qs at *;generalize toL t1.num.natAbs=un at *;generalize toL t1.den=ud at *;generalize decide (t1.num < 0)=us at *
   (refine wkad (w_6 e2 e8 e9 e7 hpm hgi) w_t w_t (w_s ?_);intros)
   refine Zad (ι:=Nat) (λb e m=>b≤w.length∧(e 2=iv x∧e 8=.sl 4 PP∧e 9=iv i∧e 10=iv b)∧e 7=.sl 4 ((hvL x (V++w.take b)).map Qt.av)) (λb=>w.length - b) 0 zr ?_ ?_
   ·rintro b e m ⟨hb,⟨e2,e8,e9,e10⟩,e7⟩
    by_cases hbl:b < w.length
    ·have hqb:=hwe b hbl;have hsb:=hws b hbl;have hnb:=hwn b;have hnf:=hwk b hbl;clear hwe hws hwn hwf hwk hkw;obtain⟨L,hL⟩:∃L,L=V++w.take b:=⟨_,rfl⟩;rw [←hL] at e7 hsb hnb;generalize w[b]=y at *;have cO:Pure prog 58 [.agg [iv y.k,iv y.a,iv y.b,iv y.c]] (.sl 4 ((ofX y).map qtA)):=Zvp (Zg7 hnf);have cH:Pure prog 57 [.sl 4 ((ofX y).map qtA),iv x] (.v (.bool (hasT x (ofX y)))):=rxHasS (xs_of (Zg7 hnf)) x;rw [ZAl hnf] at cH;have hol:(hvL x L).length≤1000000:=ZCk (Zoa x L) hnb;have cT:Pure prog 59 [.sl 4 ((hvL x L).map Qt.av),.agg [iv y.k,iv y.a,iv y.b,iv y.c]] (iv (tmQ y (hvL x L))):=Zrh _ _ hol
     have hy:=hvL_y (x:=x) (l:=L) (q:=y);have hno:=hvL_n (x:=x) (l:=L) (q:=y);have hasc:=ZAj (x:=x) L;rw [←hsb] at hy hno;clear hsb hnf;have hqb:qs.getD b .u=.agg [iv y.k,iv y.a,iv y.b,iv y.c]:=hqb;generalize (ofX y).map qtA=OX at *;generalize hasQ x y=hv at *;generalize hO:hvL x L=O at *;have hom:(O.map Qt.av).length=O.length:=ZCj ..;have htmb:tmQ y O≤1000000:=ZCk (Zxf y O) hol;generalize htm:tmQ y O=tm at *
     cases hv with
     | false =>
       have hH:=hno (by rintro ⟨h,_⟩;cases h);clear hy hno hasc htm;generalize hOA:O.map Qt.av=OA at *;obtain⟨y1,y2,y3,y4⟩:=y;simp only at *
       (refine wkad (w_9 e2 e8 e9 e10 e7 hpm hgi hwm hqb) (w_2 cO cH) w_t (w_s ?_);intros)
       exact⟨b+1,⟨zo,⟨gW e2,gW e8,gW e9,gS⟩,by rw [hH,hOA];exact gW e7⟩,zo⟩
     | true =>
       by_cases h0:tm=0
       ·subst h0;have hH:=hy rfl rfl;clear hy hno htm;have hg4:∀t (h:t < O.length),(O.map Qt.av).getD t .u=Qt.av O[t]:=λt h=>Zak Qt.av h;have hpA:∀j,j≤O.length→(0 < j→∀h:j - 1 < O.length,¬0 < Qt.cmp O[j - 1] y)→(∀t (h:t < O.length),j≤t→0 < Qt.cmp O[t] y)→(hvL x (V++w.take (b+1))).map Qt.av=((O.map Qt.av).take j++[.agg [iv y.k,iv y.a,iv y.b,iv y.c]])++(O.map Qt.av).drop j:=λj h1 h2 h3=>by
         rw [hH,Zt0 h1 hasc h2 h3,ZDd,ZDq,List.map_take,List.map_drop,ZDv];rfl
        generalize hOA:O.map Qt.av=OA at *;have htk2:OA.take O.length=OA:=ZEb zo;clear hH hasc
        (refine wkad (w_9 e2 e8 e9 e10 e7 hpm hgi hwm hqb) (w_3 cO cH cT) w_t (w_s ?_);intros)
        rename_i g11;clear cO cH cT;refine Zad (ι:=Nat) (λj e m=>j≤O.length∧(e 2=iv x∧e 8=.sl 4 PP∧e 9=iv i∧e 10=iv b)∧e 7=.sl 4 OA∧(e 11=.pbox 11 g11 0∧m 11=some (.box g11 39 [iv y.k,iv y.a,iv y.b,iv y.c] false))∧e 12=iv j∧∀t (h:t < O.length),j≤t→0 < Qt.cmp O[t] y) (λj=>j) O.length zr ?_ ?_
        ·rintro j e m ⟨hj,⟨e2,e8,e9,e10⟩,e7,⟨e11,m11⟩,e12,hgt⟩
         have hpB:=hpA j hj;clear hpA;have htl:(OA.take j).length=j:=by rw [ZCz];omega
         have hdl:(OA.drop j).length=O.length - j:=by rw [ZEj,hom]
         by_cases hj0:j=0
         ·subst hj0;have hput:=hpB (λh=>absurd h zd) hgt;clear hpB;clear hg4 hgt;obtain⟨y1,y2,y3,y4⟩:=y;simp only at *
          (refine wkax (w_9 e2 e8 e9 e10 e7 e11 m11 e12 hom) w_t (w_1 (w_d 12 [] [] [])) w_t w_t w_t w_t (w_r 0) (w_s ?_);intros)
          refine Zjj 12 (Zdv []) [4,1004,3004,7,1007,11,1011] [69,75] (by simp only [ZG0,ZEy];rfl) (by simp only [ZGz,ZEl];rfl) zk zr zk zk (by simp only [ZCu,ZC6,Nat.reduceAdd];rfl) ?_
          (refine wkax (w_13 e2 e8 e9 e10 e7 e11 m11 e12 hom htk2 htl hdl @l_app) w_t w_t w_t w_t w_t w_t (w_r 0) (w_s ?_);intros)
          rename_i sx;intro _;refine⟨_,Frz.refl _ _,?_⟩
          (refine wkax w_t w_t w_t w_t w_t w_t w_t (w_r 0) (w_s ?_);intros)
          refine⟨_,Frz.own (d:=7) (k:=69) (sv:=sx) (ty:=39) (mm:=4) (es:=(OA.take 0++[.agg [iv y1,iv y2,iv y3,iv y4]])++OA.drop 0) (pub:=0) (gC) (gC),?_⟩;refine Zll ?_
          (refine wkad (w_4 e2 e8 e9 e10) w_t w_t (w_s ?_);intros)
          exact⟨b+1,⟨zo,⟨gW e2,gW e8,gW e9,gS⟩,by rw [hput];exact gC⟩,zo⟩
         ·obtain⟨k,rfl⟩:∃k,j=k+1:=⟨j - 1,zo⟩;rw [ZFb] at hpB;have hgk:=hg4 k zo;have cc:=Zpg O[k].k O[k].a O[k].b O[k].c y.k y.a y.b y.c;have hk1:((k+1:Nat):Int) > 0:=zo;have hk2:((k+1:Nat):Int) - 1=(k:Int):=zo;by_cases hz:0 < Qt.cmp O[k] y
          ·have hgt2:∀t (h:t < O.length),k≤t→0 < Qt.cmp O[t] y:=λt h hkt=>by
            by_cases e:t=k
            ·subst e;exact hz
            ·exact hgt t h zo
           clear hpB hg4 hgt;have cc:Pure prog 60 [.agg [iv O[k].k,iv O[k].a,iv O[k].b,iv O[k].c],.agg [iv y.k,iv y.a,iv y.b,iv y.c]] (iv (Qt.cmp O[k] y)):=cc;have hgk:OA.getD k .u=.agg [iv O[k].k,iv O[k].a,iv O[k].b,iv O[k].c]:=hgk;have hz:Qt.cmp O[k] y > 0:=hz;generalize Qt.cmp O[k] y=z at *;generalize O[k]=ok at *
           (refine wkad (w_13 e2 e8 e9 e10 e7 e11 m11 e12 hom hk1 hk2 hgk hz) (w_1 cc) (w_1 (w_d 12 [(2,.v (.bool true)),(9,iv z)] [] [])) (w_s ?_);intros)
           exact⟨k,⟨zo,⟨gW e2,gW e8,gW e9,gW e10⟩,gW e7,⟨gW e11,gW m11⟩,gW hk2,hgt2⟩,zo⟩
          ·have hput:=hpB (λ_ _=>hz) hgt;clear hpB;clear hg4 hgt;have cc:Pure prog 60 [.agg [iv O[k].k,iv O[k].a,iv O[k].b,iv O[k].c],.agg [iv y.k,iv y.a,iv y.b,iv y.c]] (iv (Qt.cmp O[k] y)):=cc;have hgk:OA.getD k .u=.agg [iv O[k].k,iv O[k].a,iv O[k].b,iv O[k].c]:=hgk;have hz:¬Qt.cmp O[k] y > 0:=hz;generalize Qt.cmp O[k] y=z at *;generalize O[k]=ok at *;obtain⟨y1,y2,y3,y4⟩:=y;simp only at *
           (refine wkax (w_13 e2 e8 e9 e10 e7 e11 m11 e12 hom hk1 hk2 hgk hz) (w_1 cc) (w_1 (w_d 12 [(2,.v (.bool true)),(9,iv z)] [] [])) w_t w_t w_t w_t (w_r 0) (w_s ?_);intros)
           refine Zjj 12 (Zdv []) [4,1004,3004,7,1007,11,1011] [69,75] (by simp only [ZG0,ZEy];rfl) (by simp only [ZGz,ZEl];rfl) zk zr zk zk (by simp only [ZCu,ZC6,Nat.reduceAdd];rfl) ?_
           (refine wkax (w_13 e2 e8 e9 e10 e7 e11 m11 e12 hom htk2 htl hdl @l_app) w_t w_t w_t w_t w_t w_t (w_r 0) (w_s ?_);intros)
           rename_i sx;intro _;refine⟨_,Frz.refl _ _,?_⟩
           (refine wkax w_t w_t w_t w_t w_t w_t w_t (w_r 0) (w_s ?_);intros)
           refine⟨_,Frz.own (d:=7) (k:=69) (sv:=sx) (ty:=39) (mm:=4) (es:=(OA.take (k+1)++[.agg [iv y1,iv y2,iv y3,iv y4]])++OA.drop (k+1)) (pub:=0) (gC) (gC),?_⟩;refine Zll ?_
           (refine wkad (w_4 e2 e8 e9 e10) w_t w_t (w_s ?_);intros)
           exact⟨b+1,⟨zo,⟨gW e2,gW e8,gW e9,gS⟩,by rw [hput];exact gC⟩,zo⟩
        ·exact⟨ZCi _,⟨gW e2,gW e8,gW e9,gW e10⟩,gW e7,⟨gC,gC⟩,gW hom,λt h hj=>zo⟩
       ·have hH:=hno (by rintro ⟨_,h⟩;exact h0 h);have h0':(tm:Int) > 0:=zo;clear hy hno hasc htm;generalize hOA:O.map Qt.av=OA at *;obtain⟨y1,y2,y3,y4⟩:=y;simp only at *
        (refine wkad (w_10 e2 e8 e9 e10 e7 hpm hgi hwm hqb h0') (w_3 cO cH cT) w_t (w_s ?_);intros)
        exact⟨b+1,⟨zo,⟨gW e2,gW e8,gW e9,gS⟩,by rw [hH,hOA];exact gW e7⟩,zo⟩
    ·have hbw:b=w.length:=zo;subst hbw;rw [hwf] at e7;clear hwe hws hwn hwf hwk hkw;rw [←htk] at e7
     (refine wkad (w_8 e2 e8 e9 e10 e7 hpm hgi hwm) w_t w_t (w_s ?_);intros)
     exact⟨i+1,⟨zo,⟨gW e2,gW e8,gS⟩,gW e7⟩,zo⟩
   ·exact⟨ZCr _,⟨gW e2,gW e8,gW e9,gC⟩,by rw [ZEy,ZDo];exact gW e7⟩
  ·have hip:i=p.length:=zo;subst hip;rw [ZDu] at e7;clear hpg hqj htj hnj hkj hn hk hq;generalize (hvL x (flQ p)).map Qt.av=RR at *
   (refine wkad (w_5 e2 e8 e9 e7 hpm) w_t w_t (w_s ?_);intros)
   all_goals exact gL
 ·exact⟨ZCr _,⟨gC,gC,gC⟩,by rw [ZEy];show _=AV.sl 4 [];exact gC⟩
end Go.Proofs.YtpkcophcldjboaaGreatDoor
