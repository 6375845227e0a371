/- parts of the proof, merged by a program. -/
import Derived.Test.YtcnininelndjoaaGreatMma3
import Derived.Test.YtcnininelndjoaaGreatMma9
import Derived.Test.YtcnininelndjoaaGreatMma12
import Derived.Test.YtcnininelndjoaaGreatMma13
import Derived.Test.YtcnininelndjoaaGreatMma14
import Derived.Test.YtcnininelndjoaaGreatMma15
import Derived.Deep.RegionLaw
set_option linter.unusedSimpArgs false
set_option linter.unusedVariables false
set_option maxRecDepth 100000
set_option maxHeartbeats 4000000
namespace Go.Proofs.YtcnininelndjoaaGreat
open Go.Proofs.Tryz
open Go.RowKit

theorem Xg (k:Int) (w:World) (h0:0<=k) (h1:k<=8) :
 Calls prog 166 #[.int .i64 k] w (zW (.int .i64 (13+k)) w):=by
 have:=Xh k.toNat w zo;rw [show ((k.toNat:Nat):Int)=k by omega,show ((13+k.toNat:Nat):Int)=13+k by omega] at this;exact this
theorem jdc [AllF] (b:Nat) (t p s q:Int) (w:World) (S:Nat->Prop) (st:VS) (h:RV w b S st) (hq:j6 p q=false) :
 Calls prog 113 #[.pointer (some ⟨b,0,none⟩),.agg #[.int .i64 t,.int .i64 p,.int .i64 s],.int .i64 q] w fun e w'=>e= .returned (.bool (kE t p s q st).1)/\JQ w b S (kE t p s q st).2 w':=by
 have hF:kE t p s q st=(false,st):=by unfold kE;rw [hq];rfl
 rw [hF];have hV:=(VSt.start jk h).alloc jk (.cells #[.int .i64 t,.int .i64 p,.int .i64 s] 23);clear hF h;by_cases h0:0<=q
 ·have h1:¬q < p:=by simpa [j6,h0] using hq
  clear hq;go_enter func113,ntmps113;go_wp2;go_ret;exact ⟨rfl,hV.done jk⟩
 ·clear hq;go_enter func113,ntmps113;go_wp2;go_ret;exact ⟨rfl,hV.done jk⟩
theorem jdd [AllF] (b:Nat) (t p s q:Int) (w:World) (S:Nat->Prop) (st:VS) (h:RV w b S st) (hp:p<=1024) :
 Calls prog 113 #[.pointer (some ⟨b,0,none⟩),.agg #[.int .i64 t,.int .i64 p,.int .i64 s],.int .i64 q] w fun e w'=>e= .returned (.bool (kE t p s q st).1)/\JQ w b S (kE t p s q st).2 w':=by
 cases hq:j6 p q with
 | false=>exact jdc b t p s q w S st h hq
 | true=>
  have hV:=(VSt.start jk h).alloc jk (.cells #[.int .i64 t,.int .i64 p,.int .i64 s] 23);have c0:=jp w #[.int .i64 t,.int .i64 p,.int .i64 s] 23;have hF:kE t p s q st=(if iK (st.get (ofF t p s q 0)).1=3 then
   if ((st.get (ofF t p s q 0)).2.get (ofF t p s q 4)).1=(((st.get (ofF t p s q 0)).2.get (ofF t p s q 4)).2.get (ofF t p s q 5)).1 then (false,(((st.get (ofF t p s q 0)).2.get (ofF t p s q 4)).2.get (ofF t p s q 5)).2)
   else (true,if ((st.get (ofF t p s q 0)).2.get (ofF t p s q 4)).1=0 then kw t p s q 1 (if y7 (((st.get (ofF t p s q 0)).2.get (ofF t p s q 4)).2.get (ofF t p s q 5)).1 (iC (st.get (ofF t p s q 0)).1)=true then ((((st.get (ofF t p s q 0)).2.get (ofF t p s q 4)).2.get (ofF t p s q 5)).2.put (ofF t p s q 5) ((st.get (ofF t p s q 0)).2.get (ofF t p s q 4)).1) else qi t p s (13+iC (st.get (ofF t p s q 0)).1) q ((((st.get (ofF t p s q 0)).2.get (ofF t p s q 4)).2.get (ofF t p s q 5)).2.put (ofF t p s q 5) ((st.get (ofF t p s q 0)).2.get (ofF t p s q 4)).1)) else if y7 (((st.get (ofF t p s q 0)).2.get (ofF t p s q 4)).2.get (ofF t p s q 5)).1 (iC (st.get (ofF t p s q 0)).1)=true then qu t p s (13+iC (st.get (ofF t p s q 0)).1) q ((((st.get (ofF t p s q 0)).2.get (ofF t p s q 4)).2.get (ofF t p s q 5)).2.put (ofF t p s q 5) ((st.get (ofF t p s q 0)).2.get (ofF t p s q 4)).1) else ((((st.get (ofF t p s q 0)).2.get (ofF t p s q 4)).2.get (ofF t p s q 5)).2.put (ofF t p s q 5) ((st.get (ofF t p s q 0)).2.get (ofF t p s q 4)).1))
   else (false,(st.get (ofF t p s q 0)).2)):=by unfold kE;rw [if_pos hq]
  have hq2:0<=q/\q < p:=by simpa [j6] using hq
  obtain ⟨hq0,hq1⟩:=hq2;have i1:=(jk.inv h).get (ofF t p s q 0);have hbd:=Ja (st.get (ofF t p s q 0)).1;have hk0:=hbd.2.2.2.2.1;have hk1:=hbd.2.2.2.2.2.1;obtain ⟨vi,s1,hg1⟩:∃v s1,st.get (ofF t p s q 0)=(v,s1):=⟨_,_,rfl⟩
  have G1:=zh (J4 (b:=b) hg1);simp only [hg1] at i1 hk0 hk1 hF;have i2:=i1.get (ofF t p s q 4);have u2:=VS.get_u32 i1 (ofF t p s q 4);obtain ⟨vl,s2,hg2⟩:∃v s1',s1.get (ofF t p s q 4)=(v,s1'):=⟨_,_,rfl⟩
  have G2:=zh (yr (b:=b) hg2);simp only [hg2] at i2 u2 hF;have u3:=VS.get_u32 i2 (ofF t p s q 5);obtain ⟨vt,s3,hg3⟩:∃v s1',s2.get (ofF t p s q 5)=(v,s1'):=⟨_,_,rfl⟩
  have G3:=zh (yr (b:=b) hg3);simp only [hg3] at u3 hF;have HU2:=zh u2;have u30:=u3.1;clear hbd i1 i2 hg1 hg2 hg3 h hq u2 u3;generalize iL vi=li at*
  by_cases hk3:iK vi=3
  ·rw [if_pos hk3] at hF;rw [hk3] at G1;clear hk3;generalize iC vi=k at*
   by_cases hlt:vl=vt
   ·subst hlt;rw [if_pos rfl] at hF;rw [hF];clear hF;go_enter func113,ntmps113;go_wp2_with fail;refine zM (jf hV (G1.out _)) ?_;rintro w1 ⟨hV1,hV1l⟩;have c1:=jc hV1l zT c0;clear hV1l;have hX:=hV1.alloc jk (.cells #[.int .i64 3,.int .i64 li,.int .i64 k] 130);have c2:=jC (.cells #[.int .i64 3,.int .i64 li,.int .i64 k] 130) (hV1.ls _ zT).1 c1;go_wp2_with fail;refine zM (jj jk hX (yM _ _ _ _ _)) ?_;rintro w3 ⟨hV3,hV3l⟩;have c3:=jc hV3l zT c2;clear hV3l;go_wp2_with fail;refine zM (jf hV3 (G2.out _)) ?_;rintro w4 ⟨hV4,hV4l⟩;have c4:=jc hV4l zT c3;clear hV4l;go_wp2_with fail;refine zM (jj jk hV4 (qJ _ _ _ _ _)) ?_;rintro w5 ⟨hV5,hV5l⟩;have c5:=jc hV5l zT c4;clear hV5l;go_wp2_with fail;refine zM (jf hV5 (G3.out _)) ?_;rintro w6 ⟨hV6,hV6l⟩;have c6:=jc hV6l zT c5;clear hV6l;go_wp2;go_ret;exact ⟨rfl,hV6.done jk⟩
   ·rw [if_neg hlt] at hF;rw [hF];clear hF;have HPut:=fun (w:World) (S1:Nat->Prop) (h1:RV w b S1 s3)=>jI b (ofF t p s q 5) vl w S1 s3 h1 HU2.out;obtain ⟨u,hu⟩:∃u,s3.put (ofF t p s q 5) vl=u:=⟨_,rfl⟩
    rw [hu] at HPut ⊢;clear hu;have HQ:=zh HPut;clear HPut;have HF:=fun w=>Yd vt k w u30;dsimp only;by_cases hl0:vl=0
    ·rw [if_pos hl0];have hl1:=hl0;clear hl0;cases hz:y7 vt k with
     | true=>
      rw [hz] at HF;have HFu:=zh HF;rw [if_pos rfl];have HR:=zh (fun (w:World) (S1:Nat->Prop) (h1:RV w b S1 u)=>Qt b t p s q 1 w S1 u h1 hp hq0 zo zo zo);generalize kw t p s q 1 u=s9 at*
      clear HF hz;subst hl1;go_enter func113,ntmps113;go_wp2_with fail;refine zM (jf hV (G1.out _)) ?_;rintro w1 ⟨hV1,hV1l⟩;have c1:=jc hV1l zT c0;clear hV1l;have hX:=hV1.alloc jk (.cells #[.int .i64 3,.int .i64 li,.int .i64 k] 130);have c2:=jC (.cells #[.int .i64 3,.int .i64 li,.int .i64 k] 130) (hV1.ls _ zT).1 c1;have d2:=jp w1 #[.int .i64 3,.int .i64 li,.int .i64 k] 130;go_wp2_with fail;refine zM (jj jk hX (yM _ _ _ _ _)) ?_;rintro w3 ⟨hV3,hV3l⟩;have c3:=jc hV3l zT c2;have d3:=jc hV3l zT d2;clear hV3l;go_wp2_with fail;refine zM (jf hV3 (G2.out _)) ?_;rintro w4 ⟨hV4,hV4l⟩;have c4:=jc hV4l zT c3;have d4:=jc hV4l zT d3;clear hV4l;go_wp2_with fail;refine zM (jj jk hV4 (qJ _ _ _ _ _)) ?_;rintro w5 ⟨hV5,hV5l⟩;have c5:=jc hV5l zT c4;have d5:=jc hV5l zT d4;clear hV5l;go_wp2_with fail;refine zM (jf hV5 (G3.out _)) ?_;rintro w6 ⟨hV6,hV6l⟩;have c6:=jc hV6l zT c5;have d6:=jc hV6l zT d5;clear hV6l;go_wp2_with fail;refine zM (jj jk hV6 (qJ _ _ _ _ _)) ?_;rintro w7 ⟨hV7,hV7l⟩;have c7:=jc hV7l zT c6;have d7:=jc hV7l zT d6;clear hV7l;go_wp2_with fail;refine zM (jf hV7 (HQ.out _)) ?_;rintro w8 ⟨hV8,hV8l⟩;have c8:=jc hV8l zT c7;have d8:=jc hV8l zT d7;clear hV8l;go_wp2_with fail;refine zM (jj jk hV8 (HFu.out _)) ?_;rintro w9 ⟨hV9,hV9l⟩;have c9:=jc hV9l zT c8;have d9:=jc hV9l zT d8;clear hV9l;go_wp2_with fail;refine zM (jf hV9 (HR.out _)) ?_;rintro w10 ⟨hV10,hV10l⟩;have c10:=jc hV10l zT c9;clear hV10l;go_wp2;go_ret;exact ⟨rfl,hV10.done jk⟩
     | false=>
      rw [hz] at HF;have HFu:=zh HF;rw [if_neg zT];have HP:=zh (fun (w:World) (S1:Nat->Prop) (h1:RV w b S1 u)=>Xj b t p s (13+k) q w S1 u h1);have HR:=zh (fun (w:World) (S1:Nat->Prop) (h1:RV w b S1 (qi t p s (13+k) q u))=>Qt b t p s q 1 w S1 _ h1 hp hq0 zo zo zo);generalize qi t p s (13+k) q u=s8 at*
      generalize kw t p s q 1 s8=s9 at*
      clear HF hz;subst hl1;go_enter func113,ntmps113;go_wp2_with fail;refine zM (jf hV (G1.out _)) ?_;rintro w1 ⟨hV1,hV1l⟩;have c1:=jc hV1l zT c0;clear hV1l;have hX:=hV1.alloc jk (.cells #[.int .i64 3,.int .i64 li,.int .i64 k] 130);have c2:=jC (.cells #[.int .i64 3,.int .i64 li,.int .i64 k] 130) (hV1.ls _ zT).1 c1;have d2:=jp w1 #[.int .i64 3,.int .i64 li,.int .i64 k] 130;go_wp2_with fail;refine zM (jj jk hX (yM _ _ _ _ _)) ?_;rintro w3 ⟨hV3,hV3l⟩;have c3:=jc hV3l zT c2;have d3:=jc hV3l zT d2;clear hV3l;go_wp2_with fail;refine zM (jf hV3 (G2.out _)) ?_;rintro w4 ⟨hV4,hV4l⟩;have c4:=jc hV4l zT c3;have d4:=jc hV4l zT d3;clear hV4l;go_wp2_with fail;refine zM (jj jk hV4 (qJ _ _ _ _ _)) ?_;rintro w5 ⟨hV5,hV5l⟩;have c5:=jc hV5l zT c4;have d5:=jc hV5l zT d4;clear hV5l;go_wp2_with fail;refine zM (jf hV5 (G3.out _)) ?_;rintro w6 ⟨hV6,hV6l⟩;have c6:=jc hV6l zT c5;have d6:=jc hV6l zT d5;clear hV6l;go_wp2_with fail;refine zM (jj jk hV6 (qJ _ _ _ _ _)) ?_;rintro w7 ⟨hV7,hV7l⟩;have c7:=jc hV7l zT c6;have d7:=jc hV7l zT d6;clear hV7l;go_wp2_with fail;refine zM (jf hV7 (HQ.out _)) ?_;rintro w8 ⟨hV8,hV8l⟩;have c8:=jc hV8l zT c7;have d8:=jc hV8l zT d7;clear hV8l;go_wp2_with fail;refine zM (jj jk hV8 (HFu.out _)) ?_;rintro w9 ⟨hV9,hV9l⟩;have c9:=jc hV9l zT c8;have d9:=jc hV9l zT d8;clear hV9l;go_wp2_with fail;have hV9d:=hV9.drew jk;refine jbZ (zP c9) (zP d9) fun hHeld=> ?_;refine wT 0 ?_;refine wY ?_;refine wR 4 fun K hK=> ?_;go_simp;refine zM (jj jk hV9d (Xg _ _ hk0 hk1)) ?_;rintro w11 ⟨hV11,hV11l⟩;have c11:=jc hV11l zT hHeld.1;have d11:=jc hV11l zT hHeld.2;clear hV11l;dsimp only;refine wK hK (⟨c11,d11⟩) fun hHeld=> ?_;clear hK K;refine wR 6 fun K hK=> ?_;go_simp;refine zM (jf hV11 (HP.out _)) ?_;rintro w12 ⟨hV12,hV12l⟩;have c12:=jc hV12l zT c11;have d12:=jc hV12l zT d11;clear hV12l;dsimp only;refine wK hK (⟨c12,d12⟩) fun hHeld=> ?_;clear hK K;refine wD ?_;go_wp2_with fail;refine zM (jf hV12 (HR.out _)) ?_;rintro w10 ⟨hV10,hV10l⟩;have c10:=jc hV10l zT c12;clear hV10l;go_wp2;go_ret;exact ⟨rfl,hV10.done jk⟩
    ·rw [if_neg hl0];cases hz:y7 vt k with
     | true=>
      rw [hz] at HF;have HFu:=zh HF;rw [if_pos rfl];have HP:=zh (fun (w:World) (S1:Nat->Prop) (h1:RV w b S1 u)=>Xi b t p s (13+k) q w S1 u h1 hp);generalize qu t p s (13+k) q u=s9 at*
      clear HF hz;go_enter func113,ntmps113;go_wp2_with fail;refine zM (jf hV (G1.out _)) ?_;rintro w1 ⟨hV1,hV1l⟩;have c1:=jc hV1l zT c0;clear hV1l;have hX:=hV1.alloc jk (.cells #[.int .i64 3,.int .i64 li,.int .i64 k] 130);have c2:=jC (.cells #[.int .i64 3,.int .i64 li,.int .i64 k] 130) (hV1.ls _ zT).1 c1;have d2:=jp w1 #[.int .i64 3,.int .i64 li,.int .i64 k] 130;go_wp2_with fail;refine zM (jj jk hX (yM _ _ _ _ _)) ?_;rintro w3 ⟨hV3,hV3l⟩;have c3:=jc hV3l zT c2;have d3:=jc hV3l zT d2;clear hV3l;go_wp2_with fail;refine zM (jf hV3 (G2.out _)) ?_;rintro w4 ⟨hV4,hV4l⟩;have c4:=jc hV4l zT c3;have d4:=jc hV4l zT d3;clear hV4l;go_wp2_with fail;refine zM (jj jk hV4 (qJ _ _ _ _ _)) ?_;rintro w5 ⟨hV5,hV5l⟩;have c5:=jc hV5l zT c4;have d5:=jc hV5l zT d4;clear hV5l;go_wp2_with fail;refine zM (jf hV5 (G3.out _)) ?_;rintro w6 ⟨hV6,hV6l⟩;have c6:=jc hV6l zT c5;have d6:=jc hV6l zT d5;clear hV6l;go_wp2_with fail;refine zM (jj jk hV6 (qJ _ _ _ _ _)) ?_;rintro w7 ⟨hV7,hV7l⟩;have c7:=jc hV7l zT c6;have d7:=jc hV7l zT d6;clear hV7l;go_wp2_with fail;refine zM (jf hV7 (HQ.out _)) ?_;rintro w8 ⟨hV8,hV8l⟩;have c8:=jc hV8l zT c7;have d8:=jc hV8l zT d7;clear hV8l;go_wp2_with fail;refine zM (jj jk hV8 (HFu.out _)) ?_;rintro w9 ⟨hV9,hV9l⟩;have c9:=jc hV9l zT c8;have d9:=jc hV9l zT d8;clear hV9l;go_wp2_with fail;have hV9d:=hV9.drew jk;refine jbZ (zP c9) (zP d9) fun hHeld=> ?_;refine wT 0 ?_;refine wY ?_;refine wR 4 fun K hK=> ?_;go_simp;refine zM (jj jk hV9d (Xg _ _ hk0 hk1)) ?_;rintro w11 ⟨hV11,hV11l⟩;have c11:=jc hV11l zT hHeld.1;have d11:=jc hV11l zT hHeld.2;clear hV11l;dsimp only;refine wK hK (⟨c11,d11⟩) fun hHeld=> ?_;clear hK K;refine wR 6 fun K hK=> ?_;go_simp;refine zM (jf hV11 (HP.out _)) ?_;rintro w12 ⟨hV12,hV12l⟩;have c12:=jc hV12l zT c11;have d12:=jc hV12l zT d11;clear hV12l;dsimp only;refine wK hK (⟨c12,d12⟩) fun hHeld=> ?_;clear hK K;refine wD ?_;go_wp2;go_ret;exact ⟨rfl,hV12.done jk⟩
     | false=>
      rw [hz] at HF;have HFu:=zh HF;rw [if_neg zT];clear HF hz;go_enter func113,ntmps113;go_wp2_with fail;refine zM (jf hV (G1.out _)) ?_;rintro w1 ⟨hV1,hV1l⟩;have c1:=jc hV1l zT c0;clear hV1l;have hX:=hV1.alloc jk (.cells #[.int .i64 3,.int .i64 li,.int .i64 k] 130);have c2:=jC (.cells #[.int .i64 3,.int .i64 li,.int .i64 k] 130) (hV1.ls _ zT).1 c1;have d2:=jp w1 #[.int .i64 3,.int .i64 li,.int .i64 k] 130;go_wp2_with fail;refine zM (jj jk hX (yM _ _ _ _ _)) ?_;rintro w3 ⟨hV3,hV3l⟩;have c3:=jc hV3l zT c2;have d3:=jc hV3l zT d2;clear hV3l;go_wp2_with fail;refine zM (jf hV3 (G2.out _)) ?_;rintro w4 ⟨hV4,hV4l⟩;have c4:=jc hV4l zT c3;have d4:=jc hV4l zT d3;clear hV4l;go_wp2_with fail;refine zM (jj jk hV4 (qJ _ _ _ _ _)) ?_;rintro w5 ⟨hV5,hV5l⟩;have c5:=jc hV5l zT c4;have d5:=jc hV5l zT d4;clear hV5l;go_wp2_with fail;refine zM (jf hV5 (G3.out _)) ?_;rintro w6 ⟨hV6,hV6l⟩;have c6:=jc hV6l zT c5;have d6:=jc hV6l zT d5;clear hV6l;go_wp2_with fail;refine zM (jj jk hV6 (qJ _ _ _ _ _)) ?_;rintro w7 ⟨hV7,hV7l⟩;have c7:=jc hV7l zT c6;have d7:=jc hV7l zT d6;clear hV7l;go_wp2_with fail;refine zM (jf hV7 (HQ.out _)) ?_;rintro w8 ⟨hV8,hV8l⟩;have c8:=jc hV8l zT c7;have d8:=jc hV8l zT d7;clear hV8l;go_wp2_with fail;refine zM (jj jk hV8 (HFu.out _)) ?_;rintro w9 ⟨hV9,hV9l⟩;have c9:=jc hV9l zT c8;have d9:=jc hV9l zT d8;clear hV9l;go_wp2;go_ret;exact ⟨rfl,hV9.done jk⟩
  ·rw [if_neg hk3] at hF;rw [hF];generalize iK vi=ki at*
   generalize iC vi=k at*
   clear hF;go_enter func113,ntmps113;go_wp2_with fail;refine zM (jf hV (G1.out _)) ?_;rintro w1 ⟨hV1,hV1l⟩;have c1:=jc hV1l zT c0;clear hV1l;go_wp2;go_ret;exact ⟨rfl,(hV1.alloc jk _).done jk⟩

theorem YG {l:List (Nat×Int)} {k i:Nat} {v:Int} (h:l[k]? =some (i,v)):jM (l.take (k+1))=jM (l.take k)++[.int .i64 i,.int .u32 v]:=by
 rw [List.take_add_one,h];simp [jM]
theorem wix_at:∀{l:List (Nat×Int)} {k i:Nat} {v:Int},(l.map (·.1)).Nodup->l[k]? =some (i,v)->wix l i=some k:=by
 intro l k i v hnd hk;cases hw:wix l i with
 | none=>exact absurd (List.mem_map.2 ⟨(i,v),List.mem_of_getElem? hk,rfl⟩) (KI.1 hw)
 | some j=>
  obtain ⟨h1,u,h2⟩:=ye hw;have hk':k < l.length:=(List.getElem?_eq_some_iff.1 hk).1;have e1:(l.map (·.1))[j]'(by simpa using h1)=i:=(List.getElem?_eq_some_iff.1 (show (l.map (·.1))[j]? =some i by simp [h2])).2;have e2:(l.map (·.1))[k]'(by simpa using hk')=i:=(List.getElem?_eq_some_iff.1 (show (l.map (·.1))[k]? =some i by simp [hk])).2;have hp:=List.pairwise_iff_getElem.1 hnd;rcases Nat.lt_trichotomy j k with hjk | hjk | hjk
  ·exact absurd (e1.trans e2.symm) (hp j k _ _ hjk)
  ·rw [hjk]
  ·exact absurd (e2.trans e1.symm) (hp k j _ _ hjk)
def WrRel (w:World) (s:VS) (v3 v4:Value) (wr:World):Prop:=∃k:Nat,k<=s.writes.length/\v4= .int .i64 k/\wr.ownsRow 0 106 2 v3 k (jM (s.writes.take k))/\(∀j,v3.ownBlock=some j->w.heap.size<=j)/\Below w.heap.size w wr
theorem jaD [AllF] (b:Nat) (w:World) (S:Nat->Prop) (s:VS) (h:RV w b S s) :
 Calls prog 205 #[.pointer (some ⟨b,0,none⟩)] w (jfK w 106 2 s.writes.length (jM s.writes)):=by
 obtain ⟨kv,vv,iv,tv,rv,wv,all,hv⟩:=h;have hlen:=hv.inv.writes_le;have hsm:=hv.inv.small;obtain ⟨pw,cw,rfl⟩:=jG hv.wr;have h6:=hv.cell 6;simp at h6;have hb:=World.block_lt_of_cell? w _ h6;simp at hb;have HV:=zh hv;obtain ⟨i0,hi0,hi1,hi2,hi3⟩:=info_parts JA;have HI:=zh (And.intro hi0 (And.intro hi1 (And.intro hi2 hi3)));clear hv hi0 hi1 hi2 hi3;go_enter func205,ntmps205;go_wp2_with fail;go_loopw [3,4] (fun v3 v4 wr=>WrRel w s v3 v4 wr) (fun _ v4 _=>s.writes.length - (intOf v4).toNat);case atStart=>
  refine ⟨0,Nat.zero_le _,rfl,by simpa [jM] using qC w _ 2,?_,(Below.refl _ _).alloc (Nat.le_refl _) _⟩;intro j hj;simp [Value.ownBlock] at hj;omega
 case round=>
  obtain ⟨k,hk,rfl,hrow,hnew,hbel⟩:=hrel;obtain ⟨pa,pc,rfl⟩:=jG hrow;have hz:=hbel.size;have e6:=(hbel.cell (p:=⟨b,6,none⟩) hb).trans h6;have HR:=zh hrow;have HN:=zh hnew;have HB:=zh hbel;clear hrow hnew hbel;by_cases hlt:k < s.writes.length
  ·have hv:=HV.out;obtain ⟨⟨i,v⟩,hiv⟩:∃p,s.writes[k]? =some p:=⟨_,List.getElem?_eq_getElem hlt⟩
   have hin:i < s.n:=hv.inv.wlt _ (List.mem_of_getElem? hiv);obtain ⟨gw,cw',hpw⟩:=Joins.ownsRow_form hv.wr zo;simp only [Value.slice.injEq] at hpw;obtain ⟨rfl,-,rfl⟩:=hpw;obtain ⟨gt,ct,rfl⟩:=Joins.ownsRow_form hv.tr zo;have q4:=hv.cell 4;simp at q4;have qw:w.cell? ⟨gw,k,none⟩=some (.int .i64 i):=by rw [hv.wr.cellAt k zo];simp [jY,hiv]
   have qt:w.cell? ⟨gt,i,none⟩=some (.int .u32 v):=by
    rw [hv.tr.cellAt i zo,kB _ hin];have:s.wr i=some v:=by rw [VS.wr,wix_at hv.inv.wnd hiv];simp [hiv]
    simp [toF,this]
   have F4:∀w',Below w.heap.size w w'->w'.cell? ⟨b,6,none⟩=some (.slice (some ⟨gw,0,none⟩) s.writes.length cw)/\w'.cell? ⟨gw,k,none⟩=some (.int .i64 i)/\w'.cell? ⟨b,4,none⟩=some (.slice (some ⟨gt,0,none⟩) s.n ct)/\w'.cell? ⟨gt,i,none⟩=some (.int .u32 v):=
    fun w' hb'=>⟨(hb'.cell (World.block_lt_of_cell? w _ h6)).trans h6,(hb'.cell (World.block_lt_of_cell? w _ qw)).trans qw,(hb'.cell (World.block_lt_of_cell? w _ q4)).trans q4,(hb'.cell (World.block_lt_of_cell? w _ qt)).trans qt⟩
   have H4:=zh F4;have HP:=zh hiv;clear hv hiv F4 q4 qw qt;go_wp2;refine wH (S:=fun w'=>w'.cell? ⟨b,6,none⟩=some (.slice (some ⟨gw,0,none⟩) s.writes.length cw)/\w'.cell? ⟨gw,k,none⟩=some (.int .i64 i)/\w'.cell? ⟨b,4,none⟩=some (.slice (some ⟨gt,0,none⟩) s.n ct)/\w'.cell? ⟨gt,i,none⟩=some (.int .u32 v)) (H4.out _ HB.out.drew) fun hHeld=> ?_;refine wT 0 ?_;refine wY ?_;refine wR 22 fun K hK=> ?_;go_simp;refine wK hK (H4.out _ (HB.out.drew.alloc (by simp;omega) _)) fun hHeld=> ?_;clear hK K;refine wR 23 fun K hK=> ?_;refine jP rfl (.tmp 15) (.tmp 37) rfl 106 i0 (.agg #[.int .i64 0,.int .u32 0]) 2 16 underlying45 HI.out.1 HI.out.2.1 HI.out.2.2.1 HI.out.2.2.2 rfl zd (.slice pa k pc) k (jM (s.writes.take k)) rfl ((je (w':=wr.drew) HR.out (fun _ _=>rfl)).alloc _) ⟨_,0,none⟩ 1 1 [.int .i64 i,.int .u32 v] rfl rfl (KE _ _ _ _ _ zT) ?c1 ?c2 ?c3 ?_;case c1=>(simp [Value.oneCell'])
   case c2=>(unfold maxLen;omega)
   case c3=>(omega)
   intro v' w5 hown5 hg5 hnew5 hnil5;clear hnil5;have bel5:Below w.heap.size w w5:=(HB.out.drew.alloc (by simp;omega) _).grown hg5 (by simp;omega) (fun k hk=>HN.out k hk);refine wK hK (H4.out _ bel5) fun hHeld=> ?_;clear hK K;refine wY ?_;refine wD ?_;go_wp2;go_roundw;case rel=>
    refine ⟨k+1,zo,by go_num,?_,?_,bel5⟩
    ·rw [YG HP.out];exact hown5
    ·intro j hj;rcases hnew5 j hj with x | x
     ·exact HN.out j x
     ·simp at x;omega
   case measure=>simp [intOf];omega
  ·have e:k=s.writes.length:=zo;subst e;go_wp2;go_ret;refine ⟨_,rfl,?_,HN.out,HB.out⟩;simpa using HR.out

theorem jb8 (t p z:Int) (page:Nat) (a:Option Addr) (m c:Nat) (kn:List (Int×Int)) (w:World) (hr:jq t p z=true) (hk:jbg w (.slice a m c) kn) (hl:kn.length<=1000000) (hu:∀x∈kn,VS.U32 x.2) :
 Calls prog 157 #[.agg #[.int .i64 t,.int .i64 p,.int .i64 z],.int .i64 page,.slice a m c] w (ThQ w (thF t p z page kn)):=by
 letI A0:AllF:=⟨false⟩
 have hp:p<=1024:=(jt hr).2.2.2.1;have hcb:=(jV hr)
 have HC:=zh (fun w=>qT t p z w);rw [show kY t p z=(((jo t p).toNat:Nat):Int) by simp [kY,hr];omega] at HC;have HK:=zh (fun (W:World) (hb:Below w.heap.size w W)=>jck rfl (jo t p).toNat a m c kn W (hk.keep hb) zo hl hu);generalize hN:(jo t p).toNat=N at*
 have HS:=zh (fun (W:World) (b:Nat) (S:Nat->Prop) (h:RV W b S (knV N kn))=>jdd b t p z page W S (knV N kn) h hp);have hth:thF t p z page kn=match (kE t p z page (knV N kn)).2.miss with
  | some i=>((i:Int),[])
  | none=>(-1,(kE t p z page (knV N kn)).2.writes.map fun x=>((x.1:Int),x.2)):=by unfold thF;rw [hN];rfl
 have HTH:=zh hth;generalize kE t p z page (knV N kn)=sf at*
 generalize thF t p z page kn=r at*
 have S0:=((Below.refl w.heap.size w).alloc (Nat.le_refl _) (.cells #[.int .i64 t,.int .i64 p,.int .i64 z] 23)).alloc zT (.cells (jE 0 (.slice none 0 0)) 53);have HB0:=zh S0;clear hk hl hu hth hr hp hcb S0;go_enter func157,ntmps157;go_wp2_with fail;refine zM (HC.out _) fun w1 b1=> ?_;have HB1:Hid (Below w.heap.size w w1):=zh (HB0.out.trans (b1.mono HB0.out.size));have e1:w1.heap[w.heap.size]? =some (.cells #[.int .i64 t,.int .i64 p,.int .i64 z] 23):=(b1.block _ (by simp only [World.size_alloc];omega)).trans (by rw [heap_alloc_old _ _ zT];exact heap_alloc_new w _);have e2:w1.heap[w.heap.size+1]? =some (.cells (jE 0 (.slice none 0 0)) 53):=(b1.block _ (by simp only [World.size_alloc];omega)).trans (yu _ _ _ zT);go_wp2_with fail;refine (HK.out _ HB1.out).mono ?_;rintro e w2 ⟨b,rfl,hP,b2⟩;have zw1:=HB1.out.size;have hz1:w.heap.size+1 < w1.heap.size:=(Array.getElem?_eq_some_iff.1 e2).1;have HB2:Hid (Below w.heap.size w w2):=zh (HB1.out.trans (b2.mono zw1));have e3:w2.heap[w.heap.size+1]? =some (.cells (jE 0 (.slice none 0 0)) 53):=(b2.block _ hz1).trans e2;have e3c:w2.heap[w.heap.size]? =some (.cells #[.int .i64 t,.int .i64 p,.int .i64 z] 23):=(b2.block _ zo).trans e1;have HP:=zh hP;have k3:=fun o:Nat=>jd (o:=o) e3c;clear hP HK HC HB0 b1 e1 e2;go_wp2_with fail;refine zM (HS.out w2 b _ HP.out) ?_;rintro w3 ⟨hP3,hF3⟩;have b3:Below w1.heap.size w2 w3:=hF3.below b2.size (fun k hk=>hk.1);have HB3:Hid (Below w.heap.size w w3):=zh (HB2.out.trans (b3.mono zw1));have e4:w3.heap[w.heap.size+1]? =some (.cells (jE 0 (.slice none 0 0)) 53):=(b3.block _ hz1).trans e3;have HP3:=zh hP3;have HU:=zh (jk.inv hP3).wu;have HW:=zh (jaD b w3 _ sf.2 hP3);obtain ⟨kv,vv,iv,tv,rv,wv,all,hv3⟩:=hP3;have c7:=hv3.cell 7;simp at c7;have hz3:w.heap.size+1 < w3.heap.size:=(Array.getElem?_eq_some_iff.1 e4).1;have k4:=fun o:Nat=>jd (o:=o) e4;have g4:=fun o:Nat=>jh (o:=o) e4;unfold jE at k4;clear hv3 hF3 HP HS e3 e3c k3 HP3;cases hm:sf.2.miss with
 | some i=>
  rw [show qX sf.2=(i:Int) by simp [qX,hm]] at c7;rw [hm] at HTH;clear HW hm;go_wp2;refine bodyPost_ret (v:= .agg (jE i (.slice none 0 0))) (by simp [results,results157,go_sem,k4,jE]) rfl ?_;have hr:=HTH.out;subst hr;refine ⟨.slice none 0 0,rfl,World.ownsRow_nil _ _ _ _,by simp [Value.ownBlock],zT,?_⟩;iterate 14 refine Below.setCell ?_ (Nat.le_succ _) _
  exact HB3.out
 | none=>
  rw [show qX sf.2= -1 by simp [qX,hm]] at c7;rw [hm] at HTH;clear hm;go_wp2_with fail;refine HW.out.mono ?_;rintro e w4 ⟨wv',rfl,ow,gw,b4⟩;obtain ⟨pa,pc,rfl⟩:=jG ow;have zB:=HB3.out.size;have HB4:=zh (HB3.out.trans (b4.mono zB));have e5:=(b4.block _ hz3).trans e4;have k5:=fun o:Nat=>jd (w:=w4) (o:=o) e5;have g5:=fun o:Nat=>jh (w:=w4) (o:=o) e5;unfold jE at k5;have HO:=zh ow;have HG:=zh gw;clear k4 g4 HW HB3 ow gw b4 e4;go_wp2;refine bodyPost_ret (v:= .agg (jE (-1) (.slice pa sf.2.writes.length pc))) (by simp [results,results157,go_sem,k5,jE]) rfl ?_;have hr:=HTH.out;subst hr;refine ⟨.slice pa sf.2.writes.length pc,rfl,?_,fun j hj=>Nat.le_trans zB (HG.out j hj),fun x hx=>by obtain ⟨y,hy,rfl⟩:=List.mem_map.1 hx;exact HU.out y hy,?_⟩
  ·rw [<-jbA,List.length_map];have hne:∀j,(Value.slice pa sf.2.writes.length pc).ownBlock=some j->j≠w.heap.size+1:=fun j hj=>by
    have:=HG.out j hj;omega
   refine je HO.out fun j hj=> ?_;iterate 14 rw [ji (hne j hj)]
  ·iterate 14 refine Below.setCell ?_ (Nat.le_succ _) _
   exact HB4.out

def tC (t p s:Int) (x:TS) (lv kv wv:Value):Array Value:=#[.int .i64 t,.int .i64 p,.int .i64 s,.int .i64 x.ph,.int .i64 x.i,.int .u32 x.s,.int .i64 x.u,.int .u64 x.note,.int .i64 x.n,lv,.bool x.own,.int .i64 x.page,kv,.int .i64 x.need,wv,.int .i64 0,.int .i64 0,.int .i64 0,.slice none 0 0,.slice none 0 0,.slice none 0 0,.slice none 0 0,.slice none 0 0,.slice none 0 0,.slice none 0 0,.slice none 0 0,.slice none 0 0,.int .u32 x.made]
structure RTs (t p s:Int) (w:World) (b:Nat) (S:Nat->Prop) (x:TS) (lv kv wv:Value):Prop where
 cells:w.heap[b]? =some (.cells (tC t p s x lv kv wv) 55)
 lr:w.ownsRow 0 106 2 lv x.l.length (jU x.l)
 kr:w.ownsRow 0 106 2 kv x.known.length (jU x.known)
 wr:w.ownsRow 0 106 2 wv x.wr.length (jU x.wr)
 dk:∀k,kv.ownBlock=some k->lv.ownBlock≠some k/\wv.ownBlock≠some k
 dl:x.ph<=2->∀k,lv.ownBlock=some k->wv.ownBlock≠some k
 inb:S b
 inl':∀k,lv.ownBlock=some k->S k
 ink:∀k,kv.ownBlock=some k->S k
 inw:∀k,wv.ownBlock=some k->S k
 lt:∀k,S k->k < w.heap.size
def RT (t p s:Int) (w:World) (b:Nat) (S:Nat->Prop) (x:TS):Prop:=∃lv kv wv,RTs t p s w b S x lv kv wv
section
variable {t p s:Int} {w w':World} {b:Nat} {S:Nat->Prop} {x:TS} {lv kv wv:Value}
theorem jA:qp (RT t p s) where
 keep:=by
  rintro w w' b S T x ⟨lv,kv,wv,h⟩ F hd;have blk:∀k,S k->w'.heap[k]? =w.heap[k]? :=fun k hk=>F.block k (h.lt k hk) (hd k hk);exact ⟨lv,kv,wv,(blk b h.inb).trans h.cells,je h.lr fun k hk=>blk k (h.inl' k hk),je h.kr fun k hk=>blk k (h.ink k hk),je h.wr fun k hk=>blk k (h.inw k hk),h.dk,h.dl,h.inb,h.inl',h.ink,h.inw,fun k hk=>Nat.lt_of_lt_of_le (h.lt k hk) F.size⟩
 lt:=by rintro w b S x ⟨lv,kv,wv,h⟩;exact h.lt
 mono:=by
  rintro w b S S' x ⟨lv,kv,wv,h⟩ hs hl;exact ⟨lv,kv,wv,h.cells,h.lr,h.kr,h.wr,h.dk,h.dl,hs _ h.inb,fun k hk=>hs k (h.inl' k hk),fun k hk=>hs k (h.ink k hk),fun k hk=>hs k (h.inw k hk),hl⟩
theorem RTs.cell (h:RTs t p s w b S x lv kv wv) (o:Nat):w.cell? ⟨b,o,none⟩=(tC t p s x lv kv wv)[o]? :=jd h.cells
theorem RTs.fz (h:RTs t p s w b S x lv kv wv) (o:Nat):w.frozen? ⟨b,o,none⟩=false:=jh h.cells
theorem RTs.nb (h:RTs t p s w b S x lv kv wv):(∀k,lv.ownBlock=some k->k≠b)/\(∀k,kv.ownBlock=some k->k≠b)/\(∀k,wv.ownBlock=some k->k≠b):=
 ⟨fun k hk e=>jm h.lr h.cells zd (e ▸ hk),fun k hk e=>jm h.kr h.cells zd (e ▸ hk),fun k hk e=>jm h.wr h.cells zd (e ▸ hk)⟩
theorem RTs.set {x':TS} {lv' kv' wv':Value} (h:RTs t p s w b S x lv kv wv) (i:Nat) (u:Value) (hc:(tC t p s x lv kv wv).setIfInBounds i u=tC t p s x' lv' kv' wv')
 (h1:(lv'=lv/\x'.l=x.l)\/(lv'=wv/\x'.l=x.wr/\2 < x'.ph)) (h2:(kv'=kv/\x'.known=x.known)\/(kv'= .slice none 0 0/\x'.known=[])) (h3:wv'=wv/\x'.wr=x.wr) (h4:x'.ph<=2->x.ph<=2):RTs t p s (w.setCell ⟨b,i,none⟩ u) b S x' lv' kv' wv':=by
 obtain ⟨n1,n2,n3⟩:=h.nb;have blk:∀k,k≠b->(w.setCell ⟨b,i,none⟩ u).heap[k]? =w.heap[k]? :=fun k hk=>ji hk;have l':=je (w':=w.setCell ⟨b,i,none⟩ u) h.lr fun k hk=>blk k (n1 k hk);have k':=je (w':=w.setCell ⟨b,i,none⟩ u) h.kr fun k hk=>blk k (n2 k hk);have w':=je (w':=w.setCell ⟨b,i,none⟩ u) h.wr fun k hk=>blk k (n3 k hk);obtain ⟨rfl,e3⟩:=h3;have hlt:∀k,S k->k < (w.setCell ⟨b,i,none⟩ u).heap.size:=fun k hk=>by rw [World.size_setCell];exact h.lt k hk
 have hcells:(w.setCell ⟨b,i,none⟩ u).heap[b]? =some (.cells (tC t p s x' lv' kv' wv') 55):=(jH h.cells).trans (by rw [hc]);have hk:(∀k,kv'.ownBlock=some k->kv.ownBlock=some k):=by
  rcases h2 with ⟨rfl,-⟩ | ⟨rfl,-⟩
  ·exact fun k hk=>hk
  ·exact fun k hk=>by cases hk
 have hkr:(w.setCell ⟨b,i,none⟩ u).ownsRow 0 106 2 kv' x'.known.length (jU x'.known):=by
  rcases h2 with ⟨rfl,e⟩ | ⟨rfl,e⟩
  ·rw [e];exact k'
  ·rw [e];exact World.ownsRow_nil _ _ _ _
 rcases h1 with ⟨rfl,e1⟩ | ⟨rfl,e1,e2⟩
 ·exact ⟨hcells,by rw [e1];exact l',hkr,by rw [e3];exact w',fun k hk'=>h.dk k (hk k hk'),fun hp=>h.dl (h4 hp),h.inb,h.inl',fun k hk'=>h.ink k (hk k hk'),h.inw,hlt⟩
 ·exact ⟨hcells,by rw [e1];exact w',hkr,by rw [e3];exact w',fun k hk'=>⟨(h.dk k (hk k hk')).2,(h.dk k (hk k hk')).2⟩,fun hp=>by omega,h.inb,h.inw,fun k hk'=>h.ink k (hk k hk'),h.inw,hlt⟩
def qL (t p s:Int) (w:World) (b:Nat) (S:Nat->Prop) (x:TS) (w':World):Prop:=RT t p s w' b (upd S w w') x/\Fr S w w'
theorem RTs.now (h:RTs t p s w' b S x lv kv wv) (hf:Fr S w w') (h0:∀k,S k->k < w.heap.size):qL t p s w b S x w':=
 ⟨jA.mono ⟨lv,kv,wv,h⟩ (fun _ hk=> .inl hk) (fun k hk=>by rcases hk with hk | hk;exact h.lt k hk;exact hk.2),hf⟩
theorem kZ (h:RT t p s w b S x) (k:Nat) (hk:k<=2->x.ph<=2) :
 Calls prog 102 #[.pointer (some ⟨b,0,none⟩),.int .i64 k] w fun e w'=>e= .returned (.tuple #[])/\qL t p s w b S (x.to k) w':=by
 obtain ⟨lv,kv,wv,h⟩:=h;have h1:RTs t p s (w.setCell ⟨b,3,none⟩ (.int .i64 k)) b S { x with ph:=k } lv kv wv:=h.set 3 _ rfl (.inl ⟨rfl,rfl⟩) (.inl ⟨rfl,rfl⟩) ⟨rfl,rfl⟩ hk;have h2:RTs t p s ((w.setCell ⟨b,3,none⟩ (.int .i64 k)).setCell ⟨b,4,none⟩ (.int .i64 0)) b S (x.to k) lv kv wv:=h1.set 4 _ rfl (.inl ⟨rfl,rfl⟩) (.inl ⟨rfl,rfl⟩) ⟨rfl,rfl⟩ id;have c3:=h.cell 3;have c4:=h1.cell 4;have f3:=h.fz 3;have f4:=h1.fz 4;simp [tC] at c3 c4;have HN:=zh (h2.now (((Fr.refl S w).setCell ⟨b,3,none⟩ (.int .i64 k) (.inl h.inb)).setCell ⟨b,4,none⟩ (.int .i64 0) (.inl h.inb)) h.lt);clear h h1 h2 hk;go_enter func102,ntmps102;go_wp2;go_end0;exact ⟨rfl,HN.out⟩
end

section
variable {t p s:Int} {w w':World} {b:Nat} {S:Nat->Prop} {x:TS}
theorem Yl (st n:Int) (o:Bool):Kf st n o=kG st n o:=rfl
theorem kh (h:RT t p s w b S x) (d a v:Int) :
 Calls prog 42 #[.pointer (some ⟨b,0,none⟩),.int .i64 d,.int .i64 a,.int .u64 v] w (zW (j8 d t a v) w):=by
 obtain ⟨lv,kv,wv,h⟩:=h;have c0:=h.cell 0;simp [tC] at c0;have z0:=World.block_lt_of_cell? w _ c0;dsimp only at z0;have HB:=zh ((Below.refl w.heap.size w).alloc (Nat.le_refl _) (.cells #[.int .i64 d,.int .i64 t,.int .i64 a,.int .i64 0,.int .u64 0,.int .u64 v] 40));clear h;go_enter func42,ntmps42;go_wp2_with fail;have k:=fun o:Nat=>jd (o:=o) (heap_alloc_new w (.cells #[.int .i64 d,.int .i64 t,.int .i64 a,.int .i64 0,.int .u64 0,.int .u64 v] 40));refine bodyPost_ret (v:=j8 d t a v) (by simp [results,results42,go_sem,k,j8]) rfl ⟨rfl,HB.out⟩
theorem Qa (h:RT t p s w b S x) (hv:U64 x.note) :
 Calls prog 89 #[.pointer (some ⟨b,0,none⟩)] w (zW (.int .u32 (hiW x.note)) w):=by
 obtain ⟨lv,kv,wv,h⟩:=h;have c7:=h.cell 7;simp [tC] at c7;have HH:=zh (fun w=>yt x.note w hv);clear h;go_enter func89,ntmps89;go_wp2_with fail;refine zM (HH.out _) fun w1 b1=> ?_;have HB:=zh b1;clear b1;go_wp2;go_ret;exact ⟨rfl,HB.out⟩
theorem jdw (w:World) {v sn n:Int} {o:Bool} (hv:U64 v) (hw:qU v=some (sn,o,n)) :
 Calls prog 90 #[.int .u64 v] w (zW (.int .u64 (kG sn n false)) w):=by
 have hbd:=Jc hv hw;have hsn:0<=sn/\sn < 4294967296:=by rw [hbd.1];exact K1 hv
 have HO:=zh (fun w=>Jh v sn n o w hv hw);have HW:=zh (fun w=>Ya sn n false w hsn hbd.2.1 hbd.2.2.1);rw [Yl] at HW;generalize kG sn n false=nw at*
 clear hbd hsn hv hw;go_enter func90,ntmps90;go_wp2_with fail;refine zM (HO.out _) fun w1 b1=> ?_;have H1:=zh (b1.alloc b1.size (.cells #[.int .u32 sn,.bool false,.int .i64 n] 149));clear b1;go_wp2_with fail;refine zM (HW.out _) fun w2 b2=> ?_;have H2:=zh (H1.out.trans (b2.mono H1.out.size));clear b2;go_wp2;go_ret;exact ⟨rfl,H2.out⟩
theorem V6 (h:RT t p s w b S x) (hs:0<=x.s/\x.s+1 < 4294967296) (hl:x.wr.length<=96) :
 Calls prog 47 #[.pointer (some ⟨b,0,none⟩)] w (zW (.int .u64 x.openN) w):=by
 obtain ⟨lv,kv,wv,h⟩:=h;obtain ⟨pa,pc,rfl⟩:=jG h.wr;have c5:=h.cell 5;have c14:=h.cell 14;simp [tC] at c5 c14;have hws:IntKind.u32.wrap (x.s+1)=x.s+1:=IntWalk.u32_in _ zo;have HW:=zh (fun w=>Ya (x.s+1) (x.wr.length:Int) true w zo zo zo);rw [Yl] at HW;unfold TS.openN;generalize kG (x.s+1) (x.wr.length:Int) true=nw at*
 generalize x.wr.length=n at*
 clear h hs hl;have B0:=(Below.refl w.heap.size w).drew;have zb:=World.block_lt_of_cell? w _ c5;dsimp only at zb;go_enter func47,ntmps47;go_wp2_with fail;refine jbZ (zQ c5) (zQ c14) fun hHeld=> ?_;refine wT 0 ?_;refine wY ?_;refine wR 12 fun K hK=> ?_;go_simp;refine zM (HW.out _) fun w1 b1=> ?_;have B1:=zh (B0.trans (b1.mono B0.size));refine wL hK b1 fun hHeld=> ?_;clear hK K;refine wY ?_;refine wD ?_;clear hHeld b1;go_wp2;go_ret;exact ⟨rfl,B1.out⟩
end

def Ko (w:World) (b:Nat) (nd:Int) (wv:Value):World:=
 ((((((((((((((w.setCell ⟨b,13,none⟩ (.int .i64 nd)).setCell ⟨b,14,none⟩ wv).setCell ⟨b,15,none⟩ (.int .i64 0)).setCell ⟨b,16,none⟩ (.int .i64 0)).setCell ⟨b,17,none⟩ (.int .i64 0)).setCell ⟨b,18,none⟩ (.slice none 0 0)).setCell ⟨b,19,none⟩ (.slice none 0 0)).setCell ⟨b,20,none⟩ (.slice none 0 0)).setCell ⟨b,21,none⟩ (.slice none 0 0)).setCell ⟨b,22,none⟩ (.slice none 0 0)).setCell ⟨b,23,none⟩ (.slice none 0 0)).setCell ⟨b,24,none⟩ (.slice none 0 0)).setCell ⟨b,25,none⟩ (.slice none 0 0)).setCell ⟨b,26,none⟩ (.slice none 0 0))
section
variable {t p s:Int} {w w':World} {b:Nat} {S:Nat->Prop} {x:TS} {lv kv wv:Value}
theorem JS {k:Nat} (hk:k≠b) (nd:Int) (wv:Value):(Ko w b nd wv).heap[k]? =w.heap[k]? :=by
 unfold Ko;iterate 14 rw [ji hk]
theorem jaB (w:World) (b:Nat) (nd:Int) (wv:Value):(Ko w b nd wv).heap.size=w.heap.size:=by
 unfold Ko;simp only [World.size_setCell]
theorem Je {w:World} {b:Nat} {cs:Array Value} {T:TypeId} (h:w.heap[b]? =some (.cells cs T)) (i:Nat) (u:Value):(w.setCell ⟨b,i,none⟩ u).heap[b]? =some (.cells (cs.setIfInBounds i u) T):=jH h
theorem jaC {cs:Array Value} {T:TypeId} (h:w.heap[b]? =some (.cells cs T)) (nd:Int) (wv:Value):(Ko w b nd wv).heap[b]? =some (.cells ((((((((((((((cs.setIfInBounds 13 (.int .i64 nd)).setIfInBounds 14 wv).setIfInBounds 15 (.int .i64 0)).setIfInBounds 16 (.int .i64 0)).setIfInBounds 17 (.int .i64 0)).setIfInBounds 18 (.slice none 0 0)).setIfInBounds 19 (.slice none 0 0)).setIfInBounds 20 (.slice none 0 0)).setIfInBounds 21 (.slice none 0 0)).setIfInBounds 22 (.slice none 0 0)).setIfInBounds 23 (.slice none 0 0)).setIfInBounds 24 (.slice none 0 0)).setIfInBounds 25 (.slice none 0 0)).setIfInBounds 26 (.slice none 0 0)) T):=(Je (Je (Je (Je (Je (Je (Je (Je (Je (Je (Je (Je (Je (Je h 13 (.int .i64 nd)) 14 wv) 15 (.int .i64 0)) 16 (.int .i64 0)) 17 (.int .i64 0)) 18 (.slice none 0 0)) 19 (.slice none 0 0)) 20 (.slice none 0 0)) 21 (.slice none 0 0)) 22 (.slice none 0 0)) 23 (.slice none 0 0)) 24 (.slice none 0 0)) 25 (.slice none 0 0)) 26 (.slice none 0 0))
theorem RTs.thought (h:RTs t p s w b S x lv kv wv) {nd:Int} {l:List (Int×Int)} {wv':Value} (hr:w.ownsRow 0 106 2 wv' l.length (jU l)) (hf:∀k,wv'.ownBlock=some k->kv.ownBlock≠some k/\lv.ownBlock≠some k/\k < w.heap.size) :
 RTs t p s (Ko w b nd wv') b (fun k=>S k\/wv'.ownBlock=some k) { x with need:=nd,wr:=l } lv kv wv':=by
 obtain ⟨n1,n2,n3⟩:=h.nb;have n4:∀k,wv'.ownBlock=some k->k≠b:=fun k hk e=>jm hr h.cells zd (e ▸ hk);have hc:(Ko w b nd wv').heap[b]? =some (.cells (tC t p s { x with need:=nd,wr:=l } lv kv wv') 55):=by
  rw [jaC h.cells];simp [tC]
 refine ⟨hc,je h.lr fun k hk=>JS (n1 k hk) _ _,je h.kr fun k hk=>JS (n2 k hk) _ _,je hr fun k hk=>JS (n4 k hk) _ _,fun k hk=>⟨(h.dk k hk).1,fun e=>(hf k e).1 hk⟩,fun _ k hk e=>(hf k e).2.1 hk,.inl h.inb,fun k hk=> .inl (h.inl' k hk),fun k hk=> .inl (h.ink k hk),fun k hk=> .inr hk,fun k hk=> ?_⟩;rw [jaB];rcases hk with hk | hk
 ·exact h.lt k hk
 ·exact (hf k hk).2.2
theorem jdT {S1:Nat->Prop} (h:Fr S1 w w') (hb:S1 b\/w.heap.size<=b) (nd:Int) (wv:Value):Fr S1 w (Ko w' b nd wv):=by
 unfold Ko;iterate 14 refine Fr.setCell ?_ _ _ hb
 exact h
end

section
variable {t p s:Int} {w w':World} {b:Nat} {S:Nat->Prop} {x y:TS}
theorem Vm {S1:Nat->Prop} (h:RT t p s w' b S1 y) (hS:∀k,S1 k->S k\/w.heap.size<=k) (hf:Fr S w w') (h0:∀k,S k->k < w.heap.size):qL t p s w b S y w':=
 ⟨jA.mono h (fun k hk=>(hS k hk).imp id (fun h2=>⟨h2,jA.lt h k hk⟩)) (fun k hk=>by
  rcases hk with hk | hk
  ·exact Nat.lt_of_lt_of_le (h0 k hk) hf.size
  ·exact hk.2),hf⟩
theorem RTs.below {lv kv wv:Value} (h:RTs t p s w b S x lv kv wv) (hb:Below w.heap.size w w'):RTs t p s w' b S x lv kv wv:=by
 have blk:∀k,S k->w'.heap[k]? =w.heap[k]? :=fun k hk=>hb.block k (h.lt k hk);exact ⟨(blk b h.inb).trans h.cells,je h.lr fun k hk=>blk k (h.inl' k hk),je h.kr fun k hk=>blk k (h.ink k hk),je h.wr fun k hk=>blk k (h.inw k hk),h.dk,h.dl,h.inb,h.inl',h.ink,h.inw,fun k hk=>Nat.lt_of_lt_of_le (h.lt k hk) hb.size⟩
def TL (t p s:Int) (w:World) (b:Nat) (S:Nat->Prop) (y:TS) (wr:World):Prop:=∃x S1,jB t p s x=y/\jc8 x.known/\(x.page:Int)<=p/\RT t p s wr b S1 x/\(∀k,S1 k->S k\/w.heap.size<=k)/\Fr S w wr
def pageT (w:World) (b:Nat):Nat:=match w.cell? ⟨b,11,none⟩ with | some (.int _ n)=>n.toNat | _=>0
theorem RTs.pageT {lv kv wv:Value} (h:RTs t p s w b S x lv kv wv):pageT w b=x.page:=by
 unfold Go.Proofs.YtcnininelndjoaaGreat.pageT;rw [h.cell 11];rfl
theorem J6 {x:TS} (h:RT t p s w b S x) (hr:jq t p s=true) (hok:jc8 x.known) (hpg:(x.page:Int)<=p) :
 Calls prog 105 #[.pointer (some ⟨b,0,none⟩)] w fun e w'=>e= .returned (.tuple #[])/\qL t p s w b S (jB t p s x) w':=by
 have hrb:=jt hr;have HTh:=zh (fun (page:Nat) (a:Option Addr) (m c:Nat) (kn:List (Int×Int)) (w:World) (h1:jbg w (.slice a m c) kn) (h2:kn.length<=1000000) (h3:∀x∈kn,VS.U32 x.2)=>jb8 t p s page a m c kn w hr h1 h2 h3);have HR:=zh (show TL t p s w b S (jB t p s x) w from ⟨x,S,rfl,hok,hpg,h,fun _ hk=> .inl hk,Fr.refl _ _⟩);have H0:=zh (jA.lt h);generalize jB t p s x=y at*
 clear h hok hpg hr x;go_enter func105,ntmps105;go_wp2_with fail;go_loopw [12] (fun _ wr=>TL t p s w b S y wr) (fun _ wr=>p.toNat - pageT wr b);case atStart=>exact HR.out
 case round=>
  clear HR;obtain ⟨x,S1,hx,hok,hpg,hRT,hS,hF⟩:=hrel;obtain ⟨lv,kv,wv,h⟩:=hRT;obtain ⟨ka,kc,rfl⟩:=jG h.kr;have c0:=h.cell 0;have c1:=h.cell 1;have c2:=h.cell 2;have c11:=h.cell 11;have c12:=h.cell 12;simp [tC] at c0 c1 c2 c11 c12;have HX:=zh hx;have HOk:=zh hok;have HS:=zh hS;have HF:=zh hF;have H1:=zh h;have zb:=World.block_lt_of_cell? wr _ c0;dsimp only at zb;clear hok hS hF hx h;go_wp2_with fail;refine wQ ?_;by_cases hlt:(x.page:Int) < p
  ·have HTC:=Vn t p s x.page x.known;have HGn:=fun h0=>Qs (t:=t) (p:=p) (z:=s) (x:=x) hlt h0;have HGs:=fun h0 h2=>Qq (t:=t) (p:=p) (z:=s) (x:=x) hlt h0 h2;have HGw:=fun h0 h2=>KN (t:=t) (p:=p) (z:=s) (x:=x) hlt h0 h2;have HTx:=zh (fun (W:World) h1=>HTh.out x.page ka x.known.length kc x.known W h1 HOk.out.1 HOk.out.2);generalize hth:thF t p s x.page x.known=r at*
   have HTC:=zh HTC;have HGn:=zh HGn;have HGs:=zh HGs;have HGw:=zh HGw;have HD:=zh ((H1.out.below (Below.refl _ _).drew).below (Below.refl _ _).drew);clear hth HTh;go_wp2_with fail;refine wHn5 (zQ c0) (zQ c1) (zQ c2) (zQ c11) (zQ c12) fun hHeld=> ?_;refine wT 0 ?_;refine wY ?_;refine wR 13 fun K hK=> ?_;go_simp;refine (HTx.out _ (Vx HD.out.kr)).mono ?_;rintro e w2 ⟨wv',rfl,ow,gw,uw,b2⟩;obtain ⟨pa,pc,rfl⟩:=jG ow;have H2:=zh (HD.out.below b2);refine wK hK (⟨H2.out.cell 0,H2.out.cell 1,H2.out.cell 2,H2.out.cell 11,H2.out.cell 12⟩) fun hHeld=> ?_;clear hK K;refine wY ?_;refine wR 16 fun K hK=> ?_;have kq:=H2.out.cell;have kf:=H2.out.fz;unfold tC at kq;unfold jE;go_simp;have H3:=zh (H2.out.thought (nd:=r.1) ow (fun k hk=>⟨fun e=>by have h1:=gw k hk;have h2:=H1.out.lt k (H1.out.ink k e);simp only [World.size_drew] at h1;omega,fun e=>by have h1:=gw k hk;have h2:=H1.out.lt k (H1.out.inl' k e);simp only [World.size_drew] at h1;omega,jn ow hk⟩));refine wK hK (⟨H3.out.cell 0,H3.out.cell 1,H3.out.cell 2,H3.out.cell 11,H3.out.cell 12⟩) fun hHeld=> ?_;clear hK K;refine wD ?_;clear hHeld kq kf c0 c1 c2 c11 c12;have HF3:=zh (jdT ((HF.out.drew.drew).trans (Fr.of_below (S:=S) b2) (fun _ hk=> .inl hk)) (HS.out b H1.out.inb) r.1 (.slice pa r.2.length pc));have HS3:Hid (∀k,(S1 k\/(Value.slice pa r.2.length pc).ownBlock=some k)->S k\/w.heap.size<=k):=zh (fun k hk=>by
    rcases hk with hk | hk
    ·exact HS.out k hk
    ·have h1:=gw k hk;have h2:=HF.out.size;simp only [World.size_drew] at h1;exact .inr zo)
   clear HTx ow gw b2 H2 HD;refine j5 ?_;intro w5 hw5;have hw6:Ko w2 b r.1 (.slice pa r.2.length pc)=w5:=hw5.symm;rw [hw6] at H3 HF3;clear hw5 hw6;have d13:=H3.out.cell 13;have d14:=H3.out.cell 14;have d11:=H3.out.cell 11;have f11:=H3.out.fz 11;simp [tC] at d13 d14 d11;have d12:=H3.out.cell 12;have f12:=H3.out.fz 12;simp [tC] at d12;rcases HTC.out with ⟨i,e,hi,hne⟩ | ⟨e1,e2⟩
   ·have h0:0<=r.1:=by rw [e];exact Int.natCast_nonneg _
    have HE:=zh (HGn.out h0);clear HTC HGn HGs HGw hne hi e;have HRT:=zh (show RT t p s w5 b _ _ from ⟨_,_,_,H3.out⟩);go_wp2_with fail;refine zM (kZ HRT.out 10 (fun h=>absurd h zd)) fun w6 hn=> ?_;have HN2:=zh hn;clear hn;go_wp2;refine bodyPost_ret (v:= .tuple #[]) (by simp [results,results105,go_sem]) rfl ?_;refine ⟨rfl,?_⟩;have hh:=HN2.out;rw [<-HX.out,HE.out];refine Vm hh.1 (fun k hk=> ?_) (HF3.out.trans hh.2 (fun k hk=>HS3.out k hk)) H0.out;rcases hk with hk | hk
    ·exact HS3.out k hk
    ·exact .inr (Nat.le_trans HF3.out.size hk.1)
   ·have h0:¬0<=r.1:=zo;rcases Nat.eq_zero_or_pos r.2.length with hz | hpos
    ·have hnil:r.2=[]:=List.eq_nil_of_length_eq_zero hz;have HE:=zh (HGs.out zo hnil);have hwp:IntKind.i64.wrap ((x.page:Int)+1)=(x.page:Int)+1:=jr _ zo;have hz0:¬(0:Int) < (r.2.length:Int):=zo;have H3':=H3.out;rw [hnil] at H3';have hS3:=HS3.out;rw [hnil] at hS3;have HS4:=zh hS3;clear hS3;have H4:=H3'.set (x':={ x with need:=r.1,wr:=[],page:=x.page+1 }) 11 (.int .i64 ((x.page:Int)+1)) rfl (.inl ⟨rfl,rfl⟩) (.inl ⟨rfl,rfl⟩) ⟨rfl,rfl⟩ id;have H5:=zh (H4.set (x':={ x with need:=r.1,wr:=[],page:=x.page+1,known:=[] }) (kv':= .slice none 0 0) 12 (.slice none 0 0) rfl (.inl ⟨rfl,rfl⟩) (.inr ⟨rfl,rfl⟩) ⟨rfl,rfl⟩ id);have hb:=HS.out b H1.out.inb;have hF5:=zh ((HF3.out.setCell ⟨b,11,none⟩ (.int .i64 ((x.page:Int)+1)) hb).setCell ⟨b,12,none⟩ (.slice none 0 0) hb);clear HTC HGn HGs HGw H3 H3' H4 hnil hb;go_wp2;go_roundw;case rel=>exact ⟨_,_,by rw [<-HX.out,HE.out],⟨zT,zT⟩,by dsimp only;omega,⟨_,_,_,H5.out⟩,HS4.out,hF5.out⟩
     case measure=>
      have e5:=H5.out.pageT;dsimp only at e5;rw [H1.out.pageT,e5];omega
    ·have hne:r.2≠[]:=fun e=>by rw [e] at hpos;exact absurd hpos zd
     have hposI:(0:Int) < (r.2.length:Int):=zo;have HE:=zh (HGw.out zo hne);clear HTC HGn HGs HGw hne;have HRT:=zh (show RT t p s w5 b _ _ from ⟨_,_,_,H3.out⟩);go_wp2_with fail;refine zM (kZ HRT.out 11 (fun h=>absurd h zd)) fun w6 hn=> ?_;have HN2:=zh hn;clear hn;go_wp2;refine bodyPost_ret (v:= .tuple #[]) (by simp [results,results105,go_sem]) rfl ?_;refine ⟨rfl,?_⟩;have hh:=HN2.out;rw [<-HX.out,HE.out];refine Vm hh.1 (fun k hk=> ?_) (HF3.out.trans hh.2 (fun k hk=>HS3.out k hk)) H0.out;rcases hk with hk | hk
     ·exact HS3.out k hk
     ·exact .inr (Nat.le_trans HF3.out.size hk.1)
  ·have HN:=zh (show RT t p s wr.drew b S1 x from jA.keep ⟨_,_,_,H1.out⟩ (Fr.of_below (S:=fun _=>False) ((Below.refl _ _).drew)) (fun _ _ hf=>hf));have HE:=zh (Qr (t:=t) (z:=s) (x:=x) (p:=p) hlt);clear HTh;go_wp2_with fail;refine zM (kZ HN.out 19 (fun h=>absurd h zd)) fun w2 hn=> ?_;have HN2:=zh hn;clear hn;go_wp2;go_end0;refine ⟨rfl,?_⟩;have hh:=HN2.out;rw [<-HX.out,HE.out];refine Vm hh.1 (fun k hk=> ?_) (HF.out.drew.trans hh.2 (fun k hk=>HS.out k hk)) H0.out;rcases hk with hk | hk
   ·exact HS.out k hk
   ·exact .inr (Nat.le_trans HF.out.size hk.1)
end

section
variable {t p s:Int} {w w' w1:World} {b:Nat} {S:Nat->Prop} {x y:TS}
theorem qL.comp (F:Fr S w w1) (h0:∀k,S k->k < w.heap.size) (hn:qL t p s w1 b S y w'):qL t p s w b S y w':=
 Vm hn.1 (fun k hk=>by
  rcases hk with hk | hk
  ·exact .inl hk
  ·exact .inr (Nat.le_trans F.size hk.1)) (F.trans hn.2 (fun _ hk=> .inl hk)) h0
theorem jax (h:RT t p s w b S x) (hr:jq t p s=true) (hpg:(x.page:Int)<=p) (ho:x.own=true->(x.page:Int) < p) :
 Calls prog 107 #[.pointer (some ⟨b,0,none⟩)] w fun e w'=>e= .returned (.tuple #[])/\qL t p s w b S (jB t p s { x with page:=if x.own=true then x.page+1 else x.page,known:=[] }) w':=by
 have hrb:=jt hr;have hlt:=jA.lt h;obtain ⟨lv,kv,wv,h⟩:=h;have c10:=h.cell 10;have c11:=h.cell 11;have c12:=h.cell 12;have f11:=h.fz 11;have f12:=h.fz 12;simp [tC] at c10 c11 c12;by_cases hown:x.own=true
 ·rw [if_pos hown];rw [hown] at c10;have hp:=ho hown;have hwp:IntKind.i64.wrap ((x.page:Int)+1)=(x.page:Int)+1:=jr _ zo;have H4:=h.set (x':={ x with page:=x.page+1 }) 11 (.int .i64 ((x.page:Int)+1)) rfl (.inl ⟨rfl,rfl⟩) (.inl ⟨rfl,rfl⟩) ⟨rfl,rfl⟩ id;have H5:=H4.set (x':={ x with page:=x.page+1,known:=[] }) (kv':= .slice none 0 0) 12 (.slice none 0 0) rfl (.inl ⟨rfl,rfl⟩) (.inr ⟨rfl,rfl⟩) ⟨rfl,rfl⟩ id;have HF:=zh (((Fr.refl S w).setCell ⟨b,11,none⟩ (.int .i64 ((x.page:Int)+1)) (.inl h.inb)).setCell ⟨b,12,none⟩ (.slice none 0 0) (.inl h.inb));have HS:=zh (J6 (x:={ x with page:=x.page+1,known:=[] }) ⟨_,_,_,H5⟩ hr ⟨zT,zT⟩ (by dsimp only;omega));have HL:=zh hlt;clear h H4 H5 hlt hr hrb;go_enter func107,ntmps107;go_wp2_with fail;refine zM HS.out fun w2 hn=> ?_;have HN:=zh (qL.comp HF.out HL.out hn);clear hn HS HF HL;go_wp2;go_end0;exact ⟨rfl,HN.out⟩
 ·rw [if_neg hown];have hown':x.own=false:=by simpa using hown
  rw [hown'] at c10;have H5:=h.set (x':={ x with known:=[] }) (kv':= .slice none 0 0) 12 (.slice none 0 0) rfl (.inl ⟨rfl,rfl⟩) (.inr ⟨rfl,rfl⟩) ⟨rfl,rfl⟩ id;have HF:=zh ((Fr.refl S w).setCell ⟨b,12,none⟩ (.slice none 0 0) (.inl h.inb));have HS:=zh (J6 (x:={ x with known:=[] }) ⟨_,_,_,H5⟩ hr ⟨zT,zT⟩ hpg);have HL:=zh hlt;clear h H5 hlt hr hrb;go_enter func107,ntmps107;go_wp2_with fail;refine zM HS.out fun w2 hn=> ?_;have HN:=zh (qL.comp HF.out HL.out hn);clear hn HS HF HL;go_wp2;go_end0;exact ⟨rfl,HN.out⟩
theorem jdG (h:RT t p s w b S x) (hr:jq t p s=true) {v:Int} (hv:U64 v) (ho:qQ v x.s=none) (hok:jc8 x.known) (hpg:(x.page:Int)<=p) :
 Calls prog 103 #[.pointer (some ⟨b,0,none⟩),.int .u64 v] w fun e w'=>e= .returned (.tuple #[])/\qL t p s w b S (jB t p s x) w':=by
 have HL:=zh (jA.lt h);have HO:=zh (fun w=>jbo v x.s w hv ho);have HS:=zh (fun (W:World) (hb:Below w.heap.size w W)=>J6 (x:=x) (w:=W) (S:=S) (b:=b) (jA.keep h (Fr.of_below (S:=fun _=>False) hb) (fun _ _ hf=>hf)) hr hok hpg);obtain ⟨lv,kv,wv,h⟩:=h;have c5:=h.cell 5;simp [tC] at c5;clear h hr hv ho hok hpg;generalize jB t p s x=y at*
 go_enter func103,ntmps103;go_wp2_with fail;refine zM (HO.out _) fun w1 b1=> ?_;have HS1:=zh (HS.out _ b1);have HF:=zh (Fr.of_below (S:=S) b1);clear b1 HS;go_wp2_with fail;refine zM HS1.out fun w2 hn=> ?_;have HN:=zh (qL.comp HF.out HL.out hn);clear hn HS1 HF HL;go_wp2;refine bodyPost_ret (v:= .tuple #[]) (by simp [results,results103,go_sem]) rfl ?_;exact ⟨rfl,HN.out⟩
end

section
variable {t p s:Int} {w w' w1:World} {b:Nat} {S:Nat->Prop} {x y:TS}
theorem jb2 (h:RT t p s w b S x) {v n:Int} (hv:U64 v) (ho:qQ v x.s=some n) (hp:x.ph<=2) :
 Calls prog 103 #[.pointer (some ⟨b,0,none⟩),.int .u64 v] w fun e w'=>e= .returned (.tuple #[])/\qL t p s w b S (({ x with note:=v,n:=n }:TS).to 2) w':=by
 have HL:=zh (jA.lt h);have HO:=zh (fun w=>Xk v x.s n w hv ho);obtain ⟨lv,kv,wv,h⟩:=h;have c5:=h.cell 5;simp [tC] at c5;have HR:=zh h;clear h hv ho;go_enter func103,ntmps103;go_wp2_with fail;refine zM (HO.out _) fun w1 b1=> ?_;have h1:=HR.out.below b1;have h2:=h1.set (x':={ x with note:=v }) 7 (.int .u64 v) rfl (.inl ⟨rfl,rfl⟩) (.inl ⟨rfl,rfl⟩) ⟨rfl,rfl⟩ id;have h3:=h2.set (x':={ x with note:=v,n:=n }) 8 (.int .i64 n) rfl (.inl ⟨rfl,rfl⟩) (.inl ⟨rfl,rfl⟩) ⟨rfl,rfl⟩ id;have c7:=h1.cell 7;have f7:=h1.fz 7;have c8:=h1.cell 8;have f8:=h1.fz 8;simp [tC] at c7 c8;have HF:=zh (((Fr.of_below (S:=S) b1).setCell ⟨b,7,none⟩ (.int .u64 v) (.inl h1.inb)).setCell ⟨b,8,none⟩ (.int .i64 n) (.inl h1.inb));have HT:=zh (kZ ⟨_,_,_,h3⟩ 2 (fun _=>hp));clear h1 h2 h3 b1 HR;go_wp2_with fail;refine zM HT.out fun w2 hn=> ?_;have HN:=zh (qL.comp HF.out HL.out hn);clear hn HT HF HL;go_wp2;go_end0;exact ⟨rfl,HN.out⟩
theorem jdH (h:RT t p s w b S x) (hs:0<=x.s/\x.s+1 < 4294967296) (hl:x.wr.length<=96) (hp:2 < x.ph) :
 Calls prog 106 #[.pointer (some ⟨b,0,none⟩)] w fun e w'=>e= .returned (.tuple #[])/\qL t p s w b S (({ x with note:=x.openN,s:=x.s+1,made:=x.s+1,u:=t,l:=x.wr,own:=true }:TS).to 17) w':=by
 have HL:=zh (jA.lt h);have HO:=zh (V6 h hs hl);have hws:IntKind.u32.wrap (x.s+1)=x.s+1:=IntWalk.u32_in _ zo;generalize hon:x.openN=on at*
 obtain ⟨lv,kv,wv,h⟩:=h;have HR:=zh h;clear h hs hl hon;go_enter func106,ntmps106;go_wp2_with fail;refine zM HO.out fun w1 b1=> ?_;have h1:=HR.out.below b1;have h2:=h1.set (x':={ x with note:=on }) 7 (.int .u64 on) rfl (.inl ⟨rfl,rfl⟩) (.inl ⟨rfl,rfl⟩) ⟨rfl,rfl⟩ id;have h3:=h2.set (x':={ x with note:=on,s:=x.s+1 }) 5 (.int .u32 (x.s+1)) rfl (.inl ⟨rfl,rfl⟩) (.inl ⟨rfl,rfl⟩) ⟨rfl,rfl⟩ id;have h4:=h3.set (x':={ x with note:=on,s:=x.s+1,made:=x.s+1 }) 27 (.int .u32 (x.s+1)) rfl (.inl ⟨rfl,rfl⟩) (.inl ⟨rfl,rfl⟩) ⟨rfl,rfl⟩ id;have h5:=h4.set (x':={ x with note:=on,s:=x.s+1,made:=x.s+1,u:=t }) 6 (.int .i64 t) rfl (.inl ⟨rfl,rfl⟩) (.inl ⟨rfl,rfl⟩) ⟨rfl,rfl⟩ id;have h6:=h5.set (x':={ x with note:=on,s:=x.s+1,made:=x.s+1,u:=t,l:=x.wr }) (lv':=wv) 9 wv rfl (.inr ⟨rfl,rfl,hp⟩) (.inl ⟨rfl,rfl⟩) ⟨rfl,rfl⟩ id;have h7:=h6.set (x':={ x with note:=on,s:=x.s+1,made:=x.s+1,u:=t,l:=x.wr,own:=true }) 10 (.bool true) rfl (.inl ⟨rfl,rfl⟩) (.inl ⟨rfl,rfl⟩) ⟨rfl,rfl⟩ id;obtain ⟨pa,pc,rfl⟩:=jG h1.wr;obtain ⟨qa,qc,rfl⟩:=jG h1.lr;have c0:=h1.cell 0;have c5:=h1.cell 5;have c6:=h1.cell 6;have c7:=h1.cell 7;have c9:=h1.cell 9;have c10:=h1.cell 10;have c14:=h1.cell 14;have c27:=h1.cell 27;have f5:=h1.fz 5;have f6:=h1.fz 6;have f7:=h1.fz 7;have f9:=h1.fz 9;have f10:=h1.fz 10;have f27:=h1.fz 27;simp [tC] at c0 c5 c6 c7 c9 c10 c14 c27;have HF:=zh (((((((Fr.of_below (S:=S) b1).setCell ⟨b,7,none⟩ (.int .u64 on) (.inl h1.inb)).setCell ⟨b,5,none⟩ (.int .u32 (x.s+1)) (.inl h1.inb)).setCell ⟨b,27,none⟩ (.int .u32 (x.s+1)) (.inl h1.inb)).setCell ⟨b,6,none⟩ (.int .i64 t) (.inl h1.inb)).setCell ⟨b,9,none⟩ (.slice pa x.wr.length pc) (.inl h1.inb)).setCell ⟨b,10,none⟩ (.bool true) (.inl h1.inb));have HT:=zh (kZ ⟨_,_,_,h7⟩ 17 (fun h=>absurd h zd));clear h1 h2 h3 h4 h5 h6 h7 b1 HR HO;go_wp2_with fail;refine zM HT.out fun w2 hn=> ?_;have HN:=zh (qL.comp HF.out HL.out hn);clear hn HT HF HL;go_wp2;go_end0;exact ⟨rfl,HN.out⟩
end

section
variable {t p s:Int}
theorem jb4 (w:World) (hr:jq t p s=true) :
 Calls prog 12 #[.agg #[.int .i64 t,.int .i64 p,.int .i64 s]] w fun e w'=>(∃b,e= .returned (.pointer (some ⟨b,0,none⟩))/\∃S',RT t p s w' b S' TS.begin/\∀k,S' k->w.heap.size<=k)/\Below w.heap.size w w':=by
 have HC:=zh (fun w=>qK t p s w);rw [hr] at HC;have B0:=zh ((Below.refl w.heap.size w).alloc (Nat.le_refl _) (.cells #[.int .i64 t,.int .i64 p,.int .i64 s] 23));clear hr;go_enter func12,ntmps12;go_wp2_with fail;refine zM (HC.out _) fun w1 b1=> ?_;have e0:w1.heap[w.heap.size]? =some (.cells #[.int .i64 t,.int .i64 p,.int .i64 s] 23):=(b1.block _ zT).trans (heap_alloc_new w _);have k0:=fun o:Nat=>jd (o:=o) e0;have B1:=zh (B0.out.trans (b1.mono B0.out.size));have hz:=B1.out.size;have B2:=zh (B1.out.alloc hz (.cells (tC t p s TS.begin (.slice none 0 0) (.slice none 0 0) (.slice none 0 0)) 55));have hT:RTs t p s (w1.alloc (.cells (tC t p s TS.begin (.slice none 0 0) (.slice none 0 0) (.slice none 0 0)) 55)) w1.heap.size (fun k=>k=w1.heap.size) TS.begin (.slice none 0 0) (.slice none 0 0) (.slice none 0 0):=
  ⟨heap_alloc_new _ _,World.ownsRow_nil _ _ _ _,World.ownsRow_nil _ _ _ _,World.ownsRow_nil _ _ _ _,by simp [Value.ownBlock],by simp [Value.ownBlock],rfl,by simp [Value.ownBlock],by simp [Value.ownBlock],by simp [Value.ownBlock],fun k hk=>by subst hk;simp⟩
 have HT:=zh hT;clear hT b1 e0 B0 B1 HC;go_wp2;go_ret;exact ⟨⟨_,rfl,_,⟨_,_,_,HT.out⟩,fun k hk=>by subst hk;exact hz⟩,B2.out⟩
end

section
variable {t p s:Int}
theorem Jv (hr:jq t p s=true) (c:Int) (w:World) (h0:0<=c) (h1:c < jo t p) :
 Calls prog 45 #[.agg #[.int .i64 t,.int .i64 p,.int .i64 s],.int .i64 c] w (zW (.int .i64 (16+c)) w):=by
 have hmb:=jV hr;have HC:=zh (fun w=>qT t p s w);rw [show kY t p s=jo t p by simp [kY,hr]] at HC;have hw:IntKind.i64.wrap (16+c)=16+c:=jr _ zo;have B0:=zh ((Below.refl w.heap.size w).alloc (Nat.le_refl _) (.cells #[.int .i64 t,.int .i64 p,.int .i64 s] 23));generalize jo t p=N at*
 clear hr hmb;go_enter func45,ntmps45;go_wp2_with fail;refine zM (HC.out _) fun w1 b1=> ?_;have B1:=zh (B0.out.trans (b1.mono B0.out.size));clear b1 HC B0;go_wp2;go_ret;exact ⟨rfl,B1.out⟩
theorem jaO (c v:Int) (w:World) (h0:0<=c) (h1:c<=65535) (h2:0<=v/\v < 4294967296) :
 Calls prog 46 #[.agg #[.int .i64 c,.int .u32 v]] w (zW (.tuple #[.int .u64 (kg c v),.bool true]) w):=by
 have HJ:=zh (fun w=>Ji c v w zo h2);have hw:IntKind.u32.wrap c=c:=IntWalk.u32_in _ zo;have B0:=zh ((Below.refl w.heap.size w).alloc (Nat.le_refl _) (.cells #[.int .i64 c,.int .u32 v] 106));clear h2;go_enter func46,ntmps46;go_wp2_with fail;refine zM (HJ.out _) fun w1 b1=> ?_;have B1:=zh (B0.out.trans (b1.mono B0.out.size));clear b1 HJ B0;go_wp2;exact bodyPost_ret (v:= .tuple #[.int .u64 (kg c v),.bool true]) (by simp [results,results46,go_sem]) rfl ⟨rfl,B1.out⟩
end

section
variable {t p s:Int} {w w' w1:World} {b:Nat} {S:Nat->Prop} {x y:TS}
theorem jb1 (h:RT t p s w b S x) (hp:x.ph≠2/\x.ph≠3/\x.ph≠5/\x.ph≠11/\x.ph≠12) :
 Calls prog 108 #[.pointer (some ⟨b,0,none⟩)] w (zW (.tuple #[]) w):=by
 obtain ⟨lv,kv,wv,h⟩:=h;have c3:=h.cell 3;simp [tC] at c3;obtain ⟨h2,h3,h5,h11,h12⟩:=hp;have g2:((x.ph:Int) == 2)=false:=by simp;omega
 have g3:((x.ph:Int) == 3)=false:=by simp;omega
 have g5:((x.ph:Int) == 5)=false:=by simp;omega
 have g11:((x.ph:Int) == 11)=false:=by simp;omega
 have g12:((x.ph:Int) == 12)=false:=by simp;omega
 generalize x.ph=k at*
 clear h h2 h3 h5 h11 h12;have HB:=zh (((((Below.refl w.heap.size w).drew).drew).drew).drew).drew;go_enter func108,ntmps108;go_wp2_with fail;refine wQ ?_;go_wp2_with fail;refine wQ ?_;go_wp2_with fail;refine wQ ?_;go_wp2_with fail;refine wQ ?_;go_wp2_with fail;refine wQ ?_;go_wp2;go_end0;exact ⟨rfl,HB.out⟩
end

def yd (w:World) (L:Nat) (d t a v:Int):World:=
 (((((w.setCell ⟨L,0,none⟩ (.int .i64 d)).setCell ⟨L,1,none⟩ (.int .i64 t)).setCell ⟨L,2,none⟩ (.int .i64 a)).setCell ⟨L,3,none⟩ (.int .i64 0)).setCell ⟨L,4,none⟩ (.int .u64 0)).setCell ⟨L,5,none⟩ (.int .u64 v)
def kK:Obj:= .cells #[.int .i64 0,.int .i64 0,.int .i64 0,.int .i64 0,.int .u64 0,.int .u64 0] 40
section
variable {t p s:Int} {w w' w1:World} {b:Nat} {S:Nat->Prop} {x y:TS}
theorem jT {L:Nat} (h:w.heap[L]? =some kK) (d t a v:Int):(yd w L d t a v).heap[L]? =some (.cells #[.int .i64 d,.int .i64 t,.int .i64 a,.int .i64 0,.int .u64 0,.int .u64 v] 40):=by
 unfold yd;exact Je (Je (Je (Je (Je (Je h 0 _) 1 _) 2 _) 3 _) 4 _) 5 _
theorem jK {n L:Nat} {w0:World} (h:Below n w0 w) (hL:n<=L) (d t a v:Int):Below n w0 (yd w L d t a v):=by
 unfold yd;refine Below.setCell ?_ hL _;refine Below.setCell ?_ hL _;refine Below.setCell ?_ hL _;refine Below.setCell ?_ hL _;refine Below.setCell ?_ hL _;refine Below.setCell ?_ hL _;exact h
theorem qs {o:Obj} {W:World} (D:Below (w.alloc o).heap.size (w.alloc o) W):Below w.heap.size w W:=((Below.refl _ w).alloc (Nat.le_refl _) o).trans (D.mono zT)
theorem qH {o:Obj} {W:World} (D:Below (w.alloc o).heap.size (w.alloc o) W):W.heap[w.heap.size]? =some o:=(D.block _ zT).trans (heap_alloc_new w o)
theorem KL {g c n:Nat} {l:List (Int×Int)} {i:Nat} {y:Int×Int} (h:w.ownsRow 0 106 2 (.slice (some ⟨g,0,none⟩) n c) n (jU l)) (hn:i < n) (hy:l[i]? =some y):w.cell? ⟨g,i*2,none⟩=some (.int .i64 y.1)/\w.cell? ⟨g,i*2+1,none⟩=some (.int .u32 y.2):=by
 rw [show i*2=2*i by omega];have hp:=yU l i;rw [hy] at hp;exact ⟨(h.cellAt (2*i) zo).trans hp.1,(h.cellAt (2*i+1) zo).trans hp.2⟩
theorem RT.below (h:RT t p s w b S x) (hb:Below w.heap.size w w'):RT t p s w' b S x:=jA.keep h (Fr.of_below (S:=fun _=>False) hb) (fun _ _ hf=>hf)
theorem tnext_0 (h:RT t p s w b S x) (hp:x.ph=0) :
 Calls prog 15 #[.pointer (some ⟨b,0,none⟩)] w (zW (.tuple #[j8 1 t 8 0,.bool true]) w):=by
 have B0:=zh ((Below.refl w.heap.size w).alloc (Nat.le_refl _) kK);have HC:=zh (fun (W:World) (hb:Below w.heap.size w W)=>kh (h.below hb) 1 8 0);obtain ⟨lv,kv,wv,h⟩:=h;have c0:=h.cell 0;have c3:=h.cell 3;simp [tC,hp] at c0 c3;have zb:=World.block_lt_of_cell? w _ c0;dsimp only at zb;have hL0:(w.alloc kK).heap[w.heap.size]? =some kK:=heap_alloc_new w kK;have HL0:=zh hL0;clear h hL0;go_enter func15,ntmps15;go_wp2_with fail;refine zM (HC.out _ B0.out) fun w1 b1=> ?_;have hL1:w1.heap[w.heap.size]? =some kK:=(b1.block _ zT).trans HL0.out;have HL1:=zh hL1;have B1:=zh (B0.out.trans (b1.mono B0.out.size));have kq:=fun o:Nat=>jd (o:=o) hL1;have kf:=fun o:Nat=>jh (o:=o) hL1;have B2:=zh (jK B1.out (Nat.le_refl w.heap.size) 1 t 8 0);have hL2:=jT hL1 1 t 8 0;have k:=fun o:Nat=>jd (o:=o) hL2;have HK:=zh k;clear hL1 hL2 k b1 HC;unfold j8;unfold kK at kq;go_wp2;have k:=HK.out;unfold yd at k;refine bodyPost_ret (v:= .tuple #[j8 1 t 8 0,.bool true]) (by simp [results,results15,go_sem,k,j8]) rfl ⟨rfl,B2.out⟩
end

section
variable {t p s:Int} {w w' w1:World} {b:Nat} {S:Nat->Prop} {x y:TS}
theorem tnext_15 (h:RT t p s w b S x) (hp:x.ph=15) :
 Calls prog 15 #[.pointer (some ⟨b,0,none⟩)] w (zW (.tuple #[j8 5 t (0) (0),.bool true]) w):=by
 have D0:=zh (Below.refl (w.alloc kK).heap.size (w.alloc kK));have B0:=zh (qs D0.out);have HC:=zh (fun (W:World) (hb:Below w.heap.size w W)=>kh (h.below hb) 5 (0) (0));obtain ⟨lv,kv,wv,h⟩:=h;have c0:=h.cell 0;have c3:=h.cell 3;simp [tC,hp] at c0 c3;have zb:=World.block_lt_of_cell? w _ c0;dsimp only at zb;clear h;go_enter func15,ntmps15;go_wp2_with fail;refine zM (HC.out _ B0.out) fun w1 b1=> ?_;have D1:=zh (D0.out.trans (b1.mono D0.out.size));have B1:=zh (qs D1.out);have hL1:w1.heap[w.heap.size]? =some kK:=qH D1.out;have kq:=fun o:Nat=>jd (o:=o) hL1;have kf:=fun o:Nat=>jh (o:=o) hL1;have BS:=zh (jK B1.out (Nat.le_refl w.heap.size) 5 t (0) (0));have hL2:=jT hL1 5 t (0) (0);have k:=fun o:Nat=>jd (o:=o) hL2;have HK:=zh k;clear hL1 hL2 k;unfold j8;unfold kK at kq;go_wp2;have k:=HK.out;unfold yd at k;refine bodyPost_ret (v:=(.tuple #[j8 5 t (0) (0),.bool true])) (by simp [results,results15,go_sem,k,j8]) rfl ⟨rfl,BS.out⟩
theorem tnext_18 (h:RT t p s w b S x) (hp:x.ph=18) :
 Calls prog 15 #[.pointer (some ⟨b,0,none⟩)] w (zW (.tuple #[j8 5 t (0) (0),.bool true]) w):=by
 have D0:=zh (Below.refl (w.alloc kK).heap.size (w.alloc kK));have B0:=zh (qs D0.out);have HC:=zh (fun (W:World) (hb:Below w.heap.size w W)=>kh (h.below hb) 5 (0) (0));obtain ⟨lv,kv,wv,h⟩:=h;have c0:=h.cell 0;have c3:=h.cell 3;simp [tC,hp] at c0 c3;have zb:=World.block_lt_of_cell? w _ c0;dsimp only at zb;clear h;go_enter func15,ntmps15;go_wp2_with fail;refine zM (HC.out _ B0.out) fun w1 b1=> ?_;have D1:=zh (D0.out.trans (b1.mono D0.out.size));have B1:=zh (qs D1.out);have hL1:w1.heap[w.heap.size]? =some kK:=qH D1.out;have kq:=fun o:Nat=>jd (o:=o) hL1;have kf:=fun o:Nat=>jh (o:=o) hL1;have BS:=zh (jK B1.out (Nat.le_refl w.heap.size) 5 t (0) (0));have hL2:=jT hL1 5 t (0) (0);have k:=fun o:Nat=>jd (o:=o) hL2;have HK:=zh k;clear hL1 hL2 k;unfold j8;unfold kK at kq;go_wp2;have k:=HK.out;unfold yd at k;refine bodyPost_ret (v:=(.tuple #[j8 5 t (0) (0),.bool true])) (by simp [results,results15,go_sem,k,j8]) rfl ⟨rfl,BS.out⟩
theorem tnext_17 (h:RT t p s w b S x) (hp:x.ph=17) :
 Calls prog 15 #[.pointer (some ⟨b,0,none⟩)] w (zW (.tuple #[j8 4 t (8) (0),.bool true]) w):=by
 have D0:=zh (Below.refl (w.alloc kK).heap.size (w.alloc kK));have B0:=zh (qs D0.out);have HC:=zh (fun (W:World) (hb:Below w.heap.size w W)=>kh (h.below hb) 4 (8) (0));obtain ⟨lv,kv,wv,h⟩:=h;have c0:=h.cell 0;have c3:=h.cell 3;simp [tC,hp] at c0 c3;have zb:=World.block_lt_of_cell? w _ c0;dsimp only at zb;clear h;go_enter func15,ntmps15;go_wp2_with fail;refine zM (HC.out _ B0.out) fun w1 b1=> ?_;have D1:=zh (D0.out.trans (b1.mono D0.out.size));have B1:=zh (qs D1.out);have hL1:w1.heap[w.heap.size]? =some kK:=qH D1.out;have kq:=fun o:Nat=>jd (o:=o) hL1;have kf:=fun o:Nat=>jh (o:=o) hL1;have BS:=zh (jK B1.out (Nat.le_refl w.heap.size) 4 t (8) (0));have hL2:=jT hL1 4 t (8) (0);have k:=fun o:Nat=>jd (o:=o) hL2;have HK:=zh k;clear hL1 hL2 k;unfold j8;unfold kK at kq;go_wp2;have k:=HK.out;unfold yd at k;refine bodyPost_ret (v:=(.tuple #[j8 4 t (8) (0),.bool true])) (by simp [results,results15,go_sem,k,j8]) rfl ⟨rfl,BS.out⟩
theorem tnext_1 (h:RT t p s w b S x) (hp:x.ph=1) (hr:jq t p s=true) (h0:0<=x.u) (h1:x.u<=t) :
 Calls prog 15 #[.pointer (some ⟨b,0,none⟩)] w (zW (.tuple #[j8 1 t (jz t p x.u) (0),.bool true]) w):=by
 have D0:=zh (Below.refl (w.alloc kK).heap.size (w.alloc kK));have B0:=zh (qs D0.out);have HC:=zh (fun (W:World) (hb:Below w.heap.size w W)=>kh (h.below hb) 1 (jz t p x.u) (0));have HN:=zh (fun W=>qO hr x.u W h0 h1);obtain ⟨lv,kv,wv,h⟩:=h;have c0:=h.cell 0;have c1:=h.cell 1;have c2:=h.cell 2;have c3:=h.cell 3;have c6:=h.cell 6;simp [tC,hp] at c0 c1 c2 c3 c6;have zb:=World.block_lt_of_cell? w _ c0;dsimp only at zb;clear h;go_enter func15,ntmps15;go_wp2_with fail;have D1:=zh (D0.out.drew);have B1:=zh (qs D1.out);refine wHn4 (zQ ((B1.out.cell (p:=⟨b,0,none⟩) zb).trans c0)) (zQ ((B1.out.cell (p:=⟨b,1,none⟩) zb).trans c1)) (zQ ((B1.out.cell (p:=⟨b,2,none⟩) zb).trans c2)) (zQ ((B1.out.cell (p:=⟨b,6,none⟩) zb).trans c6)) fun hHeld=> ?_;refine wT 0 ?_;refine wY ?_;refine wR 9 fun K hK=> ?_;go_simp;refine zM (HN.out _) fun w2 b2=> ?_;have D2:=zh (D1.out.trans (b2.mono D1.out.size));have B2:=zh (qs D2.out);refine wL hK b2 fun hHeld=> ?_;clear hK K;refine wR 10 fun K hK=> ?_;go_simp;refine zM (HC.out _ B2.out) fun w3 b3=> ?_;have D3:=zh (D2.out.trans (b3.mono D2.out.size));have B3:=zh (qs D3.out);unfold j8;refine wL hK b3 fun hHeld=> ?_;clear hK K;refine wR 11 fun K hK=> ?_;have hL1:w3.heap[w.heap.size]? =some kK:=qH D3.out;have kq:=fun o:Nat=>jd (o:=o) hL1;have kf:=fun o:Nat=>jh (o:=o) hL1;unfold kK at kq;go_simp;have BS:=zh (jK B3.out (Nat.le_refl w.heap.size) 1 t (jz t p x.u) (0));refine wK hK (⟨(BS.out.cell (p:=⟨b,0,none⟩) zb).trans c0,(BS.out.cell (p:=⟨b,1,none⟩) zb).trans c1,(BS.out.cell (p:=⟨b,2,none⟩) zb).trans c2,(BS.out.cell (p:=⟨b,6,none⟩) zb).trans c6⟩) fun hHeld=> ?_;clear hK K;refine wY ?_;refine wD ?_;clear hHeld;clear kq kf;have hL2:=jT hL1 1 t (jz t p x.u) (0);have k:=fun o:Nat=>jd (o:=o) hL2;have HK:=zh k;clear hL1 hL2 k;go_wp2;have k:=HK.out;unfold yd at k;refine bodyPost_ret (v:=(.tuple #[j8 1 t (jz t p x.u) (0),.bool true])) (by simp [results,results15,go_sem,k,j8]) rfl ⟨rfl,BS.out⟩
end
end Go.Proofs.YtcnininelndjoaaGreat

