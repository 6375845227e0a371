/- parts of the proof, merged by a program. -/
import Derived.Test.YtcnininelndjoaaGreatMma16
import Derived.Test.YtcnininelndjoaaGreatMma18
import Derived.Test.YtcnininelndjoaaGreatMma19
set_option linter.unusedSimpArgs false
set_option linter.unusedVariables false
set_option maxRecDepth 100000
set_option maxHeartbeats 4000000
namespace Go.Proofs.YtcnininelndjoaaGreat
open Go.Proofs.Tryz
open Go.RowKit

section
variable {t p s:Int} {w w' w1:World} {b:Nat} {S:Nat->Prop} {x y:TS}
theorem jdv (h:RT t p s w b S x) (hp:x.ph=11) (h1:x.i=x.wr.length) (h2:¬x.wr.length<=0) :
 Calls prog 108 #[.pointer (some ⟨b,0,none⟩)] w fun e w'=>e= .returned (.tuple #[])/\qL t p s w b S (x.to 12) w':=by
 have HL:=zh (jA.lt h);obtain ⟨lv,kv,wv,h⟩:=h;have H0:=zh h;have HS0:Hid (∀k,S k->S k\/w.heap.size<=k):=zh (fun _ hk=> .inl hk);have HF0:=zh (Fr.refl S w);clear h;go_enter func108,ntmps108;go_wp2_with fail;have c3:=H0.out.cell 3;simp [tC,TS.to,hp] at c3;refine wQ ?_;clear c3;have H1:=zh (H0.out.below ((Below.refl _ _).drew));have HF1:=zh (HF0.out.drew);have HS1:=HS0;clear H0 HF0 HS0;go_wp2_with fail;have c3:=H1.out.cell 3;simp [tC,TS.to,hp] at c3;refine wQ ?_;clear c3;have H2:=zh (H1.out.below ((Below.refl _ _).drew));have HF2:=zh (HF1.out.drew);have HS2:=HS1;clear H1 HF1 HS1;go_wp2_with fail;have c3:=H2.out.cell 3;simp [tC,TS.to,hp] at c3;refine wQ ?_;clear c3;have H3:=zh (H2.out.below ((Below.refl _ _).drew));have HF3:=zh (HF2.out.drew);have HS3:=HS2;clear H2 HF2 HS2;go_wp2_with fail;have c3:=H3.out.cell 3;have c4:=H3.out.cell 4;obtain ⟨pa,pc,rfl⟩:=jG H3.out.wr;have c14:=H3.out.cell 14;simp [tC,TS.to,hp] at c3 c4 c14;have g:((x.i:Int) == (x.wr.length:Int))=true:=by rw [beq_iff_eq];omega
 refine wQ ?_;clear c3 c4 c14;have H4:=zh (H3.out.below ((Below.refl _ _).drew));have HF4:=zh (HF3.out.drew);have HS4:=HS3;clear H3 HF3 HS3;go_wp2_with fail;refine zM (kZ ⟨_,_,_,H4.out⟩ 12 (fun h=>absurd h zd)) fun w4 hn=> ?_;obtain ⟨⟨lv4,kv4,wv4,hn1⟩,hn2⟩:=hn;have H5:=zh hn1;have HS5:=zh (Kn (wb:=w4) HS4.out HF4.out);have HF5:=zh (HF4.out.trans hn2 (fun k hk=>HS4.out k hk));clear hn1 hn2 H4 HF4 HS4;have g5:=g;clear g;go_wp2_with fail;have c3:=H5.out.cell 3;have c4:=H5.out.cell 4;obtain ⟨pa,pc,rfl⟩:=jG H5.out.wr;have c14:=H5.out.cell 14;simp [tC,TS.to] at c3 c4 c14;have gq:¬x.wr=[]:=fun e=>by rw [e] at h2;exact h2 (Nat.le_refl _)
 have g:decide ((x.wr.length:Int)<=0)=false:=by rw [decide_eq_false_iff_not];omega
 refine wQ ?_;clear c3 c4 c14;have H6:=zh (H5.out.below ((Below.refl _ _).drew));have HF6:=zh (HF5.out.drew);have HS6:=HS5;clear H5 HF5 HS5;have g6:=g;clear g;go_wp2;go_end0;exact ⟨rfl,Vm ⟨_,_,_,H6.out⟩ HS6.out HF6.out HL.out⟩
theorem jds (h:RT t p s w b S x) (hp:x.ph=12) (h1:¬x.wr.length<=x.i) :
 Calls prog 108 #[.pointer (some ⟨b,0,none⟩)] w fun e w'=>e= .returned (.tuple #[])/\qL t p s w b S x w':=by
 have HL:=zh (jA.lt h);obtain ⟨lv,kv,wv,h⟩:=h;have H0:=zh h;have HS0:Hid (∀k,S k->S k\/w.heap.size<=k):=zh (fun _ hk=> .inl hk);have HF0:=zh (Fr.refl S w);clear h;go_enter func108,ntmps108;go_wp2_with fail;have c3:=H0.out.cell 3;simp [tC,TS.to,hp] at c3;refine wQ ?_;clear c3;have H1:=zh (H0.out.below ((Below.refl _ _).drew));have HF1:=zh (HF0.out.drew);have HS1:=HS0;clear H0 HF0 HS0;go_wp2_with fail;have c3:=H1.out.cell 3;simp [tC,TS.to,hp] at c3;refine wQ ?_;clear c3;have H2:=zh (H1.out.below ((Below.refl _ _).drew));have HF2:=zh (HF1.out.drew);have HS2:=HS1;clear H1 HF1 HS1;go_wp2_with fail;have c3:=H2.out.cell 3;simp [tC,TS.to,hp] at c3;refine wQ ?_;clear c3;have H3:=zh (H2.out.below ((Below.refl _ _).drew));have HF3:=zh (HF2.out.drew);have HS3:=HS2;clear H2 HF2 HS2;go_wp2_with fail;have c3:=H3.out.cell 3;simp [tC,TS.to,hp] at c3;refine wQ ?_;clear c3;have H4:=zh (H3.out.below ((Below.refl _ _).drew));have HF4:=zh (HF3.out.drew);have HS4:=HS3;clear H3 HF3 HS3;go_wp2_with fail;have c3:=H4.out.cell 3;have c4:=H4.out.cell 4;obtain ⟨pa,pc,rfl⟩:=jG H4.out.wr;have c14:=H4.out.cell 14;simp [tC,TS.to,hp] at c3 c4 c14;have g:decide ((x.wr.length:Int)<=(x.i:Int))=false:=by rw [decide_eq_false_iff_not];omega
 refine wQ ?_;clear c3 c4 c14;have H5:=zh (H4.out.below ((Below.refl _ _).drew));have HF5:=zh (HF4.out.drew);have HS5:=HS4;clear H4 HF4 HS4;have g5:=g;clear g;go_wp2;go_end0;exact ⟨rfl,Vm ⟨_,_,_,H5.out⟩ HS5.out HF5.out HL.out⟩
theorem jdt (h:RT t p s w b S x) (hp:x.ph=12) (h1:x.wr.length<=x.i) :
 Calls prog 108 #[.pointer (some ⟨b,0,none⟩)] w fun e w'=>e= .returned (.tuple #[])/\qL t p s w b S (x.to 13) w':=by
 have HL:=zh (jA.lt h);obtain ⟨lv,kv,wv,h⟩:=h;have H0:=zh h;have HS0:Hid (∀k,S k->S k\/w.heap.size<=k):=zh (fun _ hk=> .inl hk);have HF0:=zh (Fr.refl S w);clear h;go_enter func108,ntmps108;go_wp2_with fail;have c3:=H0.out.cell 3;simp [tC,TS.to,hp] at c3;refine wQ ?_;clear c3;have H1:=zh (H0.out.below ((Below.refl _ _).drew));have HF1:=zh (HF0.out.drew);have HS1:=HS0;clear H0 HF0 HS0;go_wp2_with fail;have c3:=H1.out.cell 3;simp [tC,TS.to,hp] at c3;refine wQ ?_;clear c3;have H2:=zh (H1.out.below ((Below.refl _ _).drew));have HF2:=zh (HF1.out.drew);have HS2:=HS1;clear H1 HF1 HS1;go_wp2_with fail;have c3:=H2.out.cell 3;simp [tC,TS.to,hp] at c3;refine wQ ?_;clear c3;have H3:=zh (H2.out.below ((Below.refl _ _).drew));have HF3:=zh (HF2.out.drew);have HS3:=HS2;clear H2 HF2 HS2;go_wp2_with fail;have c3:=H3.out.cell 3;simp [tC,TS.to,hp] at c3;refine wQ ?_;clear c3;have H4:=zh (H3.out.below ((Below.refl _ _).drew));have HF4:=zh (HF3.out.drew);have HS4:=HS3;clear H3 HF3 HS3;go_wp2_with fail;have c3:=H4.out.cell 3;have c4:=H4.out.cell 4;obtain ⟨pa,pc,rfl⟩:=jG H4.out.wr;have c14:=H4.out.cell 14;simp [tC,TS.to,hp] at c3 c4 c14;have g:decide ((x.wr.length:Int)<=(x.i:Int))=true:=by rw [decide_eq_true_iff];omega
 refine wQ ?_;clear c3 c4 c14;have H5:=zh (H4.out.below ((Below.refl _ _).drew));have HF5:=zh (HF4.out.drew);have HS5:=HS4;clear H4 HF4 HS4;go_wp2_with fail;refine zM (kZ ⟨_,_,_,H5.out⟩ 13 (fun h=>absurd h zd)) fun w5 hn=> ?_;obtain ⟨⟨lv5,kv5,wv5,hn1⟩,hn2⟩:=hn;have H6:=zh hn1;have HS6:=zh (Kn (wb:=w5) HS5.out HF5.out);have HF6:=zh (HF5.out.trans hn2 (fun k hk=>HS5.out k hk));clear hn1 hn2 H5 HF5 HS5;have g6:=g;clear g;go_wp2;go_end0;exact ⟨rfl,Vm ⟨_,_,_,H6.out⟩ HS6.out HF6.out HL.out⟩
end

section
variable {t p s:Int} {w w' w1:World} {b:Nat} {S:Nat->Prop} {x y:TS}
theorem RT.nowBelow (h:RT t p s w b S x) (hb:Below w.heap.size w w'):qL t p s w b S x w':=
 Vm (jA.keep h (Fr.of_below (S:=fun _=>False) hb) (fun _ _ hf=>hf)) (fun _ hk=> .inl hk) (Fr.of_below hb) (jA.lt h)
theorem jdr (h:RT t p s w b S x) (h3:x.ph=3->x.l≠[]) (h11:x.ph=11->x.wr≠[]) :
 Calls prog 108 #[.pointer (some ⟨b,0,none⟩)] w fun e w'=>e= .returned (.tuple #[])/\qL t p s w b S (ju x) w':=by
 by_cases p2:x.ph=2
 ·by_cases hi:(x.i:Int)=x.n
  ·by_cases hl:x.l=[]
   ·have e:ju x=((x.to 3).to 5).to 6:=by simp [ju,qb,qB,qA,qy,qx,TS.to,p2,hi,hl]
    rw [e];exact tskip_20 h p2 hi (by rw [hl];rfl)
   ·have hl':0≠x.l.length:=by have:=List.length_pos_iff.2 hl;omega
    have e:ju x=x.to 3:=by simp [ju,qb,qB,qA,qy,qx,TS.to,p2,hi,hl,hl']
    rw [e];exact tskip_2l h p2 hi hl'
  ·have e:ju x=x:=by simp [ju,qb,qB,qA,qy,qx,p2,hi]
   rw [e];exact tskip_2n h p2 hi
 by_cases p3:x.ph=3
 ·have hl:=h3 p3;have hl':0≠x.l.length:=by have:=List.length_pos_iff.2 hl;omega
  by_cases hi:x.i=x.l.length
  ·have e:ju x=x.to 5:=by simp [ju,qb,qB,qA,qy,qx,TS.to,p3,hi,hl,hl']
   rw [e];exact tskip_3l h p3 hi hl'
  ·have e:ju x=x:=by simp [ju,qb,qB,qA,qy,qx,p3,hi]
   rw [e];exact tskip_3n h p3 hi
 by_cases p5:x.ph=5
 ·by_cases hi:x.i=x.l.length
  ·have e:ju x=x.to 6:=by simp [ju,qb,qB,qA,qy,qx,TS.to,p5,hi]
   rw [e];exact tskip_5l h p5 hi
  ·have e:ju x=x:=by simp [ju,qb,qB,qA,qy,qx,p5,hi]
   rw [e];exact tskip_5n h p5 hi
 by_cases p11:x.ph=11
 ·have hl:=h11 p11;have hl':¬x.wr.length<=0:=by have:=List.length_pos_iff.2 hl;omega
  by_cases hi:x.i=x.wr.length
  ·have e:ju x=x.to 12:=by simp [ju,qb,qB,qA,qy,qx,TS.to,p11,hi,hl]
   rw [e];exact jdv h p11 hi hl'
  ·have e:ju x=x:=by simp [ju,qb,qB,qA,qy,qx,p11,hi]
   rw [e];exact jdu h p11 hi
 by_cases p12:x.ph=12
 ·by_cases hi:x.wr.length<=x.i
  ·have e:ju x=x.to 13:=by simp [ju,qb,qB,qA,qy,qx,TS.to,p12,hi]
   rw [e];exact jdt h p12 hi
  ·have e:ju x=x:=by simp [ju,qb,qB,qA,qy,qx,p12,hi]
   rw [e];exact jds h p12 hi
 have e:ju x=x:=by simp [ju,qb,qB,qA,qy,qx,p2,p3,p5,p11,p12]
 rw [e];exact (jb1 h ⟨p2,p3,p5,p11,p12⟩).mono fun e w' hh=>⟨hh.1,h.nowBelow hh.2⟩
end

section
variable {t p s:Int} {w w' w1:World} {b:Nat} {S:Nat->Prop} {x y:TS}
theorem qL.skip (h0:∀k,S k->k < w.heap.size) (hn:qL t p s w b S y w1) (h3:y.ph=3->y.l≠[]) (h11:y.ph=11->y.wr≠[]) :
 Calls prog 108 #[.pointer (some ⟨b,0,none⟩)] w1 fun e w'=>e= .returned (.tuple #[])/\qL t p s w b S (ju y) w':=by
 refine zM (jdr hn.1 h3 h11) ?_;rintro w' ⟨h1,h2⟩;exact ⟨rfl,Vm h1 (Kn (fun k hk=>by
  rcases hk with hk | hk
  ·exact .inl hk
  ·exact .inr hk.1) hn.2) (hn.2.trans h2 (fun k hk=>by
  rcases hk with hk | hk
  ·exact .inl hk
  ·exact .inr hk.1)) h0⟩
theorem Ki (hi:JG t p y):(y.ph=3->y.l≠[])/\(y.ph=11->y.wr≠[]):=
 ⟨fun e hl=>by have:=hi.h3 (.inl e);rw [hl] at this;exact absurd this (Nat.not_lt_zero _),fun e hl=>by have:=hi.hi (.inl e);rw [hl] at this;exact absurd this (Nat.not_lt_zero _)⟩
theorem ttold_6 {v:Int} (h:RT t p s w b S x) (hp:x.ph=6) :
 Calls prog 56 #[.pointer (some ⟨b,0,none⟩),.int .u64 v] w fun e w'=>e= .returned (.tuple #[])/\qL t p s w b S (ju (x.to 7)) w':=by
 have HL:=zh (jA.lt h);have HSK:=zh (fun W (hn:qL t p s w b S (x.to 7) W)=>hn.skip (jA.lt h) (fun e=>by cases e) (fun e=>by cases e));have HT:=zh (kZ h 7 (fun hk=>absurd hk zd));obtain ⟨lv,kv,wv,h⟩:=h;have HR:=zh h;have c3:=h.cell 3;have f3:=h.fz 3;simp [tC,hp] at c3;clear h;generalize ju (x.to 7)=yz at*
 go_enter func56,ntmps56;go_wp2_with fail;refine zM HT.out fun w1 hn=> ?_;clear HT;have HS1:=zh (HSK.out _ hn);clear hn HSK;go_wp2_with fail;refine zM HS1.out fun wz hn=> ?_;have HN:=zh hn;clear hn HS1;go_wp2;go_end0;exact ⟨rfl,HN.out⟩
theorem ttold_7 {v:Int} (h:RT t p s w b S x) (hp:x.ph=7) :
 Calls prog 56 #[.pointer (some ⟨b,0,none⟩),.int .u64 v] w fun e w'=>e= .returned (.tuple #[])/\qL t p s w b S (ju (x.to 8)) w':=by
 have HL:=zh (jA.lt h);have HSK:=zh (fun W (hn:qL t p s w b S (x.to 8) W)=>hn.skip (jA.lt h) (fun e=>by cases e) (fun e=>by cases e));have HT:=zh (kZ h 8 (fun hk=>absurd hk zd));obtain ⟨lv,kv,wv,h⟩:=h;have HR:=zh h;have c3:=h.cell 3;have f3:=h.fz 3;simp [tC,hp] at c3;clear h;generalize ju (x.to 8)=yz at*
 go_enter func56,ntmps56;go_wp2_with fail;refine zM HT.out fun w1 hn=> ?_;clear HT;have HS1:=zh (HSK.out _ hn);clear hn HSK;go_wp2_with fail;refine zM HS1.out fun wz hn=> ?_;have HN:=zh hn;clear hn HS1;go_wp2;go_end0;exact ⟨rfl,HN.out⟩
theorem ttold_8 {v:Int} (h:RT t p s w b S x) (hp:x.ph=8) :
 Calls prog 56 #[.pointer (some ⟨b,0,none⟩),.int .u64 v] w fun e w'=>e= .returned (.tuple #[])/\qL t p s w b S (ju (x.to 9)) w':=by
 have HL:=zh (jA.lt h);have HSK:=zh (fun W (hn:qL t p s w b S (x.to 9) W)=>hn.skip (jA.lt h) (fun e=>by cases e) (fun e=>by cases e));have HT:=zh (kZ h 9 (fun hk=>absurd hk zd));obtain ⟨lv,kv,wv,h⟩:=h;have HR:=zh h;have c3:=h.cell 3;have f3:=h.fz 3;simp [tC,hp] at c3;clear h;generalize ju (x.to 9)=yz at*
 go_enter func56,ntmps56;go_wp2_with fail;refine zM HT.out fun w1 hn=> ?_;clear HT;have HS1:=zh (HSK.out _ hn);clear hn HSK;go_wp2_with fail;refine zM HS1.out fun wz hn=> ?_;have HN:=zh hn;clear hn HS1;go_wp2;go_end0;exact ⟨rfl,HN.out⟩
theorem ttold_13 {v:Int} (h:RT t p s w b S x) (hp:x.ph=13) :
 Calls prog 56 #[.pointer (some ⟨b,0,none⟩),.int .u64 v] w fun e w'=>e= .returned (.tuple #[])/\qL t p s w b S (ju (x.to 14)) w':=by
 have HL:=zh (jA.lt h);have HSK:=zh (fun W (hn:qL t p s w b S (x.to 14) W)=>hn.skip (jA.lt h) (fun e=>by cases e) (fun e=>by cases e));have HT:=zh (kZ h 14 (fun hk=>absurd hk zd));obtain ⟨lv,kv,wv,h⟩:=h;have HR:=zh h;have c3:=h.cell 3;have f3:=h.fz 3;simp [tC,hp] at c3;clear h;generalize ju (x.to 14)=yz at*
 go_enter func56,ntmps56;go_wp2_with fail;refine zM HT.out fun w1 hn=> ?_;clear HT;have HS1:=zh (HSK.out _ hn);clear hn HSK;go_wp2_with fail;refine zM HS1.out fun wz hn=> ?_;have HN:=zh hn;clear hn HS1;go_wp2;go_end0;exact ⟨rfl,HN.out⟩
theorem ttold_14 {v:Int} (h:RT t p s w b S x) (hp:x.ph=14) :
 Calls prog 56 #[.pointer (some ⟨b,0,none⟩),.int .u64 v] w fun e w'=>e= .returned (.tuple #[])/\qL t p s w b S (ju (x.to 15)) w':=by
 have HL:=zh (jA.lt h);have HSK:=zh (fun W (hn:qL t p s w b S (x.to 15) W)=>hn.skip (jA.lt h) (fun e=>by cases e) (fun e=>by cases e));have HT:=zh (kZ h 15 (fun hk=>absurd hk zd));obtain ⟨lv,kv,wv,h⟩:=h;have HR:=zh h;have c3:=h.cell 3;have f3:=h.fz 3;simp [tC,hp] at c3;clear h;generalize ju (x.to 15)=yz at*
 go_enter func56,ntmps56;go_wp2_with fail;refine zM HT.out fun w1 hn=> ?_;clear HT;have HS1:=zh (HSK.out _ hn);clear hn HSK;go_wp2_with fail;refine zM HS1.out fun wz hn=> ?_;have HN:=zh hn;clear hn HS1;go_wp2;go_end0;exact ⟨rfl,HN.out⟩
theorem ttold_15 {v:Int} (h:RT t p s w b S x) (hp:x.ph=15) :
 Calls prog 56 #[.pointer (some ⟨b,0,none⟩),.int .u64 v] w fun e w'=>e= .returned (.tuple #[])/\qL t p s w b S (ju (x.to 16)) w':=by
 have HL:=zh (jA.lt h);have HSK:=zh (fun W (hn:qL t p s w b S (x.to 16) W)=>hn.skip (jA.lt h) (fun e=>by cases e) (fun e=>by cases e));have HT:=zh (kZ h 16 (fun hk=>absurd hk zd));obtain ⟨lv,kv,wv,h⟩:=h;have HR:=zh h;have c3:=h.cell 3;have f3:=h.fz 3;simp [tC,hp] at c3;clear h;generalize ju (x.to 16)=yz at*
 go_enter func56,ntmps56;go_wp2_with fail;refine zM HT.out fun w1 hn=> ?_;clear HT;have HS1:=zh (HSK.out _ hn);clear hn HSK;go_wp2_with fail;refine zM HS1.out fun wz hn=> ?_;have HN:=zh hn;clear hn HS1;go_wp2;go_end0;exact ⟨rfl,HN.out⟩
theorem ttold_17 {v:Int} (h:RT t p s w b S x) (hp:x.ph=17) :
 Calls prog 56 #[.pointer (some ⟨b,0,none⟩),.int .u64 v] w fun e w'=>e= .returned (.tuple #[])/\qL t p s w b S (ju (x.to 18)) w':=by
 have HL:=zh (jA.lt h);have HSK:=zh (fun W (hn:qL t p s w b S (x.to 18) W)=>hn.skip (jA.lt h) (fun e=>by cases e) (fun e=>by cases e));have HT:=zh (kZ h 18 (fun hk=>absurd hk zd));obtain ⟨lv,kv,wv,h⟩:=h;have HR:=zh h;have c3:=h.cell 3;have f3:=h.fz 3;simp [tC,hp] at c3;clear h;generalize ju (x.to 18)=yz at*
 go_enter func56,ntmps56;go_wp2_with fail;refine zM HT.out fun w1 hn=> ?_;clear HT;have HS1:=zh (HSK.out _ hn);clear hn HSK;go_wp2_with fail;refine zM HS1.out fun wz hn=> ?_;have HN:=zh hn;clear hn HS1;go_wp2;go_end0;exact ⟨rfl,HN.out⟩
theorem ttold_18 {v:Int} (h:RT t p s w b S x) (hp:x.ph=18) (hl:x.l≠[]) :
 Calls prog 56 #[.pointer (some ⟨b,0,none⟩),.int .u64 v] w fun e w'=>e= .returned (.tuple #[])/\qL t p s w b S (ju (x.to 3)) w':=by
 have HL:=zh (jA.lt h);have HSK:=zh (fun W (hn:qL t p s w b S (x.to 3) W)=>hn.skip (jA.lt h) (fun _=>hl) (fun e=>by cases e));have HT:=zh (kZ h 3 (fun hk=>absurd hk zd));obtain ⟨lv,kv,wv,h⟩:=h;have HR:=zh h;have c3:=h.cell 3;have f3:=h.fz 3;simp [tC,hp] at c3;clear h;clear hl;generalize ju (x.to 3)=yz at*
 go_enter func56,ntmps56;go_wp2_with fail;refine zM HT.out fun w1 hn=> ?_;clear HT;have HS1:=zh (HSK.out _ hn);clear hn HSK;go_wp2_with fail;refine zM HS1.out fun wz hn=> ?_;have HN:=zh hn;clear hn HS1;go_wp2;go_end0;exact ⟨rfl,HN.out⟩
end

section
variable {t p s:Int} {w w' w1:World} {b:Nat} {S:Nat->Prop} {x y:TS}
theorem ttold_9 {v:Int} (h:RT t p s w b S x) (hp:x.ph=9) (hr:jq t p s=true) (hi:JG t p (jB t p s { x with page:=if x.own=true then x.page+1 else x.page,known:=[] })) (hpg:(x.page:Int)<=p) (ho:x.own=true->(x.page:Int) < p) :
 Calls prog 56 #[.pointer (some ⟨b,0,none⟩),.int .u64 v] w fun e w'=>e= .returned (.tuple #[])/\qL t p s w b S (ju (jB t p s { x with page:=if x.own=true then x.page+1 else x.page,known:=[] })) w':=by
 have HL:=zh (jA.lt h);have HSK:=zh (fun W (hn:qL t p s w b S (jB t p s { x with page:=if x.own=true then x.page+1 else x.page,known:=[] }) W)=>hn.skip (jA.lt h) (Ki hi).1 (Ki hi).2);have HT:=zh (jax h hr hpg ho);obtain ⟨lv,kv,wv,h⟩:=h;have HR:=zh h;have c3:=h.cell 3;have f3:=h.fz 3;simp [tC,hp] at c3;clear h;clear hi hpg ho hr;generalize ju (jB t p s { x with page:=if x.own=true then x.page+1 else x.page,known:=[] })=yz at*
 go_enter func56,ntmps56;go_wp2_with fail;refine zM HT.out fun w1 hn=> ?_;clear HT;have HS1:=zh (HSK.out _ hn);clear hn HSK;go_wp2_with fail;refine zM HS1.out fun wz hn=> ?_;have HN:=zh hn;clear hn HS1;go_wp2;go_end0;exact ⟨rfl,HN.out⟩
theorem ttold_16 {v:Int} (h:RT t p s w b S x) (hp:x.ph=16) (hs:0<=x.s/\x.s+1 < 4294967296) (hl:x.wr.length<=96) :
 Calls prog 56 #[.pointer (some ⟨b,0,none⟩),.int .u64 v] w fun e w'=>e= .returned (.tuple #[])/\qL t p s w b S (ju (({ x with note:=x.openN,s:=x.s+1,made:=x.s+1,u:=t,l:=x.wr,own:=true }:TS).to 17)) w':=by
 have HL:=zh (jA.lt h);have HSK:=zh (fun W (hn:qL t p s w b S (({ x with note:=x.openN,s:=x.s+1,made:=x.s+1,u:=t,l:=x.wr,own:=true }:TS).to 17) W)=>hn.skip (jA.lt h) (fun e=>by cases e) (fun e=>by cases e));have HT:=zh (jdH h hs hl zo);obtain ⟨lv,kv,wv,h⟩:=h;have HR:=zh h;have c3:=h.cell 3;have f3:=h.fz 3;simp [tC,hp] at c3;clear h;clear hs hl;generalize ju (({ x with note:=x.openN,s:=x.s+1,made:=x.s+1,u:=t,l:=x.wr,own:=true }:TS).to 17)=yz at*
 go_enter func56,ntmps56;go_wp2_with fail;refine zM HT.out fun w1 hn=> ?_;clear HT;have HS1:=zh (HSK.out _ hn);clear hn HSK;go_wp2_with fail;refine zM HS1.out fun wz hn=> ?_;have HN:=zh hn;clear hn HS1;go_wp2;go_end0;exact ⟨rfl,HN.out⟩
theorem ttold_1n {v:Int} (h:RT t p s w b S x) (hp:x.ph=1) (hr:jq t p s=true) (hv:U64 v) (ho:qQ v x.s=none) (hok:jc8 x.known) (hi:JG t p (jB t p s x)) (hpg:(x.page:Int)<=p) :
 Calls prog 56 #[.pointer (some ⟨b,0,none⟩),.int .u64 v] w fun e w'=>e= .returned (.tuple #[])/\qL t p s w b S (ju (jB t p s x)) w':=by
 have HL:=zh (jA.lt h);have HSK:=zh (fun W (hn:qL t p s w b S (jB t p s x) W)=>hn.skip (jA.lt h) (Ki hi).1 (Ki hi).2);have HT:=zh (jdG h hr hv ho hok hpg);obtain ⟨lv,kv,wv,h⟩:=h;have HR:=zh h;have c3:=h.cell 3;have f3:=h.fz 3;simp [tC,hp] at c3;clear h;clear hi hpg ho hr hok hv;generalize ju (jB t p s x)=yz at*
 go_enter func56,ntmps56;go_wp2_with fail;refine zM HT.out fun w1 hn=> ?_;clear HT;have HS1:=zh (HSK.out _ hn);clear hn HSK;go_wp2_with fail;refine zM HS1.out fun wz hn=> ?_;have HN:=zh hn;clear hn HS1;go_wp2;go_end0;exact ⟨rfl,HN.out⟩
theorem ttold_1s {v:Int} (h:RT t p s w b S x) {n:Int} (hp:x.ph=1) (hv:U64 v) (ho:qQ v x.s=some n) :
 Calls prog 56 #[.pointer (some ⟨b,0,none⟩),.int .u64 v] w fun e w'=>e= .returned (.tuple #[])/\qL t p s w b S (ju (({ x with note:=v,n:=n }:TS).to 2)) w':=by
 have HL:=zh (jA.lt h);have HSK:=zh (fun W (hn:qL t p s w b S (({ x with note:=v,n:=n }:TS).to 2) W)=>hn.skip (jA.lt h) (fun e=>by cases e) (fun e=>by cases e));have HT:=zh (jb2 h hv ho zo);obtain ⟨lv,kv,wv,h⟩:=h;have HR:=zh h;have c3:=h.cell 3;have f3:=h.fz 3;simp [tC,hp] at c3;clear h;clear ho hv;generalize ju (({ x with note:=v,n:=n }:TS).to 2)=yz at*
 go_enter func56,ntmps56;go_wp2_with fail;refine zM HT.out fun w1 hn=> ?_;clear HT;have HS1:=zh (HSK.out _ hn);clear hn HSK;go_wp2_with fail;refine zM HS1.out fun wz hn=> ?_;have HN:=zh hn;clear hn HS1;go_wp2;go_end0;exact ⟨rfl,HN.out⟩
end

section
variable {t p s:Int} {w w' w1:World} {b:Nat} {S:Nat->Prop} {x y:TS}
theorem ttold_5 {v:Int} (h:RT t p s w b S x) (hp:x.ph=5) (hi:x.i<=96) :
 Calls prog 56 #[.pointer (some ⟨b,0,none⟩),.int .u64 v] w fun e w'=>e= .returned (.tuple #[])/\qL t p s w b S (ju ({ x with i:=x.i+1 }:TS)) w':=by
 have HL:=zh (jA.lt h);have HSK:=zh (fun W (hn:qL t p s w b S ({ x with i:=x.i+1 }:TS) W)=>hn.skip (jA.lt h) (fun e=>by simp only at e;omega) (fun e=>by simp only at e;omega));have hw:IntKind.i64.wrap ((x.i:Int)+1)=(x.i:Int)+1:=jr _ zo;obtain ⟨lv,kv,wv,h⟩:=h;have HR:=zh h;have c3:=h.cell 3;have c4:=h.cell 4;have f3:=h.fz 3;have f4:=h.fz 4;simp [tC,hp] at c3 c4;clear h;clear hi;generalize ju ({ x with i:=x.i+1 }:TS)=yz at*
 go_enter func56,ntmps56;have H1:=(HR.out.set (x':={ x with i:=x.i+1 }) 4 (.int .i64 ((x.i:Int)+1)) rfl (.inl ⟨rfl,rfl⟩) (.inl ⟨rfl,rfl⟩) ⟨rfl,rfl⟩ id)
 have HF:=(Fr.refl S w).setCell ⟨b,4,none⟩ (.int .i64 ((x.i:Int)+1)) (.inl HR.out.inb);have hn:=H1.now HF HL.out;clear H1 HF;have HS1:=zh (HSK.out _ hn);clear hn HSK;go_wp2_with fail;refine zM HS1.out fun wz hn=> ?_;have HN:=zh hn;clear hn HS1;go_wp2;go_end0;exact ⟨rfl,HN.out⟩
theorem ttold_11 {v:Int} (h:RT t p s w b S x) (hp:x.ph=11) (hi:x.i<=96) (hl:x.wr≠[]) :
 Calls prog 56 #[.pointer (some ⟨b,0,none⟩),.int .u64 v] w fun e w'=>e= .returned (.tuple #[])/\qL t p s w b S (ju ({ x with i:=x.i+1 }:TS)) w':=by
 have HL:=zh (jA.lt h);have HSK:=zh (fun W (hn:qL t p s w b S ({ x with i:=x.i+1 }:TS) W)=>hn.skip (jA.lt h) (fun e=>by simp only at e;omega) (fun _=>hl));have hw:IntKind.i64.wrap ((x.i:Int)+1)=(x.i:Int)+1:=jr _ zo;obtain ⟨lv,kv,wv,h⟩:=h;have HR:=zh h;have c3:=h.cell 3;have c4:=h.cell 4;have f3:=h.fz 3;have f4:=h.fz 4;simp [tC,hp] at c3 c4;clear h;clear hi hl;generalize ju ({ x with i:=x.i+1 }:TS)=yz at*
 go_enter func56,ntmps56;have H1:=(HR.out.set (x':={ x with i:=x.i+1 }) 4 (.int .i64 ((x.i:Int)+1)) rfl (.inl ⟨rfl,rfl⟩) (.inl ⟨rfl,rfl⟩) ⟨rfl,rfl⟩ id)
 have HF:=(Fr.refl S w).setCell ⟨b,4,none⟩ (.int .i64 ((x.i:Int)+1)) (.inl HR.out.inb);have hn:=H1.now HF HL.out;clear H1 HF;have HS1:=zh (HSK.out _ hn);clear hn HSK;go_wp2_with fail;refine zM HS1.out fun wz hn=> ?_;have HN:=zh hn;clear hn HS1;go_wp2;go_end0;exact ⟨rfl,HN.out⟩
theorem ttold_12 {v:Int} (h:RT t p s w b S x) (hp:x.ph=12) (hi:x.i<=96) :
 Calls prog 56 #[.pointer (some ⟨b,0,none⟩),.int .u64 v] w fun e w'=>e= .returned (.tuple #[])/\qL t p s w b S (ju ({ x with i:=x.i+8 }:TS)) w':=by
 have HL:=zh (jA.lt h);have HSK:=zh (fun W (hn:qL t p s w b S ({ x with i:=x.i+8 }:TS) W)=>hn.skip (jA.lt h) (fun e=>by simp only at e;omega) (fun e=>by simp only at e;omega));have hw:IntKind.i64.wrap ((x.i:Int)+8)=(x.i:Int)+8:=jr _ zo;obtain ⟨lv,kv,wv,h⟩:=h;have HR:=zh h;have c3:=h.cell 3;have c4:=h.cell 4;have f3:=h.fz 3;have f4:=h.fz 4;simp [tC,hp] at c3 c4;clear h;clear hi;generalize ju ({ x with i:=x.i+8 }:TS)=yz at*
 go_enter func56,ntmps56;have H1:=(HR.out.set (x':={ x with i:=x.i+8 }) 4 (.int .i64 ((x.i:Int)+8)) rfl (.inl ⟨rfl,rfl⟩) (.inl ⟨rfl,rfl⟩) ⟨rfl,rfl⟩ id)
 have HF:=(Fr.refl S w).setCell ⟨b,4,none⟩ (.int .i64 ((x.i:Int)+8)) (.inl HR.out.inb);have hn:=H1.now HF HL.out;clear H1 HF;have HS1:=zh (HSK.out _ hn);clear hn HSK;go_wp2_with fail;refine zM HS1.out fun wz hn=> ?_;have HN:=zh hn;clear hn HS1;go_wp2;go_end0;exact ⟨rfl,HN.out⟩
end

section
variable {t p s:Int} {w w' w1:World} {b:Nat} {S:Nat->Prop} {x y:TS}
theorem ttold_0 {v s0 u:Int} (h:RT t p s w b S x) (hp:x.ph=0) (hv:U64 v) (ht:QF v=some (s0,u)) :
 Calls prog 56 #[.pointer (some ⟨b,0,none⟩),.int .u64 v] w fun e w'=>e= .returned (.tuple #[])/\qL t p s w b S (ju (({ x with s:=s0,u:=u }:TS).to 1)) w':=by
 have HL:=zh (jA.lt h);have HSK:=zh (fun W (hn:qL t p s w b S (({ x with s:=s0,u:=u }:TS).to 1) W)=>hn.skip (jA.lt h) (fun e=>by cases e) (fun e=>by cases e));have HO:=zh (fun w=>Q9 v s0 u w hv ht);obtain ⟨lv,kv,wv,h⟩:=h;have HR:=zh h;have c3:=h.cell 3;simp [tC,hp] at c3;clear h hv ht;generalize ju (({ x with s:=s0,u:=u }:TS).to 1)=yz at*
 go_enter func56,ntmps56;go_wp2_with fail;refine zM (HO.out _) fun w1 b1=> ?_;have h1:=HR.out.below b1;have h2:=h1.set (x':={ x with s:=s0 }) 5 (.int .u32 s0) rfl (.inl ⟨rfl,rfl⟩) (.inl ⟨rfl,rfl⟩) ⟨rfl,rfl⟩ id;have h3:=h2.set (x':={ x with s:=s0,u:=u }) 6 (.int .i64 u) rfl (.inl ⟨rfl,rfl⟩) (.inl ⟨rfl,rfl⟩) ⟨rfl,rfl⟩ id;have c5:=h1.cell 5;have f5:=h1.fz 5;have c6:=h1.cell 6;have f6:=h1.fz 6;simp [tC] at c5 c6;have HF:=zh (((Fr.of_below (S:=S) b1).setCell ⟨b,5,none⟩ (.int .u32 s0) (.inl h1.inb)).setCell ⟨b,6,none⟩ (.int .i64 u) (.inl h1.inb));have HT:=zh (kZ ⟨_,_,_,h3⟩ 1 (fun _=>by show x.ph<=2;omega));clear h1 h2 h3 b1 HR;go_wp2_with fail;refine zM HT.out fun w2 hn=> ?_;have HS1:=zh (HSK.out _ (qL.comp HF.out HL.out hn));clear hn HSK HT HF;go_wp2_with fail;refine zM HS1.out fun wz hn=> ?_;have HN:=zh hn;clear hn HS1;go_wp2;go_end0;exact ⟨rfl,HN.out⟩
theorem ttold_4 {v:Int} (h:RT t p s w b S x) (hp:x.ph=4) (hi:x.i<=96) (hl:x.l≠[]) :
 Calls prog 56 #[.pointer (some ⟨b,0,none⟩),.int .u64 v] w fun e w'=>e= .returned (.tuple #[])/\qL t p s w b S (ju { x with ph:=3,i:=x.i+1 }) w':=by
 have HL:=zh (jA.lt h);have HSK:=zh (fun W (hn:qL t p s w b S { x with ph:=3,i:=x.i+1 } W)=>hn.skip (jA.lt h) (fun _=>hl) (fun e=>by simp at e));have hw:IntKind.i64.wrap ((x.i:Int)+1)=(x.i:Int)+1:=jr _ zo;obtain ⟨lv,kv,wv,h⟩:=h;have HR:=zh h;have c3:=h.cell 3;have c4:=h.cell 4;have f3:=h.fz 3;have f4:=h.fz 4;simp [tC,hp] at c3 c4;clear h hl hi;generalize ju { x with ph:=3,i:=x.i+1 }=yz at*
 go_enter func56,ntmps56;have h1:=HR.out.set (x':={ x with i:=x.i+1 }) 4 (.int .i64 ((x.i:Int)+1)) rfl (.inl ⟨rfl,rfl⟩) (.inl ⟨rfl,rfl⟩) ⟨rfl,rfl⟩ id;have h2:=h1.set (x':={ x with ph:=3,i:=x.i+1 }) 3 (.int .i64 3) rfl (.inl ⟨rfl,rfl⟩) (.inl ⟨rfl,rfl⟩) ⟨rfl,rfl⟩ (fun e=>absurd (show 3<=2 from e) zd);have HF:=zh (((Fr.refl S w).setCell ⟨b,4,none⟩ (.int .i64 ((x.i:Int)+1)) (.inl HR.out.inb)).setCell ⟨b,3,none⟩ (.int .i64 3) (.inl HR.out.inb));have HS1:=zh (HSK.out _ (h2.now HF.out HL.out));clear h1 h2 HSK HF HR;go_wp2_with fail;refine zM HS1.out fun wz hn=> ?_;have HN:=zh hn;clear hn HS1;go_wp2;go_end0;exact ⟨rfl,HN.out⟩
theorem ttold_3y {v:Int} (h:RT t p s w b S x) (hp:x.ph=3) (hv:U64 v) (hnv:U64 x.note) (hlt:hiW v < hiW x.note) :
 Calls prog 56 #[.pointer (some ⟨b,0,none⟩),.int .u64 v] w fun e w'=>e= .returned (.tuple #[])/\qL t p s w b S (ju { x with ph:=4 }) w':=by
 have HL:=zh (jA.lt h);have HSK:=zh (fun W (hn:qL t p s w b S { x with ph:=4 } W)=>hn.skip (jA.lt h) (fun e=>by simp at e) (fun e=>by simp at e));have HO:=zh (fun w=>yt v w hv);have HT:=zh (fun (W:World) (hb:Below w.heap.size w W)=>Qa (h.below hb) hnv);obtain ⟨lv,kv,wv,h⟩:=h;have HR:=zh h;have c3:=h.cell 3;simp [tC,hp] at c3;clear h hv hnv;generalize ju { x with ph:=4 }=yz at*
 generalize hiW v=hv at*
 generalize hiW x.note=hn at*
 go_enter func56,ntmps56;go_wp2_with fail;refine zM (HO.out _) fun w1 b1=> ?_;have HB1:=zh b1;clear b1 HO;go_wp2_with fail;refine zM (HT.out _ HB1.out) fun w2 b2=> ?_;have b2:=HB1.out.trans (b2.mono HB1.out.size);have h1:=HR.out.below b2;have h2:=h1.set (x':={ x with ph:=4 }) 3 (.int .i64 4) rfl (.inl ⟨rfl,rfl⟩) (.inl ⟨rfl,rfl⟩) ⟨rfl,rfl⟩ (fun e=>absurd (show 4<=2 from e) zd);have d3:=h1.cell 3;have f3:=h1.fz 3;simp [tC,hp] at d3;have HF:=zh ((Fr.of_below (S:=S) b2).setCell ⟨b,3,none⟩ (.int .i64 4) (.inl h1.inb));have HS1:=zh (HSK.out _ (h2.now HF.out HL.out));clear h1 h2 b2 HSK HF HR HT HB1;go_wp2_with fail;refine zM HS1.out fun wz hn=> ?_;have HN:=zh hn;clear hn HS1;go_wp2;go_end0;exact ⟨rfl,HN.out⟩
theorem ttold_3n {v:Int} (h:RT t p s w b S x) (hp:x.ph=3) (hv:U64 v) (hnv:U64 x.note) (hlt:¬hiW v < hiW x.note) (hi:x.i<=96) (hl:x.l≠[]) :
 Calls prog 56 #[.pointer (some ⟨b,0,none⟩),.int .u64 v] w fun e w'=>e= .returned (.tuple #[])/\qL t p s w b S (ju { x with i:=x.i+1 }) w':=by
 have HL:=zh (jA.lt h);have HSK:=zh (fun W (hn:qL t p s w b S { x with i:=x.i+1 } W)=>hn.skip (jA.lt h) (fun _=>hl) (fun e=>by simp only at e;omega));have HO:=zh (fun w=>yt v w hv);have HT:=zh (fun (W:World) (hb:Below w.heap.size w W)=>Qa (h.below hb) hnv);have hw:IntKind.i64.wrap ((x.i:Int)+1)=(x.i:Int)+1:=jr _ zo;obtain ⟨lv,kv,wv,h⟩:=h;have HR:=zh h;have c3:=h.cell 3;simp [tC,hp] at c3;clear h hv hnv hl hi;generalize ju { x with i:=x.i+1 }=yz at*
 generalize hiW v=hv at*
 generalize hiW x.note=hn at*
 go_enter func56,ntmps56;go_wp2_with fail;refine zM (HO.out _) fun w1 b1=> ?_;have HB1:=zh b1;clear b1 HO;go_wp2_with fail;refine zM (HT.out _ HB1.out) fun w2 b2=> ?_;have b2:=HB1.out.trans (b2.mono HB1.out.size);have h1:=HR.out.below b2;have h2:=h1.set (x':={ x with i:=x.i+1 }) 4 (.int .i64 ((x.i:Int)+1)) rfl (.inl ⟨rfl,rfl⟩) (.inl ⟨rfl,rfl⟩) ⟨rfl,rfl⟩ id;have d4:=h1.cell 4;have f4:=h1.fz 4;simp [tC,hp] at d4;have HF:=zh ((Fr.of_below (S:=S) b2).setCell ⟨b,4,none⟩ (.int .i64 ((x.i:Int)+1)) (.inl h1.inb));have HS1:=zh (HSK.out _ (h2.now HF.out HL.out));clear h1 h2 b2 HSK HF HR HT HB1;go_wp2_with fail;refine zM HS1.out fun wz hn=> ?_;have HN:=zh hn;clear hn HS1;go_wp2;go_end0;exact ⟨rfl,HN.out⟩
end

section
variable {t p s:Int} {w w' w1:World} {b:Nat} {S:Nat->Prop} {x y:TS} {lv kv wv v':Value} {l':List (Int×Int)}
theorem RTs.grow_l (h:RTs t p s w b S x lv kv wv) (hp:x.ph<=2) (hg:w.grownBy w' lv.ownBlock) (ho:w'.ownsRow 0 106 2 v' l'.length (jU l')) (hnew:∀k,v'.ownBlock=some k->lv.ownBlock=some k\/w.heap.size<=k) :
 RTs t p s (w'.setCell ⟨b,9,none⟩ v') b (fun k=>S k\/v'.ownBlock=some k) { x with l:=l' } v' kv wv/\Fr S w (w'.setCell ⟨b,9,none⟩ v')/\(∀k,v'.ownBlock=some k->S k\/w.heap.size<=k)/\w'.cell? ⟨b,9,none⟩=some lv/\w'.frozen? ⟨b,9,none⟩=false:=by
 obtain ⟨n1,n2,n3⟩:=h.nb;have blk:∀k,S k->lv.ownBlock≠some k->w'.heap[k]? =w.heap[k]? :=fun k hk hne=>hg.block k (h.lt k hk) (fun e=>hne e.symm);have hb:w'.heap[b]? =some (.cells (tC t p s x lv kv wv) 55):=(blk b h.inb (fun e=>n1 b e rfl)).trans h.cells;have n4:∀k,v'.ownBlock=some k->k≠b:=fun k hk e=>jm ho hb zd (e ▸ hk);have hnS:∀k,v'.ownBlock=some k->S k\/w.heap.size<=k:=fun k hk=>(hnew k hk).imp (h.inl' k) id;refine ⟨⟨(jH hb).trans rfl,je ho fun k hk=>ji (n4 k hk),je h.kr fun k hk=>(ji (n2 k hk)).trans (blk k (h.ink k hk) (h.dk k hk).1),je h.wr fun k hk=>(ji (n3 k hk)).trans (blk k (h.inw k hk) (fun e=>h.dl hp k e hk)),fun k hk=>⟨fun e=> ?_,(h.dk k hk).2⟩,fun _ k hk e=> ?_,.inl h.inb,fun k hk=> .inr hk,fun k hk=> .inl (h.ink k hk),fun k hk=> .inl (h.inw k hk),fun k hk=> ?_⟩,?_,hnS,jd (o:=9) hb,jh (o:=9) hb⟩
 ·rcases hnew k e with e1 | e1
  ·exact (h.dk k hk).1 e1
  ·have:=h.lt k (h.ink k hk);omega
 ·rcases hnew k hk with e1 | e1
  ·exact h.dl hp k e1 e
  ·have:=h.lt k (h.inw k e);omega
 ·rw [World.size_setCell];rcases hk with hk | hk
  ·exact Nat.lt_of_lt_of_le (h.lt k hk) hg.size
  ·exact jn ho hk
 ·exact ((Fr.refl S w).grown hg (fun k hk=> .inl (h.inl' k hk))).setCell _ _ (.inl h.inb)
theorem RTs.grow_k (h:RTs t p s w b S x lv kv wv) (hg:w.grownBy w' kv.ownBlock) (ho:w'.ownsRow 0 106 2 v' l'.length (jU l')) (hnew:∀k,v'.ownBlock=some k->kv.ownBlock=some k\/w.heap.size<=k) :
 RTs t p s (w'.setCell ⟨b,12,none⟩ v') b (fun k=>S k\/v'.ownBlock=some k) { x with known:=l' } lv v' wv/\Fr S w (w'.setCell ⟨b,12,none⟩ v')/\(∀k,v'.ownBlock=some k->S k\/w.heap.size<=k)/\w'.cell? ⟨b,12,none⟩=some kv/\w'.frozen? ⟨b,12,none⟩=false/\w'.heap[b]? =some (.cells (tC t p s x lv kv wv) 55):=by
 obtain ⟨n1,n2,n3⟩:=h.nb;have blk:∀k,S k->kv.ownBlock≠some k->w'.heap[k]? =w.heap[k]? :=fun k hk hne=>hg.block k (h.lt k hk) (fun e=>hne e.symm);have hb:w'.heap[b]? =some (.cells (tC t p s x lv kv wv) 55):=(blk b h.inb (fun e=>n2 b e rfl)).trans h.cells;have n4:∀k,v'.ownBlock=some k->k≠b:=fun k hk e=>jm ho hb zd (e ▸ hk);have hnS:∀k,v'.ownBlock=some k->S k\/w.heap.size<=k:=fun k hk=>(hnew k hk).imp (h.ink k) id;refine ⟨⟨(jH hb).trans rfl,je h.lr fun k hk=>(ji (n1 k hk)).trans (blk k (h.inl' k hk) (fun e=>(h.dk k e).1 hk)),je ho fun k hk=>ji (n4 k hk),je h.wr fun k hk=>(ji (n3 k hk)).trans (blk k (h.inw k hk) (fun e=>(h.dk k e).2 hk)),fun k hk=>⟨fun e=> ?_,fun e=> ?_⟩,h.dl,.inl h.inb,fun k hk=> .inl (h.inl' k hk),fun k hk=> .inr hk,fun k hk=> .inl (h.inw k hk),fun k hk=> ?_⟩,?_,hnS,jd (o:=12) hb,jh (o:=12) hb,hb⟩
 ·rcases hnew k hk with e1 | e1
  ·exact (h.dk k e1).1 e
  ·have:=h.lt k (h.inl' k e);omega
 ·rcases hnew k hk with e1 | e1
  ·exact (h.dk k e1).2 e
  ·have:=h.lt k (h.inw k e);omega
 ·rw [World.size_setCell];rcases hk with hk | hk
  ·exact Nat.lt_of_lt_of_le (h.lt k hk) hg.size
  ·exact jn ho hk
 ·exact ((Fr.refl S w).grown hg (fun k hk=> .inl (h.ink k hk))).setCell _ _ (.inl h.inb)
end

section
variable {t p s:Int} {w w' w1:World} {b:Nat} {S:Nat->Prop} {x y:TS}
theorem ttold_2 {v e1 e2:Int} (h:RT t p s w b S x) (hp:x.ph=2) (hv:U64 v) (he:qN v=some (e1,e2)) (hl:x.l.length<=96) (hi:x.i<=96) :
 Calls prog 56 #[.pointer (some ⟨b,0,none⟩),.int .u64 v] w fun e w'=>e= .returned (.tuple #[])/\qL t p s w b S (ju { x with l:=x.l++[(e1,e2)],i:=x.i+1 }) w':=by
 have HL:=zh (jA.lt h);have HSK:=zh (fun W (hn:qL t p s w b S { x with l:=x.l++[(e1,e2)],i:=x.i+1 } W)=>hn.skip (jA.lt h) (fun _=>by simp) (fun e=>by simp only at e;omega));have HO:=zh (fun w=>YT v e1 e2 w hv he);have hw:IntKind.i64.wrap ((x.i:Int)+1)=(x.i:Int)+1:=jr _ zo;have HP:=zh (Kx x.l (e1,e2));dsimp only at HP;obtain ⟨i0,hi0,hi1,hi2,hi3⟩:=info_parts JA;have HI:=zh (And.intro hi0 (And.intro hi1 (And.intro hi2 hi3)));have hlen:(x.l++[(e1,e2)]).length=x.l.length+1:=zT;obtain ⟨lv,kv,wv,h⟩:=h;obtain ⟨la,lc,rfl⟩:=jG h.lr;have HG:=zh (fun (W W':World) (v':Value) (g:RTs t p s W b S x (.slice la x.l.length lc) kv wv) hg (ho:W'.ownsRow 0 106 2 v' (x.l.length+1) (jU (x.l++[(e1,e2)]))) hnew=>g.grow_l (w':=W') (v':=v') (l':=x.l++[(e1,e2)]) zo hg (by rw [hlen];exact ho) hnew);have HR:=zh h;have c3:=h.cell 3;simp [tC,hp] at c3;clear h hv he hi hi0 hi1 hi2 hi3 hlen;go_enter func56,ntmps56;go_wp2_with fail;refine zM (HO.out _) fun w1 b1=> ?_;have B1:=zh b1;have H1:=zh (HR.out.below b1);have c9:=H1.out.cell 9;simp [tC] at c9;have zb:=World.block_lt_of_cell? w1 _ c9;dsimp only at zb;clear b1 HO HR c3;go_wp2_with fail;have BA:=zh ((((Below.refl w1.heap.size w1).alloc (Nat.le_refl _) (.cells #[.int .i64 e1,.int .u32 e2] 106)).drew).alloc zT (.cells #[.int .i64 e1,.int .u32 e2] 106));have HA:=zh (H1.out.below BA.out);refine wH (S:=fun w'=>True) (trivial) fun hHeld=> ?_;refine wT 0 ?_;refine wY ?_;refine wpAnyH_ready (rs:=[4,5]) zk zT ?_;refine AllReadyH.cons (o:=_) rfl (fun K hK=> ?_) (AllReadyH.cons (o:=_) rfl (fun K hK=> ?_) AllReadyH.nil);go_simp;refine wK hK (trivial) fun hHeld=> ?_;clear hK K;refine wR 5 fun K hK=> ?_;go_simp;refine wK hK (trivial) fun hHeld=> ?_;clear hK K;refine wR 6 fun K hK=> ?_;go_simp;refine wK hK (trivial) fun hHeld=> ?_;clear hK K;refine wR 7 fun K hK=> ?_;refine jP rfl (.tmp 47) (.tmp 49) rfl 106 i0 (.agg #[.int .i64 0,.int .u32 0]) 2 16 underlying45 HI.out.1 HI.out.2.1 HI.out.2.2.1 HI.out.2.2.2 rfl zd (.slice la x.l.length lc) x.l.length (jU x.l) rfl HA.out.lr ⟨w1.heap.size+1,0,none⟩ 1 1 [.int .i64 e1,.int .u32 e2] rfl rfl (jZ _ _ _ _ zT) ?c1 ?c2 ?c3 ?_;case c1=>(intro u hu;simp at hu;rcases hu with rfl | rfl <;> rfl)
 case c2=>(unfold maxLen;omega)
 case c3=>(omega)
 intro v' w5 hown5 hg5 hnew5 hnil5;clear hnil5;rw [<-HP.out] at hown5;obtain ⟨g5,cc5,rfl⟩:=Joins.ownsRow_form hown5 zo;have HG5:=zh (HG.out _ _ _ HA.out hg5 hown5 hnew5);clear hown5 hg5 hnew5;have c95:=HG5.out.2.2.2.1;have f95:=HG5.out.2.2.2.2;refine wK hK (trivial) fun hHeld=> ?_;clear hK K;refine wY ?_;refine wR 10 fun K hK=> ?_;go_simp;refine wK hK (trivial) fun hHeld=> ?_;clear hK K;refine wD ?_;rotate_left;go_simp;refine wK hK (trivial) fun hHeld=> ?_;clear hK K;refine wpAnyH_ready (rs:=[4,6]) zk zT ?_;refine AllReadyH.cons (o:=_) rfl (fun K hK=> ?_) (AllReadyH.cons (o:=_) rfl (fun K hK=> ?_) AllReadyH.nil);go_simp;refine wK hK (trivial) fun hHeld=> ?_;clear hK K;refine wR 6 fun K hK=> ?_;go_simp;refine wK hK (trivial) fun hHeld=> ?_;clear hK K;refine wR 7 fun K hK=> ?_;refine jP rfl (.tmp 47) (.tmp 49) rfl 106 i0 (.agg #[.int .i64 0,.int .u32 0]) 2 16 underlying45 HI.out.1 HI.out.2.1 HI.out.2.2.1 HI.out.2.2.2 rfl zd (.slice la x.l.length lc) x.l.length (jU x.l) rfl HA.out.lr ⟨w1.heap.size+1,0,none⟩ 1 1 [.int .i64 e1,.int .u32 e2] rfl rfl (jZ _ _ _ _ zT) ?c1 ?c2 ?c3 ?_;case c1=>(intro u hu;simp at hu;rcases hu with rfl | rfl <;> rfl)
 case c2=>(unfold maxLen;omega)
 case c3=>(omega)
 intro v' w5 hown5 hg5 hnew5 hnil5;clear hnil5;rw [<-HP.out] at hown5;obtain ⟨g5,cc5,rfl⟩:=Joins.ownsRow_form hown5 zo;have HG5:=zh (HG.out _ _ _ HA.out hg5 hown5 hnew5);clear hown5 hg5 hnew5;have c95:=HG5.out.2.2.2.1;have f95:=HG5.out.2.2.2.2;refine wK hK (trivial) fun hHeld=> ?_;clear hK K;refine wY ?_;refine wR 10 fun K hK=> ?_;go_simp;refine wK hK (trivial) fun hHeld=> ?_;clear hK K;refine wD ?_;rotate_left;go_simp;refine wK hK (trivial) fun hHeld=> ?_;clear hK K;refine wR 4 fun K hK=> ?_;go_simp;refine wK hK (trivial) fun hHeld=> ?_;clear hK K;refine wR 7 fun K hK=> ?_;refine jP rfl (.tmp 47) (.tmp 49) rfl 106 i0 (.agg #[.int .i64 0,.int .u32 0]) 2 16 underlying45 HI.out.1 HI.out.2.1 HI.out.2.2.1 HI.out.2.2.2 rfl zd (.slice la x.l.length lc) x.l.length (jU x.l) rfl HA.out.lr ⟨w1.heap.size+1,0,none⟩ 1 1 [.int .i64 e1,.int .u32 e2] rfl rfl (jZ _ _ _ _ zT) ?c1 ?c2 ?c3 ?_;case c1=>(intro u hu;simp at hu;rcases hu with rfl | rfl <;> rfl)
 case c2=>(unfold maxLen;omega)
 case c3=>(omega)
 intro v' w5 hown5 hg5 hnew5 hnil5;clear hnil5;rw [<-HP.out] at hown5;obtain ⟨g5,cc5,rfl⟩:=Joins.ownsRow_form hown5 zo;have HG5:=zh (HG.out _ _ _ HA.out hg5 hown5 hnew5);clear hown5 hg5 hnew5;have c95:=HG5.out.2.2.2.1;have f95:=HG5.out.2.2.2.2;refine wK hK (trivial) fun hHeld=> ?_;clear hK K;refine wY ?_;refine wR 10 fun K hK=> ?_;go_simp;refine wK hK (trivial) fun hHeld=> ?_;clear hK K;refine wD ?_;all_goals
  clear c95 f95;refine j5 ?_;intro wz hwz;rw [<-hwz] at HG5;clear hwz;have h5:=HG5.out.1;have c4:=h5.cell 4;have f4:=h5.fz 4;simp [tC] at c4;have h6:=h5.set (x':={ x with l:=x.l++[(e1,e2)],i:=x.i+1 }) 4 (.int .i64 ((x.i:Int)+1)) rfl (.inl ⟨rfl,rfl⟩) (.inl ⟨rfl,rfl⟩) ⟨rfl,rfl⟩ id;have hbw:=Nat.le_trans B1.out.size BA.out.size;have HF:=((Fr.of_below (S:=S) (B1.out.trans (BA.out.mono B1.out.size))).trans HG5.out.2.1 (fun _ hk=> .inl hk)).setCell ⟨b,4,none⟩ (.int .i64 ((x.i:Int)+1)) (.inl H1.out.inb);have HS1:=zh (HSK.out _ (Vm ⟨_,_,_,h6⟩ (fun k hk=>hk.elim .inl (fun hk=>(HG5.out.2.2.1 k hk).imp id (fun hk=>Nat.le_trans hbw hk))) HF HL.out));clear h5 h6 HF HSK HA H1 HG HG5 BA B1;go_wp2_with fail;refine zM HS1.out fun w9 hn=> ?_;have HN:=zh hn;clear hn HS1;go_wp2;go_end0;exact ⟨rfl,HN.out⟩
end

section
variable {t p s:Int} {w w' w1:World} {b:Nat} {S:Nat->Prop} {x y:TS}
theorem ttold_10 {v:Int} (h:RT t p s w b S x) (hr:jq t p s=true) (hp:x.ph=10) (hv:U64 v) (hok:jc8 (x.known++[(x.need,loW v)])) (hpg:(x.page:Int)<=p) (hi:JG t p (jB t p s { x with known:=x.known++[(x.need,loW v)] })) :
 Calls prog 56 #[.pointer (some ⟨b,0,none⟩),.int .u64 v] w fun e w'=>e= .returned (.tuple #[])/\qL t p s w b S (ju (jB t p s { x with known:=x.known++[(x.need,loW v)] })) w':=by
 have HL:=zh (jA.lt h);have HSK:=zh (fun W (hn:qL t p s w b S (jB t p s { x with known:=x.known++[(x.need,loW v)] }) W)=>hn.skip (jA.lt h) (Ki hi).1 (Ki hi).2);have HSW:=zh (fun (W:World) (S':Nat->Prop) (g:RT t p s W b S' { x with known:=x.known++[(x.need,loW v)] })=>J6 g hr hok hpg);have HO:=zh (fun w=>Jy v w hv);have hle:=hok.1;have hlen:(x.known++[(x.need,loW v)]).length=x.known.length+1:=zT;rw [hlen] at hle;generalize loW v=q at*
 have HP:=zh (Kx x.known (x.need,q));dsimp only at HP;obtain ⟨i0,hi0,hi1,hi2,hi3⟩:=info_parts JA;have HI:=zh (And.intro hi0 (And.intro hi1 (And.intro hi2 hi3)));generalize ju (jB t p s { x with known:=x.known++[(x.need,q)] })=yz at*
 generalize jB t p s { x with known:=x.known++[(x.need,q)] }=yy at*
 obtain ⟨lv,kv,wv,h⟩:=h;obtain ⟨ka,kc,rfl⟩:=jG h.kr;have HG:=zh (fun (W W':World) (v':Value) (g:RTs t p s W b S x lv (.slice ka x.known.length kc) wv) hg (ho:W'.ownsRow 0 106 2 v' (x.known.length+1) (jU (x.known++[(x.need,q)]))) hnew=>g.grow_k (w':=W') (v':=v') (l':=x.known++[(x.need,q)]) hg (by rw [hlen];exact ho) hnew);have HR:=zh h;have c3:=h.cell 3;have c12:=h.cell 12;have c13:=h.cell 13;simp [tC,hp] at c3 c12 c13;have zb:=World.block_lt_of_cell? w _ c12;dsimp only at zb;clear h hv hok hpg hi hr hi0 hi1 hi2 hi3 hlen;go_enter func56,ntmps56;go_wp2_with fail;clear c3;refine Vj (zQ c13) fun hHeld=> ?_;refine wT 0 ?_;refine wY ?_;refine wpAnyH_ready (rs:=[4,11]) zk zT ?_;refine AllReadyH.cons (o:=_) rfl (fun K hK=> ?_) (AllReadyH.cons (o:=_) rfl (fun K hK=> ?_) AllReadyH.nil);go_simp;refine wK hK (hHeld) fun hHeld=> ?_;clear hK K;refine wR 11 fun K hK=> ?_;go_simp;refine zM (HO.out _) fun w2 b2=> ?_;have B2:=zh (((Below.refl w.heap.size w).drew).trans b2);have H2:=zh (HR.out.below B2.out);have d12:=H2.out.cell 12;simp [tC] at d12;have z2:=Nat.lt_of_lt_of_le zb B2.out.size;refine wK hK (H2.out.cell 13) fun hHeld=> ?_;clear hK K;refine wY ?_;refine wR 13 fun K hK=> ?_;go_simp;have BA:=zh (B2.out.alloc B2.out.size (.cells #[.int .i64 x.need,.int .u32 q] 106));have HA:=zh (HR.out.below BA.out);refine wK hK (HA.out.cell 13) fun hHeld=> ?_;clear hK K;refine wR 14 fun K hK=> ?_;refine jP rfl (.tmp 115) (.tmp 124) rfl 106 i0 (.agg #[.int .i64 0,.int .u32 0]) 2 16 underlying45 HI.out.1 HI.out.2.1 HI.out.2.2.1 HI.out.2.2.2 rfl zd (.slice ka x.known.length kc) x.known.length (jU x.known) rfl HA.out.kr ⟨w2.heap.size,0,none⟩ 1 1 [.int .i64 x.need,.int .u32 q] rfl rfl (jZ w2 _ _ _ rfl) ?c1 ?c2 ?c3 ?_;case c1=>(intro u hu;simp at hu;rcases hu with rfl | rfl <;> rfl)
 case c2=>(unfold maxLen;omega)
 case c3=>(omega)
 intro v' w5 hown5 hg5 hnew5 hnil5;clear hnil5;rw [<-HP.out] at hown5;obtain ⟨g5,cc5,rfl⟩:=Joins.ownsRow_form hown5 zo;have HG5:=zh (HG.out _ _ _ HA.out hg5 hown5 hnew5);clear hown5 hg5 hnew5;have c95:=HG5.out.2.2.2.1;have f95:=HG5.out.2.2.2.2.1;refine wK hK (jd (o:=13) HG5.out.2.2.2.2.2) fun hHeld=> ?_;clear hK K;refine wY ?_;refine wR 17 fun K hK=> ?_;go_simp;refine wK hK (HG5.out.1.cell 13) fun hHeld=> ?_;clear hK K;refine wD ?_;rotate_left;go_simp;refine zM (HO.out _) fun w2 b2=> ?_;have B2:=zh (((Below.refl w.heap.size w).drew).trans b2);have H2:=zh (HR.out.below B2.out);have d12:=H2.out.cell 12;simp [tC] at d12;have z2:=Nat.lt_of_lt_of_le zb B2.out.size;refine wK hK (H2.out.cell 13) fun hHeld=> ?_;clear hK K;refine wT 12 ?_;refine wpAnyH_ready (rs:=[4,13]) zk zT ?_;refine AllReadyH.cons (o:=_) rfl (fun K hK=> ?_) (AllReadyH.cons (o:=_) rfl (fun K hK=> ?_) AllReadyH.nil);go_simp;refine wK hK (hHeld) fun hHeld=> ?_;clear hK K;refine wR 13 fun K hK=> ?_;go_simp;have BA:=zh (B2.out.alloc B2.out.size (.cells #[.int .i64 x.need,.int .u32 q] 106));have HA:=zh (HR.out.below BA.out);refine wK hK (HA.out.cell 13) fun hHeld=> ?_;clear hK K;refine wR 14 fun K hK=> ?_;refine jP rfl (.tmp 115) (.tmp 124) rfl 106 i0 (.agg #[.int .i64 0,.int .u32 0]) 2 16 underlying45 HI.out.1 HI.out.2.1 HI.out.2.2.1 HI.out.2.2.2 rfl zd (.slice ka x.known.length kc) x.known.length (jU x.known) rfl HA.out.kr ⟨w2.heap.size,0,none⟩ 1 1 [.int .i64 x.need,.int .u32 q] rfl rfl (jZ w2 _ _ _ rfl) ?c1 ?c2 ?c3 ?_;case c1=>(intro u hu;simp at hu;rcases hu with rfl | rfl <;> rfl)
 case c2=>(unfold maxLen;omega)
 case c3=>(omega)
 intro v' w5 hown5 hg5 hnew5 hnil5;clear hnil5;rw [<-HP.out] at hown5;obtain ⟨g5,cc5,rfl⟩:=Joins.ownsRow_form hown5 zo;have HG5:=zh (HG.out _ _ _ HA.out hg5 hown5 hnew5);clear hown5 hg5 hnew5;have c95:=HG5.out.2.2.2.1;have f95:=HG5.out.2.2.2.2.1;refine wK hK (jd (o:=13) HG5.out.2.2.2.2.2) fun hHeld=> ?_;clear hK K;refine wY ?_;refine wR 17 fun K hK=> ?_;go_simp;refine wK hK (HG5.out.1.cell 13) fun hHeld=> ?_;clear hK K;refine wD ?_;rotate_left;go_simp;have BA:=zh (B2.out.alloc B2.out.size (.cells #[.int .i64 x.need,.int .u32 q] 106));have HA:=zh (HR.out.below BA.out);refine wK hK (HA.out.cell 13) fun hHeld=> ?_;clear hK K;refine wR 4 fun K hK=> ?_;go_simp;refine wK hK (hHeld) fun hHeld=> ?_;clear hK K;refine wR 14 fun K hK=> ?_;refine jP rfl (.tmp 115) (.tmp 124) rfl 106 i0 (.agg #[.int .i64 0,.int .u32 0]) 2 16 underlying45 HI.out.1 HI.out.2.1 HI.out.2.2.1 HI.out.2.2.2 rfl zd (.slice ka x.known.length kc) x.known.length (jU x.known) rfl HA.out.kr ⟨w2.heap.size,0,none⟩ 1 1 [.int .i64 x.need,.int .u32 q] rfl rfl (jZ w2 _ _ _ rfl) ?c1 ?c2 ?c3 ?_;case c1=>(intro u hu;simp at hu;rcases hu with rfl | rfl <;> rfl)
 case c2=>(unfold maxLen;omega)
 case c3=>(omega)
 intro v' w5 hown5 hg5 hnew5 hnil5;clear hnil5;rw [<-HP.out] at hown5;obtain ⟨g5,cc5,rfl⟩:=Joins.ownsRow_form hown5 zo;have HG5:=zh (HG.out _ _ _ HA.out hg5 hown5 hnew5);clear hown5 hg5 hnew5;have c95:=HG5.out.2.2.2.1;have f95:=HG5.out.2.2.2.2.1;refine wK hK (jd (o:=13) HG5.out.2.2.2.2.2) fun hHeld=> ?_;clear hK K;refine wY ?_;refine wR 17 fun K hK=> ?_;go_simp;refine wK hK (HG5.out.1.cell 13) fun hHeld=> ?_;clear hK K;refine wD ?_;all_goals
  clear c95 f95 hHeld;refine j5 ?_;intro wz hwz;rw [<-hwz] at HG5;clear hwz;have HT:=zh (HSW.out _ _ ⟨_,_,_,HG5.out.1⟩);have HS5:Hid (∀k,_->S k\/w.heap.size<=k):=zh (fun k (hk:S k\/(Value.slice (some ⟨g5,0,none⟩) (x.known.length+1) cc5).ownBlock=some k)=>hk.elim .inl (fun hk=>(HG5.out.2.2.1 k hk).imp id (fun hk=>Nat.le_trans BA.out.size hk)));have HF:=zh ((Fr.of_below (S:=S) BA.out).trans HG5.out.2.1 (fun _ hk=> .inl hk));clear HA HG HG5 BA H2 B2;go_wp2_with fail;refine zM HT.out fun w8 hn=> ?_;have HS1:=zh (HSK.out _ (Vm hn.1 (Kn HS5.out HF.out) (HF.out.trans hn.2 HS5.out) HL.out));clear hn HSK HT HF HS5;go_wp2_with fail;refine zM HS1.out fun w9 hn=> ?_;have HN:=zh hn;clear hn HS1;go_wp2;go_end0;exact ⟨rfl,HN.out⟩
end
end Go.Proofs.YtcnininelndjoaaGreat

