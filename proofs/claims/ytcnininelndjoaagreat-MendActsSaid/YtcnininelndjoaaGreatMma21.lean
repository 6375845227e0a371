/- parts of the proof, merged by a program. -/
import Derived.Test.YtcnininelndjoaaGreatMma13
import Derived.Test.YtcnininelndjoaaGreatMma14
import Derived.Test.YtcnininelndjoaaGreatMma15
import Derived.Test.YtcnininelndjoaaGreatMma16
import Derived.Test.YtcnininelndjoaaGreatMma17
import Derived.Test.YtcnininelndjoaaGreatMma20
set_option linter.unusedSimpArgs false
set_option linter.unusedVariables false
set_option maxRecDepth 100000
set_option maxHeartbeats 4000000
namespace Go.Proofs.YtcnininelndjoaaGreat
open Go.Proofs.Tryz
open Go.RowKit

section
variable {t p s:Int} {w w' w0:World} {b:Nat} {S:Nat->Prop} {x:TS}
theorem V8 (h:RT t p s w b S x) (hk:TOK t p x) (hr:jq t p s=true) :
 Calls prog 15 #[.pointer (some ⟨b,0,none⟩)] w (zW (YH t p x) w):=by
 have hrb:=jt hr;have hmb:=jV hr;have hph:=hk.inv.ph;have hc:x.ph=0\/x.ph=1\/x.ph=2\/x.ph=3\/x.ph=4\/x.ph=5\/x.ph=6\/x.ph=7\/x.ph=8\/x.ph=9\/x.ph=10\/x.ph=11\/x.ph=12\/x.ph=13\/x.ph=14\/x.ph=15\/x.ph=16\/x.ph=17\/x.ph=18\/x.ph=19:=zo;have ncell:∀y:Int×Int,(0<=y.1/\y.1 < jo t p)->jae t p y.1=16+y.1:=fun y hy=>by unfold jae;rw [if_pos hy]
 have nnote:∀u:Int,0<=u->u<=t->JM t p u=jz t p u:=fun u h0 h1=>by unfold JM;rw [if_pos ⟨h0,h1⟩]
 have nlog:∀u i:Int,0<=u->u<=t->0<=i->i < 96->VL t p u i=ky t p u i:=fun u i h0 h1 h2 h3=>by unfold VL;rw [if_pos ⟨h0,h1,h2,h3⟩]
 have hcell:∀i,i < x.l.length->∃y,x.l[i]? =some y/\x.l.getD i (0,0)=y:=fun i hi=>⟨_,List.getElem?_eq_getElem hi,by rw [List.getD_eq_getElem?_getD,List.getElem?_eq_getElem hi];rfl⟩
 have htu:∀{k:Nat} {d a v:Int},x.ph=k->jN t p x=some (d,a,v)->(RT t p s w b S x->x.ph=k->(∀W,Below w.heap.size w W->Calls prog 49 #[.pointer (some ⟨b,0,none⟩)] W fun e w'=>e= .returned (j8 d t a v)/\Below W.heap.size W w')->Calls prog 15 #[.pointer (some ⟨b,0,none⟩)] w (zW (.tuple #[j8 d t a v,.bool true]) w))->(∀W,RT t p s W b S x->Calls prog 49 #[.pointer (some ⟨b,0,none⟩)] W fun e w'=>e= .returned (j8 d t a v)/\Below W.heap.size W w')->Calls prog 15 #[.pointer (some ⟨b,0,none⟩)] w (zW (YH t p x) w):=by
  intro k d a v hp e hN hT;rw [kI e];exact hN h hp (fun W hb=>hT W (h.below hb))
 rcases hc with hp | hp | hp | hp | hp | hp | hp | hp | hp | hp | hp | hp | hp | hp | hp | hp | hp | hp | hp | hp
 ·have e:jN t p x=some (1,8,0):=by unfold jN;rw [hp];rfl
  rw [kI e];exact tnext_0 h hp
 ·have hu:=hk.u hp;have e:jN t p x=some (1,jz t p x.u,0):=by rw [<-nnote _ hu.1 hu.2];unfold jN;rw [hp];rfl
  rw [kI e];exact tnext_1 h hp hr hu.1 hu.2
 ·have hd:=hk.tu zo zo;have h2:=hk.inv.h2 hp;have hn:=hk.inv.n;have e:jN t p x=some (1,ky t p x.u x.i,0):=by rw [<-nlog _ _ hd.u0 hd.u1 zo zo];unfold jN;rw [hp];rfl
  rw [kI e];exact tnext_2 h hp hr hd.u0 hd.u1 zo
 ·have hd:=hk.tu zo zo;have hi:=hk.inv.h3 (.inl hp);obtain ⟨y,hy,hg⟩:=hcell x.i hi;have hb:=hd.l.2 y (List.mem_of_getElem? hy);have e:jN t p x=some (1,16+y.1,0):=by rw [<-ncell _ hb.1,<-hg];unfold jN;rw [hp];rfl
  exact htu hp e (fun h hp HT=>tnext_3 h hp HT) (fun W g=>tturn_3 g hp hr hi hy hb.1.1 hb.1.2)
 ·have hd:=hk.tu zo zo;have hi:=hk.inv.h3 (.inr (.inl hp));obtain ⟨y,hy,hg⟩:=hcell x.i hi;have hb:=hd.l.2 y (List.mem_of_getElem? hy);have e:jN t p x=some (2,16+y.1,kg (hiW x.note) y.2):=by rw [<-ncell _ hb.1,<-hg];unfold jN;rw [hp];rfl
  exact htu hp e (fun h hp HT=>tnext_4 h hp HT) (fun W g=>tturn_4 g hp hr hi hy hb.1.1 hb.1.2 hd.nv hb.2)
 ·have hd:=hk.tu zo zo;have hi:=hk.inv.h3 (.inr (.inr hp));obtain ⟨y,hy,hg⟩:=hcell x.i hi;have hb:=hd.l.2 y (List.mem_of_getElem? hy);have e:jN t p x=some (4,16+y.1,0):=by rw [<-ncell _ hb.1,<-hg];unfold jN;rw [hp];rfl
  exact htu hp e (fun h hp HT=>tnext_5 h hp HT) (fun W g=>tturn_5 g hp hr hi hy hb.1.1 hb.1.2)
 ·have e:jN t p x=some (5,0,0):=by unfold jN;rw [hp];rfl
  exact htu hp e (fun h hp HT=>tnext_6 h hp HT) (fun W g=>tturn_6 g hp)
 ·have hd:=hk.tu zo zo;obtain ⟨o,n,hw⟩:=hd.nw;have hsh:YC x.note=kG (hiW x.note) n false:=by unfold YC;rw [hw]
  have e:jN t p x=some (2,jz t p x.u,kG (hiW x.note) n false):=by rw [<-nnote _ hd.u0 hd.u1,<-hsh];unfold jN;rw [hp];rfl
  exact htu hp e (fun h hp HT=>tnext_7 h hp HT) (fun W g=>tturn_7 g hp hr hd.u0 hd.u1 hd.nv hw)
 ·have hd:=hk.tu zo zo;have e:jN t p x=some (4,jz t p x.u,0):=by rw [<-nnote _ hd.u0 hd.u1];unfold jN;rw [hp];rfl
  exact htu hp e (fun h hp HT=>tnext_8 h hp HT) (fun W g=>tturn_8 g hp hr hd.u0 hd.u1)
 ·have e:jN t p x=some (5,0,0):=by unfold jN;rw [hp];rfl
  exact htu hp e (fun h hp HT=>tnext_9 h hp HT) (fun W g=>tturn_9 g hp)
 ·have hn:=(hk.nd hp).1;have e:jN t p x=some (1,16+x.need,0):=by rw [<-ncell (x.need,0) hn];unfold jN;rw [hp];rfl
  rw [kI e];exact tnext_10 h hp hr hn.1 hn.2
 ·have hw:=hk.wr zo zo;have hi:=hk.inv.hi (.inl hp);obtain ⟨y,hy,hg⟩:∃y,x.wr[x.i]? =some y/\x.wr.getD x.i (0,0)=y:=⟨_,List.getElem?_eq_getElem hi,by rw [List.getD_eq_getElem?_getD,List.getElem?_eq_getElem hi];rfl⟩
  have hb:=hw.2 y (List.mem_of_getElem? hy);have h96:=hw.1;have e:jN t p x=some (2,ky t p t x.i,kg y.1 y.2):=by rw [<-nlog t _ zo (Int.le_refl _) zo zo,<-hg];unfold jN;rw [hp];rfl
  rw [kI e];exact tnext_11 h hp hr hi hy hw.1 hb.1.1 zo hb.2
 ·have hw:=hk.wr zo zo;have hi:=hk.inv.hi (.inr hp);have h96:=hw.1;have e:jN t p x=some (4,ky t p t x.i,0):=by rw [<-nlog t _ zo (Int.le_refl _) zo zo];unfold jN;rw [hp];rfl
  rw [kI e];exact tnext_12 h hp hr zo
 ·have hw:=hk.wr zo zo;have e:jN t p x=some (2,jz t p t,x.openN):=by rw [<-nnote t zo (Int.le_refl _)];unfold jN;rw [hp];rfl
  rw [kI e];exact tnext_13 h hp hr hk.st hw.1
 ·have e:jN t p x=some (4,jz t p t,0):=by rw [<-nnote t zo (Int.le_refl _)];unfold jN;rw [hp];rfl
  rw [kI e];exact tnext_14 h hp hr
 ·have e:jN t p x=some (5,0,0):=by unfold jN;rw [hp];rfl
  rw [kI e];exact tnext_15 h hp
 ·have e:jN t p x=some (2,8,kg (x.s+1) t):=by unfold jN;rw [hp];rfl
  rw [kI e];exact tnext_16 h hp hr hk.st
 ·have e:jN t p x=some (4,8,0):=by unfold jN;rw [hp];rfl
  rw [kI e];exact tnext_17 h hp
 ·have e:jN t p x=some (5,0,0):=by unfold jN;rw [hp];rfl
  rw [kI e];exact tnext_18 h hp
 ·have e:jN t p x=none:=by unfold jN;rw [hp];rfl
  unfold YH;rw [e];exact tnext_19 h hp
end

section
variable {t p s:Int} {w w' w0:World} {b:Nat} {S:Nat->Prop} {x:TS}
theorem jdq {v:Int} (h:RT t p s w b S x) (hk:TOK t p x) (hr:jq t p s=true) (hne:x.ph≠19) (hv:VOK t p x v) (h18:x.ph=18->x.wr≠[]) :
 Calls prog 56 #[.pointer (some ⟨b,0,none⟩),.int .u64 v] w fun e w'=>e= .returned (.tuple #[])/\qL t p s w b S (jv t p s v x) w':=by
 have hrb:=jt hr;have hmb:=jV hr;have hph:=hk.inv.ph;have hpg:(x.page:Int)<=p:=by have:=hk.inv.page;omega
 have hc:x.ph=0\/x.ph=1\/x.ph=2\/x.ph=3\/x.ph=4\/x.ph=5\/x.ph=6\/x.ph=7\/x.ph=8\/x.ph=9\/x.ph=10\/x.ph=11\/x.ph=12\/x.ph=13\/x.ph=14\/x.ph=15\/x.ph=16\/x.ph=17\/x.ph=18:=zo;have hl0:x.i < x.l.length->x.l≠[]:=fun hi e=>by rw [e] at hi;exact absurd hi (Nat.not_lt_zero _)
 have h96:=hk.inv.l;have h97:=hk.inv.wr;rcases hc with hp | hp | hp | hp | hp | hp | hp | hp | hp | hp | hp | hp | hp | hp | hp | hp | hp | hp | hp
 ·obtain ⟨s0,u,ht,-⟩:=hv.tip hp;have e:jv t p s v x=ju (({ x with s:=s0,u:=u }:TS).to 1):=by unfold jv km;rw [hp,ht];rfl
  rw [e];exact ttold_0 h hp hv.u ht
 ·have hkn:=hk.inv.hk zo;have hki:KnI (jo t p).toNat x.known:=by rw [hkn];exact KnI.nil _
  have hko:jc8 x.known:=by rw [hkn];exact ⟨zT,zT⟩
  cases ho:qQ v x.s with
  | none=>
   have e:jv t p s v x=ju (jB t p s x):=by unfold jv km;rw [hp];show ju (match qQ v x.s with | none=>_ | some n=>_)=_;rw [ho]
   rw [e];exact ttold_1n h hp hr hv.u ho hko (Vb hk.inv.page hki hk.inv.n0 hk.inv.n hk.inv.l hk.inv.wr) hpg
  | some n=>
   have e:jv t p s v x=ju (({ x with note:=v,n:=n }:TS).to 2):=by unfold jv km;rw [hp,ho];rfl
   rw [e];exact ttold_1s h hp hv.u ho
 ·obtain ⟨⟨c,q⟩,he,-⟩:=hv.ent hp;have h2:=hk.inv.h2 hp;have e:jv t p s v x=ju { x with l:=x.l++[(c,q)],i:=x.i+1 }:=by unfold jv km;rw [hp,he];rfl
  rw [e];exact ttold_2 h hp hv.u he h96 zo
 ·have hi:=hk.inv.h3 (.inl hp);have hd:=hk.tu zo zo;by_cases hlt:hiW v < hiW x.note
  ·have e:jv t p s v x=ju { x with ph:=4 }:=by unfold jv km;rw [hp];show ju (if hiW v < hiW x.note then _ else _)=_;rw [if_pos hlt]
   rw [e];exact ttold_3y h hp hv.u hd.nv hlt
  ·have e:jv t p s v x=ju { x with i:=x.i+1 }:=by unfold jv km;rw [hp];show ju (if hiW v < hiW x.note then _ else _)=_;rw [if_neg hlt]
   rw [e];exact ttold_3n h hp hv.u hd.nv hlt zo (hl0 hi)
 ·have hi:=hk.inv.h3 (.inr (.inl hp));have e:jv t p s v x=ju { x with ph:=3,i:=x.i+1 }:=by unfold jv km;rw [hp];rfl
  rw [e];exact ttold_4 h hp zo (hl0 hi)
 ·have hi:=hk.inv.h3 (.inr (.inr hp));have e:jv t p s v x=ju { x with i:=x.i+1 }:=by unfold jv km;rw [hp];rfl
  rw [e];exact ttold_5 h hp zo
 ·have e:jv t p s v x=ju (x.to 7):=by unfold jv km;rw [hp];rfl
  rw [e];exact ttold_6 h hp
 ·have e:jv t p s v x=ju (x.to 8):=by unfold jv km;rw [hp];rfl
  rw [e];exact ttold_7 h hp
 ·have e:jv t p s v x=ju (x.to 9):=by unfold jv km;rw [hp];rfl
  rw [e];exact ttold_8 h hp
 ·have ho:=hk.inv.own zo zo;have e:jv t p s v x=ju (jB t p s { x with page:=if x.own=true then x.page+1 else x.page,known:=[] }):=by unfold jv km;rw [hp];rfl
  rw [e];refine ttold_9 h hp hr (Vb (x:={ x with page:=if x.own=true then x.page+1 else x.page,known:=[] }) ?_ (KnI.nil _) hk.inv.n0 hk.inv.n hk.inv.l hk.inv.wr) hpg (fun e=>by have:=ho e;omega);dsimp only;have:=hk.inv.page;split
  ·have:=ho (by assumption);omega
  ·omega
 ·obtain ⟨hk1,hk2⟩:=hk.inv.h10 hp;have hle:=hk2.le;have hko:=(hk.nd hp).2;have e:jv t p s v x=ju (jB t p s { x with known:=x.known++[(x.need,loW v)] }):=by unfold jv km;rw [hp];rfl
  rw [e];refine ttold_10 h hr hp hv.u ⟨?_,fun y hy=> ?_⟩ hpg (Vb (x:={ x with known:=x.known++[(x.need,loW v)] }) hk.inv.page (hk2.val _) hk.inv.n0 hk.inv.n hk.inv.l hk.inv.wr)
  ·simp at hle ⊢;omega
  ·rcases List.mem_append.1 hy with hy | hy
   ·exact hko.2 y hy
   ·simp at hy;subst hy;exact KA v
 ·have hi:=hk.inv.hi (.inl hp);have e:jv t p s v x=ju { x with i:=x.i+1 }:=by unfold jv km;rw [hp];rfl
  rw [e];exact ttold_11 h hp zo (fun e=>by rw [e] at hi;exact absurd hi (Nat.not_lt_zero _))
 ·have hi:=hk.inv.hi (.inr hp);have e:jv t p s v x=ju { x with i:=x.i+8 }:=by unfold jv km;rw [hp];rfl
  rw [e];exact ttold_12 h hp zo
 ·have e:jv t p s v x=ju (x.to 14):=by unfold jv km;rw [hp];rfl
  rw [e];exact ttold_13 h hp
 ·have e:jv t p s v x=ju (x.to 15):=by unfold jv km;rw [hp];rfl
  rw [e];exact ttold_14 h hp
 ·have e:jv t p s v x=ju (x.to 16):=by unfold jv km;rw [hp];rfl
  rw [e];exact ttold_15 h hp
 ·have e:jv t p s v x=ju (({ x with note:=x.openN,s:=x.s+1,made:=x.s+1,u:=t,l:=x.wr,own:=true }:TS).to 17):=by unfold jv km;rw [hp];rfl
  rw [e];exact ttold_16 h hp hk.st h97
 ·have e:jv t p s v x=ju (x.to 18):=by unfold jv km;rw [hp];rfl
  rw [e];exact ttold_17 h hp
 ·have e:jv t p s v x=ju (x.to 3):=by unfold jv km;rw [hp];rfl
  rw [e];refine ttold_18 h hp ?_;rw [(hk.inv.h17 (.inr hp)).1];exact h18 hp
end

structure TwoR (w:World) (S T:Nat->Prop) (b bm:Nat) (t p s:Int) (x:TS) (m:NM):Prop where
 rt:RT t p s w b S x
 rm:RM w bm T m
 ap:∀k,S k->¬T k
def StepR (w:World) (S T:Nat->Prop) (b bm:Nat) (t p s:Int) (x:TS) (m:NM) (w':World):Prop:=
 (∃S' T',TwoR w' S' T' b bm t p s x m/\(∀k,S' k->S k\/w.heap.size<=k)/\(∀k,T' k->T k\/w.heap.size<=k))/\Fr (fun k=>S k\/T k) w w'
section
variable {w w':World} {S T:Nat->Prop} {b bm:Nat} {t p s:Int} {x:TS} {m:NM}
theorem TwoR.below (h:TwoR w S T b bm t p s x m) (hb:Below w.heap.size w w'):TwoR w' S T b bm t p s x m:=
 ⟨h.rt.below hb,ke.keep h.rm (Fr.of_below (S:=fun _=>False) hb) (fun _ _ hf=>hf),h.ap⟩
theorem act_doM (t:Int) (m:NM) {d:Int} (a v:Int) (hd:d=1\/d=2\/d=4\/d=5):(m.act ⟨d,t,a,0,0,v⟩).2=(doM t m d a v).2/\(d≠5->(m.act ⟨d,t,a,0,0,v⟩).1.1=(doM t m d a v).1):=by
 rcases hd with rfl | rfl | rfl | rfl <;> simp [NM.act,doM]
theorem pend_u64 (hmi:m.Inv) (who:Int):U64 (m.fence who).1:=by
 have h1:=NM.pend_le hmi who;have h2:=hmi.small;unfold NM.fence U64;dsimp only;omega
theorem jdZ {P:Nat} (h:TwoR w S T b bm t P s x m) (hk:TOK t P x) (hr:jq t P s=true) {d a v:Int} (hn:jN t P x=some (d,a,v)) (hvu:U64 v) (hv:VOK t P x (doM t m d a v).1) (h18:x.ph=18->x.wr≠[]) :
 Calls prog 22 #[.pointer (some ⟨b,0,none⟩),.pointer (some ⟨bm,0,none⟩)] w fun e w'=>e= .returned (.bool true)/\StepR w S T b bm t P s (jv t P s (doM t m d a v).1 x) (doM t m d a v).2 w':=by
 have hp:x.ph≠19:=fun e=>by unfold jN at hn;rw [e] at hn;cases hn
 have hd:=jbC hn;have hN:=V8 h.rt hk hr;rw [kI hn] at hN;have HN:=zh hN;obtain ⟨hact,hact1⟩:=act_doM t m a v hd;have hmi:=h.rm.1;have HD:=zh (fun (W:World) (hb:Below w.heap.size w W)=>rdo_any bm ⟨d,t,a,0,0,v⟩ W T m (h.below hb).rm hvu);rw [hact] at HD;unfold V2 at HD;generalize hq:(m.act ⟨d,t,a,0,0,v⟩).1.1=q at*
 generalize (m.act ⟨d,t,a,0,0,v⟩).1.2=ok at*
 have hvq:VOK t P x q/\jv t P s q x=jv t P s (doM t m d a v).1 x:=by
  by_cases h5:d=5
  ·subst h5;refine ⟨⟨?_,fun e=> ?_,fun e=> ?_⟩,jas hn⟩
   ·rw [<-hq];simp only [NM.act,show¬((5:Int)=1) from by decide,show¬((5:Int)=2) from by decide,show¬((5:Int)=3) from by decide,show¬((5:Int)=4) from by decide,if_false,if_true];exact pend_u64 hmi t
   ·unfold jN at hn;rw [e] at hn;cases hn
   ·unfold jN at hn;rw [e] at hn;cases hn
  ·rw [hact1 h5];exact ⟨hv,rfl⟩
 have HT:=zh (fun (W:World) (S':Nat->Prop) (g:RT t P s W b S' x)=>jdq (v:=q) g hk hr hp hvq.1 h18);rw [hvq.2] at HT;have H:=zh h;generalize jv t P s (doM t m d a v).1 x=y at*
 generalize (doM t m d a v).2=m' at*
 clear h hN hk hr hn hvu hv h18 hact hact1 hq hvq hd hp hmi;go_enter func22,ntmps22;go_wp2_with fail;refine zM HN.out fun w1 b1=> ?_;have B1:=zh (b1.alloc b1.size (.cells #[.int .i64 d,.int .i64 t,.int .i64 a,.int .i64 0,.int .u64 0,.int .u64 v] 40));have HD1:=zh (HD.out _ B1.out);clear b1 HN HD;unfold j8;go_wp2_with fail;refine zM HD1.out ?_;rintro w2 ⟨hm2,hf2⟩;have hrt:=jA.keep (H.out.below B1.out).rt hf2 (fun k hs ht=>H.out.ap k hs ht);have HT2:=zh (HT.out _ _ hrt);have HM2:=zh hm2;have HF2:=zh hf2;clear hm2 hf2 hrt HT HD1;go_wp2_with fail;refine zM HT2.out fun w3 hn3=> ?_;have HN3:=zh hn3;clear hn3 HT2;go_wp2;go_ret;have hS:=jA.lt H.out.rt;have hT:=ke.lt H.out.rm;have s1:=B1.out.size;have s2:=HF2.out.size;refine ⟨rfl,⟨_,_,⟨HN3.out.1,ke.keep HM2.out HN3.out.2 (fun k ht hs=> ?_),fun k hs ht=> ?_⟩,fun k hk=> ?_,fun k hk=> ?_⟩,?_⟩
 ·rcases ht with ht | ht
  ·exact H.out.ap k hs ht
  ·have:=hS k hs;omega
 ·rcases hs with hs | hs
  ·rcases ht with ht | ht
   ·exact H.out.ap k hs ht
   ·have:=hS k hs;omega
  ·rcases ht with ht | ht
   ·have:=hT k ht;omega
   ·omega
 ·rcases hk with hk | hk
  ·exact .inl hk
  ·exact .inr zo
 ·rcases hk with hk | hk
  ·exact .inl hk
  ·exact .inr zo
 ·exact (((Fr.of_below (S:=fun _=>False) B1.out).mono (S1:=fun k=>S k\/T k) (fun _ hf=>hf.elim)).trans HF2.out (fun k hk=> .inl (.inr hk))).trans HN3.out.2 (fun k hk=> .inl (.inl hk))
end

def RYN (t p s:Int) (bm:Nat):World->Nat->(Nat->Prop)->TS×NM->Prop:=fun w b S q=>(∃S1 T1,TwoR w S1 T1 b bm t p s q.1 q.2/\(∀k,S1 k->S k)/\(∀k,T1 k->S k))/\∀k,S k->k < w.heap.size
section
variable {t p s:Int} {bm:Nat}
theorem KY:qp (RYN t p s bm) where
 keep:=by
  rintro w w' b S T q ⟨⟨S1,T1,h,h1,h2⟩,h3⟩ F hd;exact ⟨⟨S1,T1,⟨jA.keep h.rt F (fun k hs ht=>hd k (h1 k hs) ht),ke.keep h.rm F (fun k hs ht=>hd k (h2 k hs) ht),h.ap⟩,h1,h2⟩,fun k hk=>Nat.lt_of_lt_of_le (h3 k hk) F.size⟩
 lt:=by rintro w b S q ⟨-,h⟩;exact h
 mono:=by
  rintro w b S S' q ⟨⟨S1,T1,h,h1,h2⟩,h3⟩ hs hl;exact ⟨⟨S1,T1,h,fun k hk=>hs k (h1 k hk),fun k hk=>hs k (h2 k hk)⟩,hl⟩
end
section
variable {w w':World} {S:Nat->Prop} {b bm:Nat} {t z:Int} {P:Nat} {vs:List Int} {s0:Int} {k:Nat} {q:TS×NM}
theorem RXM.ok (h:RXM t P z bm w b S q):TOK t P q.1:=by
 obtain ⟨⟨S1,T1,h,-,-⟩,-⟩:=h;exact h.ms.1.tok
theorem ryn_next (h:RYN t P z bm w b S q) (hk:TOK t P q.1) (hr:jq t P z=true) :
 Calls prog 15 #[.pointer (some ⟨b,0,none⟩)] w (zW (YH t P q.1) w):=by
 obtain ⟨⟨S1,T1,h,-,-⟩,-⟩:=h;exact V8 h.rt hk hr
theorem ryn_st (h:RYN t P z bm w b S q) (hk:TOK t P q.1) (hr:jq t P z=true) {d a v:Int} (hn:jN t P q.1=some (d,a,v)) (hvu:U64 v) (hv:VOK t P q.1 (doM t q.2 d a v).1) (h18:q.1.ph=18->q.1.wr≠[]) :
 Calls prog 22 #[.pointer (some ⟨b,0,none⟩),.pointer (some ⟨bm,0,none⟩)] w fun e w'=>e= .returned (.bool true)/\(RYN t P z bm w' b (upd S w w') (nxt t P z q)/\Fr S w w'):=by
 obtain ⟨⟨S1,T1,h,h1,h2⟩,h3⟩:=h;refine zM (jdZ h hk hr hn hvu hv h18) ?_;rintro w' ⟨⟨S',T',h',hs,ht⟩,F⟩;obtain ⟨x,m⟩:=q;rw [VD hn];have hF:Fr S w w':=F.mono (fun k hk=>hk.elim (h1 k) (h2 k));have hlt:=jA.lt h'.rt;have hlt2:=ke.lt h'.rm;refine ⟨rfl,⟨⟨S',T',h',fun k hk=> ?_,fun k hk=> ?_⟩,fun k hk=> ?_⟩,hF⟩
 ·rcases hs k hk with hk2 | hk2
  ·exact .inl (h1 k hk2)
  ·exact .inr ⟨hk2,hlt k hk⟩
 ·rcases ht k hk with hk2 | hk2
  ·exact .inl (h2 k hk2)
  ·exact .inr ⟨hk2,hlt2 k hk⟩
 ·rcases hk with hk | hk
  ·exact Nat.lt_of_lt_of_le (h3 k hk) hF.size
  ·exact hk.2
theorem ryn_make {S T:Nat->Prop} {x:TS} {m:NM} (hm:RT t P z w b S x) (hp:RM w bm T m) (hd:∀k,S k->¬T k):RYN t P z bm w b (fun k=>S k\/T k) (x,m):=
 ⟨⟨S,T,⟨hm,hp,hd⟩,fun _ hk=> .inl hk,fun _ hk=> .inr hk⟩,fun k hk=>hk.elim (jA.lt hm k) (ke.lt hp k)⟩
end

def MaRel (w:World) (t p s:Int) (P:Nat) (bx bm by_ bn:Nat) (vi:Value) (wr:World):Prop:=∃(k:Nat) (q:TS×NM),vi= .int .i64 k/\LI t s P k q.1 q.2/\N2 (RXM t p s bm) (RYN t p s bn) w bx by_ [w.heap.size] q q wr/\wr.heap[w.heap.size]? =some (.cells #[.int .i64 t,.int .i64 p,.int .i64 s] 23)
section
variable {t s:Int} {P:Nat} {vs xs:List Int} {w w':World}
theorem RYN.cells {bn:Nat} {S:Nat->Prop} {b:Nat} {q:TS×NM} (h:RYN t P s bn w b S q):w.cell? ⟨b,11,none⟩=some (.int .i64 q.1.page)/\w.cell? ⟨b,27,none⟩=some (.int .u32 q.1.made):=by
 obtain ⟨⟨S1,T1,h,-,-⟩,-⟩:=h;obtain ⟨lv,kv,wv,hr⟩:=h.rt;exact ⟨hr.cell 11,hr.cell 27⟩
theorem RYN.rows {bn:Nat} {S:Nat->Prop} {b:Nat} {q:TS×NM} (h:RYN t P s bn w b S q):∃wv kv,w.cell? ⟨bn,0,none⟩=some wv/\w.cell? ⟨bn,1,none⟩=some kv/\w.ownsRow 0 38 1 wv q.2.W.length (yl q.2.W)/\w.ownsRow 0 38 1 kv q.2.K.length (yl q.2.K):=by
 obtain ⟨⟨S1,T1,h,-,-⟩,-⟩:=h;obtain ⟨-,wv,kv,pv,hr⟩:=h.rm;exact ⟨wv,kv,hr.cell0,hr.cell1,hr.wr,hr.kr⟩
theorem VJ {p:Int} {wv:Value} (hW:Rd w wv 1 xs.length (yl xs)) (hu:∀v∈xs,U64 v) (hf:jfs t p s xs=none) :
 Calls prog 3 #[.agg #[.int .i64 t,.int .i64 p,.int .i64 s],wv] w (zW (.bool true) w):=by
 have HF:=zh (fun (W:World) (hb:Below w.heap.size w W)=>jbr (t:=t) (p:=p) (s:=s) (Rd.keepBy hW hb (Nat.le_refl _)) hu);rw [hf] at HF;have B0:=zh ((Below.refl w.heap.size w).alloc (Nat.le_refl _) (.cells #[.int .i64 t,.int .i64 p,.int .i64 s] 23));obtain ⟨a,c,rfl⟩:=hW.len;clear hW hu hf;generalize xs.length=n at*
 go_enter func3,ntmps3;go_wp2_with fail;refine (HF.out _ B0.out).mono ?_;rintro e w1 ⟨⟨v,rfl⟩,b1⟩;have B1:=zh (B0.out.trans (b1.mono B0.out.size));clear b1;go_wp2_with fail;refine zM (Va _) fun w2 b2=> ?_;have B2:=zh (B1.out.trans (b2.mono B1.out.size));clear b2;go_wp2;go_ret;exact ⟨rfl,B2.out⟩
end

section
variable {t s:Int} {P:Nat} {vs xs:List Int} {w w':World}
theorem VI {wv:Value} (hW:Rd w wv 1 xs.length (yl xs)) (hu:∀v∈xs,U64 v) (hf:jfs t P s xs=some vs) :
 Calls prog 3 #[.agg #[.int .i64 t,.int .i64 P,.int .i64 s],wv] w (zW (.bool true) w):=by
 obtain ⟨hr,⟨st,u,o,hset,hst0,hst1⟩,h0,h8,h65,hnum⟩:=fit_st hf hu;have hrb:=jt hr;have HF:=zh (fun (W:World) (hb:Below w.heap.size w W)=>jbr (t:=t) (p:=P) (s:=s) (Rd.keepBy hW hb (Nat.le_refl _)) hu);rw [hf] at HF;have hm0:(⟨xs,xs,[]⟩:NM).Inv:=NM.new_inv h0 h8 h65 hu;have hl0:LI t s P 0 (TS.begin,(⟨xs,xs,[]⟩:NM)).1 (TS.begin,(⟨xs,xs,[]⟩:NM)).2:=LI.begin hr hm0 hset zo;have HG:=zh hl0;obtain ⟨hwl,⟨-,hwn⟩ | ⟨ad,c,rfl,hwc⟩⟩:=hW
 ·exact absurd hwn h0
 have hcells:∀W,Below w.heap.size w W->∀j,j < xs.length->W.cell? (ad.add j)=some (.int .u64 (xs.getD j 0)):=fun W hb j hj=>by
  have:=hwc j _ (qS hj);exact (hb.cell (World.block_lt_of_cell? w _ this)).trans this
 have H1:=zh (fun W hb=>jbD ad xs.length c xs W rfl h0 h8 h65 hu (hcells W hb));have H2:=zh (fun W hb=>rnew_any ad xs.length c xs W rfl h0 h8 h65 hu (hcells W hb));have HR:=zh hr;have B0:=zh ((Below.refl w.heap.size w).alloc (Nat.le_refl _) (.cells #[.int .i64 t,.int .i64 P,.int .i64 s] 23));clear hcells hwc hwl h0 h8 h65 hnum hset hst0 hst1 hl0 hm0 hf hu hrb hr;generalize hq0:(TS.begin,(⟨xs,xs,[]⟩:NM))=q0 at*
 generalize hxn:xs.length=n at*
 go_enter func3,ntmps3;go_wp2_with fail;refine (HF.out _ B0.out).mono ?_;rintro e w1 ⟨v,rfl,o1,-,b1⟩;have B1:=zh (B0.out.trans (b1.mono B0.out.size));have HC1:=zh ((b1.block w.heap.size zT).trans (heap_alloc_new w (.cells #[.int .i64 t,.int .i64 P,.int .i64 s] 23)));have zc1:w.heap.size < w1.heap.size:=zL b1;clear o1 b1 HF;go_wp2_with fail;refine (H1.out _ B1.out).mono ?_;rintro e w2 ⟨bm,rfl,-,⟨T1,pT,gT⟩,b2⟩;have B2:=zh (B1.out.trans (b2.mono B1.out.size));have zc2:w.heap.size < w2.heap.size:=Nat.lt_of_lt_of_le zc1 b2.size;have HC2:=zh ((b2.block w.heap.size zc1).trans HC1.out);have P2:=zh pT;have GT:=zh gT;have z12:=b2.size;clear pT gT b2 H1;go_wp2_with fail;refine (H2.out _ B2.out).mono ?_;rintro e w3 ⟨bn,rfl,-,⟨T2,pU,gU⟩,b3⟩;have B3:=zh (B2.out.trans (b3.mono B2.out.size));have zc3:w.heap.size < w3.heap.size:=Nat.lt_of_lt_of_le zc2 b3.size;have HC3:=zh ((b3.block w.heap.size zc2).trans HC2.out);have P3:=zh (yj.keep (T:=fun _=>False) P2.out (Fr.of_below b3) (fun _ _ x=>x));have U3:=zh pU;have GU:=zh gU;have LT:=zh (yj.lt P2.out);have z23:=b3.size;clear pU gU b3 H2 P2 HC1 HC2;have c0:=jd (o:=0) HC3.out;have c1:=jd (o:=1) HC3.out;have c2:=jd (o:=2) HC3.out;simp at c0 c1 c2;go_wp2_with fail;refine wHn3 (zQ c0) (zQ c1) (zQ c2) fun hHeld=> ?_;refine wT 0 ?_;refine wY ?_;refine wR 1 fun K hK=> ?_;go_simp;refine (XK _ HR.out).mono ?_;rintro e w4 ⟨⟨bx,rfl,S1,mS,gS⟩,b4⟩;have HS:=zh (And.intro mS (And.intro gS b4));refine wK hK (⟨(b4.cell (p:=⟨w.heap.size,0,none⟩) (by simpa using zc3)).trans c0,(b4.cell (p:=⟨w.heap.size,1,none⟩) (by simpa using zc3)).trans c1,(b4.cell (p:=⟨w.heap.size,2,none⟩) (by simpa using zc3)).trans c2⟩) fun hHeld=> ?_;clear hK K;refine wR 3 fun K hK=> ?_;go_simp;refine (jb4 _ HR.out).mono ?_;rintro e w5 ⟨⟨bt,rfl,S2,tS,gS2⟩,b5⟩;have HT:=zh (And.intro tS (And.intro gS2 b5));refine wK hK (⟨((b4.trans (b5.mono b4.size)).cell (p:=⟨w.heap.size,0,none⟩) (by simpa using zc3)).trans c0,((b4.trans (b5.mono b4.size)).cell (p:=⟨w.heap.size,1,none⟩) (by simpa using zc3)).trans c1,((b4.trans (b5.mono b4.size)).cell (p:=⟨w.heap.size,2,none⟩) (by simpa using zc3)).trans c2⟩) fun hHeld=> ?_;clear hK K;refine wY ?_;refine wD ?_;clear hHeld mS gS b4 tS gS2 b5 c0 c1 c2;have hN:N2 (RXM t P s bm) (RYN t P s bn) w bx bt [w.heap.size] q0 q0 w5/\w5.heap[w.heap.size]? =some (.cells #[.int .i64 t,.int .i64 P,.int .i64 s] 23):=by
  obtain ⟨mS,gS,b4⟩:=HS.out;obtain ⟨tS,gS2,b5⟩:=HT.out;have z34:w3.heap.size<=w4.heap.size:=by have:=b4.size;simpa using this
  have z45:=b5.size;have z1:=B1.out.size;have b34:Below w3.heap.size w3 w4:=(Below.refl _ _).drew.trans (by simpa using b4);have b35:Below w3.heap.size w3 w5:=b34.trans (b5.mono z34);have mS5:MSA w5 S1 bx t P s TS.begin:=mS.keep (T:=fun _=>False) (Fr.of_below b5) (fun _ hf=>hf.elim);have P5:=yj.keep (T:=fun _=>False) P3.out (Fr.of_below b35) (fun _ _ x=>x);have U5:=ke.keep (T:=fun _=>False) U3.out (Fr.of_below b35) (fun _ _ x=>x);have lS:=mS.2;have lT:=LT.out;have lU:=ke.lt U3.out;have gT:=GT.out;have gU:=GU.out;have gS':∀k,S1 k->w3.heap.size<=k:=fun k hk=>by have:=gS k hk;simpa using this
  have e1:=jbl (P:=P) mS5 P5 (fun k hs ht=>by have:=gS' k hs;have:=lT k ht;omega);have e2:=ryn_make (P:=P) tS U5 (fun k hs ht=>by have:=gS2 k hs;have:=lU k ht;omega);rw [hq0] at e1 e2;refine ⟨⟨⟨_,_,e1,e2,fun k hk=> ?_,fun k hk=> ?_,fun k hk hk2=> ?_,fun L hL=> ?_⟩,B3.out.trans (b35.mono B3.out.size),fun L hL=> ?_⟩,((b35.block w.heap.size zc3)).trans HC3.out⟩
  ·rcases hk with hk | hk
   ·have:=gS' k hk;omega
   ·have:=gT k hk;omega
  ·rcases hk with hk | hk
   ·have:=gS2 k hk;omega
   ·have:=gU k hk;omega
  ·rcases hk with hk | hk <;> rcases hk2 with hk2 | hk2
   ·have:=lS k hk;have:=gS2 k hk2;omega
   ·have:=gS' k hk;have:=lU k hk2;omega
   ·have:=lT k hk;have:=gS2 k hk2;omega
   ·have:=lT k hk;have:=gU k hk2;omega
  ·simp at hL;subst hL;refine ⟨fun hk=> ?_,fun hk=> ?_⟩
   ·rcases hk with hk | hk
    ·have:=gS' _ hk;omega
    ·have:=gT _ hk;omega
   ·rcases hk with hk | hk
    ·have:=gS2 _ hk;omega
    ·have:=gU _ hk;omega
  ·simp at hL;subst hL;exact ⟨zo,Nat.le_refl _⟩
 have HN:=zh hN;clear hN HS HT P3 U3 GT GU LT HC3 B0 B1 B2 B3 zc1 zc2 zc3 z12 z23;go_wp2_with fail;go_loopw [11] (fun vi wr=>MaRel w t P s P bx bm bt bn vi wr) (fun vi _=>VG t P+1 - (intOf vi).toNat);case atStart=>exact ⟨0,q0,rfl,HG.out,HN.out.1,HN.out.2⟩
 case round=>
  clear HN HG;obtain ⟨k,qk,rfl,hgi,hn,hcb⟩:=hrel;have hmost:=hgi.mu;have HGk:=zh hgi;have HN:=zh hn;have HCB:=zh hcb;clear hn hcb hgi;have hkm:(k:Int)<=(VG t P:Int):=zo;have hbd:=jeX HR.out;have c0:=jd (o:=0) HCB.out;have c1:=jd (o:=1) HCB.out;have c2:=jd (o:=2) HCB.out;simp at c0 c1 c2;go_wp2_with fail;refine zM (most_any HR.out _) fun w6 b6=> ?_;have D6:=zh b6;clear b6;obtain ⟨S1,S2,x1,y1,-⟩:=HN.out.ex;have hok:=x1.ok;have hcy:=fun (W:World) (hb:Below wr.heap.size wr W)=>(KY.keep (T:=fun _=>False) y1 (Fr.of_below hb) (fun _ _ x=>x)).cells;have HCY:=zh hcy;have HSw:=zh (fun (W:World) (hb:Below wr.heap.size wr W)=>Xe (yi.keep (T:=fun _=>False) x1 (Fr.of_below hb) (fun _ _ x=>x)));have HMd:=zh (fun (W:World) (hb:Below wr.heap.size wr W)=>jbm (yi.keep (T:=fun _=>False) x1 (Fr.of_below hb) (fun _ _ x=>x)));have HNx:=zh (fun (W:World) (hb:Below wr.heap.size wr W)=>rxm_next (yi.keep (T:=fun _=>False) x1 (Fr.of_below hb) (fun _ _ x=>x)) HR.out);have HNy:=zh (fun (W:World) (hb:Below wr.heap.size wr W)=>ryn_next (KY.keep (T:=fun _=>False) y1 (Fr.of_below hb) (fun _ _ x=>x)) hok HR.out);have HN2:=zh (fun (W:World) (hb:Below wr.heap.size wr W)=>HN.out.below yi KY hb);have HOk:=zh hok;have HL:=zh (HN.out.ls w.heap.size zT);clear hcy hok c0 c1 c2;generalize hpage:(qk.1.page:Int)=pg at*
  generalize hmade:qk.1.made=md at*
  have hpp:(pg != pg)=false:=zT;have hmm:(md != md)=false:=zT;by_cases hp:qk.1.ph=19
  ·have e19:=(Jm HGk.out.inv).2 hp;have ev:YH t P qk.1= .tuple #[j8 0 0 0 0,.bool false]:=by unfold YH;rw [e19]
   rw [ev] at HNx HNy;go_wp2_with fail;refine zM (HNx.out _ D6.out) fun w7 b7=> ?_;have D7:=zh (D6.out.trans (b7.mono D6.out.size));have D7a:=zh (D7.out.alloc D7.out.size (.cells #[.int .i64 0,.int .i64 0,.int .i64 0,.int .i64 0,.int .u64 0,.int .u64 0] 40));clear b7;unfold j8;go_wp2_with fail;refine zM (HNy.out _ D7a.out) fun w8 b8=> ?_;have D8:=zh (D7a.out.trans (b8.mono D7a.out.size));have A8:=zh ((b8.block w7.heap.size zT).trans (heap_alloc_new w7 (.cells #[.int .i64 0,.int .i64 0,.int .i64 0,.int .i64 0,.int .u64 0,.int .u64 0] 40)));have z78:w7.heap.size < w8.heap.size:=zL b8;have D8a:=zh (D8.out.alloc D8.out.size (.cells #[.int .i64 0,.int .i64 0,.int .i64 0,.int .i64 0,.int .u64 0,.int .u64 0] 40));have KAB:=zh (fun (W:World) (hb:Below (w8.alloc (.cells #[.int .i64 0,.int .i64 0,.int .i64 0,.int .i64 0,.int .u64 0,.int .u64 0] 40)).heap.size (w8.alloc (.cells #[.int .i64 0,.int .i64 0,.int .i64 0,.int .i64 0,.int .u64 0,.int .u64 0] 40)) W)=>show (∀o:Nat,W.cell? ⟨w7.heap.size,o,none⟩=(#[.int .i64 0,.int .i64 0,.int .i64 0,.int .i64 0,.int .u64 0,.int .u64 0]:Array Value)[o]?)/\(∀o:Nat,W.cell? ⟨w8.heap.size,o,none⟩=(#[.int .i64 0,.int .i64 0,.int .i64 0,.int .i64 0,.int .u64 0,.int .u64 0]:Array Value)[o]?)/\W.cell? ⟨bt,11,none⟩=some (.int .i64 pg)/\W.cell? ⟨bt,27,none⟩=some (.int .u32 md) by
    have hA:=(hb.block w7.heap.size (by simp;omega)).trans ((heap_alloc_old w8 _ z78).trans A8.out);have hB:=(hb.block w8.heap.size zT).trans (heap_alloc_new w8 (.cells #[.int .i64 0,.int .i64 0,.int .i64 0,.int .i64 0,.int .u64 0,.int .u64 0] 40));exact ⟨fun o=>jd hA,fun o=>jd hB,HCY.out W (D8a.out.trans (hb.mono D8a.out.size))⟩)
   clear b8 HNx HNy;unfold j8;have hE0:=(Below.refl (w8.alloc (.cells #[.int .i64 0,.int .i64 0,.int .i64 0,.int .i64 0,.int .u64 0,.int .u64 0] 40)).heap.size (w8.alloc (.cells #[.int .i64 0,.int .i64 0,.int .i64 0,.int .i64 0,.int .u64 0,.int .u64 0] 40))).drew;have E0:=zh hE0;have F0:=zh (D8a.out.trans (hE0.mono D8a.out.size));clear hE0;go_wp2_with fail;refine wH (S:=fun w'=>(∀o:Nat,w'.cell? ⟨w7.heap.size,o,none⟩=(#[.int .i64 0,.int .i64 0,.int .i64 0,.int .i64 0,.int .u64 0,.int .u64 0]:Array Value)[o]?)/\(∀o:Nat,w'.cell? ⟨w8.heap.size,o,none⟩=(#[.int .i64 0,.int .i64 0,.int .i64 0,.int .i64 0,.int .u64 0,.int .u64 0]:Array Value)[o]?)/\w'.cell? ⟨bt,11,none⟩=some (.int .i64 pg)/\w'.cell? ⟨bt,27,none⟩=some (.int .u32 md)) (KAB.out _ E0.out) fun hHeld=> ?_;refine wT 0 ?_;refine wY ?_;refine wR 10 fun K hK=> ?_;go_simp;refine zM (HSw.out _ F0.out) fun w9 b9=> ?_;have E9:=zh (E0.out.trans (b9.mono E0.out.size));have F9:=zh (F0.out.trans (b9.mono F0.out.size));refine wK hK (KAB.out _ E9.out) fun hHeld=> ?_;clear hK K;refine wY ?_;refine wR 19 fun K hK=> ?_;go_simp;refine zM (HMd.out _ F9.out) fun w10 b10=> ?_;have E10:=zh (E9.out.trans (b10.mono E9.out.size));have F10:=zh (F9.out.trans (b10.mono F9.out.size));refine wK hK (KAB.out _ E10.out) fun hHeld=> ?_;clear hK K;refine wY ?_;refine wD ?_;clear hHeld;have HOv:=zh (fun (W:World) (hb:Below wr.heap.size wr W)=>jbk (yi.keep (T:=fun _=>False) x1 (Fr.of_below hb) (fun _ _ x=>x)) HR.out hp);have HWd:=zh (fun (W:World) (hb:Below wr.heap.size wr W)=>Xd (yi.keep (T:=fun _=>False) x1 (Fr.of_below hb) (fun _ _ x=>x)));have HKd:=zh (fun (W:World) (hb:Below wr.heap.size wr W)=>rxm_kept (yi.keep (T:=fun _=>False) x1 (Fr.of_below hb) (fun _ _ x=>x)));obtain ⟨rw_,rk_,r0,r1,r2,r3⟩:=y1.rows;have HRW:=zh (fun (W:World) (hb:Below wr.heap.size wr W)=>je (w':=W) r2 (fun k hk=>hb.block k (jn r2 hk)));have HRK:=zh (fun (W:World) (hb:Below wr.heap.size wr W)=>je (w':=W) r3 (fun k hk=>hb.block k (jn r3 hk)));have KR:=zh (fun (W:World) (hb:Below wr.heap.size wr W)=>show W.cell? ⟨bn,0,none⟩=some rw_/\W.cell? ⟨bn,1,none⟩=some rk_ from ⟨(hb.cell (World.block_lt_of_cell? wr _ r0)).trans r0,(hb.cell (World.block_lt_of_cell? wr _ r1)).trans r1⟩);have hsm:=HGk.out.mi.small;have hkl:=HGk.out.mi.kl;have HBw:=zh HN.out.bel;have G0:=zh F10.out.drew;rw [<-hkl] at HKd;clear b9 b10 KAB E0 E9 E10 F0 F9 F10 D7 D7a D8 D8a A8 HCY HSw HMd r0 r1 r2 r3;generalize qk.2.W=WW at*
   generalize qk.2.K=KK at*
   go_wp2_with fail;refine wH (S:=fun w'=>w'.cell? ⟨bn,0,none⟩=some rw_/\w'.cell? ⟨bn,1,none⟩=some rk_) (KR.out _ G0.out) fun hHeld=> ?_;refine wT 0 ?_;refine wY ?_;refine wR 2 fun K hK=> ?_;go_simp;refine zM (HOv.out _ G0.out) fun w11 b11=> ?_;have G11:=zh (G0.out.trans (b11.mono G0.out.size));refine wK hK (KR.out _ G11.out) fun hHeld=> ?_;clear hK K;refine wY ?_;refine wR 6 fun K hK=> ?_;go_simp;refine (HWd.out _ G11.out).mono ?_;rintro e w12 ⟨v12,rfl,o12,-,b12⟩;have G12:=zh (G11.out.trans (b12.mono G11.out.size));have O12:=zh (Joins.ownsRow_le o12 (Nat.zero_le _));refine wK hK (KR.out _ G12.out) fun hHeld=> ?_;clear hK K;refine wR 11 fun K hK=> ?_;go_simp;refine zM (Ku WW v12 rw_ _ O12.out (HRW.out _ G12.out) zo) fun w13 b13=> ?_;have G13:=zh (G12.out.trans (b13.mono G12.out.size));refine wK hK (KR.out _ G13.out) fun hHeld=> ?_;clear hK K;refine wY ?_;refine wR 15 fun K hK=> ?_;go_simp;refine (HKd.out _ G13.out).mono ?_;rintro e w14 ⟨v14,rfl,o14,-,b14⟩;have G14:=zh (G13.out.trans (b14.mono G13.out.size));have O14:=zh (Joins.ownsRow_le o14 (Nat.zero_le _));refine wK hK (KR.out _ G14.out) fun hHeld=> ?_;clear hK K;refine wR 20 fun K hK=> ?_;go_simp;refine zM (Ku KK v14 rk_ _ O14.out (HRK.out _ G14.out) zo) fun w15 b15=> ?_;have G15:=zh (G14.out.trans (b15.mono G14.out.size));refine wK hK (KR.out _ G15.out) fun hHeld=> ?_;clear hK K;refine wY ?_;refine wR 23 fun K hK=> ?_;go_simp;refine zM (Va _) fun w16 b16=> ?_;have G16:=zh (G15.out.trans (b16.mono G15.out.size));refine wK hK (KR.out _ G16.out) fun hHeld=> ?_;clear hK K;refine wY ?_;refine wD ?_;clear hHeld;go_wp2;go_ret;exact ⟨rfl,HBw.out.trans (G16.out.mono HBw.out.size)⟩
  ·obtain ⟨d,a,av,hnx⟩:=HGk.out.next hp;rw [kI hnx] at HNx HNy;go_wp2_with fail;refine zM (HNx.out _ D6.out) fun w7 b7=> ?_;have D7:=zh (D6.out.trans (b7.mono D6.out.size));have D7a:=zh (D7.out.alloc D7.out.size (.cells #[.int .i64 d,.int .i64 t,.int .i64 a,.int .i64 0,.int .u64 0,.int .u64 av] 40));clear b7;unfold j8;go_wp2_with fail;refine zM (HNy.out _ D7a.out) fun w8 b8=> ?_;have D8:=zh (D7a.out.trans (b8.mono D7a.out.size));have A8:=zh ((b8.block w7.heap.size zT).trans (heap_alloc_new w7 (.cells #[.int .i64 d,.int .i64 t,.int .i64 a,.int .i64 0,.int .u64 0,.int .u64 av] 40)));have z78:w7.heap.size < w8.heap.size:=zL b8;have D8a:=zh (D8.out.alloc D8.out.size (.cells #[.int .i64 d,.int .i64 t,.int .i64 a,.int .i64 0,.int .u64 0,.int .u64 av] 40));have KAB:=zh (fun (W:World) (hb:Below (w8.alloc (.cells #[.int .i64 d,.int .i64 t,.int .i64 a,.int .i64 0,.int .u64 0,.int .u64 av] 40)).heap.size (w8.alloc (.cells #[.int .i64 d,.int .i64 t,.int .i64 a,.int .i64 0,.int .u64 0,.int .u64 av] 40)) W)=>show (∀o:Nat,W.cell? ⟨w7.heap.size,o,none⟩=(#[.int .i64 d,.int .i64 t,.int .i64 a,.int .i64 0,.int .u64 0,.int .u64 av]:Array Value)[o]?)/\(∀o:Nat,W.cell? ⟨w8.heap.size,o,none⟩=(#[.int .i64 d,.int .i64 t,.int .i64 a,.int .i64 0,.int .u64 0,.int .u64 av]:Array Value)[o]?)/\W.cell? ⟨bt,11,none⟩=some (.int .i64 pg)/\W.cell? ⟨bt,27,none⟩=some (.int .u32 md) by
    have hA:=(hb.block w7.heap.size (by simp;omega)).trans ((heap_alloc_old w8 _ z78).trans A8.out);have hB:=(hb.block w8.heap.size zT).trans (heap_alloc_new w8 (.cells #[.int .i64 d,.int .i64 t,.int .i64 a,.int .i64 0,.int .u64 0,.int .u64 av] 40));exact ⟨fun o=>jd hA,fun o=>jd hB,HCY.out W (D8a.out.trans (hb.mono D8a.out.size))⟩)
   clear b8 HNx HNy;unfold j8;have hE0:=(Below.refl (w8.alloc (.cells #[.int .i64 d,.int .i64 t,.int .i64 a,.int .i64 0,.int .u64 0,.int .u64 av] 40)).heap.size (w8.alloc (.cells #[.int .i64 d,.int .i64 t,.int .i64 a,.int .i64 0,.int .u64 0,.int .u64 av] 40))).drew;have E0:=zh hE0;have F0:=zh (D8a.out.trans (hE0.mono D8a.out.size));clear hE0;go_wp2_with fail;refine wH (S:=fun w'=>(∀o:Nat,w'.cell? ⟨w7.heap.size,o,none⟩=(#[.int .i64 d,.int .i64 t,.int .i64 a,.int .i64 0,.int .u64 0,.int .u64 av]:Array Value)[o]?)/\(∀o:Nat,w'.cell? ⟨w8.heap.size,o,none⟩=(#[.int .i64 d,.int .i64 t,.int .i64 a,.int .i64 0,.int .u64 0,.int .u64 av]:Array Value)[o]?)/\w'.cell? ⟨bt,11,none⟩=some (.int .i64 pg)/\w'.cell? ⟨bt,27,none⟩=some (.int .u32 md)) (KAB.out _ E0.out) fun hHeld=> ?_;refine wT 0 ?_;refine wY ?_;refine wR 10 fun K hK=> ?_;go_simp;refine zM (HSw.out _ F0.out) fun w9 b9=> ?_;have E9:=zh (E0.out.trans (b9.mono E0.out.size));have F9:=zh (F0.out.trans (b9.mono F0.out.size));refine wK hK (KAB.out _ E9.out) fun hHeld=> ?_;clear hK K;refine wY ?_;refine wR 19 fun K hK=> ?_;go_simp;refine zM (HMd.out _ F9.out) fun w10 b10=> ?_;have E10:=zh (E9.out.trans (b10.mono E9.out.size));have F10:=zh (F9.out.trans (b10.mono F9.out.size));refine wK hK (KAB.out _ E10.out) fun hHeld=> ?_;clear hK K;refine wY ?_;refine wD ?_;clear hHeld;have NB:=zh (HN2.out _ F10.out);have HCb:=zh ((F10.out.block w.heap.size HL.out.1).trans HCB.out);have hvu:=rxm_u64 x1 HR.out hnx;have HSx:=zh (fun S1 (h1:RXM t P s bm w10 bx S1 qk)=>rxm_st h1 HR.out hnx (HGk.out.vok hnx));have HSy:=zh (fun (W:World) S1 (h1:RYN t P s bn W bt S1 qk)=>ryn_st h1 HOk.out HR.out hnx hvu (HGk.out.vok hnx) (fun e=>HGk.out.w18 e));have HLk:=zh (HGk.out.step hp hnx hvu);clear hvu;clear b9 b10 KAB E0 E9 E10 F0 F9 D7 D7a D8 D8a A8 HCY HSw HMd;go_wp2_with fail;refine zM (NB.out.fst yi KY HSx.out) ?_;rintro w11 ⟨n11,l11⟩;have N11:=zh n11;have L11:=zh ((l11 w.heap.size zT).trans HCb.out);clear n11 l11 NB;go_wp2_with fail;refine zM (N11.out.snd yi KY (HSy.out _)) ?_;rintro w12 ⟨n12,l12⟩;have N12:=zh n12;have L12:=zh ((l12 w.heap.size zT).trans L11.out);clear n12 l12 N11;go_wp2;go_roundw;case rel=>
    exact ⟨k+1,nxt t P s qk,by go_num,HLk.out,N12.out,L12.out⟩
   case measure=>simp [intOf];omega
end

theorem XN (t p s:Int) (wv:Value) (xs:List Int) (w:World) (hW:Rd w wv 1 xs.length (yl xs)) (hu:∀v∈xs,NM.U64 v) :
 Calls prog 3 #[.agg #[.int .i64 t,.int .i64 p,.int .i64 s],wv] w (zW (.bool true) w):=by
 cases hf:jfs t p s xs with
 | none=>exact VJ hW hu hf
 | some vs=>
  obtain ⟨P,rfl⟩:∃P:Nat,p=P:=by
   have hr:jq t p s=true:=by
    unfold jfs at hf;split at hf
    ·rename_i vs' hs;exact (Qf hs).1
    ·cases hf
   have:=jt hr;exact ⟨p.toNat,zo⟩
  exact VI hW hu hf
end Go.Proofs.YtcnininelndjoaaGreat

