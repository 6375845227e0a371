/- parts of the proof, merged by a program. -/
import Derived.Test.YtcnininelndjoaaGreatMmt5
set_option linter.unusedSimpArgs false
set_option linter.unusedVariables false
set_option maxRecDepth 100000
set_option maxHeartbeats 4000000
namespace Go.Proofs.YtcnininelndjoaaGreat
open Go.Proofs.Tryz
open Go.RowKit
section
variable {t p s:Int} {ad:Addr} {n c:Nat} {vs:List Int}

def hungB (vs:List Int) (t:Int) (q:Nat):Bool:=iK (gv vs t q 0) == 1 || (iK (gv vs t q 0) == 3 && !qx (gv vs t q 5) (iC (gv vs t q 0)))
def y9 (vs:List Int) (t:Int) (q:Nat):Bool:=hungB vs t q || (gv vs t q 2 == 0 && gv vs t q 3 == 0)
def QD (vs:List Int) (t p:Int):Bool:=yI (y9 vs t) p.toNat
theorem jeY (c:Nat) (w:World) (h:XV w t p s ad n vs) :
 Calls prog 125 #[.agg #[.int .i64 t,.int .i64 p,.int .i64 s,.slice (some ad) n c]] w (zW (.bool (QD vs t p)) w):=by
 have X0:=h.boxed c;have bd:4<=p/\p<=1024:=by have:=h.bd;omega
 have HG:=zh h.gu;have HI:=zh (fun (q:Int) (w:World) (h:XV w t p s ad n vs) (h0:0<=q) (h1:q < p)=>yp q c w h h0 h1);have HTk:=zh (fun (q:Int) (w:World) (h:XV w t p s ad n vs) (h0:0<=q) (h1:q < p)=>J5 q c w h h0 h1);have HX:∀q,0<=q->q < p->∃k k2:Nat,k < n/\k2 < n/\(∀w,Calls prog 178 #[.agg #[.int .i64 t,.int .i64 p,.int .i64 s],.int .i64 q] w (zW (.int .i64 k) w))/\w.cell? (ad.add k)=some (.int .u32 (gv vs t q 3))/\(∀w,Calls prog 177 #[.agg #[.int .i64 t,.int .i64 p,.int .i64 s],.int .i64 q] w (zW (.int .i64 k2) w))/\w.cell? (ad.add k2)=some (.int .u32 (gv vs t q 2)):=by
  intro q h0 h1;obtain ⟨hx1,hx2⟩:=h.cx h0 h1 (part:=3) zo zo;obtain ⟨hy1,hy2⟩:=h.cx h0 h1 (part:=2) zo zo;refine ⟨cix t q 3,cix t q 2,hx1,hy1,fun w=> ?_,h.cells _ hx1,fun w=> ?_,h.cells _ hy1⟩
  ·have:=XC t p s q w;rwa [hx2] at this
  ·have:=XH t p s q w;rwa [hy2] at this
 have HXX:=zh HX;generalize hr:QD vs t p=r;have hr2:yI (y9 vs t) p.toNat=r:=hr;have HR:=zh hr2;clear h hr hr2 HX;go_enter func125,ntmps125;go_wp2_with fail;go_loopw [3,4] (fun v3 _ wr=>QH (y9 vs t) p.toNat (w.alloc (.cells #[.int .i64 t,.int .i64 p,.int .i64 s,.slice (some ad) n c] 128)) v3 wr) (fun v3 _ _=>p.toNat - (intOf v3).toNat);case atStart=>exact ⟨0,zo,rfl,rfl,Below.refl _ _⟩
 case round=>
  obtain ⟨q,hq,rfl,hall,hbel⟩:=hrel;have X1:=X0.keep hbel;have HA:=zh hall;have HBel:=zh hbel;clear hall hbel X0;obtain ⟨x0,x1,x2,x3⟩:=X1.cells;by_cases hqp:(q:Int) < p
  ·have hsq:y9 vs t q=((iK (gv vs t q 0) == 1 || (iK (gv vs t q 0) == 3 && !qx (gv vs t q 5) (iC (gv vs t q 0)))) || (gv vs t q 2 == 0 && gv vs t q 3 == 0)):=rfl;have HSQ:=zh hsq;have I1:=zh (fun (w:World) (h:XV w t p s ad n vs)=>HI.out q w h zo hqp);have I3:=zh (fun (w:World) (h:XV w t p s ad n vs)=>HTk.out q w h zo hqp);have g5:=(HG.out q 5).1;have HFu:=zh (fun w=>XL (gv vs t q 5) (iC (gv vs t q 0)) w g5);obtain ⟨k,k2,hkn,hkn2,hP,hc0,hN,hd0⟩:=HXX.out q zo hqp;have hc1:=(BS.mk X1.bel zT:BS w [] wr).old hc0;have hd1:=(BS.mk X1.bel zT:BS w [] wr).old hd0;have HP:=zh hP;have HNx:=zh hN;clear hsq HI HTk HG g5 hP hN hc0 hd0 HXX;generalize qx (gv vs t q 5) (iC (gv vs t q 0))=fu at*
   generalize iK (gv vs t q 0)=a1 at*
   generalize iL (gv vs t q 0)=a2 at*
   generalize iC (gv vs t q 0)=a3 at*
   generalize gv vs t q 5=u5 at*
   generalize gv vs t q 2=u2 at*
   generalize gv vs t q 3=u3 at*
   have HC1:=zh hc1;have HD1:=zh hd1;clear hc1 hd1;go_wp2_with fail;refine zM (I1.out _ X1.xv) fun w1 hb1=> ?_;have X2:=X1.keep hb1;obtain ⟨X20,X21,X22,X23⟩:=X2.cells;have X2z:=X2.lt;have XI:=X2.alloc (.cells #[.int .i64 a1,.int .i64 a2,.int .i64 a3] 130);have bI:=jr w1 #[.int .i64 a1,.int .i64 a2,.int .i64 a3] 130;have lI:w1.heap.size < (w1.alloc (.cells #[.int .i64 a1,.int .i64 a2,.int .i64 a3] 130)).heap.size:=zT;have hbw:=(HBel.out.trans (hb1.mono HBel.out.size)).alloc (Nat.le_trans HBel.out.size hb1.size) (.cells #[.int .i64 a1,.int .i64 a2,.int .i64 a3] 130);have cc1:=(hb1.cell (World.block_lt_of_cell? _ _ HC1.out)).trans HC1.out;have dd1:=(hb1.cell (World.block_lt_of_cell? _ _ HD1.out)).trans HD1.out;go_wp2_with fail;refine jT ?_;intro wi hwi;have hbi:Below w1.heap.size w1 wi:=by rw [hwi];exact (Below.refl _ _).alloc (Nat.le_refl _) _
   rw [<-hwi] at XI bI lI hbw;have cc2:=(hbi.cell (World.block_lt_of_cell? _ _ cc1)).trans cc1;have dd2:=(hbi.cell (World.block_lt_of_cell? _ _ dd1)).trans dd1;have HXI:=zh XI.box;have hxl:=XI.lt;have HbI:=zh bI;clear hwi x0 x1 x2 x3 X20 X21 X22 X23 X2z cc1 dd1 bI;by_cases hk1:a1=1
   ·subst hk1;have hyes:y9 vs t q=true:=by rw [HSQ.out];simp
    have HY:=zh hyes;clear hyes;refine QN (zP HXI.out) (zP HbI.out) fun hHeld=> ?_;refine wT 0 ?_;refine wY ?_;refine wD ?_;refine jT ?_;intro wz hwz;rw [<-hwz] at hHeld;clear hwz;have X5:=XI.keep hHeld.1.bel;have hbz:=hbw.trans (hHeld.1.bel.mono hbw.size);have cc3:=hHeld.1.old cc2;have dd3:=hHeld.1.old dd2;have HBz:=zh hbz;have HX5:=zh X5.box;have hl5:=X5.lt;clear hHeld hbz;go_wp2_with fail;go_roundw;case rel=>exact ⟨q+1,zo,by go_num,by simp [yI,HA.out,HY.out],HBz.out⟩
    case measure=>simp [intOf];omega
   ·have hkb1:(a1 == 1)=false:=by simp [hk1]
    by_cases hk3:a1=3
    ·subst hk3;cases fu
     ·clear hk1;have hyes:y9 vs t q=true:=by rw [HSQ.out];simp
      have HY:=zh hyes;clear hyes;refine QN (zP HXI.out) (zP HbI.out) fun hHeld=> ?_;refine wT 0 ?_;refine wY ?_;refine wC 10 (I3.out _ (XI.xv.keep hHeld.1.bel)) fun wr1 hHeld=> ?_;refine wC 13 (HFu.out _) fun wz hHeld=> ?_;refine wY ?_;refine wD ?_;have X5:=XI.keep hHeld.1.bel;have hbz:=hbw.trans (hHeld.1.bel.mono hbw.size);have cc3:=hHeld.1.old cc2;have dd3:=hHeld.1.old dd2;have HBz:=zh hbz;have HX5:=zh X5.box;have hl5:=X5.lt;clear hHeld hbz;go_wp2_with fail;go_roundw;case rel=>exact ⟨q+1,zo,by go_num,by simp [yI,HA.out,HY.out],HBz.out⟩
      case measure=>simp [intOf];omega
     ·clear hk1;refine QN (zP HXI.out) (zP HbI.out) fun hHeld=> ?_;refine wT 0 ?_;refine wY ?_;refine wC 10 (I3.out _ (XI.xv.keep hHeld.1.bel)) fun wr1 hHeld=> ?_;refine wC 13 (HFu.out _) fun wz hHeld=> ?_;refine wY ?_;refine wD ?_;have X5:=XI.keep hHeld.1.bel;have hbz:=hbw.trans (hHeld.1.bel.mono hbw.size);have cc3:=hHeld.1.old cc2;have dd3:=hHeld.1.old dd2;have HBz:=zh hbz;have HX5:=zh X5.box;have hl5:=X5.lt;clear hHeld hbz;by_cases hu2:u2=0
      ·subst hu2;by_cases hu3:u3=0
       ·subst hu3;have hyes:y9 vs t q=true:=by rw [HSQ.out];simp
        have HY:=zh hyes;clear hyes;obtain ⟨y0,y1,y2,y3⟩:=X5.cells;go_wp2_with fail;refine wHb3 (zP HX5.out) (zQ dd3) (zQ cc3) fun hHeld=> ?_;refine wT 0 ?_;refine wY ?_;refine wC 5 (HNx.out _) fun wr1 hHeld=> ?_;refine wY ?_;refine wC 15 (HP.out _) fun wz hHeld=> ?_;refine wY ?_;refine wD ?_;have hb6:=HBz.out.trans (hHeld.1.bel.mono HBz.out.size);clear hHeld;go_wp2_with fail;go_roundw;case rel=>exact ⟨q+1,zo,by go_num,by simp [yI,HA.out,HY.out],hb6⟩
        case measure=>simp [intOf];omega
       ·have hub:(u3 != 0)=true:=by simp [hu3]
        have hno:y9 vs t q=false:=by rw [HSQ.out];simp [hu3]
        have hres:r=false:=by rw [<-HR.out];exact kF zo hno
        subst hres;clear hno hu3;obtain ⟨y0,y1,y2,y3⟩:=X5.cells;go_wp2_with fail;refine wHb3 (zP HX5.out) (zQ dd3) (zQ cc3) fun hHeld=> ?_;refine wT 0 ?_;refine wY ?_;refine wC 5 (HNx.out _) fun wr1 hHeld=> ?_;refine wY ?_;refine wC 15 (HP.out _) fun wz hHeld=> ?_;refine wY ?_;refine wD ?_;have X6:=X5.keep hHeld.1.bel;clear hHeld;go_wp2;go_ret;exact ⟨rfl,X6.bel⟩
      ·have hub:(u2 != 0)=true:=by simp [hu2]
       have hno:y9 vs t q=false:=by rw [HSQ.out];simp [hu2]
       have hres:r=false:=by rw [<-HR.out];exact kF zo hno
       subst hres;clear hno hu2;obtain ⟨y0,y1,y2,y3⟩:=X5.cells;go_wp2_with fail;refine wHb3 (zP HX5.out) (zQ dd3) (zQ cc3) fun hHeld=> ?_;refine wT 0 ?_;refine wY ?_;refine wC 5 (HNx.out _) fun wz hHeld=> ?_;refine wY ?_;refine wD ?_;have X6:=X5.keep hHeld.1.bel;clear hHeld;go_wp2;go_ret;exact ⟨rfl,X6.bel⟩
    ·have hkb3:(a1 == 3)=false:=by simp [hk3]
     refine QN (zP HXI.out) (zP HbI.out) fun hHeld=> ?_;refine wT 0 ?_;refine wY ?_;refine wD ?_;refine jT ?_;intro wz hwz;rw [<-hwz] at hHeld;clear hwz;have X5:=XI.keep hHeld.1.bel;have hbz:=hbw.trans (hHeld.1.bel.mono hbw.size);have cc3:=hHeld.1.old cc2;have dd3:=hHeld.1.old dd2;have HBz:=zh hbz;have HX5:=zh X5.box;have hl5:=X5.lt;clear hHeld hbz;by_cases hu2:u2=0
     ·subst hu2;by_cases hu3:u3=0
      ·subst hu3;have hyes:y9 vs t q=true:=by rw [HSQ.out];simp
       have HY:=zh hyes;clear hyes;obtain ⟨y0,y1,y2,y3⟩:=X5.cells;go_wp2_with fail;refine wHb3 (zP HX5.out) (zQ dd3) (zQ cc3) fun hHeld=> ?_;refine wT 0 ?_;refine wY ?_;refine wC 5 (HNx.out _) fun wr1 hHeld=> ?_;refine wY ?_;refine wC 15 (HP.out _) fun wz hHeld=> ?_;refine wY ?_;refine wD ?_;have hb6:=HBz.out.trans (hHeld.1.bel.mono HBz.out.size);clear hHeld;go_wp2_with fail;go_roundw;case rel=>exact ⟨q+1,zo,by go_num,by simp [yI,HA.out,HY.out],hb6⟩
       case measure=>simp [intOf];omega
      ·have hub:(u3 != 0)=true:=by simp [hu3]
       have hno:y9 vs t q=false:=by rw [HSQ.out];simp [hu3,hk1,hk3]
       have hres:r=false:=by rw [<-HR.out];exact kF zo hno
       subst hres;clear hno hu3;obtain ⟨y0,y1,y2,y3⟩:=X5.cells;go_wp2_with fail;refine wHb3 (zP HX5.out) (zQ dd3) (zQ cc3) fun hHeld=> ?_;refine wT 0 ?_;refine wY ?_;refine wC 5 (HNx.out _) fun wr1 hHeld=> ?_;refine wY ?_;refine wC 15 (HP.out _) fun wz hHeld=> ?_;refine wY ?_;refine wD ?_;have X6:=X5.keep hHeld.1.bel;clear hHeld;go_wp2;go_ret;exact ⟨rfl,X6.bel⟩
     ·have hub:(u2 != 0)=true:=by simp [hu2]
      have hno:y9 vs t q=false:=by rw [HSQ.out];simp [hu2,hk1,hk3]
      have hres:r=false:=by rw [<-HR.out];exact kF zo hno
      subst hres;clear hno hu2;obtain ⟨y0,y1,y2,y3⟩:=X5.cells;go_wp2_with fail;refine wHb3 (zP HX5.out) (zQ dd3) (zQ cc3) fun hHeld=> ?_;refine wT 0 ?_;refine wY ?_;refine wC 5 (HNx.out _) fun wz hHeld=> ?_;refine wY ?_;refine wD ?_;have X6:=X5.keep hHeld.1.bel;clear hHeld;go_wp2;go_ret;exact ⟨rfl,X6.bel⟩
  ·obtain rfl:q=p.toNat:=by omega
   have hres:r=true:=by rw [<-HR.out];exact HA.out
   subst hres;go_wp2;go_ret;exact ⟨rfl,X1.bel⟩
end
section
variable {t p s:Int} {ad:Addr} {n c:Nat} {vs:List Int}

def Jq (vs:List Int) (t:Int):Nat->Int
 | 0=>0
 | q+1=>Jq vs t q+if iK (gv vs t q 0)=1 then iL (gv vs t q 0) else 0
def JY (vs:List Int) (t:Int):Nat->Int
 | 0=>0
 | q+1=>JY vs t q+(if iK (gv vs t q 0)=2 then 1 else 0)+(kj (gv vs t q 4) 32:Nat)
theorem freeN_bd (vs:List Int) (t:Int) (q:Nat):0<=Jq vs t q/\Jq vs t q<=1024*q:=by
 induction q with
 | zero=>simp [Jq]
 | succ q ih=>
  have:=kP (gv vs t q 0);unfold Jq;split <;> omega
theorem liveN_bd (vs:List Int) (t:Int) (q:Nat):0<=JY vs t q/\JY vs t q<=33*q:=by
 induction q with
 | zero=>simp [JY]
 | succ q ih=>
  have:=QT (gv vs t q 4) 32;unfold JY;split <;> omega
def JD (vs:List Int) (t p:Int):Bool:=vs.getD 0 0 == Jq vs t p.toNat && vs.getD 1 0 == JY vs t p.toNat
def CoRel (vs:List Int) (t p:Int) (W0:World) (v3 v4 v5:Value) (wr:World):Prop:=∃q:Nat,(q:Int)<=p/\v5= .int .i64 q/\v3= .int .i64 (Jq vs t q)/\v4= .int .i64 (JY vs t q)/\Below W0.heap.size W0 wr
theorem jdn (c:Nat) (w:World) (h:XV w t p s ad n vs) :
 Calls prog 126 #[.agg #[.int .i64 t,.int .i64 p,.int .i64 s,.slice (some ad) n c]] w (zW (.bool (JD vs t p)) w):=by
 have X0:=h.boxed c;have bd:4<=p/\p<=1024:=by have:=h.bd;omega
 have hnn:2<=n:=by have:=h.bd;omega
 have HG:=zh h.gu;have HI:=zh (fun (q:Int) (w:World) (h:XV w t p s ad n vs) (h0:0<=q) (h1:q < p)=>yp q c w h h0 h1);have HSl:=zh (fun (q:Int) (w:World) (h:XV w t p s ad n vs) (h0:0<=q) (h1:q < p)=>Qf q c w h h0 h1);generalize hr:JD vs t p=r;have hr2:(vs.getD 0 0 == Jq vs t p.toNat && vs.getD 1 0 == JY vs t p.toNat)=r:=hr;have HR:=zh hr2;clear h hr hr2;go_enter func126,ntmps126;go_wp2_with fail;go_loopw [3,4,5,6] (fun v3 v4 v5 _ wr=>CoRel vs t p (w.alloc (.cells #[.int .i64 t,.int .i64 p,.int .i64 s,.slice (some ad) n c] 128)) v3 v4 v5 wr) (fun _ _ v5 _ _=>p.toNat - (intOf v5).toNat);case atStart=>exact ⟨0,zo,rfl,rfl,rfl,Below.refl _ _⟩
 case round=>
  obtain ⟨q,hq,rfl,rfl,rfl,hbel⟩:=hrel;have X1:=X0.keep hbel;have HBel:=zh hbel;clear hbel X0;obtain ⟨x0,x1,x2,x3⟩:=X1.cells;have hf1:=freeN_bd vs t q;have hl1:=liveN_bd vs t q;by_cases hqp:(q:Int) < p
  ·have I1:=zh (fun (w:World) (h:XV w t p s ad n vs)=>HI.out q w h zo hqp);have I2:=zh (fun (w:World) (h:XV w t p s ad n vs)=>HSl.out q w h zo hqp);have g4:=(HG.out q 4).1;have HO:=zh (fun w=>XG (gv vs t q 4) w g4);have hsf:Jq vs t (q+1)=Jq vs t q+if iK (gv vs t q 0)=1 then iL (gv vs t q 0) else 0:=rfl
   have hsl:JY vs t (q+1)=JY vs t q+(if iK (gv vs t q 0)=2 then 1 else 0)+(kj (gv vs t q 4) 32:Nat):=rfl;have ho:=QT (gv vs t q 4) 32;have bd9:=kP (gv vs t q 0);obtain ⟨b1,b2,b3,b4,-⟩:=bd9;clear HI HSl HG g4;generalize kj (gv vs t q 4) 32=on at*
   generalize iK (gv vs t q 0)=a1 at*
   generalize iL (gv vs t q 0)=a2 at*
   generalize iC (gv vs t q 0)=a3 at*
   generalize gv vs t q 4=u4 at*
   generalize Jq vs t q=fr at*
   generalize JY vs t q=li at*
   have hon:(on:Int)<=32:=zo;by_cases hk1:a1=1
   ·subst hk1;have HSF:=zh hsf;have HSL:=zh hsl;clear hsf hsl;go_wp2_with fail;refine zM (I1.out _ X1.xv) fun w1 hb1=> ?_;have X2:=X1.keep hb1;obtain ⟨X20,X21,X22,X23⟩:=X2.cells;have X2z:=X2.lt;have XI:=X2.alloc (.cells #[.int .i64 1,.int .i64 a2,.int .i64 a3] 130);have hbw:=(HBel.out.trans (hb1.mono HBel.out.size)).alloc (Nat.le_trans HBel.out.size hb1.size) (.cells #[.int .i64 1,.int .i64 a2,.int .i64 a3] 130);go_wp2_with fail;refine zM (I2.out _ XI.xv) fun w2 hb2=> ?_;have X3:=XI.keep hb2;obtain ⟨X30,X31,X32,X33⟩:=X3.cells;have X3z:=X3.lt;have hbw2:=hbw.trans (hb2.mono hbw.size);go_wp2_with fail;refine zM (HO.out _) fun w3 hb3=> ?_;have hbw3:=hbw2.trans (hb3.mono hbw2.size);go_wp2_with fail;go_roundw;case rel=>exact ⟨q+1,zo,by go_num,by rw [HSF.out];simp,by rw [HSL.out];simp,hbw3⟩
    case measure=>simp [intOf];omega
   ·have hkb1:(a1 == 1)=false:=by simp [hk1]
    by_cases hk2:a1=2
    ·subst hk2;have HSF:=zh hsf;have HSL:=zh hsl;clear hsf hsl hk1;go_wp2_with fail;refine zM (I1.out _ X1.xv) fun w1 hb1=> ?_;have X2:=X1.keep hb1;obtain ⟨X20,X21,X22,X23⟩:=X2.cells;have X2z:=X2.lt;have XI:=X2.alloc (.cells #[.int .i64 2,.int .i64 a2,.int .i64 a3] 130);have hbw:=(HBel.out.trans (hb1.mono HBel.out.size)).alloc (Nat.le_trans HBel.out.size hb1.size) (.cells #[.int .i64 2,.int .i64 a2,.int .i64 a3] 130);go_wp2_with fail;refine zM (I2.out _ XI.xv) fun w2 hb2=> ?_;have X3:=XI.keep hb2;obtain ⟨X30,X31,X32,X33⟩:=X3.cells;have X3z:=X3.lt;have hbw2:=hbw.trans (hb2.mono hbw.size);go_wp2_with fail;refine zM (HO.out _) fun w3 hb3=> ?_;have hbw3:=hbw2.trans (hb3.mono hbw2.size);go_wp2_with fail;go_roundw;case rel=>exact ⟨q+1,zo,by go_num,by rw [HSF.out];simp,by rw [HSL.out];simp,hbw3⟩
     case measure=>simp [intOf];omega
    ·have hkb2:(a1 == 2)=false:=by simp [hk2]
     rw [if_neg hk1] at hsf;rw [if_neg hk2] at hsl;have HSF:=zh hsf;have HSL:=zh hsl;clear hsf hsl hk1 hk2;go_wp2_with fail;refine zM (I1.out _ X1.xv) fun w1 hb1=> ?_;have X2:=X1.keep hb1;obtain ⟨X20,X21,X22,X23⟩:=X2.cells;have X2z:=X2.lt;have XI:=X2.alloc (.cells #[.int .i64 a1,.int .i64 a2,.int .i64 a3] 130);have hbw:=(HBel.out.trans (hb1.mono HBel.out.size)).alloc (Nat.le_trans HBel.out.size hb1.size) (.cells #[.int .i64 a1,.int .i64 a2,.int .i64 a3] 130);go_wp2_with fail;refine zM (I2.out _ XI.xv) fun w2 hb2=> ?_;have X3:=XI.keep hb2;obtain ⟨X30,X31,X32,X33⟩:=X3.cells;have X3z:=X3.lt;have hbw2:=hbw.trans (hb2.mono hbw.size);go_wp2_with fail;refine zM (HO.out _) fun w3 hb3=> ?_;have hbw3:=hbw2.trans (hb3.mono hbw2.size);go_wp2_with fail;go_roundw;case rel=>exact ⟨q+1,zo,by go_num,by rw [HSF.out];simp,by rw [HSL.out];simp,hbw3⟩
     case measure=>simp [intOf];omega
  ·obtain rfl:q=p.toNat:=by omega
   have hc0:=X1.xv.cells 0 zo;have hc1:=X1.xv.cells 1 zo;have e0:ad.add 0=ad:=by simp [Addr.add]
   have e1:ad.add 1=⟨ad.block,ad.off+1,none⟩:=by simp [Addr.add]
   rw [e0] at hc0;rw [e1] at hc1;clear HI HSl HG;generalize Jq vs t p.toNat=fr at*
   generalize JY vs t p.toNat=li at*
   generalize vs.getD 0 0=v0 at*
   generalize vs.getD 1 0=v1 at*
   have hw1:IntKind.u32.wrap fr=fr:=IntWalk.u32_in _ zo;have hw2:IntKind.u32.wrap li=li:=IntWalk.u32_in _ zo;by_cases h1:v0=fr
   ·subst h1;have HR2:=HR.out;simp only [beq_self_eq_true,Bool.true_and] at HR2;have HR3:=zh HR2;clear HR2 HR;go_wp2;go_ret;exact ⟨kL HR3.out,X1.bel⟩
   ·have hb:(v0 == fr)=false:=by simp [h1]
    have HR2:=HR.out;rw [hb] at HR2;have HR3:=zh HR2;clear HR2 HR;go_wp2;go_ret;exact ⟨kL HR3.out,X1.bel⟩
end

def QJ:Nat->Int
 | 0=>1
 | k+1=>QJ k*2
def yh (s:Int):Int:=QJ s.toNat
theorem pageN_bd:∀k:Nat,k<=20->1<=QJ k/\QJ k<=1048576:=by decide
theorem Kg {s:Int} (h:10<=s/\s<=20):1024<=yh s/\yh s<=1048576:=by
 have:∀k:Nat,k<=20->10<=k->1024<=QJ k/\QJ k<=1048576:=zd;exact this _ zo zo
def PgRel (s:Int) (w:World) (W0:World) (v3 v4:Value) (wr:World):Prop:=∃k:Nat,(k:Int)<=s/\v4= .int .i64 k/\v3= .int .i64 (QJ k)/\W0=wr/\w=w
theorem Jw (t p s:Int) (w:World) (hr:jq t p s=true) :
 Calls prog 207 #[.agg #[.int .i64 t,.int .i64 p,.int .i64 s]] w (zW (.int .i64 (yh s)) w):=by
 obtain ⟨b1,b2,b3,b4,b5,b6⟩:=jn hr;have H:=qF t p s;rw [hr] at H;have HH:=zh H;have c0:=jr w #[.int .i64 t,.int .i64 p,.int .i64 s] 23;generalize hF:yh s=F;have HF:=zh hF;clear H hr hF;go_enter func207,ntmps207;go_wp2_with fail;refine zM (HH.out _) fun w1 hb=> ?_;have c2:=(hb.cell (p:=⟨w.heap.size,2,none⟩) zT).trans (c0 2);simp at c2;have bel:Below w.heap.size w w1:=((Below.refl _ _).alloc (Nat.le_refl _) _).trans (hb.mono zT);clear hb c0;go_wp2_with fail;go_loopw [3,4] (fun v3 v4 wr=>PgRel s w w1 v3 v4 wr) (fun _ v4 _=>s.toNat - (intOf v4).toNat);case atStart=>exact ⟨0,zo,rfl,rfl,rfl,rfl⟩
 case round=>
  obtain ⟨k,hk,rfl,rfl,rfl,-⟩:=hrel;have hp:=pageN_bd k zo;by_cases hlt:(k:Int) < s
  ·have hs:QJ (k+1)=QJ k*2:=rfl;have HS:=zh hs;clear hs;generalize QJ k=pg at*
   go_wp2;go_roundw;case rel=>exact ⟨k+1,zo,by go_num,by rw [HS.out],rfl,rfl⟩
   case measure=>simp [intOf];omega
  ·have e:k=s.toNat:=zo;have hF2:QJ k=F:=by rw [<-HF.out,e];rfl
   have HF2:=zh hF2;clear hp hF2 e;generalize QJ k=pg at*
   go_wp2;go_ret;exact ⟨qu HF2.out,bel⟩
def qQ (s k:Int):Int:=if jE k=0 then 0 else yh s / jE k - yh s / jE k % 16
theorem jaS (k:Int):jE k=0\/jE k=32\/jE k=21\/jE k=16\/jE k=10\/jE k=8\/jE k=5\/jE k=4\/jE k=3\/jE k=2:=by
 rcases (by omega:k=0\/k=1\/k=2\/k=3\/k=4\/k=5\/k=6\/k=7\/k=8\/(k < 0\/8 < k)) with rfl | rfl | rfl | rfl | rfl | rfl | rfl | rfl | rfl | h;case inr.inr.inr.inr.inr.inr.inr.inr.inr=>
  left;unfold jE;rw [if_neg zo,if_neg zo,if_neg zo,if_neg zo,if_neg zo,if_neg zo,if_neg zo,if_neg zo,if_neg zo]
 all_goals decide
theorem jdV {s k:Int} (h:10<=s/\s<=20):0<=qQ s k/\qQ s k<=1048576/\qQ s k*jE k<=yh s/\(jE k≠0->1<=qQ s k)/\(∀b:Int,0<=b->b < jE k->0<=b*qQ s k/\b*qQ s k+qQ s k<=yh s):=by
 have hp:=Kg h;unfold qQ;generalize yh s=pg at*
 have key:∀N z:Int,0<=z->N*z<=pg->∀b:Int,0<=b->b < N->0<=b*z/\b*z+z<=pg:=by
  intro N z hz hN b hb hbN;refine ⟨Int.mul_nonneg hb hz,?_⟩;have h1:(b+1)*z<=N*z:=Int.mul_le_mul_of_nonneg_right zo hz;have h2:(b+1)*z=b*z+z:=by rw [Int.add_mul,Int.one_mul]
  omega
 rcases jaS k with e | e | e | e | e | e | e | e | e | e <;> rw [e]
 ·rw [if_pos rfl];exact ⟨zo,zo,zo,fun h=>absurd rfl h,fun b h1 h2=>absurd h2 zo⟩
 all_goals
  rw [if_neg zo];refine ⟨zo,zo,zo,fun _=>by omega,key _ _ zo zo⟩
theorem XA (s k:Int) (w:World) (h:10<=s/\s<=20) :
 Calls prog 244 #[.int .i64 s,.int .i64 k] w (zW (.int .i64 (qQ s k)) w):=by
 have H:=zh (fun w=>Jw 1 4 s w (right_mk zo));have hp:=Kg h;have hd:qQ s k=if jE k=0 then 0 else yh s / jE k - yh s / jE k % 16:=rfl
 have HK:=zh (fun w=>yl k w);have hb:=QQ k;rw [hd];clear hd h;generalize jE k=n at*
 generalize yh s=pg at*
 by_cases hn:n=0
 ·subst hn;go_enter func244,ntmps244;go_wp2_with fail;refine zM (H.out _) fun w1 b1=> ?_;go_wp2_with fail;refine zM (HK.out _) fun w2 b2=> ?_;go_wp2;go_ret;exact ⟨zT,b1.trans (b2.mono b1.size)⟩
 ·rw [if_neg hn];have hnb:(n == 0)=false:=by simp [hn]
  have hpb:(pg == 0)=false:=by simp;omega
  have hq:pg.tdiv n=pg / n:=Int.tdiv_eq_ediv_of_nonneg zo;have hq0:0<=pg / n:=Int.ediv_nonneg zo zo;have hq1:pg / n<=pg:=Int.ediv_le_self _ zo;have HQ:=zh hq;go_enter func244,ntmps244;go_wp2_with fail;refine zM (H.out _) fun w1 b1=> ?_;go_wp2_with fail;refine zM (HK.out _) fun w2 b2=> ?_;go_wp2;go_ret;exact ⟨rfl,b1.trans (b2.mono b1.size)⟩
def Qy (s q off:Int):Int:=(q+1)*yh s+off
theorem ja7 (t p s q off:Int) (w:World) (hr:jq t p s=true) (h0:0<=q) (h1:q < p) (h2:0<=off) (h3:off < yh s) :
 Calls prog 206 #[.agg #[.int .i64 t,.int .i64 p,.int .i64 s],.int .i64 q,.int .i64 off] w (zW (.tuple #[.int .i64 (Qy s q off),.bool true]) w):=by
 obtain ⟨b1,b2,b3,b4,b5,b6⟩:=jn hr;have H:=qF t p s;rw [hr] at H;have HH:=zh H;have HP:=zh (fun w=>Jw t p s w hr);have hp:=Kg (s:=s) zo;have hd:Qy s q off=(q+1)*yh s+off:=rfl;rw [hd];clear H hr hd;generalize yh s=pg at*
 have hm0:0<=(q+1)*pg:=Int.mul_nonneg zo zo;have hm1:(q+1)*pg<=1024*1048576:=Int.mul_le_mul zo zo zo zo;have hw1:IntKind.i64.wrap ((q+1)*pg)=(q+1)*pg:=jD _ zo;have hw2:IntKind.i64.wrap ((q+1)*pg+off)=(q+1)*pg+off:=jD _ zo;have c0:=jr w #[.int .i64 t,.int .i64 p,.int .i64 s] 23;go_enter func206,ntmps206;go_wp2_with fail;refine zM (HH.out _) fun w1 ha=> ?_;obtain ⟨hac,haf⟩:=jB ha;have haz0:w.heap.size < w1.heap.size:=zL ha;go_wp2_with fail;refine zM (HP.out _) fun w2 hb=> ?_;obtain ⟨hbc,hbf⟩:=jB hb;have hbz0:w1.heap.size<=w2.heap.size:=zL hb;have hbz1:w.heap.size < w2.heap.size:=zL hb;go_wp2_with fail;refine zM (HP.out _) fun w3 hc=> ?_;obtain ⟨hcc,hcf⟩:=jB hc;go_wp2;refine bodyPost_ret (v:= .tuple #[.int .i64 ((q+1)*pg+off),.bool true]) (by simp [results,results206,go_sem]) rfl ⟨rfl,?_⟩;exact zR
theorem rat_any (t p s k q slot:Int) (w:World) (hr:jq t p s=true) (h0:0<=q) (h1:q < p) (h2:0<=slot) (h3:slot < jE k) :
 Calls prog 245 #[.agg #[.int .i64 t,.int .i64 p,.int .i64 s],.int .i64 k,.int .i64 q,.int .i64 slot] w (zW (.tuple #[.int .i64 (Qy s q (slot*qQ s k)),.bool true]) w):=by
 obtain ⟨b1,b2,b3,b4,b5,b6⟩:=jn hr;obtain ⟨s1,s2,s3,s4,s5⟩:=jdV (s:=s) (k:=k) zo;have h5:=s5 slot h2 h3;have s6:=s4 zo;have hp:=Kg (s:=s) zo;have HO:=zh (fun w=>ja7 t p s q (slot*qQ s k) w hr h0 h1 h5.1 zo);have HK:=zh (fun w=>yl k w);have HZ:=zh (fun w=>XA s k w zo);have hw:IntKind.i64.wrap (slot*qQ s k)=slot*qQ s k:=jD _ zo;have hS0:=((BS.start w).alloc (.cells #[.int .i64 t,.int .i64 p,.int .i64 s] 23))
 generalize Qy s q (slot*qQ s k)=ar at*
 generalize qQ s k=z at*
 generalize jE k=sl at*
 clear s1 s2 s3 s4 s5 hr;go_enter func245,ntmps245;go_wp2_with fail;refine zM (HK.out _) fun w1 ha=> ?_;obtain ⟨hac,haf⟩:=jB ha;have haz0:w.heap.size < w1.heap.size:=zL ha;have hS1:=hS0.below ha;have hB1:=fun o=>(ha.cell (p:=⟨w.heap.size,o,none⟩) zT).trans (jr w #[.int .i64 t,.int .i64 p,.int .i64 s] 23 o);have HB1:=zh hB1;clear hB1;go_wp2_with fail;refine wH (S:=fun w'=>BS w [w.heap.size] w'/\(∀o:Nat,w'.cell? ⟨w.heap.size,o,none⟩=(#[.int .i64 t,.int .i64 p,.int .i64 s]:Array Value)[o]?)) (⟨hS1.drew,HB1.out⟩) fun hHeld=> ?_;refine wT 0 ?_;refine wY ?_;refine wC 6 (HZ.out _) fun wr1 hHeld=> ?_;refine wY ?_;refine wC 8 (HO.out _) fun wz hHeld=> ?_;refine wY ?_;refine wD ?_;have bel:=hHeld.1.bel;clear hHeld;go_wp2;exact bodyPost_ret (v:= .tuple #[.int .i64 ar,.bool true]) (by simp [results,results245,go_sem]) rfl ⟨rfl,bel⟩

theorem jb5:(prog.info? 188).map (fun i=>(i.zero,i.size,i.bytes))=some (some (.agg #[.int .i64 0,.int .i64 0,.int .i64 0]),3,24):=by kernel_rfl
def jM (l:List (Int×Int×Int)):List Value:=l.flatMap fun x=>[.int .i64 x.1,.int .i64 x.2.1,.int .i64 x.2.2]
theorem VN (l:List (Int×Int×Int)):(jM l).length=l.length*3:=by
 induction l with
 | nil=>rfl
 | cons y ys ih=>unfold jM at ih ⊢;simp [ih];omega
theorem ye (l m:List (Int×Int×Int)):jM (l++m)=jM l++jM m:=by simp [jM]
theorem yo (w:World) (u1 u2 u3:Value) (T:TypeId):∀(j:Nat) (x:Value),[u1,u2,u3][j]? =some x->(w.alloc (.cells #[u1,u2,u3] T)).cell? ((⟨w.heap.size,0,none⟩:Addr).add j)=some x:=by
 intro j x hj;rcases j with _ | _ | _ | j
 ·simp at hj;subst hj;exact jd (o:=0) (heap_alloc_new w (.cells #[u1,u2,u3] T))
 ·simp at hj;subst hj;exact jd (o:=1) (heap_alloc_new w (.cells #[u1,u2,u3] T))
 ·simp at hj;subst hj;exact jd (o:=2) (heap_alloc_new w (.cells #[u1,u2,u3] T))
 ·simp at hj
def RowQ (w:World) (l:List (Int×Int×Int)) (v:Value) (w':World):Prop:=
 w'.ownsRow 0 188 3 v l.length (jM l)/\(∀k,v.ownBlock=some k->w.heap.size<=k)/\Below w.heap.size w w'
def jfa (x y:Bool):Int:=if x then 2 else if y then 4 else 3
def Km (vs:List Int) (t s q k:Int):Nat->List (Int×Int×Int)
 | 0=>[]
 | b+1=>Km vs t s q k b++[(jfa (bitB (gv vs t q 4) b) (bitB (gv vs t q 5) b),Qy s q ((b:Int)*qQ s k),qQ s k)]
theorem Yd (vs:List Int) (t s q k:Int) (b:Nat):(Km vs t s q k b).length=b:=by
 induction b with
 | zero=>rfl
 | succ b ih=>simp [Km,ih]
def jea (s k:Int):Int:=yh s - qQ s k*jE k
def Ql (vs:List Int) (t s q k:Int):List (Int×Int×Int):=
 Km vs t s q k (jE k).toNat++if 0 < jea s k then [(5,Qy s q (yh s - jea s k),jea s k)] else []
theorem Ye (vs:List Int) (t s q k:Int):(Ql vs t s q k).length<=33:=by
 have:=QQ k;unfold Ql;rw [List.length_append,Yd];split <;> simp <;> omega
section
variable {t p s:Int} {ad:Addr} {n c:Nat} {vs:List Int}

structure SlRel (w:World) (vs:List Int) (t p s q k:Int) (ad:Addr) (n c:Nat) (v7 v9:Value) (wr:World) (b:Nat):Prop where
 hb:v9= .int .i64 b
 le:(b:Int)<=jE k
 row:wr.ownsRow 0 188 3 v7 b (jM (Km vs t s q k b))
 bs:BS w (w.heap.size :: v7.ownBlock.toList) wr
 xb:XB w t p s ad n c vs wr
 far:∀k,v7.ownBlock=some k->w.heap.size < k
def SlRelE (w:World) (vs:List Int) (t p s q k:Int) (ad:Addr) (n c:Nat) (v7 v9:Value) (wr:World):Prop:=∃b,SlRel w vs t p s q k ad n c v7 v9 wr b
theorem XB.grown {w W W':World} {ob:Obj} {row:Option Nat} (h0:XV w t p s ad n vs) (h:XB w t p s ad n c vs W) (hS:BS w (w.heap.size :: row.toList) W) (hg:(W.alloc ob).grownBy W' row) (hr:∀k,row=some k->w.heap.size < k):XB w t p s ad n c vs W':=by
 have hb:Below w.heap.size w W':=(hS.bel.alloc hS.bel.size ob).grown hg (by simp;exact Nat.le_succ_of_le hS.bel.size) (fun k hk=>(hS.ls k (by simp [hk])).2);refine ⟨hb,qh hg (by have:=h.lt;simp;omega) (fun e=>by have:=hr _ e;omega) (jC _ h.lt h.box),Nat.lt_of_lt_of_le h.lt ?_,h0.keep hb⟩;have:=hg.size;simp at this;omega
theorem slab_any (q k:Int) (c:Nat) (w:World) (h:XV w t p s ad n vs) (h0:0<=q) (h1:q < p) (hk0:0<=k) (hk8:k<=8) :
 Calls prog 208 #[.agg #[.int .i64 t,.int .i64 p,.int .i64 s,.slice (some ad) n c],.int .i64 q,.int .i64 k] w fun e w'=>∃v,e= .returned v/\RowQ w (Ql vs t s q k) v w':=by
 have X0:=(h.boxed c).alloc (.cells #[] 188);have r0:=yq (w.alloc (.cells #[.int .i64 t,.int .i64 p,.int .i64 s,.slice (some ad) n c] 128)) 188 3;have hS0:=((BS.start w).alloc (.cells #[.int .i64 t,.int .i64 p,.int .i64 s,.slice (some ad) n c] 128)).alloc (.cells #[] 188);simp only [World.size_alloc] at hS0 r0;have bd:=h.bd;have hr:=h.right;have hb1:=QQ k;obtain ⟨z1,z2,z3,z4,z5⟩:=jdV (s:=s) (k:=k) zo;have hp:=Kg (s:=s) zo;have HZ:=zh (fun w=>XA s k w zo);have HK:=zh (fun w=>yl k w);have HP:=zh (fun w=>Jw t p s w hr);have HAt:=zh (fun (b:Int) w (h2:0<=b) (h3:b < jE k)=>rat_any t p s k q b w hr h0 h1 h2 h3);have HOf:=zh (fun (off:Int) w (h2:0<=off) (h3:off < yh s)=>ja7 t p s q off w hr h0 h1 h2 h3);have HT:=zh (fun (w:World) (h:XV w t p s ad n vs)=>J5 q c w h h0 h1);have HSl:=zh (fun (w:World) (h:XV w t p s ad n vs)=>Qf q c w h h0 h1);have g4:=(h.gu q 4).1;have g5:=(h.gu q 5).1;have HB4:=zh (fun (b:Nat) w (h:b < 32)=>KR (gv vs t q 4) b w h g4);have HB5:=zh (fun (b:Nat) w (h:b < 32)=>KR (gv vs t q 5) b w h g5);have hsl:∀b:Nat,Km vs t s q k (b+1)=Km vs t s q k b++[(jfa (bitB (gv vs t q 4) b) (bitB (gv vs t q 5) b),Qy s q ((b:Int)*qQ s k),qQ s k)]:=fun _=>rfl;have HSL:=zh hsl;have hslab:Ql vs t s q k=Km vs t s q k (jE k).toNat++if 0 < yh s - qQ s k*jE k then [(5,Qy s q (qQ s k*jE k),yh s - qQ s k*jE k)] else []:=by
  have e:yh s - jea s k=qQ s k*jE k:=by unfold jea;omega
  unfold Ql;rw [e];rfl
 have HSlab:=zh hslab;have H0:=zh h;obtain ⟨i0,hi0,hi1,hi2,hi3⟩:=info_parts jb5;have HI:=zh (And.intro hi0 (And.intro hi1 (And.intro hi2 hi3)));have hq1:q<=1024:=zo;have hn:=Ye vs t s q k;generalize Ql vs t s q k=res at*
 have hk1:(jE k≠0):=by
  rcases (by omega:k=0\/k=1\/k=2\/k=3\/k=4\/k=5\/k=6\/k=7\/k=8) with rfl | rfl | rfl | rfl | rfl | rfl | rfl | rfl | rfl <;> decide
 have z4b:=z4 hk1;clear hi0 hi1 hi2 hi3 h hsl hslab hr z5 g4 g5 bd hk0 hk8 z4;go_enter func208,ntmps208;obtain ⟨X00,X01,X02,X03⟩:=X0.cells;have X0z:=X0.lt;go_wp2_with fail;refine zM (HZ.out _) fun w1 hb2=> ?_;have X1:=X0.keep hb2;obtain ⟨X10,X11,X12,X13⟩:=X1.cells;have X1z:=X1.lt;have r1:=(BS.start _).below hb2 |>.row r0
 have hS1:=hS0.below hb2;clear hb2 r0 hS0 X0 X00 X01 X02 X03 X0z;go_wp2_with fail;go_loopw [7,9,10,11,12] (fun v7 v9 _ _ _ wr=>SlRelE w vs t p s q k ad n c v7 v9 wr) (fun _ v9 _ _ _ _=>33 - (intOf v9).toNat);case atStart=>exact ⟨0,rfl,zo,r1,hS1.sub _ (by simp [Value.ownBlock]),X1,by simp [Value.ownBlock]⟩
 case round=>
  obtain ⟨b,rfl,hle,hrow,hbs,hxb,hfar⟩:=hrel;have hlen:∃a c,u7= .slice a b c:=by
   rcases hrow.2 with ⟨h5,h6⟩ | ⟨g',cap',cur,h5,-⟩
   ·exact ⟨_,_,by rw [h5,h6]⟩
   ·exact ⟨_,_,h5⟩
  obtain ⟨pa,pc,rfl⟩:=hlen;have HB:=zh hbs;have HF:=zh hfar;have HRow:=zh hrow;clear r1 hS1 X1 X10 X11 X12 X13 X1z hbs hfar hrow;obtain ⟨x0,x1,x2,x3⟩:=hxb.cells;have xz:=hxb.lt;by_cases hlt:(b:Int) < jE k
  ·have hb32:b < 32:=zo;have hsb:=HSL.out b;have HA2:=zh (fun w=>HAt.out b w zo hlt);have HC4:=zh (fun w=>HB4.out b w hb32);have HC5:=zh (fun w=>HB5.out b w hb32);have HSB:=zh hsb;clear hsb HAt HB4 HB5 HOf;generalize Qy s q ((b:Int)*qQ s k)=ar at*
   generalize bitB (gv vs t q 4) b=x at*
   generalize bitB (gv vs t q 5) b=y at*
   generalize qQ s k=z at*
   generalize hslk:jE k=sl at*
   have HSLK:=zh hslk;clear hslk;generalize yh s=pg at*
   go_wp2_with fail;refine zM (HK.out _) fun w2 hb2=> ?_;have X2:=hxb.keep hb2;obtain ⟨X20,X21,X22,X23⟩:=X2.cells;have X2z:=X2.lt;go_wp2_with fail;refine zM (HA2.out _) fun w3 hb3=> ?_;have X3:=X2.keep hb3;obtain ⟨X30,X31,X32,X33⟩:=X3.cells;have X3z:=X3.lt;go_wp2_with fail;refine zM (HT.out _ X3.xv) fun w4 hb4=> ?_;have X4:=X3.keep hb4;obtain ⟨X40,X41,X42,X43⟩:=X4.cells;have X4z:=X4.lt;go_wp2_with fail;refine zM (HC5.out _) fun w5 hb5=> ?_;have X5:=X4.keep hb5;obtain ⟨X50,X51,X52,X53⟩:=X5.cells;have X5z:=X5.lt;cases y <;> cases x;all_goals
    go_wp2_with fail;refine zM (HSl.out _ X5.xv) fun w6 hb6=> ?_;have X6:=X5.keep hb6;obtain ⟨X60,X61,X62,X63⟩:=X6.cells;have X6z:=X6.lt;go_wp2_with fail;refine zM (HC4.out _) fun w7 hb7=> ?_;have X7:=X6.keep hb7;obtain ⟨X70,X71,X72,X73⟩:=X7.cells;have X7z:=X7.lt;have S7:=((((((BS.start wr).below hb2).below hb3).below hb4).below hb5).below hb6).below hb7;have R7:=S7.row HRow.out;have B7:=HB.out.below S7.bel;clear hb2 hb3 hb4 hb5 hb6 hb7;go_wp2_with (at_builtin;go_must (refine km rfl _ _ rfl 188 i0 (.agg #[.int .i64 0,.int .i64 0,.int .i64 0]) 3 24 underlying185 HI.out.1 HI.out.2.1 HI.out.2.2.1 HI.out.2.2.2 rfl zd (.slice pa b pc) b (jM (Km vs t s q k b)) rfl (R7.alloc _) ⟨w7.heap.size,0,none⟩ 1 1 [_,.int .i64 ar,.int .i64 z] rfl rfl (yo _ _ _ _ _) ?c1 ?c2 ?c3 ?_);go_must (case c1=>(simp [Value.oneCell']));go_must (case c2=>(unfold maxLen;omega));go_must (case c3=>(omega));go_must (intro v' w8 hown8 hg8 hnew8 hnil8);clear hnil8;go_must (obtain ⟨g',cap',rfl⟩:=Joins.ownsRow_form hown8 zo));go_roundw;case rel=>
     refine ⟨b+1,by go_num,by have:=HSLK.out;omega,?_,B7.append hg8 hnew8 hown8,X7.grown H0.out B7 hg8 HF.out,?_⟩
     ·rw [HSB.out,ye];exact hown8
     ·exact fun k hk=>(hnew8 k hk).elim (HF.out k) (fun h=>by have:=X7.lt;simp at h;omega)
    case measure=>simp [intOf];omega
  ·have hbe:(jE k).toNat=b:=zo;have HO2:=zh (fun w h2 h3=>HOf.out (qQ s k*jE k) w h2 h3);clear HAt HB4 HB5 HOf HSL HZ HT HSl;rw [hbe] at HSlab;have hLn:(Km vs t s q k b).length=b:=Yd _ _ _ _ _ _;generalize Km vs t s q k b=L at*
   generalize Qy s q (qQ s k*jE k)=ar at*
   have hm0:0<=qQ s k*jE k:=Int.mul_nonneg zo zo;have hb32:b<=32:=zo;generalize qQ s k=z at*
   generalize jE k=sl at*
   generalize yh s=pg at*
   clear hbe;have hm1:IntKind.i64.wrap (z*sl)=z*sl:=jD _ zo;have hm2:IntKind.i64.wrap (pg - z*sl)=pg - z*sl:=jD _ zo;go_wp2_with fail;refine zM (HK.out _) fun w2 hb2=> ?_;have X2:=hxb.keep hb2;obtain ⟨X20,X21,X22,X23⟩:=X2.cells;have X2z:=X2.lt;go_wp2_with fail;refine zM (HP.out _) fun w3 hb3=> ?_;have X3:=X2.keep hb3;obtain ⟨X30,X31,X32,X33⟩:=X3.cells;have X3z:=X3.lt;go_wp2_with fail;refine zM (HK.out _) fun w4 hb4=> ?_;have X4:=X3.keep hb4;obtain ⟨X40,X41,X42,X43⟩:=X4.cells;have X4z:=X4.lt;have S4:=(((BS.start wr).below hb2).below hb3).below hb4;have R4:=S4.row HRow.out;have B4:=HB.out.below S4.bel;clear hb2 hb3 hb4;by_cases hrest:0 < pg - z*sl
   ·have hsl2:=HSlab.out;rw [if_pos hrest] at hsl2;have HRes:=zh hsl2;have HBox:=zh X4.box;have HR4:=zh R4;clear hsl2 HSlab;have HO3:=zh (fun w=>HO2.out w zo zo);have hsub:pg - (pg - z*sl)=z*sl:=zo;go_wp2_with fail;refine wHb1 (zP HBox.out) fun hHeld=> ?_;refine wT 0 ?_;refine wY ?_;refine wC 5 (HP.out _) fun wr1 hHeld=> ?_;refine wY ?_;refine wC 8 (HO3.out _) fun wz hHeld=> ?_;refine wY ?_;refine wD ?_;have R5:=hHeld.1.row HR4.out;have B5:=B4.below hHeld.1.bel;have hzz:=B5.bel.size;clear hHeld;go_wp2_with (at_builtin;go_must (refine km rfl _ _ rfl 188 i0 (.agg #[.int .i64 0,.int .i64 0,.int .i64 0]) 3 24 underlying185 HI.out.1 HI.out.2.1 HI.out.2.2.1 HI.out.2.2.2 rfl zd (.slice pa b pc) b (jM L) rfl (R5.alloc _) ⟨wz.heap.size,0,none⟩ 1 1 [.int .i64 5,.int .i64 ar,.int .i64 (pg - z*sl)] rfl rfl (yo _ _ _ _ _) ?c1 ?c2 ?c3 ?_);go_must (case c1=>(simp [Value.oneCell']));go_must (case c2=>(unfold maxLen;omega));go_must (case c3=>(omega));go_must (intro v' w8 hown8 hg8 hnew8 hnil8);clear hnil8;go_must (obtain ⟨g',cap',rfl⟩:=Joins.ownsRow_form hown8 zo));go_ret;have B8:=B5.append hg8 hnew8 hown8;refine ⟨_,rfl,?_,fun k hk=> ?_,B8.bel⟩
    ·rw [HRes.out,ye,List.length_append,hLn];exact hown8
    ·exact Nat.le_of_lt ((hnew8 k hk).elim (HF.out k) (fun h=>by have:=X4.lt;simp at h;omega))
   ·have hsl2:=HSlab.out;rw [if_neg hrest] at hsl2;have HRes:=zh hsl2;clear hsl2 HSlab;go_wp2;go_ret;refine ⟨_,rfl,?_,fun k hk=>Nat.le_of_lt (HF.out k hk),B4.bel⟩;rw [HRes.out,List.append_nil,hLn];exact R4
end
section
variable {t p s:Int} {ad:Addr} {n c:Nat} {vs:List Int}

def QI (vs:List Int) (t s:Int) (q:Nat):List (Int×Int×Int):=
 if iK (gv vs t q 0)=1\/iK (gv vs t q 0)=2 then [(iK (gv vs t q 0),Qy s q 0,iL (gv vs t q 0)*yh s)]
 else if iK (gv vs t q 0)=3 then Ql vs t s q (iC (gv vs t q 0)) else []
def yR (vs:List Int) (t s:Int):Nat->List (Int×Int×Int)
 | 0=>[]
 | q+1=>yR vs t s q++QI vs t s q
def JS (vs:List Int) (t p s:Int):List (Int×Int×Int):=yR vs t s p.toNat
theorem jeB (vs:List Int) (t s:Int) (q:Nat):(QI vs t s q).length<=33:=by
 unfold QI;split
 ·simp
 ·split
  ·exact Ye _ _ _ _ _
  ·simp
theorem Qn (vs:List Int) (t s:Int) (q:Nat):(yR vs t s q).length<=33*q:=by
 induction q with
 | zero=>simp [yR]
 | succ q ih=>
  have:=jeB vs t s q;simp only [yR,List.length_append];omega
theorem jdU (vs:List Int) (t s q k:Int) (h0:0<=k) (h8:k<=8):0 < (Ql vs t s q k).length:=by
 have hk1:0 < jE k:=by
  rcases (by omega:k=0\/k=1\/k=2\/k=3\/k=4\/k=5\/k=6\/k=7\/k=8) with rfl | rfl | rfl | rfl | rfl | rfl | rfl | rfl | rfl <;> decide
 unfold Ql;rw [List.length_append,Yd];omega
theorem BS.tail {w0 w:World} {L:Nat} {Ls:List Nat} (h:BS w0 (L :: Ls) w):BS w0 Ls w:=h.sub _ fun _ hL=>List.mem_cons_of_mem _ hL
theorem jeW {W w5:World} {A B:Nat} {v v':Value} {e sz m:Nat} {xs:List Value} (hnew:∀k,v'.ownBlock=some k->v.ownBlock=some k\/W.heap.size<=k) (hown:w5.ownsRow 0 e sz v' m xs) :
 ∀L∈A :: v'.ownBlock.toList,L∈A :: B :: v.ownBlock.toList\/(W.heap.size<=L/\L < w5.heap.size):=by
 intro L hL;simp at hL;rcases hL with rfl | h
 ·exact Or.inl zT
 ·rcases hnew L h with h1 | h1
  ·exact Or.inl (by simp [h1])
  ·exact Or.inr ⟨h1,jt hown h⟩
theorem mem_new3 {W w5:World} {A B:Nat} {v v':Value} {e sz m:Nat} {xs:List Value} (hnew:∀k,v'.ownBlock=some k->v.ownBlock=some k\/W.heap.size<=k) (hown:w5.ownsRow 0 e sz v' m xs) :
 ∀L∈A :: v'.ownBlock.toList,L∈B :: A :: v.ownBlock.toList\/(W.heap.size<=L/\L < w5.heap.size):=by
 intro L hL;simp at hL;rcases hL with rfl | h
 ·exact Or.inl zT
 ·rcases hnew L h with h1 | h1
  ·exact Or.inl (by simp [h1])
  ·exact Or.inr ⟨h1,jt hown h⟩
structure PaRel (w:World) (vs:List Int) (t p s:Int) (ad:Addr) (n c:Nat) (v3 v4:Value) (wr:World) (q:Nat):Prop where
 hq:v4= .int .i64 q
 le:(q:Int)<=p
 row:wr.ownsRow 0 188 3 v3 (yR vs t s q).length (jM (yR vs t s q))
 bs:BS w (w.heap.size :: v3.ownBlock.toList) wr
 xb:XB w t p s ad n c vs wr
 far:∀k,v3.ownBlock=some k->w.heap.size < k
def PaRelE (w:World) (vs:List Int) (t p s:Int) (ad:Addr) (n c:Nat) (v3 v4:Value) (wr:World):Prop:=∃q,PaRel w vs t p s ad n c v3 v4 wr q
theorem jez (c:Nat) (w:World) (h:XV w t p s ad n vs) :
 Calls prog 158 #[.agg #[.int .i64 t,.int .i64 p,.int .i64 s,.slice (some ad) n c]] w fun e w'=>∃v,e= .returned v/\RowQ w (JS vs t p s) v w':=by
 have X0:=(h.boxed c).alloc (.cells #[] 188);have r0:=yq (w.alloc (.cells #[.int .i64 t,.int .i64 p,.int .i64 s,.slice (some ad) n c] 128)) 188 3;have hS0:=((BS.start w).alloc (.cells #[.int .i64 t,.int .i64 p,.int .i64 s,.slice (some ad) n c] 128)).alloc (.cells #[] 188);simp only [World.size_alloc] at hS0 r0;have bd:4<=p/\p<=1024:=by have:=h.bd;omega
 have hr:=h.right;have hp:=Kg (s:=s) (by have:=h.bd;omega);have hp0:0 < yh s:=zo;have HP:=zh (fun w=>Jw t p s w hr);have HOf:=zh (fun (q:Int) w (h0:0<=q) (h1:q < p)=>ja7 t p s q 0 w hr h0 h1 (Int.le_refl 0) hp0);have HIn:=zh (fun (q:Int) (w:World) (h:XV w t p s ad n vs) (h0:0<=q) (h1:q < p)=>yp q c w h h0 h1);have HSb:=zh (fun (q k:Int) (w:World) (h:XV w t p s ad n vs) (h0:0<=q) (h1:q < p) (h2:0<=k) (h3:k<=8)=>slab_any q k c w h h0 h1 h2 h3);have H0:=zh h;obtain ⟨i0,hi0,hi1,hi2,hi3⟩:=info_parts jb5;have HI:=zh (And.intro hi0 (And.intro hi1 (And.intro hi2 hi3)));generalize hF:JS vs t p s=F;have HF0:=zh hF;clear hi0 hi1 hi2 hi3 h hr hp0 hF;go_enter func158,ntmps158;go_wp2_with fail;go_loopw [3,4,5,6,7] (fun v3 v4 _ _ _ wr=>PaRelE w vs t p s ad n c v3 v4 wr) (fun _ v4 _ _ _ _=>1024 - (intOf v4).toNat);case atStart=>exact ⟨0,rfl,zo,r0,hS0.sub _ (by simp [Value.ownBlock]),X0,by simp [Value.ownBlock]⟩
 case round=>
  obtain ⟨q,rfl,hle,hrow,hbs,hxb,hfar⟩:=hrel;have hll:=Qn vs t s q;have hls:yR vs t s (q+1)=yR vs t s q++QI vs t s q:=rfl;generalize hL:yR vs t s q=L at*
  have hlen:∃a c,u3= .slice a L.length c:=by
   rcases hrow.2 with ⟨h5,h6⟩ | ⟨g',cap',cur,h5,-⟩
   ·exact ⟨_,_,by rw [h5,h6]⟩
   ·exact ⟨_,_,h5⟩
  obtain ⟨pa,pc,rfl⟩:=hlen;have HB:=zh hbs;have HF:=zh hfar;have HRow:=zh hrow;clear r0 hS0 X0 hbs hfar hrow;obtain ⟨x0,x1,x2,x3⟩:=hxb.cells;have xz:=hxb.lt;by_cases hlt:(q:Int) < p
  ·have I1:=zh (fun (w:World) (h:XV w t p s ad n vs)=>HIn.out q w h zo hlt);have HO:=zh (fun w=>HOf.out q w zo hlt);have HSb2:=zh (fun (k:Int) (w:World) (h:XV w t p s ad n vs) (h2:0<=k) (h3:k<=8)=>HSb.out q k w h zo hlt h2 h3);have bd9:=kP (gv vs t q 0);obtain ⟨b1,b2,b3,b4,b5,b6,-⟩:=bd9;have hpq:QI vs t s q=if iK (gv vs t q 0)=1\/iK (gv vs t q 0)=2 then [(iK (gv vs t q 0),Qy s q 0,iL (gv vs t q 0)*yh s)] else if iK (gv vs t q 0)=3 then Ql vs t s q (iC (gv vs t q 0)) else []:=rfl
   rw [hpq] at hls;have hll2:L.length<=33792:=zo;have hsb:=Ye vs t s q (iC (gv vs t q 0));have hsp:=jdU vs t s q (iC (gv vs t q 0)) b5 b6;have HSb3:=zh (fun (w:World) (h:XV w t p s ad n vs)=>HSb2.out (iC (gv vs t q 0)) w h b5 b6);clear hpq HIn HOf HSb HSb2 hll hL;generalize Ql vs t s q (iC (gv vs t q 0))=sb at*
   generalize iK (gv vs t q 0)=a1 at*
   generalize iL (gv vs t q 0)=a2 at*
   generalize iC (gv vs t q 0)=a3 at*
   generalize Qy s q 0=ar at*
   generalize yh s=pg at*
   have hm0:0<=a2*pg:=Int.mul_nonneg zo zo;have hm1:a2*pg<=1024*1048576:=Int.mul_le_mul zo zo zo zo;have hmw:IntKind.i64.wrap (a2*pg)=a2*pg:=jD _ zo;have HLs:=zh hls;clear hls;go_wp2_with fail;refine zM (I1.out _ hxb.xv) fun w2 hb2=> ?_;have X2:=hxb.keep hb2;obtain ⟨X20,X21,X22,X23⟩:=X2.cells;have X2z:=X2.lt;have XI:=X2.alloc (.cells #[.int .i64 a1,.int .i64 a2,.int .i64 a3] 130);have hS2:=(HB.out.below hb2)
   have hw2:=hb2.size;have hS3:=hS2.alloc (.cells #[.int .i64 a1,.int .i64 a2,.int .i64 a3] 130);go_wp2_with fail;refine zM (HO.out _) fun w3 hb3=> ?_;have X3:=XI.keep hb3;obtain ⟨X30,X31,X32,X33⟩:=X3.cells;have X3z:=X3.lt;have hS4:=hS3.below hb3;have bI:=fun o=>(hb3.cell (p:=⟨w2.heap.size,o,none⟩) zT).trans (jr w2 #[.int .i64 a1,.int .i64 a2,.int .i64 a3] 130 o);have bi0:=bI 0;have bi1:=bI 1;have bi2:=bI 2;simp at bi0 bi1 bi2;have li:=hb3.size;simp only [World.size_alloc] at li;have hRz:=(((BS.start wr).below hb2).alloc (.cells #[.int .i64 a1,.int .i64 a2,.int .i64 a3] 130)).below hb3;have R4:=hRz.row HRow.out;clear hb2 hb3 X20 X21 X22 X23 X2z x0 x1 x2 x3;have hls:=HLs.out;by_cases hk1:a1=1
   ·subst hk1;have hls2:yR vs t s (q+1)=L++[(1,ar,a2*pg)]:=by rw [hls];simp
    have HLS:=zh hls2;clear hls hls2;go_wp2_with fail;refine jT ?_;intro wz hwz;have hSz:BS w (w.heap.size :: w2.heap.size :: (Value.slice pa L.length pc).ownBlock.toList) wz:=by rw [hwz];exact hS4.sub _ (fun L hL=>by simp only [List.mem_cons] at hL ⊢;rcases hL with h | h | h <;> simp [h])
    have Xz:XB w t p s ad n c vs wz:=by rw [hwz];exact X3
    have bz:∀o:Nat,wz.cell? ⟨w2.heap.size,o,none⟩=(#[.int .i64 1,.int .i64 a2,.int .i64 a3]:Array Value)[o]? :=by rw [hwz];exact bI
    have Rz:wz.ownsRow 0 188 3 (.slice pa L.length pc) L.length (jM L):=by rw [hwz];exact R4
    have HX:=zh Xz.box;have HbI:=zh bz;have HRz:=zh Rz;clear hwz bz Rz bi0 bi1 bi2 X30 X31 X32 X33 X3z bI hS2 hS3 hS4 hRz R4;refine wH (S:=fun w'=>BS w (w.heap.size :: w2.heap.size :: (Value.slice pa L.length pc).ownBlock.toList) w'/\(∀o:Nat,w'.cell? ⟨w.heap.size,o,none⟩=(#[.int .i64 t,.int .i64 p,.int .i64 s,.slice (some ad) n c]:Array Value)[o]?)/\(∀o:Nat,w'.cell? ⟨w2.heap.size,o,none⟩=(#[.int .i64 1,.int .i64 a2,.int .i64 a3]:Array Value)[o]?)) (⟨hSz.drew,HX.out,HbI.out⟩) fun hHeld=> ?_;refine wT 0 ?_;refine wY ?_;refine wR 8 fun K hK=> ?_;go_simp;refine zM (jv hHeld.1 (HP.out _)) ?_;rintro wy ⟨hVy,hVyl⟩;have cxy:=jc hVyl zT hHeld.2.1;have ciy:=jc hVyl zT hHeld.2.2;have Ry:=kg hVyl (fun k hk=>by simp [hk]) (jh (w':=wz.drew) HRz.out (fun _ _=>rfl));clear hVyl;dsimp only;refine wK hK (⟨hVy,cxy,ciy⟩) fun hHeld=> ?_;clear hK K;refine wY ?_;refine wR 11 fun K hK=> ?_;go_simp;refine wK hK (⟨(hHeld.1.alloc _).tail,jC _ (hHeld.1.ls _ zT).1 hHeld.2.1,jC _ (hHeld.1.ls _ zT).1 hHeld.2.2⟩) fun hHeld=> ?_;clear hK K;refine wR 12 fun K hK=> ?_;refine kA rfl (.tmp 31) (.tmp 42) rfl 188 i0 (.agg #[.int .i64 0,.int .i64 0,.int .i64 0]) 3 24 underlying185 HI.out.1 HI.out.2.1 HI.out.2.2.1 HI.out.2.2.2 rfl zd (.slice pa L.length pc) L.length (jM L) rfl (Ry.alloc _) ⟨wy.heap.size,0,none⟩ 1 1 [.int .i64 1,.int .i64 ar,.int .i64 (a2*pg)] rfl rfl (yo _ _ _ _ _) ?c1 ?c2 ?c3 ?_;case c1=>(simp [Value.oneCell'])
    case c2=>(unfold maxLen;omega)
    case c3=>(omega)
    intro v' w5 hown5 hg5 hnew5 hnil5;clear hnil5;obtain ⟨g',cap',rfl⟩:=Joins.ownsRow_form hown5 zo;have hb5:=hHeld.1.grown hg5 (fun k hk=>by simp [hk]) (w.heap.size :: w2.heap.size :: (Value.slice pa L.length pc).ownBlock.toList) (fun L hL=>Or.inl hL);have hn5:=hHeld.1.grown hg5 (fun k hk=>by simp [hk]) (w.heap.size :: (Value.slice (some ⟨g',0,none⟩) (L.length+1) cap').ownBlock.toList) (jeW hnew5 hown5);have hlx:=(hHeld.1.ls w.heap.size zT)
    have hli:=(hHeld.1.ls w2.heap.size zT)
    have hx5:=qh hg5 hlx.1 (fun e=>by have:=HF.out _ e;omega) hHeld.2.1;have hi5:=qh hg5 hli.1 (fun e=>by have:=jt HRow.out e;omega) hHeld.2.2;refine wK hK (⟨hb5,hx5,hi5⟩) fun hHeld=> ?_;clear hK K;refine wT 13 ?_;refine wD ?_;refine jT ?_;intro wz2 hwz2;subst hwz2;go_wp2_with fail;go_roundw;case rel=>
     refine ⟨q+1,by go_num,zo,?_,hn5,⟨hn5.bel,hx5,(hn5.ls w.heap.size zT).1,H0.out.keep hn5.bel⟩,?_⟩
     ·rw [HLS.out,ye,List.length_append];exact hown5
     ·exact fun k hk=>(hnew5 k hk).elim (HF.out k) (fun h=>by have:=hlx.1;omega)
    case measure=>simp [intOf];omega
   ·have hkb1:(a1 == 1)=false:=by simp [hk1]
    by_cases hk2:a1=2
    ·subst hk2;have hls2:yR vs t s (q+1)=L++[(2,ar,a2*pg)]:=by rw [hls];simp
     have HLS:=zh hls2;clear hls hls2 hk1;go_wp2_with fail;refine jT ?_;intro wz hwz;have hSz:BS w (w.heap.size :: w2.heap.size :: (Value.slice pa L.length pc).ownBlock.toList) wz:=by rw [hwz];exact hS4.sub _ (fun L hL=>by simp only [List.mem_cons] at hL ⊢;rcases hL with h | h | h <;> simp [h])
     have Xz:XB w t p s ad n c vs wz:=by rw [hwz];exact X3
     have bz:∀o:Nat,wz.cell? ⟨w2.heap.size,o,none⟩=(#[.int .i64 2,.int .i64 a2,.int .i64 a3]:Array Value)[o]? :=by rw [hwz];exact bI
     have Rz:wz.ownsRow 0 188 3 (.slice pa L.length pc) L.length (jM L):=by rw [hwz];exact R4
     have HX:=zh Xz.box;have HbI:=zh bz;have HRz:=zh Rz;clear hwz bz Rz bi0 bi1 bi2 X30 X31 X32 X33 X3z bI hS2 hS3 hS4 hRz R4;refine wH (S:=fun w'=>BS w (w.heap.size :: w2.heap.size :: (Value.slice pa L.length pc).ownBlock.toList) w'/\(∀o:Nat,w'.cell? ⟨w.heap.size,o,none⟩=(#[.int .i64 t,.int .i64 p,.int .i64 s,.slice (some ad) n c]:Array Value)[o]?)/\(∀o:Nat,w'.cell? ⟨w2.heap.size,o,none⟩=(#[.int .i64 2,.int .i64 a2,.int .i64 a3]:Array Value)[o]?)) (⟨hSz.drew,HX.out,HbI.out⟩) fun hHeld=> ?_;refine wT 0 ?_;refine wY ?_;refine wR 8 fun K hK=> ?_;go_simp;refine zM (jv hHeld.1 (HP.out _)) ?_;rintro wy ⟨hVy,hVyl⟩;have cxy:=jc hVyl zT hHeld.2.1;have ciy:=jc hVyl zT hHeld.2.2;have Ry:=kg hVyl (fun k hk=>by simp [hk]) (jh (w':=wz.drew) HRz.out (fun _ _=>rfl));clear hVyl;dsimp only;refine wK hK (⟨hVy,cxy,ciy⟩) fun hHeld=> ?_;clear hK K;refine wY ?_;refine wR 11 fun K hK=> ?_;go_simp;refine wK hK (⟨(hHeld.1.alloc _).tail,jC _ (hHeld.1.ls _ zT).1 hHeld.2.1,jC _ (hHeld.1.ls _ zT).1 hHeld.2.2⟩) fun hHeld=> ?_;clear hK K;refine wR 12 fun K hK=> ?_;refine kA rfl (.tmp 31) (.tmp 42) rfl 188 i0 (.agg #[.int .i64 0,.int .i64 0,.int .i64 0]) 3 24 underlying185 HI.out.1 HI.out.2.1 HI.out.2.2.1 HI.out.2.2.2 rfl zd (.slice pa L.length pc) L.length (jM L) rfl (Ry.alloc _) ⟨wy.heap.size,0,none⟩ 1 1 [.int .i64 2,.int .i64 ar,.int .i64 (a2*pg)] rfl rfl (yo _ _ _ _ _) ?c1 ?c2 ?c3 ?_;case c1=>(simp [Value.oneCell'])
     case c2=>(unfold maxLen;omega)
     case c3=>(omega)
     intro v' w5 hown5 hg5 hnew5 hnil5;clear hnil5;obtain ⟨g',cap',rfl⟩:=Joins.ownsRow_form hown5 zo;have hb5:=hHeld.1.grown hg5 (fun k hk=>by simp [hk]) (w.heap.size :: w2.heap.size :: (Value.slice pa L.length pc).ownBlock.toList) (fun L hL=>Or.inl hL);have hn5:=hHeld.1.grown hg5 (fun k hk=>by simp [hk]) (w.heap.size :: (Value.slice (some ⟨g',0,none⟩) (L.length+1) cap').ownBlock.toList) (jeW hnew5 hown5);have hlx:=(hHeld.1.ls w.heap.size zT)
     have hli:=(hHeld.1.ls w2.heap.size zT)
     have hx5:=qh hg5 hlx.1 (fun e=>by have:=HF.out _ e;omega) hHeld.2.1;have hi5:=qh hg5 hli.1 (fun e=>by have:=jt HRow.out e;omega) hHeld.2.2;refine wK hK (⟨hb5,hx5,hi5⟩) fun hHeld=> ?_;clear hK K;refine wT 13 ?_;refine wD ?_;refine jT ?_;intro wz2 hwz2;subst hwz2;go_wp2_with fail;go_roundw;case rel=>
      refine ⟨q+1,by go_num,zo,?_,hn5,⟨hn5.bel,hx5,(hn5.ls w.heap.size zT).1,H0.out.keep hn5.bel⟩,?_⟩
      ·rw [HLS.out,ye,List.length_append];exact hown5
      ·exact fun k hk=>(hnew5 k hk).elim (HF.out k) (fun h=>by have:=hlx.1;omega)
     case measure=>simp [intOf];omega

    ·have hkb2:(a1 == 2)=false:=by simp [hk2]
     rw [if_neg zo] at hls;by_cases hk3:a1=3
     ·subst hk3;rw [if_pos rfl] at hls;have HLS:=zh hls;clear hls hk1 hk2 hkb1 hkb2;go_wp2_with fail;refine (HSb3.out _ X3.xv).mono ?_;rintro e w4 ⟨sv,rfl,hsv⟩;obtain ⟨gs,cs,rfl⟩:=Joins.ownsRow_form hsv.1 hsp;have X4:=X3.keep hsv.2.2;have S5:=hS4.below hsv.2.2;have R5:=((BS.start _).below hsv.2.2).row R4;have HNews:=zh (hsv.1.cells (g:=gs) rfl);have hnl:(jM sb).length=sb.length*3:=VN sb;have HNL:=zh hnl;have hone:∀u∈jM sb,u.oneCell'=true:=by
       intro u hu;simp only [jM,List.mem_flatMap] at hu;obtain ⟨x,-,hx⟩:=hu;simp at hx;rcases hx with rfl | rfl | rfl <;> rfl
      have HOne:=zh hone;clear hsv hnl hone bI hS2 hS3 hS4 hRz R4;go_wp2_with (at_builtin;go_must (refine km rfl _ _ rfl 188 i0 (.agg #[.int .i64 0,.int .i64 0,.int .i64 0]) 3 24 underlying185 HI.out.1 HI.out.2.1 HI.out.2.2.1 HI.out.2.2.2 rfl zd (.slice pa L.length pc) L.length (jM L) rfl R5 ⟨gs,0,none⟩ sb.length cs (jM sb) rfl HNL.out HNews.out HOne.out ?c2 ?c3 ?_);go_must (case c2=>(unfold maxLen;omega));go_must (case c3=>(omega));go_must (intro v' w8 hown8 hg8 hnew8 hnil8);clear hnil8;go_must (obtain ⟨g',cap',rfl⟩:=Joins.ownsRow_form hown8 zo));have hn5:=S5.grown hg8 (fun k hk=>by simp [hk]) (w.heap.size :: (Value.slice (some ⟨g',0,none⟩) (L.length+sb.length) cap').ownBlock.toList) (mem_new3 hnew8 hown8);have hx5:=qh hg8 X4.lt (fun e=>by have:=HF.out _ e;omega) X4.box;go_roundw;case rel=>
       refine ⟨q+1,by go_num,zo,?_,hn5,⟨hn5.bel,hx5,(hn5.ls w.heap.size zT).1,H0.out.keep hn5.bel⟩,?_⟩
       ·rw [HLS.out,ye,List.length_append];exact hown8
       ·exact fun k hk=>(hnew8 k hk).elim (HF.out k) (fun h=>by have:=X4.lt;omega)
      case measure=>simp [intOf];omega
     ·have hkb3:(a1 == 3)=false:=by simp [hk3]
      rw [if_neg hk3,List.append_nil] at hls;have HLS:=zh hls;clear hls hk1 hk2 hk3;go_wp2_with fail;go_roundw;case rel=>
       refine ⟨q+1,by go_num,zo,?_,hS4.sub _ (by simp;intro a ha;exact Or.inr (Or.inr ha)),X3,HF.out⟩;rw [HLS.out];exact R4
      case measure=>simp [intOf];omega
  ·have hqe:p.toNat=q:=zo;have hFL:F=L:=by rw [<-HF0.out,<-hL];unfold JS;rw [hqe]
   subst hFL;clear hL hqe hll hls;go_wp2;go_ret;exact ⟨_,rfl,HRow.out,fun k hk=>Nat.le_of_lt (HF.out k hk),HB.out.bel⟩
end
end Go.Proofs.YtcnininelndjoaaGreat

