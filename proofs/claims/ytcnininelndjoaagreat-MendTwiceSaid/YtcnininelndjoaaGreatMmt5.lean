/- parts of the proof, merged by a program. -/
import Derived.Test.YtcnininelndjoaaGreatMmt4
set_option linter.unusedSimpArgs false
set_option linter.unusedVariables false
set_option maxRecDepth 100000
set_option maxHeartbeats 4000000
namespace Go.Proofs.YtcnininelndjoaaGreat
open Go.Proofs.Tryz
open Go.RowKit

def yI (f:Nat->Bool):Nat->Bool
 | 0=>true
 | k+1=>yI f k && f k
theorem kF {f:Nat->Bool} {k N:Nat} (hk:k < N) (h:f k=false):yI f N=false:=by
 induction N with
 | zero=>omega
 | succ N ih=>
  by_cases e:k=N
  ·subst e;simp [yI,h]
  ·simp [yI,ih zo]
theorem qM {f:Nat->Bool} {N:Nat}:yI f N=true↔∀k,k < N->f k=true:=by
 induction N with
 | zero=>simp [yI]
 | succ N ih=>
  simp only [yI,Bool.and_eq_true,ih];constructor
  ·intro h k hk;by_cases e:k=N
   ·rw [e];exact h.2
   ·exact h.1 k zo
  ·exact fun h=>⟨fun k hk=>h k zo,h N zo⟩
theorem RowP.row {w w':World} {l:List Int} {v:Value} (h:RowP w l v w'):∃a c,v= .slice a l.length c:=kK h.1
theorem je2 {vs:List Int} {t p:Int}:∀(f:Nat) (q ah:Int) (out:List Int),(out.length:Int)<=p->((K0 vs t p f q ah out).1.length:Int)<=p:=by
 intro f;induction f with
 | zero=>intro q ah out h;exact h
 | succ f ih=>
  intro q ah out h;unfold K0;split
  ·exact h
  ·split
   ·exact h
   ·split
    ·exact h
    ·exact ih _ _ _ (by simp;omega)
theorem jak {vs:List Int} {t p:Int} (h:0<=p) (k:Nat):((qI vs t p k).1.length:Int)<=p:=je2 _ _ _ _ (by simpa using h)
def Kl (b:Bool):Int:=if b then 1 else 0
section
variable {t p s:Int} {ad:Addr} {n c:Nat} {vs:List Int}
def QH (f:Nat->Bool) (N:Nat) (W0:World) (v:Value) (wr:World):Prop:=∃k:Nat,k<=N/\v= .int .i64 k/\yI f k=true/\Below W0.heap.size W0 wr
def JG (vs:List Int) (t:Int) (l:List Int) (k:Nat) (q:Nat):Bool:=((l.count (q:Int):Nat):Int) == Kl (qD (gv vs t (q:Int) 0) k)
def YJ (vs:List Int) (t p:Int) (k:Nat):Bool:=(qI vs t p (2+k)).2 && yI (JG vs t (qI vs t p (2+k)).1 k) p.toNat
def YI (vs:List Int) (t p:Int):Bool:=yI (YJ vs t p) 11
theorem bins_any (c:Nat) (w:World) (h:XV w t p s ad n vs) :
 Calls prog 123 #[.agg #[.int .i64 t,.int .i64 p,.int .i64 s,.slice (some ad) n c]] w (zW (.bool (YI vs t p)) w):=by
 have X0:=h.boxed c;have bd:4<=p/\p<=1024:=by have:=h.bd;omega
 have hnn:(n:Int)=30+4*t+6*p/\1<=t:=by have:=h.bd;omega
 have HN:=zh hnn;generalize hr:YI vs t p=r;have hr2:yI (YJ vs t p) 11=r:=hr;have HR:=zh hr2;clear h hr hr2 hnn;go_enter func123,ntmps123;go_wp2_with fail;go_loopw [3,4,5,6,7] (fun v3 _ _ _ _ wr=>QH (YJ vs t p) 11 (w.alloc (.cells #[.int .i64 t,.int .i64 p,.int .i64 s,.slice (some ad) n c] 128)) v3 wr) (fun v3 _ _ _ _ _=>11 - (intOf v3).toNat);case atStart=>exact ⟨0,zo,rfl,rfl,Below.refl _ _⟩
 case round=>
  obtain ⟨k,hk,rfl,hall,hbel⟩:=hrel;have X1:=X0.keep hbel;have HA:=zh hall;have HBel:=zh hbel;clear hall hbel X0;by_cases hlt:k < 11
  ·have hBin:=zh (fun w=>jbQ k w hlt);have hLi:=zh (fun (w:World) (h:XV w t p s ad n vs)=>jb4 (2+k) c w h (by have:=HN.out;omega));have hfk:YJ vs t p k=((qI vs t p (2+k)).2 && yI (JG vs t (qI vs t p (2+k)).1 k) p.toNat):=rfl;have HFK:=zh hfk;have hlen:(qI vs t p (2+k)).1.length<=4294967296:=by have:=jak (vs:=vs) (t:=t) (p:=p) zo (2+k);omega
   have HLen:=zh hlen;clear hfk hlen;have Xr:=X1.box;have Xl:=X1.lt;generalize qI vs t p (2+k)=lr at*
   obtain ⟨l,lb⟩:=lr;go_wp2_with fail;refine wHb1 (zP Xr) fun hHeld=> ?_;refine wT 0 ?_;refine wY ?_;refine wC 2 (hBin.out _) fun wr1 hHeld=> ?_;refine wR 3 fun K hK=> ?_;go_simp;refine (jax hHeld.1 (hLi.out _ (X1.xv.keep hHeld.1.bel))).mono ?_;rintro e wr2 ⟨lv,rfl,⟨hV,hVl⟩,hlv⟩;dsimp only;refine wK hK (⟨hV,hV.oldbox Xr Xl⟩) ?_;clear hK K hV hVl hHeld;intro hHeld;refine wY ?_;refine wD ?_;refine jT ?_;intro wz hwz;rw [<-hwz] at hHeld hlv;clear hwz;have X2:=X1.keep hHeld.1.bel;obtain ⟨x0,x1,x2,x3⟩:=X2.cells;have xl:=X2.lt;have bel2:=hHeld.1.bel;clear hHeld Xr Xl;obtain ⟨la,lc,rfl⟩:=hlv.row;have HL:=zh hlv;have HB2:=zh bel2;clear hlv bel2;cases lb
   ·have hno:YJ vs t p k=false:=by rw [HFK.out];rfl
    have hres:r=false:=by rw [<-HR.out];exact kF hlt hno
    subst hres;clear hno;go_wp2;go_ret;exact ⟨rfl,X2.bel⟩
   ·have hfk2:YJ vs t p k=yI (JG vs t l k) p.toNat:=by rw [HFK.out];rfl
    have HFK2:=zh hfk2;clear hfk2 HFK;go_wp2_with fail;go_loopw [6,7] (fun v6 _ wq=>QH (JG vs t l k) p.toNat wz v6 wq) (fun v6 _ _=>p.toNat - (intOf v6).toNat);case atStart=>exact ⟨0,zo,rfl,rfl,Below.refl _ _⟩
    case round=>
     obtain ⟨q,hq,rfl,hallq,hbq⟩:=hrel;have X3:=X2.keep hbq;have HQ:=zh hallq;have HBq:=zh hbq;clear hallq hbq x0 x1 x2 x3 X2;obtain ⟨x0,x1,x2,x3⟩:=X3.cells;by_cases hqp:(q:Int) < p
     ·have hC:=zh (fun (w:World) (h:XV w t p s ad n vs)=>jds q k c w h zo hqp);have hin:JG vs t l k q=(((l.count (q:Int):Nat):Int) == Kl (qD (gv vs t (q:Int) 0) k)):=rfl;have hIn:=zh (fun (w':World) (hb:Below wz.heap.size wz w')=>jdx l q (.slice la l.length lc) w' (jh HL.out.1 fun k hk=>hb.block k (jt HL.out.1 hk)) HLen.out);have hcb:l.count (q:Int)<=4294967296:=Nat.le_trans List.count_le_length HLen.out;generalize qD (gv vs t (q:Int) 0) k=cd at*
      generalize l.count (q:Int)=cn at*
      have HIN:=zh hin;clear hin;by_cases hw:(cn:Int)=Kl cd
      ·have hyes:JG vs t l k q=true:=by rw [HIN.out];simpa using hw
       have HY:=zh hyes;have HW:=zh hw;clear hyes hw HIN;cases cd
       ·have e1:=HW.out;have hb1:((cn:Int) != 0)=false:=by rw [e1];rfl
        clear e1;go_wp2_with fail;refine zM (hC.out _ X3.xv) fun w5 hb5=> ?_;have X5:=X3.keep hb5;obtain ⟨X50,X51,X52,X53⟩:=X5.cells;have X5z:=X5.lt;go_wp2_with fail;refine zM (hIn.out _ (HBq.out.trans (hb5.mono HBq.out.size))) fun w6 hb6=> ?_;have bel6:=(HBq.out.trans (hb5.mono HBq.out.size)).trans (hb6.mono (Nat.le_trans HBq.out.size hb5.size));go_wp2_with fail;go_roundw;case rel=>exact ⟨q+1,zo,by go_num,by simp [yI,HQ.out,HY.out],bel6⟩
        case measure=>simp [intOf];omega
       ·have e1:=HW.out;have hb1:((cn:Int) != 1)=false:=by rw [e1];rfl
        clear e1;go_wp2_with fail;refine zM (hC.out _ X3.xv) fun w5 hb5=> ?_;have X5:=X3.keep hb5;obtain ⟨X50,X51,X52,X53⟩:=X5.cells;have X5z:=X5.lt;go_wp2_with fail;refine zM (hIn.out _ (HBq.out.trans (hb5.mono HBq.out.size))) fun w6 hb6=> ?_;have bel6:=(HBq.out.trans (hb5.mono HBq.out.size)).trans (hb6.mono (Nat.le_trans HBq.out.size hb5.size));go_wp2_with fail;go_roundw;case rel=>exact ⟨q+1,zo,by go_num,by simp [yI,HQ.out,HY.out],bel6⟩
        case measure=>simp [intOf];omega
      ·have hno:JG vs t l k q=false:=by rw [HIN.out];simpa using hw
       have hno2:YJ vs t p k=false:=by rw [HFK2.out];exact kF zo hno
       have hres:r=false:=by rw [<-HR.out];exact kF hlt hno2
       subst hres;have HW:=zh hw;clear hno hno2 hw HIN HR;cases cd
       ·have hb1:((cn:Int) != 0)=true:=by have:=HW.out;simpa [Kl] using this
        go_wp2_with fail;refine zM (hC.out _ X3.xv) fun w5 hb5=> ?_;have X5:=X3.keep hb5;obtain ⟨X50,X51,X52,X53⟩:=X5.cells;have X5z:=X5.lt;go_wp2_with fail;refine zM (hIn.out _ (HBq.out.trans (hb5.mono HBq.out.size))) fun w6 hb6=> ?_;go_wp2_with fail;go_ret;exact ⟨rfl,(X5.keep hb6).bel⟩
       ·have hb1:((cn:Int) != 1)=true:=by have:=HW.out;simpa [Kl] using this
        go_wp2_with fail;refine zM (hC.out _ X3.xv) fun w5 hb5=> ?_;have X5:=X3.keep hb5;obtain ⟨X50,X51,X52,X53⟩:=X5.cells;have X5z:=X5.lt;go_wp2_with fail;refine zM (hIn.out _ (HBq.out.trans (hb5.mono HBq.out.size))) fun w6 hb6=> ?_;go_wp2_with fail;go_ret;exact ⟨rfl,(X5.keep hb6).bel⟩
     ·obtain rfl:q=p.toNat:=by omega
      have bel6:=HBel.out.trans ((HB2.out.trans (HBq.out.mono HB2.out.size)).mono HBel.out.size);have hyes:YJ vs t p k=true:=by rw [HFK2.out];exact HQ.out
      have HY:=zh hyes;clear hyes;go_wp2_with fail;go_roundw;case rel=>exact ⟨k+1,zo,by go_num,by simp [yI,HA.out,HY.out],bel6⟩
      case measure=>simp [intOf];omega
  ·obtain rfl:k=11:=by omega
   have hres:r=true:=by rw [<-HR.out];exact HA.out
   subst hres;go_wp2;go_ret;exact ⟨rfl,X1.bel⟩
def yD (vs:List Int) (t:Int) (l:List Int) (k:Nat) (q:Nat):Bool:=((l.count (q:Int):Nat):Int) == Kl (qn (gv vs t (q:Int) 0) (gv vs t (q:Int) 5) k)
def JP (vs:List Int) (t p:Int) (k:Nat):Bool:=(qI vs t p (13+k)).2 && yI (yD vs t (qI vs t p (13+k)).1 k) p.toNat
def JO (vs:List Int) (t p:Int):Bool:=yI (JP vs t p) 9
theorem jed (c:Nat) (w:World) (h:XV w t p s ad n vs) :
 Calls prog 124 #[.agg #[.int .i64 t,.int .i64 p,.int .i64 s,.slice (some ad) n c]] w (zW (.bool (JO vs t p)) w):=by
 have X0:=h.boxed c;have bd:4<=p/\p<=1024:=by have:=h.bd;omega
 have hnn:(n:Int)=30+4*t+6*p/\1<=t:=by have:=h.bd;omega
 have HN:=zh hnn;generalize hr:JO vs t p=r;have hr2:yI (JP vs t p) 9=r:=hr;have HR:=zh hr2;clear h hr hr2 hnn;go_enter func124,ntmps124;go_wp2_with fail;go_loopw [3,4,5,6,7] (fun v3 _ _ _ _ wr=>QH (JP vs t p) 9 (w.alloc (.cells #[.int .i64 t,.int .i64 p,.int .i64 s,.slice (some ad) n c] 128)) v3 wr) (fun v3 _ _ _ _ _=>9 - (intOf v3).toNat);case atStart=>exact ⟨0,zo,rfl,rfl,Below.refl _ _⟩
 case round=>
  obtain ⟨k,hk,rfl,hall,hbel⟩:=hrel;have X1:=X0.keep hbel;have HA:=zh hall;have HBel:=zh hbel;clear hall hbel X0;by_cases hlt:k < 9
  ·have hBin:=zh (fun w=>jd1 k w hlt);have hLi:=zh (fun (w:World) (h:XV w t p s ad n vs)=>jb4 (13+k) c w h (by have:=HN.out;omega));have hfk:JP vs t p k=((qI vs t p (13+k)).2 && yI (yD vs t (qI vs t p (13+k)).1 k) p.toNat):=rfl;have HFK:=zh hfk;have hlen:(qI vs t p (13+k)).1.length<=4294967296:=by have:=jak (vs:=vs) (t:=t) (p:=p) zo (13+k);omega
   have HLen:=zh hlen;clear hfk hlen;have Xr:=X1.box;have Xl:=X1.lt;generalize qI vs t p (13+k)=lr at*
   obtain ⟨l,lb⟩:=lr;go_wp2_with fail;refine wHb1 (zP Xr) fun hHeld=> ?_;refine wT 0 ?_;refine wY ?_;refine wC 2 (hBin.out _) fun wr1 hHeld=> ?_;refine wR 3 fun K hK=> ?_;go_simp;refine (jax hHeld.1 (hLi.out _ (X1.xv.keep hHeld.1.bel))).mono ?_;rintro e wr2 ⟨lv,rfl,⟨hV,hVl⟩,hlv⟩;dsimp only;refine wK hK (⟨hV,hV.oldbox Xr Xl⟩) ?_;clear hK K hV hVl hHeld;intro hHeld;refine wY ?_;refine wD ?_;refine jT ?_;intro wz hwz;rw [<-hwz] at hHeld hlv;clear hwz;have X2:=X1.keep hHeld.1.bel;obtain ⟨x0,x1,x2,x3⟩:=X2.cells;have xl:=X2.lt;have bel2:=hHeld.1.bel;clear hHeld Xr Xl;obtain ⟨la,lc,rfl⟩:=hlv.row;have HL:=zh hlv;have HB2:=zh bel2;clear hlv bel2;cases lb
   ·have hno:JP vs t p k=false:=by rw [HFK.out];rfl
    have hres:r=false:=by rw [<-HR.out];exact kF hlt hno
    subst hres;clear hno;go_wp2;go_ret;exact ⟨rfl,X2.bel⟩
   ·have hfk2:JP vs t p k=yI (yD vs t l k) p.toNat:=by rw [HFK.out];rfl
    have HFK2:=zh hfk2;clear hfk2 HFK;go_wp2_with fail;go_loopw [6,7] (fun v6 _ wq=>QH (yD vs t l k) p.toNat wz v6 wq) (fun v6 _ _=>p.toNat - (intOf v6).toNat);case atStart=>exact ⟨0,zo,rfl,rfl,Below.refl _ _⟩
    case round=>
     obtain ⟨q,hq,rfl,hallq,hbq⟩:=hrel;have X3:=X2.keep hbq;have HQ:=zh hallq;have HBq:=zh hbq;clear hallq hbq x0 x1 x2 x3 X2;obtain ⟨x0,x1,x2,x3⟩:=X3.cells;by_cases hqp:(q:Int) < p
     ·have hC:=zh (fun (w:World) (h:XV w t p s ad n vs)=>jcH q k c w h zo hqp);have hin:yD vs t l k q=(((l.count (q:Int):Nat):Int) == Kl (qn (gv vs t (q:Int) 0) (gv vs t (q:Int) 5) k)):=rfl;have hIn:=zh (fun (w':World) (hb:Below wz.heap.size wz w')=>jdx l q (.slice la l.length lc) w' (jh HL.out.1 fun k hk=>hb.block k (jt HL.out.1 hk)) HLen.out);have hcb:l.count (q:Int)<=4294967296:=Nat.le_trans List.count_le_length HLen.out;generalize qn (gv vs t (q:Int) 0) (gv vs t (q:Int) 5) k=cd at*
      generalize l.count (q:Int)=cn at*
      have HIN:=zh hin;clear hin;by_cases hw:(cn:Int)=Kl cd
      ·have hyes:yD vs t l k q=true:=by rw [HIN.out];simpa using hw
       have HY:=zh hyes;have HW:=zh hw;clear hyes hw HIN;cases cd
       ·have e1:=HW.out;have hb1:((cn:Int) != 0)=false:=by rw [e1];rfl
        clear e1;go_wp2_with fail;refine zM (hC.out _ X3.xv) fun w5 hb5=> ?_;have X5:=X3.keep hb5;obtain ⟨X50,X51,X52,X53⟩:=X5.cells;have X5z:=X5.lt;go_wp2_with fail;refine zM (hIn.out _ (HBq.out.trans (hb5.mono HBq.out.size))) fun w6 hb6=> ?_;have bel6:=(HBq.out.trans (hb5.mono HBq.out.size)).trans (hb6.mono (Nat.le_trans HBq.out.size hb5.size));go_wp2_with fail;go_roundw;case rel=>exact ⟨q+1,zo,by go_num,by simp [yI,HQ.out,HY.out],bel6⟩
        case measure=>simp [intOf];omega
       ·have e1:=HW.out;have hb1:((cn:Int) != 1)=false:=by rw [e1];rfl
        clear e1;go_wp2_with fail;refine zM (hC.out _ X3.xv) fun w5 hb5=> ?_;have X5:=X3.keep hb5;obtain ⟨X50,X51,X52,X53⟩:=X5.cells;have X5z:=X5.lt;go_wp2_with fail;refine zM (hIn.out _ (HBq.out.trans (hb5.mono HBq.out.size))) fun w6 hb6=> ?_;have bel6:=(HBq.out.trans (hb5.mono HBq.out.size)).trans (hb6.mono (Nat.le_trans HBq.out.size hb5.size));go_wp2_with fail;go_roundw;case rel=>exact ⟨q+1,zo,by go_num,by simp [yI,HQ.out,HY.out],bel6⟩
        case measure=>simp [intOf];omega
      ·have hno:yD vs t l k q=false:=by rw [HIN.out];simpa using hw
       have hno2:JP vs t p k=false:=by rw [HFK2.out];exact kF zo hno
       have hres:r=false:=by rw [<-HR.out];exact kF hlt hno2
       subst hres;have HW:=zh hw;clear hno hno2 hw HIN HR;cases cd
       ·have hb1:((cn:Int) != 0)=true:=by have:=HW.out;simpa [Kl] using this
        go_wp2_with fail;refine zM (hC.out _ X3.xv) fun w5 hb5=> ?_;have X5:=X3.keep hb5;obtain ⟨X50,X51,X52,X53⟩:=X5.cells;have X5z:=X5.lt;go_wp2_with fail;refine zM (hIn.out _ (HBq.out.trans (hb5.mono HBq.out.size))) fun w6 hb6=> ?_;go_wp2_with fail;go_ret;exact ⟨rfl,(X5.keep hb6).bel⟩
       ·have hb1:((cn:Int) != 1)=true:=by have:=HW.out;simpa [Kl] using this
        go_wp2_with fail;refine zM (hC.out _ X3.xv) fun w5 hb5=> ?_;have X5:=X3.keep hb5;obtain ⟨X50,X51,X52,X53⟩:=X5.cells;have X5z:=X5.lt;go_wp2_with fail;refine zM (hIn.out _ (HBq.out.trans (hb5.mono HBq.out.size))) fun w6 hb6=> ?_;go_wp2_with fail;go_ret;exact ⟨rfl,(X5.keep hb6).bel⟩
     ·obtain rfl:q=p.toNat:=by omega
      have bel6:=HBel.out.trans ((HB2.out.trans (HBq.out.mono HB2.out.size)).mono HBel.out.size);have hyes:JP vs t p k=true:=by rw [HFK2.out];exact HQ.out
      have HY:=zh hyes;clear hyes;go_wp2_with fail;go_roundw;case rel=>exact ⟨k+1,zo,by go_num,by simp [yI,HA.out,HY.out],bel6⟩
      case measure=>simp [intOf];omega
  ·obtain rfl:k=9:=by omega
   have hres:r=true:=by rw [<-HR.out];exact HA.out
   subst hres;go_wp2;go_ret;exact ⟨rfl,X1.bel⟩
end

def yN (vs:List Int) (t:Int) (l:List Int):Nat->Option Nat
 | 0=>some 0
 | q+1=>match yN vs t l q with
  | none=>none
  | some n=>if l[n]? =some (q:Int) then some (n+1) else if gv vs t (q:Int) 0=0 then some n else none
def Kn (vs:List Int) (t p:Int):Bool:=(jX (fun q=>gv vs t q 0) p).2 && (yN vs t (jX (fun q=>gv vs t q 0) p).1 p.toNat).isSome
theorem Xo {vs:List Int} {t:Int} {l:List Int} {k N:Nat} (hk:k<=N) (h:yN vs t l k=none):yN vs t l N=none:=by
 induction N with
 | zero=>
  obtain rfl:k=0:=by omega
  exact h
 | succ N ih=>
  by_cases e:k=N+1
  ·subst e;exact h
  ·unfold yN;rw [ih zo]
theorem Yb {g:Int->Int} {p:Int}:∀(f:Nat) (a:Int) (out:List Int),0<=a->(∀x∈out,0<=x/\x < p)->(∀x∈(kB g p f a out).1,0<=x/\x < p)/\(out≠[]->(kB g p f a out).2=true->(kB g p f a out).1≠[])/\((out.length:Int)<=a->(out.length:Int)<=p->((kB g p f a out).1.length:Int)<=p):=by
 intro f;induction f with
 | zero=>intro a out _ h;exact ⟨h,fun h _=>h,fun _ h=>h⟩
 | succ f ih=>
  intro a out ha h;unfold kB;by_cases h1:a < p
  ·rw [if_pos h1];by_cases h2:okI (g a)=false\/iK (g a)=0
   ·rw [if_pos h2];exact ⟨zT,zT,by simp;omega⟩
   ·rw [if_neg h2];have b:=kP (g a);have h3:1<=iL (g a):=(b.2.2.2.2.2.2.1 (fun e=>h2 (Or.inr e))).2;obtain ⟨i1,i2,i3⟩:=ih (a+iL (g a)) (out++[a]) zo (by
     intro x hx;simp at hx;rcases hx with hx | rfl
     ·exact h x hx
     ·exact ⟨ha,h1⟩)
    exact ⟨i1,fun _=>i2 zT,fun h4 h5=>i3 (by simp;omega) (by simp;omega)⟩
  ·rw [if_neg h1];exact ⟨h,fun h _=>h,fun _ h=>h⟩
theorem Ju {g:Int->Int} {p:Int} (hp:0 < p):(∀x∈(jX g p).1,0<=x/\x < p)/\((jX g p).2=true->(jX g p).1≠[])/\((jX g p).1.length:Int)<=p:=by
 obtain ⟨h1,h2,h3⟩:=Yb (g:=g) (p:=p) (p.toNat+1) 0 [] zo zT;refine ⟨h1,fun h=> ?_,h3 zT (by simp;omega)⟩;unfold jX at h ⊢;unfold kB at h ⊢;rw [if_pos hp] at h ⊢;by_cases h4:okI (g 0)=false\/iK (g 0)=0
 ·rw [if_pos h4] at h;simp at h
 ·rw [if_neg h4] at h ⊢;have b:=kP (g 0);exact (Yb _ _ _ zo (by simp;omega)).2.1 zT h
theorem RowP.cell {w w':World} {l:List Int} {a:Option Addr} {m c:Nat} (h:RowP w l (.slice a m c) w') {k:Nat} (hk:k < l.length) :
 ∃g,a=some ⟨g,0,none⟩/\w'.cell? ⟨g,k,none⟩=some (.int .i64 (l.getD k 0)):=by
 obtain ⟨g,cap,e⟩:=Joins.ownsRow_form h.1 zo;simp only [Value.slice.injEq] at e;obtain ⟨rfl,rfl,rfl⟩:=e;refine ⟨g,rfl,?_⟩;rw [h.1.cellAt k zo];simp [Xc,hk]
theorem Vt (x y z:Value) (w:World):(Instr.field 130 (.agg #[x,y,z]) 0).run prog w= .ok x w:=by
 simp [Instr.field,asAgg,go_sem]
theorem Qv (x y z:Value) (w:World):(Instr.field 130 (.agg #[x,y,z]) 1).run prog w= .ok y w:=by
 simp [Instr.field,asAgg,go_sem]
section
variable {t p s:Int} {ad:Addr} {n c:Nat} {vs:List Int}

def TileRel (vs:List Int) (t p:Int) (l:List Int) (W0:World) (v5 v6:Value) (wr:World):Prop:=∃q m:Nat,(q:Int)<=p/\v6= .int .i64 q/\v5= .int .i64 m/\m<=q/\yN vs t l q=some m/\Below W0.heap.size W0 wr
theorem jdM (c:Nat) (w:World) (h:XV w t p s ad n vs) :
 Calls prog 119 #[.agg #[.int .i64 t,.int .i64 p,.int .i64 s,.slice (some ad) n c]] w (zW (.bool (Kn vs t p)) w):=by
 have X0:=h.boxed c;have bd:4<=p/\p<=1024:=by have:=h.bd;omega
 have HS:=zh (fun (w:World) (h:XV w t p s ad n vs)=>Qk c w h);have HX:∀q,0<=q->q < p->∃k:Nat,k < n/\(∀w,Calls prog 115 #[.agg #[.int .i64 t,.int .i64 p,.int .i64 s],.int .i64 q] w (zW (.int .i64 k) w))/\w.cell? (ad.add k)=some (.int .u32 (gv vs t q 0)):=by
  intro q h0 h1;obtain ⟨hx1,hx2⟩:=h.cx h0 h1 (part:=0) zo zo;refine ⟨cix t q 0,hx1,fun w=> ?_,h.cells _ hx1⟩;have:=KP t p s q w;rwa [hx2] at this
 have HXX:=zh HX;have hlen:=(Ju (g:=fun q=>gv vs t q 0) (p:=p) zo).2.2;have HLen:=zh hlen;generalize hr:Kn vs t p=r;have hr2:((jX (fun q=>gv vs t q 0) p).2 && (yN vs t (jX (fun q=>gv vs t q 0) p).1 p.toNat).isSome)=r:=hr;have HR:=zh hr2;clear h hr hr2 HX hlen;generalize jX (fun q=>gv vs t q 0) p=st at*
 obtain ⟨l,lb⟩:=st;go_enter func119,ntmps119;go_wp2_with fail;refine (HS.out _ X0.xv).mono ?_;rintro e w1 ⟨lv,rfl,hlv⟩;have X1:=X0.keep hlv.2.2;obtain ⟨la,lc,rfl⟩:=hlv.row;have HL:=zh hlv;clear hlv X0;cases lb
 ·have hres:r=false:=by rw [<-HR.out];rfl
  subst hres;go_wp2;go_ret;exact ⟨rfl,X1.bel⟩
 ·have hr3:(yN vs t l p.toNat).isSome=r:=by rw [<-HR.out];rfl
  have HR3:=zh hr3;obtain ⟨x0,x1,x2,x3⟩:=X1.cells;clear HR hr3;go_wp2_with fail;go_loopw [5,6] (fun v5 v6 wr=>TileRel vs t p l w1 v5 v6 wr) (fun _ v6 _=>p.toNat - (intOf v6).toNat);case atStart=>exact ⟨0,0,zo,rfl,rfl,zo,rfl,Below.refl _ _⟩
  case round=>
   obtain ⟨q,m,hq,rfl,rfl,hmq,htn,hbq⟩:=hrel;have X3:=X1.keep hbq;have HT:=zh htn;have HB:=zh hbq;clear htn hbq x0 x1 x2 x3;obtain ⟨x0,x1,x2,x3⟩:=X3.cells;have HLen2:=HLen.out;by_cases hqp:(q:Int) < p
   ·have hstep:yN vs t l (q+1)=if l[m]? =some (q:Int) then some (m+1) else if gv vs t (q:Int) 0=0 then some m else none:=by
     show (match yN vs t l q with
      | none=>none
      | some n=>if l[n]? =some (q:Int) then some (n+1) else if gv vs t (q:Int) 0=0 then some n else none)=_
     rw [HT.out]
    by_cases hl:m < l.length
    ·obtain ⟨g,rfl,hc0⟩:=HL.out.cell hl;have hc1:=(HB.out.cell (World.block_lt_of_cell? _ _ hc0)).trans hc0;have hget:l[m]? =some (l.getD m 0):=by simp [hl]
     rw [hget] at hstep;generalize l.getD m 0=y at*
     by_cases hy:y=(q:Int)
     ·have hb:(y == (q:Int))=true:=by simp [hy]
      rw [if_pos (by rw [hy])] at hstep;have HS2:=zh hstep;clear hstep hget hy hc0;go_wp2_with fail;go_roundw;case rel=>exact ⟨q+1,m+1,zo,by go_num,by go_num,zo,HS2.out,HB.out⟩
      case measure=>simp [intOf];omega
     ·have hb:(y == (q:Int))=false:=by simp [hy]
      rw [if_neg (by simpa using hy)] at hstep;obtain ⟨k,hkn,hI,hd0⟩:=HXX.out q zo hqp;have hd1:=X3.xv.cells;have hd2:=(BS.mk X3.bel zT:BS w [] wr).old hd0;have HI:=zh hI;have HBox:=zh X3.box;have hxl:=X3.lt;clear hget hy hc0 hI hd0 hd1;generalize gv vs t (q:Int) 0=u at*
      by_cases hu:u=0
      ·have hub:(u != 0)=false:=by simp [hu]
       rw [if_pos hu] at hstep;have HS2:=zh hstep;clear hstep hu;go_wp2_with fail;refine QN (zP HBox.out) (zQ hd2) fun hHeld=> ?_;refine wT 0 ?_;refine wY ?_;refine wC 5 (HI.out _) fun wz hHeld=> ?_;refine wY ?_;refine wD ?_;have hbz:=HB.out.trans (hHeld.1.bel.mono HB.out.size);clear hHeld;go_wp2_with fail;go_roundw;case rel=>exact ⟨q+1,m,zo,by go_num,rfl,zo,HS2.out,hbz⟩
       case measure=>simp [intOf];omega
      ·have hub:(u != 0)=true:=by simp [hu]
       rw [if_neg hu] at hstep;have hres:r=false:=by rw [<-HR3.out,Xo (k:=q+1) zo hstep];rfl
       subst hres;clear hstep hu;go_wp2_with fail;refine QN (zP HBox.out) (zQ hd2) fun hHeld=> ?_;refine wT 0 ?_;refine wY ?_;refine wC 5 (HI.out _) fun wz hHeld=> ?_;refine wY ?_;refine wD ?_;have hbz:=X3.keep hHeld.1.bel;clear hHeld;go_wp2;go_ret;exact ⟨rfl,hbz.bel⟩
    ·have hgn:l[m]? =none:=List.getElem?_eq_none zo;rw [hgn,if_neg zT] at hstep;obtain ⟨k,hkn,hI,hd0⟩:=HXX.out q zo hqp;have hd2:=(BS.mk X3.bel zT:BS w [] wr).old hd0;have HI:=zh hI;have HBox:=zh X3.box;have hxl:=X3.lt;clear hI hd0;generalize gv vs t (q:Int) 0=u at*
     by_cases hu:u=0
     ·have hub:(u != 0)=false:=by simp [hu]
      rw [if_pos hu] at hstep;have HS2:=zh hstep;clear hstep hu;go_wp2_with fail;refine QN (zP HBox.out) (zQ hd2) fun hHeld=> ?_;refine wT 0 ?_;refine wY ?_;refine wC 5 (HI.out _) fun wz hHeld=> ?_;refine wY ?_;refine wD ?_;have hbz:=HB.out.trans (hHeld.1.bel.mono HB.out.size);clear hHeld;go_wp2_with fail;go_roundw;case rel=>exact ⟨q+1,m,zo,by go_num,rfl,zo,HS2.out,hbz⟩
      case measure=>simp [intOf];omega
     ·have hub:(u != 0)=true:=by simp [hu]
      rw [if_neg hu] at hstep;have hres:r=false:=by rw [<-HR3.out,Xo (k:=q+1) zo hstep];rfl
      subst hres;clear hstep hu;go_wp2_with fail;refine QN (zP HBox.out) (zQ hd2) fun hHeld=> ?_;refine wT 0 ?_;refine wY ?_;refine wC 5 (HI.out _) fun wz hHeld=> ?_;refine wY ?_;refine wD ?_;have hbz:=X3.keep hHeld.1.bel;clear hHeld;go_wp2;go_ret;exact ⟨rfl,hbz.bel⟩
   ·obtain rfl:q=p.toNat:=by omega
    have hres:r=true:=by rw [<-HR3.out,HT.out];rfl
    subst hres;go_wp2;go_ret;exact ⟨rfl,X3.bel⟩
end
section
variable {t p s:Int} {ad:Addr} {n c:Nat} {vs:List Int}

def apB (vs:List Int) (t:Int) (l:List Int) (k:Nat):Bool:= !(iK (gv vs t (l.getD (k+1) 0) 0) == 1 && iK (gv vs t (l.getD k 0) 0) == 1)
def Qd (vs:List Int) (t p:Int):Bool:=yI (apB vs t (jX (fun q=>gv vs t q 0) p).1) ((jX (fun q=>gv vs t q 0) p).1.length - 1)
def ApRel (f:Nat->Bool) (N:Nat) (W0:World) (v:Value) (wr:World):Prop:=∃k:Nat,(k<=N)/\v= .int .i64 ((k+1:Nat):Int)/\yI f k=true/\Below W0.heap.size W0 wr
theorem jfH (c:Nat) (w:World) (h:XV w t p s ad n vs) :
 Calls prog 121 #[.agg #[.int .i64 t,.int .i64 p,.int .i64 s,.slice (some ad) n c]] w (zW (.bool (Qd vs t p)) w):=by
 have X0:=h.boxed c;have bd:4<=p/\p<=1024:=by have:=h.bd;omega
 have HS:=zh (fun (w:World) (h:XV w t p s ad n vs)=>Qk c w h);obtain ⟨hm1,-,hlen⟩:=Ju (g:=fun q=>gv vs t q 0) (p:=p) zo;have HM:=zh hm1;have HI:=zh (fun (q:Int) (w:World) (h:XV w t p s ad n vs) (h0:0<=q) (h1:q < p)=>yp q c w h h0 h1);generalize hr:Qd vs t p=r;have hr2:yI (apB vs t (jX (fun q=>gv vs t q 0) p).1) ((jX (fun q=>gv vs t q 0) p).1.length - 1)=r:=hr;have HR:=zh hr2;have HLen:=zh hlen;clear h hr hr2 hm1 hlen;generalize jX (fun q=>gv vs t q 0) p=st at*
 obtain ⟨l,lb⟩:=st;go_enter func121,ntmps121;go_wp2_with fail;refine (HS.out _ X0.xv).mono ?_;rintro e w1 ⟨lv,rfl,hlv⟩;have X1:=X0.keep hlv.2.2;obtain ⟨la,lc,rfl⟩:=hlv.row;have HL:=zh hlv;clear hlv X0;obtain ⟨x0,x1,x2,x3⟩:=X1.cells;go_wp2_with fail;go_loopw [5] (fun v5 wr=>ApRel (apB vs t l) (l.length - 1) w1 v5 wr) (fun v5 _=>l.length - (intOf v5).toNat);case atStart=>exact ⟨0,zo,rfl,rfl,Below.refl _ _⟩
 case round=>
  obtain ⟨k,hk,rfl,hall,hbq⟩:=hrel;have X3:=X1.keep hbq;have HT:=zh hall;have HB:=zh hbq;clear hall hbq x0 x1 x2 x3;have HLen2:=HLen.out;by_cases hl:k+1 < l.length
  ·obtain ⟨g,rfl,hc0⟩:=HL.out.cell hl;obtain ⟨g',hg',hd0⟩:=HL.out.cell (k:=k) zo;simp only [Option.some.injEq,Addr.mk.injEq,and_true] at hg';subst hg';have hc1:=(HB.out.cell (World.block_lt_of_cell? _ _ hc0)).trans hc0;have hd1:=(HB.out.cell (World.block_lt_of_cell? _ _ hd0)).trans hd0;have m1:=HM.out (l.getD (k+1) 0) (by simp [hl]);have m2:=HM.out (l.getD k 0) (by simp [show k < l.length by omega]);have hap:apB vs t l k= !(iK (gv vs t (l.getD (k+1) 0) 0) == 1 && iK (gv vs t (l.getD k 0) 0) == 1):=rfl;have HAP:=zh hap;have HBox:=zh X3.box;have hxl:=X3.lt;clear hap hc0 hd0;generalize l.getD (k+1) 0=y at*
   generalize l.getD k 0=z at*
   have I1:=zh (fun (w:World) (h:XV w t p s ad n vs)=>HI.out y w h m1.1 m1.2);have I2:=zh (fun (w:World) (h:XV w t p s ad n vs)=>HI.out z w h m2.1 m2.2);clear m1 m2;generalize iK (gv vs t y 0)=a1 at*
   generalize iL (gv vs t y 0)=a2 at*
   generalize iC (gv vs t y 0)=a3 at*
   generalize iK (gv vs t z 0)=b1 at*
   generalize iL (gv vs t z 0)=b2 at*
   generalize iC (gv vs t z 0)=b3 at*
   have hk1:0<=(k:Int)+1:=zo;have hkl:k < l.length:=zo;have hwk:IntKind.i64.wrap (k:Int)=k:=jD _ zo;have hfa:=Vt (.int .i64 a1) (.int .i64 a2) (.int .i64 a3);have hfb:=Vt (.int .i64 b1) (.int .i64 b2) (.int .i64 b3);by_cases h1:a1=1
   ·have hb1:(a1 == 1)=true:=by simp [h1]
    by_cases h2:b1=1
    ·have hb2:(b1 == 1)=true:=by simp [h2]
     have hno:apB vs t l k=false:=by rw [HAP.out,hb1,hb2];rfl
     have hres:r=false:=by rw [<-HR.out];exact kF zo hno
     subst hres;clear hno h1 h2;go_wp2_with fail;refine wHb3 (zP HBox.out) (zQ hc1) (zQ hd1) fun hHeld=> ?_;refine wT 0 ?_;refine wY ?_;refine wC 5 (I1.out _ (X3.xv.keep hHeld.1.bel)) fun wr1 hHeld=> ?_;refine wY ?_;refine wC 15 (I2.out _ (X3.xv.keep hHeld.1.bel)) fun wz hHeld=> ?_;refine wY ?_;refine wD ?_;have hbz:=X3.keep hHeld.1.bel;clear hHeld;go_wp2;go_ret;exact ⟨rfl,hbz.bel⟩
    ·have hb2:(b1 == 1)=false:=by simp [h2]
     have hyes:apB vs t l k=true:=by rw [HAP.out,hb1,hb2];rfl
     have HY:=zh hyes;clear hyes h1 h2;go_wp2_with fail;refine wHb3 (zP HBox.out) (zQ hc1) (zQ hd1) fun hHeld=> ?_;refine wT 0 ?_;refine wY ?_;refine wC 5 (I1.out _ (X3.xv.keep hHeld.1.bel)) fun wr1 hHeld=> ?_;refine wY ?_;refine wC 15 (I2.out _ (X3.xv.keep hHeld.1.bel)) fun wz hHeld=> ?_;refine wY ?_;refine wD ?_;have hbz:=HB.out.trans (hHeld.1.bel.mono HB.out.size);clear hHeld;go_wp2_with fail;go_roundw;case rel=>exact ⟨k+1,zo,by go_num,by simp [yI,HT.out,HY.out],hbz⟩
     case measure=>simp [intOf];omega
   ·have hb1:(a1 == 1)=false:=by simp [h1]
    have hyes:apB vs t l k=true:=by rw [HAP.out,hb1];rfl
    have HY:=zh hyes;clear hyes h1;go_wp2_with fail;refine wHb3 (zP HBox.out) (zQ hc1) (zQ hd1) fun hHeld=> ?_;refine wT 0 ?_;refine wY ?_;refine wC 5 (I1.out _ (X3.xv.keep hHeld.1.bel)) fun wz hHeld=> ?_;refine wY ?_;refine wD ?_;have hbz:=HB.out.trans (hHeld.1.bel.mono HB.out.size);clear hHeld;go_wp2_with fail;go_roundw;case rel=>exact ⟨k+1,zo,by go_num,by simp [yI,HT.out,HY.out],hbz⟩
    case measure=>simp [intOf];omega
  ·obtain rfl:k=l.length - 1:=by omega
   have hres:r=true:=by rw [<-HR.out];exact HT.out
   subst hres;go_wp2;go_ret;exact ⟨rfl,X3.bel⟩
end
section
variable {t p s:Int} {ad:Addr} {n c:Nat} {vs:List Int}

def jbB (l:List Int) (m:Nat) (q:Int):Nat:=if l[m+1]? =some q then m+1 else m
def YR (vs:List Int) (t:Int) (l:List Int) (m:Nat) (q:Int):Int:=if q=l.getD m 0+iL (gv vs t (l.getD m 0) 0) - 1 then l.getD m 0+1 else 0
def yz (vs:List Int) (t:Int) (l:List Int):Nat->Option Nat
 | 0=>some 0
 | q+1=>match yz vs t l q with
  | none=>none
  | some m=>if gv vs t (q:Int) 1=YR vs t l (jbB l m q) q then some (jbB l m q) else none
def V7 (vs:List Int) (t p:Int):Bool:=(yz vs t (jX (fun q=>gv vs t q 0) p).1 p.toNat).isSome
theorem Kk {vs:List Int} {t:Int} {l:List Int} {k N:Nat} (hk:k<=N) (h:yz vs t l k=none):yz vs t l N=none:=by
 induction N with
 | zero=>
  obtain rfl:k=0:=by omega
  exact h
 | succ N ih=>
  by_cases e:k=N+1
  ·subst e;exact h
  ·unfold yz;rw [ih zo]
def FeetRel (vs:List Int) (t p:Int) (l:List Int) (W0:World) (v5 v6:Value) (wr:World):Prop:=∃q m:Nat,(q:Int)<=p/\v6= .int .i64 q/\v5= .int .i64 m/\m < l.length/\yz vs t l q=some m/\Below W0.heap.size W0 wr
theorem feet_any (c:Nat) (w:World) (h:XV w t p s ad n vs) (hne:(jX (fun q=>gv vs t q 0) p).1≠[]) :
 Calls prog 120 #[.agg #[.int .i64 t,.int .i64 p,.int .i64 s,.slice (some ad) n c]] w (zW (.bool (V7 vs t p)) w):=by
 have X0:=h.boxed c;have bd:4<=p/\p<=1024:=by have:=h.bd;omega
 have HS:=zh (fun (w:World) (h:XV w t p s ad n vs)=>Qk c w h);have HX:∀q,0<=q->q < p->∃k:Nat,k < n/\(∀w,Calls prog 134 #[.agg #[.int .i64 t,.int .i64 p,.int .i64 s],.int .i64 q] w (zW (.int .i64 k) w))/\w.cell? (ad.add k)=some (.int .u32 (gv vs t q 1)):=by
  intro q h0 h1;obtain ⟨hx1,hx2⟩:=h.cx h0 h1 (part:=1) zo zo;refine ⟨cix t q 1,hx1,fun w=> ?_,h.cells _ hx1⟩;have:=XM t p s q w;rwa [hx2] at this
 have HXX:=zh HX;obtain ⟨hm1,-,hlen⟩:=Ju (g:=fun q=>gv vs t q 0) (p:=p) zo;have HM:=zh hm1;have HI:=zh (fun (q:Int) (w:World) (h:XV w t p s ad n vs) (h0:0<=q) (h1:q < p)=>yp q c w h h0 h1);generalize hr:V7 vs t p=r;have hr2:(yz vs t (jX (fun q=>gv vs t q 0) p).1 p.toNat).isSome=r:=hr;have HR:=zh hr2;have HLen:=zh hlen;clear h hr hr2 HX hm1 hlen;generalize jX (fun q=>gv vs t q 0) p=st at*
 obtain ⟨l,lb⟩:=st;have hl0:0 < l.length:=List.length_pos_iff.2 hne;clear hne;go_enter func120,ntmps120;go_wp2_with fail;refine (HS.out _ X0.xv).mono ?_;rintro e w1 ⟨lv,rfl,hlv⟩;have X1:=X0.keep hlv.2.2;obtain ⟨la,lc,rfl⟩:=hlv.row;have HL:=zh hlv;clear hlv X0;obtain ⟨x0,x1,x2,x3⟩:=X1.cells;go_wp2_with fail;go_loopw [5,6,7] (fun v5 v6 _ wr=>FeetRel vs t p l w1 v5 v6 wr) (fun _ v6 _ _=>p.toNat - (intOf v6).toNat);case atStart=>exact ⟨0,0,zo,rfl,rfl,hl0,rfl,Below.refl _ _⟩
 case round=>
  obtain ⟨q,m,hq,rfl,rfl,hml,htn,hbq⟩:=hrel;have X3:=X1.keep hbq;have HT:=zh htn;have HB:=zh hbq;clear htn hbq x0 x1 x2 x3;obtain ⟨x0,x1,x2,x3⟩:=X3.cells;have HLen2:=HLen.out;have HBox:=zh X3.box;have hxl:=X3.lt;by_cases hqp:(q:Int) < p
  ·have hstep:yz vs t l (q+1)=if gv vs t (q:Int) 1=YR vs t l (jbB l m q) q then some (jbB l m q) else none:=by
    show (match yz vs t l q with
     | none=>none
     | some m=>if gv vs t (q:Int) 1=YR vs t l (jbB l m q) q then some (jbB l m q) else none)=_
    rw [HT.out]
   have HSt:=zh hstep;clear hstep;obtain ⟨k,hkn,hI,hd0⟩:=HXX.out q zo hqp;have hd2:=(BS.mk X3.bel zT:BS w [] wr).old hd0;have HFt:=zh hI;clear hI hd0;have hk1:0<=(m:Int)+1:=zo;by_cases hm:m+1 < l.length
   ·obtain ⟨g,rfl,hx0⟩:=HL.out.cell hm;have hx1:=(HB.out.cell (World.block_lt_of_cell? _ _ hx0)).trans hx0;have hget:l[m+1]? =some (l.getD (m+1) 0):=by simp [hm]
    have hxa:=hx1;generalize hz:l.getD (m+1) 0=z at hxa hget;clear hx0 hx1;by_cases hzq:z=(q:Int)
    ·have hzb:(z == (q:Int))=true:=by simp [hzq]
     have hadv:jbB l m q=m+1:=by simp [jbB,hget,hzq]
     have hwant:YR vs t l (m+1) q=if (q:Int)=l.getD (m+1) 0+iL (gv vs t (l.getD (m+1) 0) 0) - 1 then l.getD (m+1) 0+1 else 0:=rfl
     have m1:=HM.out (l.getD (m+1) 0) (by simp [show m+1 < l.length by omega]);obtain ⟨g',hg',hc0⟩:=HL.out.cell (k:=m+1) zo;try (simp only [Option.some.injEq,Addr.mk.injEq,and_true] at hg';subst hg')
     have hc1:=(HB.out.cell (World.block_lt_of_cell? _ _ hc0)).trans hc0;generalize l.getD (m+1) 0=y at*
     subst hz;subst hzq;have I1:=zh (fun (w:World) (h:XV w t p s ad n vs)=>HI.out (q:Int) w h m1.1 m1.2);have bd9:=kP (gv vs t (q:Int) 0);have b9:0<=iL (gv vs t (q:Int) 0)/\iL (gv vs t (q:Int) 0)<=1024:=zo;clear bd9 hc0;generalize iK (gv vs t (q:Int) 0)=a1 at*
     generalize iL (gv vs t (q:Int) 0)=a2 at*
     generalize iC (gv vs t (q:Int) 0)=a3 at*
     generalize gv vs t (q:Int) 1=u at*
     have hfa:=Qv (.int .i64 a1) (.int .i64 a2) (.int .i64 a3);have hwa:IntKind.i64.wrap ((q:Int)+a2)=(q:Int)+a2:=jD _ zo;have hwb:IntKind.i64.wrap ((q:Int)+a2 - 1)=(q:Int)+a2 - 1:=jD _ zo;have HWt:=zh hwant;clear hwant;go_wp2_with fail;refine QN (zP HBox.out) (zQ hc1) fun hHeld=> ?_;refine wT 0 ?_;refine wY ?_;refine wC 10 (I1.out _ (X3.xv.keep hHeld.1.bel)) fun wz hHeld=> ?_;refine wY ?_;refine wD ?_;have X5:=X3.keep hHeld.1.bel;have HBw:=zh (HB.out.trans (hHeld.1.bel.mono HB.out.size));have hc5:=hHeld.1.old hc1;have hd5:=hHeld.1.old hd2;have hlt5:=X5.lt;have HBox5:=zh X5.box;obtain ⟨w0,w1',w2',w3'⟩:=X5.cells;clear hHeld;by_cases h9:(q:Int)=(q:Int)+a2 - 1
     ·have hb9:((q:Int) == (q:Int)+a2 - 1)=true:=by simpa using h9
      have hwant:=HWt.out;rw [if_pos h9] at hwant;have HWn:=zh hwant;clear hwant h9;have hw32:IntKind.u32.wrap ((q:Int)+1)=(q:Int)+1:=IntWalk.u32_in _ zo;go_wp2_with fail;refine QN (zP HBox5.out) (zQ hd5) fun hHeld=> ?_;refine wT 0 ?_;refine wY ?_;refine wC 5 (HFt.out _) fun wz hHeld=> ?_;refine wY ?_;refine wD ?_;by_cases hu:u=(q:Int)+1
      ·have hub:(u != (q:Int)+1)=false:=by simp [hu]
       have hst:yz vs t l (q+1)=some (m+1):=by rw [HSt.out,hadv,if_pos (by rw [HWn.out];exact hu)]
       have HS2:=zh hst;clear hst hu;have hbz:=HBw.out.trans (hHeld.1.bel.mono HBw.out.size);clear hHeld;go_wp2_with fail;go_roundw;case rel=>exact ⟨q+1,m+1,zo,by go_num,by go_num,zo,HS2.out,hbz⟩
       case measure=>simp [intOf];omega
      ·have hub:(u != (q:Int)+1)=true:=by simp [hu]
       have hst:yz vs t l (q+1)=none:=by rw [HSt.out,hadv,if_neg (by rw [HWn.out];exact hu)]
       have hres:r=false:=by rw [<-HR.out,Kk (k:=q+1) zo hst];rfl
       subst hres;clear hst hu;have hbz:=X5.keep hHeld.1.bel;clear hHeld;go_wp2;go_ret;exact ⟨rfl,hbz.bel⟩
     ·have hb9:((q:Int) == (q:Int)+a2 - 1)=false:=by simpa using h9
      have hwant:=HWt.out;rw [if_neg h9] at hwant;have HWn:=zh hwant;clear hwant h9;go_wp2_with fail;refine QN (zP HBox5.out) (zQ hd5) fun hHeld=> ?_;refine wT 0 ?_;refine wY ?_;refine wC 5 (HFt.out _) fun wz hHeld=> ?_;refine wY ?_;refine wD ?_;by_cases hu:u=0
      ·have hub:(u != 0)=false:=by simp [hu]
       have hst:yz vs t l (q+1)=some (m+1):=by rw [HSt.out,hadv,if_pos (by rw [HWn.out];exact hu)]
       have HS2:=zh hst;clear hst hu;have hbz:=HBw.out.trans (hHeld.1.bel.mono HBw.out.size);clear hHeld;go_wp2_with fail;go_roundw;case rel=>exact ⟨q+1,m+1,zo,by go_num,by go_num,zo,HS2.out,hbz⟩
       case measure=>simp [intOf];omega
      ·have hub:(u != 0)=true:=by simp [hu]
       have hst:yz vs t l (q+1)=none:=by rw [HSt.out,hadv,if_neg (by rw [HWn.out];exact hu)]
       have hres:r=false:=by rw [<-HR.out,Kk (k:=q+1) zo hst];rfl
       subst hres;clear hst hu;have hbz:=X5.keep hHeld.1.bel;clear hHeld;go_wp2;go_ret;exact ⟨rfl,hbz.bel⟩
    ·have hzb:(z == (q:Int))=false:=by simp [hzq]
     have hadv:jbB l m q=m:=by simp [jbB,hget,hzq]
     have hwant:YR vs t l (m) q=if (q:Int)=l.getD (m) 0+iL (gv vs t (l.getD (m) 0) 0) - 1 then l.getD (m) 0+1 else 0:=rfl
     have m1:=HM.out (l.getD (m) 0) (by simp [show m < l.length by omega]);obtain ⟨g',hg',hc0⟩:=HL.out.cell (k:=m) zo;try (simp only [Option.some.injEq,Addr.mk.injEq,and_true] at hg';subst hg')
     have hc1:=(HB.out.cell (World.block_lt_of_cell? _ _ hc0)).trans hc0;generalize l.getD (m) 0=y at*

     have I1:=zh (fun (w:World) (h:XV w t p s ad n vs)=>HI.out y w h m1.1 m1.2);have bd9:=kP (gv vs t y 0);have b9:0<=iL (gv vs t y 0)/\iL (gv vs t y 0)<=1024:=zo;clear bd9 hc0;generalize iK (gv vs t y 0)=a1 at*
     generalize iL (gv vs t y 0)=a2 at*
     generalize iC (gv vs t y 0)=a3 at*
     generalize gv vs t (q:Int) 1=u at*
     have hfa:=Qv (.int .i64 a1) (.int .i64 a2) (.int .i64 a3);have hwa:IntKind.i64.wrap (y+a2)=y+a2:=jD _ zo;have hwb:IntKind.i64.wrap (y+a2 - 1)=y+a2 - 1:=jD _ zo;have HWt:=zh hwant;clear hwant;go_wp2_with fail;refine QN (zP HBox.out) (zQ hc1) fun hHeld=> ?_;refine wT 0 ?_;refine wY ?_;refine wC 10 (I1.out _ (X3.xv.keep hHeld.1.bel)) fun wz hHeld=> ?_;refine wY ?_;refine wD ?_;have X5:=X3.keep hHeld.1.bel;have HBw:=zh (HB.out.trans (hHeld.1.bel.mono HB.out.size));have hc5:=hHeld.1.old hc1;have hd5:=hHeld.1.old hd2;have hlt5:=X5.lt;have HBox5:=zh X5.box;obtain ⟨w0,w1',w2',w3'⟩:=X5.cells;clear hHeld;by_cases h9:(q:Int)=y+a2 - 1
     ·have hb9:((q:Int) == y+a2 - 1)=true:=by simpa using h9
      have hwant:=HWt.out;rw [if_pos h9] at hwant;have HWn:=zh hwant;clear hwant h9;have hw32:IntKind.u32.wrap (y+1)=y+1:=IntWalk.u32_in _ zo;go_wp2_with fail;refine QN (zP HBox5.out) (zQ hd5) fun hHeld=> ?_;refine wT 0 ?_;refine wY ?_;refine wC 5 (HFt.out _) fun wz hHeld=> ?_;refine wY ?_;refine wD ?_;by_cases hu:u=y+1
      ·have hub:(u != y+1)=false:=by simp [hu]
       have hst:yz vs t l (q+1)=some (m):=by rw [HSt.out,hadv,if_pos (by rw [HWn.out];exact hu)]
       have HS2:=zh hst;clear hst hu;have hbz:=HBw.out.trans (hHeld.1.bel.mono HBw.out.size);clear hHeld;go_wp2_with fail;go_roundw;case rel=>exact ⟨q+1,m,zo,by go_num,rfl,zo,HS2.out,hbz⟩
       case measure=>simp [intOf];omega
      ·have hub:(u != y+1)=true:=by simp [hu]
       have hst:yz vs t l (q+1)=none:=by rw [HSt.out,hadv,if_neg (by rw [HWn.out];exact hu)]
       have hres:r=false:=by rw [<-HR.out,Kk (k:=q+1) zo hst];rfl
       subst hres;clear hst hu;have hbz:=X5.keep hHeld.1.bel;clear hHeld;go_wp2;go_ret;exact ⟨rfl,hbz.bel⟩
     ·have hb9:((q:Int) == y+a2 - 1)=false:=by simpa using h9
      have hwant:=HWt.out;rw [if_neg h9] at hwant;have HWn:=zh hwant;clear hwant h9;go_wp2_with fail;refine QN (zP HBox5.out) (zQ hd5) fun hHeld=> ?_;refine wT 0 ?_;refine wY ?_;refine wC 5 (HFt.out _) fun wz hHeld=> ?_;refine wY ?_;refine wD ?_;by_cases hu:u=0
      ·have hub:(u != 0)=false:=by simp [hu]
       have hst:yz vs t l (q+1)=some (m):=by rw [HSt.out,hadv,if_pos (by rw [HWn.out];exact hu)]
       have HS2:=zh hst;clear hst hu;have hbz:=HBw.out.trans (hHeld.1.bel.mono HBw.out.size);clear hHeld;go_wp2_with fail;go_roundw;case rel=>exact ⟨q+1,m,zo,by go_num,rfl,zo,HS2.out,hbz⟩
       case measure=>simp [intOf];omega
      ·have hub:(u != 0)=true:=by simp [hu]
       have hst:yz vs t l (q+1)=none:=by rw [HSt.out,hadv,if_neg (by rw [HWn.out];exact hu)]
       have hres:r=false:=by rw [<-HR.out,Kk (k:=q+1) zo hst];rfl
       subst hres;clear hst hu;have hbz:=X5.keep hHeld.1.bel;clear hHeld;go_wp2;go_ret;exact ⟨rfl,hbz.bel⟩
   ·have hadv:jbB l m q=m:=by simp [jbB,show l[m+1]? =none from List.getElem?_eq_none zo]
    obtain ⟨g,rfl,hx0⟩:=HL.out.cell hml;clear hx0;have hwant:YR vs t l (m) q=if (q:Int)=l.getD (m) 0+iL (gv vs t (l.getD (m) 0) 0) - 1 then l.getD (m) 0+1 else 0:=rfl
    have m1:=HM.out (l.getD (m) 0) (by simp [show m < l.length by omega]);obtain ⟨g',hg',hc0⟩:=HL.out.cell (k:=m) zo;try (simp only [Option.some.injEq,Addr.mk.injEq,and_true] at hg';subst hg')
    have hc1:=(HB.out.cell (World.block_lt_of_cell? _ _ hc0)).trans hc0;generalize l.getD (m) 0=y at*

    have I1:=zh (fun (w:World) (h:XV w t p s ad n vs)=>HI.out y w h m1.1 m1.2);have bd9:=kP (gv vs t y 0);have b9:0<=iL (gv vs t y 0)/\iL (gv vs t y 0)<=1024:=zo;clear bd9 hc0;generalize iK (gv vs t y 0)=a1 at*
    generalize iL (gv vs t y 0)=a2 at*
    generalize iC (gv vs t y 0)=a3 at*
    generalize gv vs t (q:Int) 1=u at*
    have hfa:=Qv (.int .i64 a1) (.int .i64 a2) (.int .i64 a3);have hwa:IntKind.i64.wrap (y+a2)=y+a2:=jD _ zo;have hwb:IntKind.i64.wrap (y+a2 - 1)=y+a2 - 1:=jD _ zo;have HWt:=zh hwant;clear hwant;go_wp2_with fail;refine QN (zP HBox.out) (zQ hc1) fun hHeld=> ?_;refine wT 0 ?_;refine wY ?_;refine wC 10 (I1.out _ (X3.xv.keep hHeld.1.bel)) fun wz hHeld=> ?_;refine wY ?_;refine wD ?_;have X5:=X3.keep hHeld.1.bel;have HBw:=zh (HB.out.trans (hHeld.1.bel.mono HB.out.size));have hc5:=hHeld.1.old hc1;have hd5:=hHeld.1.old hd2;have hlt5:=X5.lt;have HBox5:=zh X5.box;obtain ⟨w0,w1',w2',w3'⟩:=X5.cells;clear hHeld;by_cases h9:(q:Int)=y+a2 - 1
    ·have hb9:((q:Int) == y+a2 - 1)=true:=by simpa using h9
     have hwant:=HWt.out;rw [if_pos h9] at hwant;have HWn:=zh hwant;clear hwant h9;have hw32:IntKind.u32.wrap (y+1)=y+1:=IntWalk.u32_in _ zo;go_wp2_with fail;refine QN (zP HBox5.out) (zQ hd5) fun hHeld=> ?_;refine wT 0 ?_;refine wY ?_;refine wC 5 (HFt.out _) fun wz hHeld=> ?_;refine wY ?_;refine wD ?_;by_cases hu:u=y+1
     ·have hub:(u != y+1)=false:=by simp [hu]
      have hst:yz vs t l (q+1)=some (m):=by rw [HSt.out,hadv,if_pos (by rw [HWn.out];exact hu)]
      have HS2:=zh hst;clear hst hu;have hbz:=HBw.out.trans (hHeld.1.bel.mono HBw.out.size);clear hHeld;go_wp2_with fail;go_roundw;case rel=>exact ⟨q+1,m,zo,by go_num,rfl,zo,HS2.out,hbz⟩
      case measure=>simp [intOf];omega
     ·have hub:(u != y+1)=true:=by simp [hu]
      have hst:yz vs t l (q+1)=none:=by rw [HSt.out,hadv,if_neg (by rw [HWn.out];exact hu)]
      have hres:r=false:=by rw [<-HR.out,Kk (k:=q+1) zo hst];rfl
      subst hres;clear hst hu;have hbz:=X5.keep hHeld.1.bel;clear hHeld;go_wp2;go_ret;exact ⟨rfl,hbz.bel⟩
    ·have hb9:((q:Int) == y+a2 - 1)=false:=by simpa using h9
     have hwant:=HWt.out;rw [if_neg h9] at hwant;have HWn:=zh hwant;clear hwant h9;go_wp2_with fail;refine QN (zP HBox5.out) (zQ hd5) fun hHeld=> ?_;refine wT 0 ?_;refine wY ?_;refine wC 5 (HFt.out _) fun wz hHeld=> ?_;refine wY ?_;refine wD ?_;by_cases hu:u=0
     ·have hub:(u != 0)=false:=by simp [hu]
      have hst:yz vs t l (q+1)=some (m):=by rw [HSt.out,hadv,if_pos (by rw [HWn.out];exact hu)]
      have HS2:=zh hst;clear hst hu;have hbz:=HBw.out.trans (hHeld.1.bel.mono HBw.out.size);clear hHeld;go_wp2_with fail;go_roundw;case rel=>exact ⟨q+1,m,zo,by go_num,rfl,zo,HS2.out,hbz⟩
      case measure=>simp [intOf];omega
     ·have hub:(u != 0)=true:=by simp [hu]
      have hst:yz vs t l (q+1)=none:=by rw [HSt.out,hadv,if_neg (by rw [HWn.out];exact hu)]
      have hres:r=false:=by rw [<-HR.out,Kk (k:=q+1) zo hst];rfl
      subst hres;clear hst hu;have hbz:=X5.keep hHeld.1.bel;clear hHeld;go_wp2;go_ret;exact ⟨rfl,hbz.bel⟩
  ·obtain rfl:q=p.toNat:=by omega
   have hres:r=true:=by rw [<-HR.out,HT.out];rfl
   subst hres;go_wp2;go_ret;exact ⟨rfl,X3.bel⟩
end
section
variable {t p s:Int} {ad:Addr} {n c:Nat} {vs:List Int}

def jfF (k cl:Int) (x y:Bool) (b:Nat):Bool:=(x && !y) || (y && (k != 3 || decide (jE cl<=(b:Int))))
def KM (vs:List Int) (t q:Int) (b:Nat):Bool:= !jfF (iK (gv vs t q 0)) (iC (gv vs t q 0)) (bitB (gv vs t q 4) b) (bitB (gv vs t q 5) b) b
def yY (vs:List Int) (t:Int) (q:Nat):Bool:=yI (KM vs t q) 32 && !(iK (gv vs t q 0) == 3 && gv vs t q 5 == 0)
def yB (vs:List Int) (t p:Int):Bool:=yI (yY vs t) p.toNat
theorem jdT (c:Nat) (w:World) (h:XV w t p s ad n vs) :
 Calls prog 122 #[.agg #[.int .i64 t,.int .i64 p,.int .i64 s,.slice (some ad) n c]] w (zW (.bool (yB vs t p)) w):=by
 have X0:=h.boxed c;have bd:4<=p/\p<=1024:=by have:=h.bd;omega
 have HG:=zh h.gu;have HI:=zh (fun (q:Int) (w:World) (h:XV w t p s ad n vs) (h0:0<=q) (h1:q < p)=>yp q c w h h0 h1);have HSl:=zh (fun (q:Int) (w:World) (h:XV w t p s ad n vs) (h0:0<=q) (h1:q < p)=>Qf q c w h h0 h1);have HTk:=zh (fun (q:Int) (w:World) (h:XV w t p s ad n vs) (h0:0<=q) (h1:q < p)=>J5 q c w h h0 h1);generalize hr:yB vs t p=r;have hr2:yI (yY vs t) p.toNat=r:=hr;have HR:=zh hr2;clear h hr hr2;go_enter func122,ntmps122;go_wp2_with fail;go_loopw [3,4,5,6,7] (fun v3 _ _ _ _ wr=>QH (yY vs t) p.toNat (w.alloc (.cells #[.int .i64 t,.int .i64 p,.int .i64 s,.slice (some ad) n c] 128)) v3 wr) (fun v3 _ _ _ _ _=>p.toNat - (intOf v3).toNat);case atStart=>exact ⟨0,zo,rfl,rfl,Below.refl _ _⟩
 case round=>
  obtain ⟨q,hq,rfl,hall,hbel⟩:=hrel;have X1:=X0.keep hbel;have HA:=zh hall;have HBel:=zh hbel;clear hall hbel X0;obtain ⟨x0,x1,x2,x3⟩:=X1.cells;by_cases hqp:(q:Int) < p
  ·have hsq:yY vs t q=(yI (KM vs t q) 32 && !(iK (gv vs t q 0) == 3 && gv vs t q 5 == 0)):=rfl;have HSQ:=zh hsq;have I1:=zh (fun (w:World) (h:XV w t p s ad n vs)=>HI.out q w h zo hqp);have I2:=zh (fun (w:World) (h:XV w t p s ad n vs)=>HSl.out q w h zo hqp);have I3:=zh (fun (w:World) (h:XV w t p s ad n vs)=>HTk.out q w h zo hqp);have g4:=(HG.out q 4).1;have g5:=(HG.out q 5).1;have hsb:∀b,KM vs t q b= !jfF (iK (gv vs t q 0)) (iC (gv vs t q 0)) (bitB (gv vs t q 4) b) (bitB (gv vs t q 5) b) b:=fun _=>rfl;have HSB:=zh hsb;clear hsq hsb HI HSl HTk HG;generalize iK (gv vs t q 0)=a1 at*
   generalize iL (gv vs t q 0)=a2 at*
   generalize iC (gv vs t q 0)=a3 at*
   generalize gv vs t q 4=u4 at*
   generalize gv vs t q 5=u5 at*
   go_wp2_with fail;refine zM (I1.out _ X1.xv) fun w1 hb1=> ?_;have X2:=X1.keep hb1;obtain ⟨X20,X21,X22,X23⟩:=X2.cells;have X2z:=X2.lt;have hbw1:=HBel.out.trans (hb1.mono HBel.out.size);have X2a:=X2.alloc (.cells #[.int .i64 a1,.int .i64 a2,.int .i64 a3] 130);have HBw1:=zh ((hbw1).alloc (Nat.le_trans hbw1.size (Nat.le_refl _)) (.cells #[.int .i64 a1,.int .i64 a2,.int .i64 a3] 130));clear hbw1 hb1;go_wp2_with fail;go_loopw [5,6,7] (fun v5 _ _ wq=>QH (KM vs t q) 32 (w1.alloc (.cells #[.int .i64 a1,.int .i64 a2,.int .i64 a3] 130)) v5 wq) (fun v5 _ _ _=>32 - (intOf v5).toNat);case atStart=>exact ⟨0,zo,rfl,rfl,Below.refl _ _⟩
   case round=>
    obtain ⟨b,hb,rfl,hallb,hbq⟩:=hrel;have X3:=X2a.keep hbq;obtain ⟨i0,i1,i2⟩:=box3 hbq;have HQ:=zh hallb;have HBq:=zh hbq;clear hallb hbq x0 x1 x2 x3 X20 X21 X22 X23 X2 X2a X2z;obtain ⟨x0,x1,x2,x3⟩:=X3.cells;by_cases hbl:b < 32
    ·have HBit4:=zh (fun w=>KR u4 b w hbl g4);have HBit5:=zh (fun w=>KR u5 b w hbl g5);have hs2:=HSB.out b;have HBox:=zh X3.box;have hxl:=X3.lt;generalize bitB u4 b=z4 at*
     generalize bitB u5 b=z5 at*
     have HSx:=zh hs2;clear hs2;go_wp2_with fail;refine wHb1 (zP HBox.out) fun hHeld=> ?_;refine wT 0 ?_;refine wY ?_;refine wC 2 (I2.out _ (X3.xv.keep hHeld.1.bel)) fun wr1 hHeld=> ?_;refine wC 4 (HBit4.out _) fun wr2 hHeld=> ?_;refine wC 7 (I3.out _ (X3.xv.keep hHeld.1.bel)) fun wr3 hHeld=> ?_;refine wC 9 (HBit5.out _) fun wz hHeld=> ?_;refine wY ?_;refine wD ?_;have X5:=X3.keep hHeld.1.bel;have hb9:=HBq.out.trans (hHeld.1.bel.mono HBq.out.size);have j0:=hHeld.1.old i0;have j1:=hHeld.1.old i1;have j2:=hHeld.1.old i2;have HB9:=zh hb9;clear hHeld hb9;cases z4
     ·cases z5
      ·have hyes:KM vs t q b=true:=by rw [HSx.out];simp [jfF]
       have HY:=zh hyes;clear hyes;go_wp2_with fail;go_roundw;case rel=>exact ⟨b+1,zo,by go_num,by simp [yI,HQ.out,HY.out],HB9.out⟩
       case measure=>simp [intOf];omega
      ·by_cases hk:a1=3
       ·have hkb:(a1 != 3)=false:=by simp [hk]
        have HSlt:=zh (fun w=>yl a3 w);by_cases hsl:jE a3<=(b:Int)
        ·have hsl2:=hsl;have hno:KM vs t q b=false:=by rw [HSx.out];simp [jfF,hsl]
         generalize jE a3=sl at*
         have hno2:yY vs t q=false:=by rw [HSQ.out,kF hbl hno];rfl
         have hres:r=false:=by rw [<-HR.out];exact kF zo hno2
         subst hres;clear hno hno2 hk hsl2;go_wp2_with fail;refine zM (HSlt.out _) fun wy hy=> ?_;go_wp2;go_ret;exact ⟨rfl,(X5.keep hy).bel⟩
        ·have hyes:KM vs t q b=true:=by rw [HSx.out];simp [jfF,hk,hsl]
         generalize jE a3=sl at*
         have HY:=zh hyes;clear hyes hk;go_wp2_with fail;refine zM (HSlt.out _) fun wy hy=> ?_;have bel9:=HB9.out.trans (hy.mono HB9.out.size);go_wp2_with fail;go_roundw;case rel=>exact ⟨b+1,zo,by go_num,by simp [yI,HQ.out,HY.out],bel9⟩
         case measure=>simp [intOf];omega
       ·have hkb:(a1 != 3)=true:=by simp [hk]
        clear hk;have hno:KM vs t q b=false:=by rw [HSx.out];simp [jfF,hkb]
        have hno2:yY vs t q=false:=by rw [HSQ.out,kF hbl hno];rfl
        have hres:r=false:=by rw [<-HR.out];exact kF zo hno2
        subst hres;clear hno hno2;go_wp2;go_ret;exact ⟨rfl,X5.bel⟩
     ·cases z5
      ·have hno:KM vs t q b=false:=by rw [HSx.out];simp [jfF]
       have hno2:yY vs t q=false:=by rw [HSQ.out,kF hbl hno];rfl
       have hres:r=false:=by rw [<-HR.out];exact kF zo hno2
       subst hres;clear hno hno2;go_wp2;go_ret;exact ⟨rfl,X5.bel⟩
      ·by_cases hk:a1=3
       ·have hkb:(a1 != 3)=false:=by simp [hk]
        have HSlt:=zh (fun w=>yl a3 w);by_cases hsl:jE a3<=(b:Int)
        ·have hsl2:=hsl;have hno:KM vs t q b=false:=by rw [HSx.out];simp [jfF,hsl]
         generalize jE a3=sl at*
         have hno2:yY vs t q=false:=by rw [HSQ.out,kF hbl hno];rfl
         have hres:r=false:=by rw [<-HR.out];exact kF zo hno2
         subst hres;clear hno hno2 hk hsl2;go_wp2_with fail;refine zM (HSlt.out _) fun wy hy=> ?_;go_wp2;go_ret;exact ⟨rfl,(X5.keep hy).bel⟩
        ·have hyes:KM vs t q b=true:=by rw [HSx.out];simp [jfF,hk,hsl]
         generalize jE a3=sl at*
         have HY:=zh hyes;clear hyes hk;go_wp2_with fail;refine zM (HSlt.out _) fun wy hy=> ?_;have bel9:=HB9.out.trans (hy.mono HB9.out.size);go_wp2_with fail;go_roundw;case rel=>exact ⟨b+1,zo,by go_num,by simp [yI,HQ.out,HY.out],bel9⟩
         case measure=>simp [intOf];omega
       ·have hkb:(a1 != 3)=true:=by simp [hk]
        clear hk;have hno:KM vs t q b=false:=by rw [HSx.out];simp [jfF,hkb]
        have hno2:yY vs t q=false:=by rw [HSQ.out,kF hbl hno];rfl
        have hres:r=false:=by rw [<-HR.out];exact kF zo hno2
        subst hres;clear hno hno2;go_wp2;go_ret;exact ⟨rfl,X5.bel⟩
    ·obtain rfl:b=32:=by omega
     have bel7:=HBw1.out.trans (HBq.out.mono HBw1.out.size);by_cases hk:a1=3
     ·have hkb:(a1 == 3)=true:=by simp [hk]
      by_cases hu:u5=0
      ·have hub:(u5 == 0)=true:=by simp [hu]
       have hno2:yY vs t q=false:=by rw [HSQ.out,hkb,hub];simp
       have hres:r=false:=by rw [<-HR.out];exact kF zo hno2
       subst hres;clear hno2 hk hu;go_wp2_with fail;refine zM (I3.out _ X3.xv) fun w5 hb5=> ?_;have X5:=X3.keep hb5;obtain ⟨X50,X51,X52,X53⟩:=X5.cells;have X5z:=X5.lt;go_wp2;go_ret;exact ⟨rfl,X5.bel⟩
      ·have hub:(u5 == 0)=false:=by simp [hu]
       have hyes:yY vs t q=true:=by rw [HSQ.out,HQ.out,hkb,hub];rfl
       have HY:=zh hyes;clear hyes hk hu;go_wp2_with fail;refine zM (I3.out _ X3.xv) fun w5 hb5=> ?_;have X5:=X3.keep hb5;obtain ⟨X50,X51,X52,X53⟩:=X5.cells;have X5z:=X5.lt;have bel9:=bel7.trans (hb5.mono bel7.size);go_wp2_with fail;go_roundw;case rel=>exact ⟨q+1,zo,by go_num,by simp [yI,HA.out,HY.out],bel9⟩
       case measure=>simp [intOf];omega
     ·have hkb:(a1 == 3)=false:=by simp [hk]
      have hyes:yY vs t q=true:=by rw [HSQ.out,HQ.out,hkb];rfl
      have HY:=zh hyes;clear hyes hk;go_wp2_with fail;go_roundw;case rel=>exact ⟨q+1,zo,by go_num,by simp [yI,HA.out,HY.out],bel7⟩
      case measure=>simp [intOf];omega
  ·obtain rfl:q=p.toNat:=by omega
   have hres:r=true:=by rw [<-HR.out];exact HA.out
   subst hres;go_wp2;go_ret;exact ⟨rfl,X1.bel⟩
end
end Go.Proofs.YtcnininelndjoaaGreat

