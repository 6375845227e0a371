/- parts of the proof, merged by a program. -/
import Derived.Test.YtcnininelndjoaaGreatMma1
import Derived.Test.YtcnininelndjoaaGreatMma2
import Derived.Test.YtcnininelndjoaaGreatMma3
import Derived.Test.YtcnininelndjoaaGreatMma8
set_option linter.unusedSimpArgs false
set_option linter.unusedVariables false
set_option maxRecDepth 100000
set_option maxHeartbeats 4000000
namespace Go.Proofs.YtcnininelndjoaaGreat
open Go.Proofs.Tryz
open Go.RowKit

def wrW (w:List (Nat×Int)) (C:List Int):List Int:=setN C w w.length
def pageW (t p z:Int) (q:Nat) (C:List Int):List Int:=wrW (kE t p z q (jdl C)).2.writes C
def SP (t p z:Int) (C:List Int):Nat->List Int
 | 0=>C
 | j+1=>pageW t p z j (SP t p z C j)
section
variable {t s:Int} {P K:Nat} {vs C:List Int}
end

def swBd (t p:Int) (x:TS) (k:Nat):Nat:=match k with
 | 0=>0
 | k+1=>(jo t p).toNat - x.known.length+410+k*(410+(jo t p).toNat)
theorem YM (t p z:Int):∀(k:Nat) (x:TS),x.page+k=p.toNat->KnI (jo t p).toNat x.known->0<=x.n->x.n<=96->x.l.length<=96->x.wr.length<=96->
 JG t p (qr t p z k x)/\mu t p (qr t p z k x)<=swBd t p x k/\10<=(qr t p z k x).ph:=by
 intro k;induction k with
 | zero=>
  intro x hp hk h1 h2 h3 h4;refine ⟨?_,Nat.le_refl _,by simp [qr,TS.to]⟩;constructor <;> simp_all [qr,TS.to]
 | succ k ih=>
  intro x hp hk h1 h2 h3 h4;unfold qr;rcases Vn t p z x.page x.known with ⟨i,hi,hi2,hi3⟩ | ⟨hn,hw⟩
  ·rw [hi];have h0:(0:Int)<=(i:Int):=zo;have HK:=zh (hk.snoc hi2 hi3 0);clear hi2 hi3;dsimp only;rw [if_pos h0];refine ⟨?_,?_,by simp [TS.to]⟩
   ·constructor <;> simp_all [TS.to]
    ·omega
    ·exact ⟨zo,HK.out⟩
   ·have e:p.toNat - x.page - 1=k:=zo;simp [mu,TS.to,swBd,e]
  ·have h0:¬(0:Int)<=(thF t p z x.page x.known).1:=zo;rw [if_neg h0];by_cases hwr:(thF t p z x.page x.known).2=[]
   ·rw [if_pos hwr];obtain ⟨a1,a2,a3⟩:=ih { x with need:=(thF t p z x.page x.known).1,wr:=[],page:=x.page+1,known:=[] } (by dsimp only;omega) (KnI.nil _) h1 h2 h3 zT;refine ⟨a1,Nat.le_trans a2 ?_,a3⟩;unfold swBd;cases k with
    | zero=>exact Nat.zero_le _
    | succ k=>
     dsimp only;rw [Nat.succ_mul];simp;omega
   ·rw [if_neg hwr];have hpos:0 < (thF t p z x.page x.known).2.length:=List.length_pos_iff.2 hwr;refine ⟨?_,?_,by simp [TS.to]⟩
    ·constructor <;> simp_all [TS.to];all_goals omega
    ·have e:p.toNat - x.page - 1=k:=zo;simp [mu,TS.to,swBd,e];omega

theorem KO {t p:Int} {x:TS} (h:JG t p x):ju x=x:=by
 have e1:qb x=x:=by unfold qb;rw [if_neg];rintro ⟨a,b⟩;have:=h.h2 a;omega
 have e2:qB x=x:=by unfold qB;rw [if_neg];rintro ⟨a,b⟩;have:=h.h3 (.inl a);omega
 have e3:qA x=x:=by unfold qA;rw [if_neg];rintro ⟨a,b⟩;have:=h.h3 (.inr (.inr a));omega
 have e4:qy x=x:=by unfold qy;rw [if_neg];rintro ⟨a,b⟩;have:=h.hi (.inl a);omega
 have e5:qx x=x:=by unfold qx;rw [if_neg];rintro ⟨a,b⟩;have:=h.hi (.inr a);omega
 unfold ju;rw [e1,e2,e3,e4,e5]
theorem jbL (x:TS):ju (x.to 3)=if x.l=[] then x.to 6 else x.to 3:=by
 by_cases hl:x.l=[]
 ·rw [if_pos hl];simp [ju,qb,qB,qA,qy,qx,TS.to,hl]
 ·rw [if_neg hl];have:0≠x.l.length:=by have:=List.length_pos_iff.2 hl;omega
  simp [ju,qb,qB,qA,qy,qx,TS.to,this]
theorem open_bd {v s n:Int} (h:qQ v s=some n):0<=n/\n<=96:=by
 unfold qQ qU at h;split at h
 ·rename_i st m hm;split at hm
  ·rename_i h96;simp only [Option.some.injEq,Prod.mk.injEq] at hm;obtain ⟨-,-,rfl⟩:=hm;split at h
   ·cases h;omega
   ·cases h
  ·cases hm
 ·cases h
theorem QX {t p z:Int} {x:TS} (h:JG t p x) (hp:x.ph≠19) (v:Int):JG t p (jv t p z v x)/\mu t p (jv t p z v x) < mu t p x:=by
 have hph:=h.ph;have hpg:=h.page;have hn0:=h.n0;have hn:=h.n;have hl:=h.l;have hwr:=h.wr;have h0:=h.h0;have h1:=h.h1;have hk:=h.hk;have h2:=h.h2;have h3:=h.h3;have how:=h.own;have h10:=h.h10;have h11:=h.h11;have hi:=h.hi;have h17:=h.h17;clear h;obtain ⟨ph,i,s,u,note,n,l,own,page,known,need,wr,made⟩:=x;dsimp only at hph hpg hn0 hn hl hwr h0 h1 hk h2 h3 how h10 h11 hi h17 hp;have hgo:∀y:TS,y.page<=p.toNat->KnI (jo t p).toNat y.known->0<=y.n->y.n<=96->y.l.length<=96->y.wr.length<=96->
  JG t p (ju (jB t p z y))/\mu t p (ju (jB t p z y))<=swBd t p y (p.toNat - y.page):=by
  intro y a1 a2 a3 a4 a5 a6;obtain ⟨b1,b2,-⟩:=YM t p z (p.toNat - y.page) y zo a2 a3 a4 a5 a6;rw [show ju (jB t p z y)=jB t p z y from KO b1];exact ⟨b1,b2⟩
 have hid:∀y:TS,JG t p y->mu t p y < mu t p ⟨ph,i,s,u,note,n,l,own,page,known,need,wr,made⟩->JG t p (ju y)/\mu t p (ju y) < mu t p ⟨ph,i,s,u,note,n,l,own,page,known,need,wr,made⟩:=by
  intro y a1 a2;rw [KO a1];exact ⟨a1,a2⟩
 unfold jv;have hc:ph=0\/ph=1\/ph=2\/ph=3\/ph=4\/ph=5\/ph=6\/ph=7\/ph=8\/ph=9\/ph=10\/ph=11\/ph=12\/ph=13\/ph=14\/ph=15\/ph=16\/ph=17\/ph=18:=zo;rcases hc with rfl | rfl | rfl | rfl | rfl | rfl | rfl | rfl | rfl | rfl | rfl | rfl | rfl | rfl | rfl | rfl | rfl | rfl | rfl
 ·refine hid _ ?_ ?_
  ·constructor <;> simp_all [km,TS.to]
  ·simp [km,TS.to,mu]
 ·have ho:=h0 zo;have hk0:=hk zo;have hl0:=h1 zo;subst ho hk0 hl0;simp only [km];cases hop:qQ v s with
  | none=>
   dsimp only;obtain ⟨b1,b2⟩:=hgo ⟨1,i,s,u,note,n,[],false,page,[],need,wr,made⟩ hpg (KnI.nil _) hn0 hn hl hwr;refine ⟨b1,Nat.lt_of_le_of_lt b2 ?_⟩;dsimp only [swBd,mu];cases p.toNat - page with
   | zero=>simp
   | succ k=>simp [Nat.succ_mul];omega
  | some m=>
   obtain ⟨m0,m1⟩:=open_bd hop;dsimp only;by_cases hm:m=0
   ·subst hm;have e:ju (({ ph:=1,i:=i,s:=s,u:=u,note:=v,n:=0,l:=[],own:=false,page:=page,known:=[],need:=need,wr:=wr,made:=made }:TS).to 2)=({ ph:=1,i:=i,s:=s,u:=u,note:=v,n:=0,l:=[],own:=false,page:=page,known:=[],need:=need,wr:=wr,made:=made }:TS).to 6:=by
     simp [ju,qb,qB,qA,qy,qx,TS.to]
    rw [e];refine ⟨?_,?_⟩
    ·constructor <;> simp_all [TS.to]
    ·simp [TS.to,mu,ql]
   ·refine hid _ ?_ ?_
    ·constructor <;> (simp_all [TS.to] <;> omega)
    ·simp [TS.to,mu] <;> omega
 ·-- 2: an entry is copied
  have ho:=h0 zo;obtain ⟨hil,hin⟩:=h2 rfl;subst ho;simp only [km];by_cases hm:((i:Int)+1)=n
  ·have e:ju ({ ph:=2,i:=i+1,s:=s,u:=u,note:=note,n:=n,l:=l++[(qN v).getD (0,0)],own:=false,page:=page,known:=known,need:=need,wr:=wr,made:=made }:TS)=ju (({ ph:=2,i:=i+1,s:=s,u:=u,note:=note,n:=n,l:=l++[(qN v).getD (0,0)],own:=false,page:=page,known:=known,need:=need,wr:=wr,made:=made }:TS).to 3):=by
    have e1:qb ({ ph:=2,i:=i+1,s:=s,u:=u,note:=note,n:=n,l:=l++[(qN v).getD (0,0)],own:=false,page:=page,known:=known,need:=need,wr:=wr,made:=made }:TS)=({ ph:=2,i:=i+1,s:=s,u:=u,note:=note,n:=n,l:=l++[(qN v).getD (0,0)],own:=false,page:=page,known:=known,need:=need,wr:=wr,made:=made }:TS).to 3:=by
     unfold qb;rw [if_pos];exact ⟨rfl,by dsimp only;omega⟩
    have e2:qb (({ ph:=2,i:=i+1,s:=s,u:=u,note:=note,n:=n,l:=l++[(qN v).getD (0,0)],own:=false,page:=page,known:=known,need:=need,wr:=wr,made:=made }:TS).to 3)=({ ph:=2,i:=i+1,s:=s,u:=u,note:=note,n:=n,l:=l++[(qN v).getD (0,0)],own:=false,page:=page,known:=known,need:=need,wr:=wr,made:=made }:TS).to 3:=by
     unfold qb;rw [if_neg];simp [TS.to]
    unfold ju;rw [e1,e2]
   rw [e,jbL,if_neg zT];refine ⟨?_,?_⟩
   ·constructor <;> (simp_all [TS.to] <;> omega)
   ·first | (simp [TS.to,mu,ql];omega) | (cases own <;> simp [TS.to,mu,ql] <;> omega) | (simp only [TS.to,mu,ql] <;> omega)
  ·refine hid _ ?_ ?_
   ·constructor <;> (simp_all [TS.to] <;> omega)
   ·simp [mu] <;> omega
 ·-- 3: a cell is loaded
  have hil:=h3 zT;simp only [km];by_cases hs:hiW v < hiW note
  ·rw [if_pos hs];refine hid _ ?_ ?_
   ·constructor <;> simp_all [TS.to]
   ·first | (simp [TS.to,mu,ql];omega) | (cases own <;> simp [TS.to,mu,ql] <;> omega) | (simp only [TS.to,mu,ql] <;> omega)
  ·rw [if_neg hs];by_cases hm:i+1=l.length
   ·have e:ju ({ ph:=3,i:=i+1,s:=s,u:=u,note:=note,n:=n,l:=l,own:=own,page:=page,known:=known,need:=need,wr:=wr,made:=made }:TS)=({ ph:=3,i:=i+1,s:=s,u:=u,note:=note,n:=n,l:=l,own:=own,page:=page,known:=known,need:=need,wr:=wr,made:=made }:TS).to 5:=by
     have hz:¬0=l.length:=zo;simp [ju,qb,qB,qA,qy,qx,TS.to,hm,hz]
    rw [e];refine ⟨?_,?_⟩
    ·constructor <;> (simp_all [TS.to] <;> omega)
    ·first | (simp [TS.to,mu,ql];omega) | (cases own <;> simp [TS.to,mu,ql] <;> omega) | (simp only [TS.to,mu,ql] <;> omega)
   ·refine hid _ ?_ ?_
    ·constructor <;> (simp_all [TS.to] <;> omega)
    ·first | (simp [TS.to,mu,ql];omega) | (cases own <;> simp [TS.to,mu,ql] <;> omega) | (simp only [TS.to,mu,ql] <;> omega)
 ·-- 4: a cell is stored
  have hil:=h3 zT;simp only [km];by_cases hm:i+1=l.length
  ·have e:ju ({ ph:=3,i:=i+1,s:=s,u:=u,note:=note,n:=n,l:=l,own:=own,page:=page,known:=known,need:=need,wr:=wr,made:=made }:TS)=({ ph:=3,i:=i+1,s:=s,u:=u,note:=note,n:=n,l:=l,own:=own,page:=page,known:=known,need:=need,wr:=wr,made:=made }:TS).to 5:=by
    have hz:¬0=l.length:=zo;simp [ju,qb,qB,qA,qy,qx,TS.to,hm,hz]
   rw [e];refine ⟨?_,?_⟩
   ·constructor <;> (simp_all [TS.to] <;> omega)
   ·first | (simp [TS.to,mu,ql];omega) | (cases own <;> simp [TS.to,mu,ql] <;> omega) | (simp only [TS.to,mu,ql] <;> omega)
  ·refine hid _ ?_ ?_
   ·constructor <;> (simp_all [TS.to] <;> omega)
   ·first | (simp [TS.to,mu,ql];omega) | (cases own <;> simp [TS.to,mu,ql] <;> omega) | (simp only [TS.to,mu,ql] <;> omega)
 ·-- 5: a cell is flushed
  have hil:=h3 zT;simp only [km];by_cases hm:i+1=l.length
  ·have e:ju ({ ph:=5,i:=i+1,s:=s,u:=u,note:=note,n:=n,l:=l,own:=own,page:=page,known:=known,need:=need,wr:=wr,made:=made }:TS)=({ ph:=5,i:=i+1,s:=s,u:=u,note:=note,n:=n,l:=l,own:=own,page:=page,known:=known,need:=need,wr:=wr,made:=made }:TS).to 6:=by
    simp [ju,qb,qB,qA,qy,qx,TS.to,hm]
   rw [e];refine ⟨?_,?_⟩
   ·constructor <;> simp_all [TS.to]
   ·first | (simp [TS.to,mu,ql];omega) | (cases own <;> simp [TS.to,mu,ql] <;> omega) | (simp only [TS.to,mu,ql] <;> omega)
  ·refine hid _ ?_ ?_
   ·constructor <;> (simp_all [TS.to] <;> omega)
   ·first | (simp [TS.to,mu,ql];omega) | (cases own <;> simp [TS.to,mu,ql] <;> omega) | (simp only [TS.to,mu,ql] <;> omega)
 ·refine hid _ ?_ ?_
  ·constructor <;> simp_all [km,TS.to]
  ·simp [km,TS.to,mu,ql]
 ·refine hid _ ?_ ?_
  ·constructor <;> simp_all [km,TS.to]
  ·simp [km,TS.to,mu,ql]
 ·refine hid _ ?_ ?_
  ·constructor <;> simp_all [km,TS.to]
  ·simp [km,TS.to,mu,ql]
 ·-- 9: a change is done
  simp only [km];cases own with
  | true=>
   have hlt:=how zo zo rfl;obtain ⟨b1,b2⟩:=hgo ({ ph:=9,i:=i,s:=s,u:=u,note:=note,n:=n,l:=l,own:=true,page:=page+1,known:=[],need:=need,wr:=wr,made:=made }:TS) (by dsimp only;omega) (KnI.nil _) hn0 hn hl hwr;refine ⟨b1,Nat.lt_of_le_of_lt b2 ?_⟩;have e:p.toNat - (page+1)=p.toNat - page - 1:=zo;simp only [swBd,mu,ql,e,if_true];cases p.toNat - page - 1 with
   | zero=>simp
   | succ k=>simp [Nat.succ_mul];omega
  | false=>
   obtain ⟨b1,b2⟩:=hgo ({ ph:=9,i:=i,s:=s,u:=u,note:=note,n:=n,l:=l,own:=false,page:=page,known:=[],need:=need,wr:=wr,made:=made }:TS) (by dsimp only;omega) (KnI.nil _) hn0 hn hl hwr;refine ⟨b1,Nat.lt_of_le_of_lt b2 ?_⟩;simp only [swBd,mu,ql];cases p.toNat - page with
   | zero=>simp
   | succ k=>simp [Nat.succ_mul];omega
 ·-- 10: a cell is known
  obtain ⟨hlt,hK⟩:=h10 rfl;simp only [km];have hle:=hK.le;obtain ⟨b1,b2⟩:=hgo ({ ph:=10,i:=i,s:=s,u:=u,note:=note,n:=n,l:=l,own:=own,page:=page,known:=known++[(need,loW v)],need:=need,wr:=wr,made:=made }:TS) (by dsimp only;omega) (hK.val _) hn0 hn hl hwr;refine ⟨b1,Nat.lt_of_le_of_lt b2 ?_⟩;obtain ⟨k,hk2⟩:∃k,p.toNat - page=k+1:=⟨p.toNat - page - 1,zo⟩
  simp at hle;simp only [swBd,mu,hk2];simp;omega
 ·-- 11: a log's entry is stored
  have hil:=hi zT;have hlt:=h11 zo zo;simp only [km];by_cases hm:i+1=wr.length
  ·have e:ju ({ ph:=11,i:=i+1,s:=s,u:=u,note:=note,n:=n,l:=l,own:=own,page:=page,known:=known,need:=need,wr:=wr,made:=made }:TS)=({ ph:=11,i:=i+1,s:=s,u:=u,note:=note,n:=n,l:=l,own:=own,page:=page,known:=known,need:=need,wr:=wr,made:=made }:TS).to 12:=by
    have hz:¬wr.length<=0:=zo;have hz2:wr≠[]:=fun e=>by simp [e] at hz
    simp [ju,qb,qB,qA,qy,qx,TS.to,hm,hz2]
   rw [e];refine ⟨?_,?_⟩
   ·constructor <;> (simp_all [TS.to] <;> omega)
   ·simp [TS.to,mu] <;> omega
  ·refine hid _ ?_ ?_
   ·constructor <;> (simp_all [TS.to] <;> omega)
   ·simp [mu] <;> omega
 ·-- 12: a log's line is flushed
  have hil:=hi zT;have hlt:=h11 zo zo;simp only [km];by_cases hm:wr.length<=i+8
  ·have e:ju ({ ph:=12,i:=i+8,s:=s,u:=u,note:=note,n:=n,l:=l,own:=own,page:=page,known:=known,need:=need,wr:=wr,made:=made }:TS)=({ ph:=12,i:=i+8,s:=s,u:=u,note:=note,n:=n,l:=l,own:=own,page:=page,known:=known,need:=need,wr:=wr,made:=made }:TS).to 13:=by
    simp [ju,qb,qB,qA,qy,qx,TS.to,hm]
   rw [e];refine ⟨?_,?_⟩
   ·constructor <;> simp_all [TS.to]
   ·simp [TS.to,mu] <;> omega
  ·refine hid _ ?_ ?_
   ·constructor <;> (simp_all [TS.to] <;> omega)
   ·simp [mu] <;> omega
 ·refine hid _ ?_ ?_
  ·constructor <;> simp_all [km,TS.to]
  ·simp [km,TS.to,mu] <;> omega
 ·refine hid _ ?_ ?_
  ·constructor <;> simp_all [km,TS.to]
  ·simp [km,TS.to,mu] <;> omega
 ·refine hid _ ?_ ?_
  ·constructor <;> simp_all [km,TS.to]
  ·simp [km,TS.to,mu] <;> omega
 ·refine hid _ ?_ ?_
  ·constructor <;> simp_all [km,TS.to]
  ·simp [km,TS.to,mu] <;> omega
 ·refine hid _ ?_ ?_
  ·constructor <;> simp_all [km,TS.to]
  ·simp [km,TS.to,mu] <;> omega
 ·-- 18: the change is kept
  have hlt:=h11 zo zo;obtain ⟨e1,e2⟩:=h17 zT;subst e1 e2;simp only [km];rw [jbL];split
  ·rename_i hl0;refine ⟨?_,?_⟩
   ·constructor <;> simp_all [TS.to]
   ·dsimp only at hl0;simp [TS.to,mu,ql,hl0]
  ·rename_i hl0;have hpos:=List.length_pos_iff.2 hl0;refine ⟨?_,?_⟩
   ·constructor <;> simp_all [TS.to]
   ·first | (simp [TS.to,mu,ql];omega) | (cases own <;> simp [TS.to,mu,ql] <;> omega) | (simp only [TS.to,mu,ql] <;> omega)

def JM (t p u:Int):Int:=if 0<=u/\u<=t then jz t p u else -1
def VL (t p u i:Int):Int:=if 0<=u/\u<=t/\0<=i/\i < 96 then ky t p u i else -1
def jae (t p c:Int):Int:=if 0<=c/\c < jo t p then 16+c else -1
def YC (w:Int):Int:=match qU w with
 | some (st,_,n)=>kG st n false
 | none=>0
def jN (t p:Int) (x:TS):Option (Int×Int×Int):=match x.ph with
 | 0=>some (1,8,0)
 | 1=>some (1,JM t p x.u,0)
 | 2=>some (1,VL t p x.u x.i,0)
 | 3=>some (1,jae t p (x.l.getD x.i (0,0)).1,0)
 | 4=>some (2,jae t p (x.l.getD x.i (0,0)).1,kg (hiW x.note) (x.l.getD x.i (0,0)).2)
 | 5=>some (4,jae t p (x.l.getD x.i (0,0)).1,0)
 | 6=>some (5,0,0)
 | 7=>some (2,JM t p x.u,YC x.note)
 | 8=>some (4,JM t p x.u,0)
 | 9=>some (5,0,0)
 | 10=>some (1,jae t p x.need,0)
 | 11=>some (2,VL t p t x.i,kg (x.wr.getD x.i (0,0)).1 (x.wr.getD x.i (0,0)).2)
 | 12=>some (4,VL t p t x.i,0)
 | 13=>some (2,JM t p t,x.openN)
 | 14=>some (4,JM t p t,0)
 | 15=>some (5,0,0)
 | 16=>some (2,8,kg (x.s+1) t)
 | 17=>some (4,8,0)
 | 18=>some (5,0,0)
 | _=>none
theorem Jm {t p:Int} {x:TS} (h:JG t p x):jN t p x=none↔x.ph=19:=by
 have hph:=h.ph;have hc:x.ph=0\/x.ph=1\/x.ph=2\/x.ph=3\/x.ph=4\/x.ph=5\/x.ph=6\/x.ph=7\/x.ph=8\/x.ph=9\/x.ph=10\/x.ph=11\/x.ph=12\/x.ph=13\/x.ph=14\/x.ph=15\/x.ph=16\/x.ph=17\/x.ph=18\/x.ph=19:=zo;unfold jN;rcases hc with e | e | e | e | e | e | e | e | e | e | e | e | e | e | e | e | e | e | e | e <;> rw [e] <;> simp
theorem Yx (t p:Int):JG t p TS.begin:=by
 constructor <;> simp [TS.begin]
theorem begin_mu (t p:Int):mu t p TS.begin=400+p.toNat*(410+(jo t p).toNat):=by simp [mu,TS.begin]
end Go.Proofs.YtcnininelndjoaaGreat
namespace Go.Proofs.YtcnininelndjoaaGreat
open Go.Proofs.Tryz

namespace NM
theorem XU (W:List Int) (l:Nat) (m:Int) (j:Nat):∀(n:Nat) (K:List Int),j < K.length->(keepI W l m n K).getD j 0=if∃i,i < n/\j=8*l+i/\bitB m i=true then W.getD j 0 else K.getD j 0
 | 0,K,_=>by
  rw [if_neg (by rintro ⟨i,hi,-⟩;omega)];rfl
 | n+1,K,hj=>by
  have ih:=XU W l m j n K hj;unfold keepI;by_cases hb:bitB m n=true
  ·rw [if_pos hb];by_cases he:j=8*l+n
   ·rw [if_pos ⟨n,zo,he,hb⟩,<-he];have hl:j < (keepI W l m n K).length:=by rw [keepI_len];exact hj
    simp [List.getD_eq_getElem?_getD,hl]
   ·have e1:((keepI W l m n K).set (8*l+n) (W.getD (8*l+n) 0)).getD j 0=(keepI W l m n K).getD j 0:=by
     simp only [List.getD_eq_getElem?_getD,List.getElem?_set,if_neg (Ne.symm he)]
    rw [e1,ih];by_cases hx:∃i,i < n/\j=8*l+i/\bitB m i=true
    ·obtain ⟨i,h1,h2,h3⟩:=hx;rw [if_pos ⟨i,h1,h2,h3⟩,if_pos ⟨i,zo,h2,h3⟩]
    ·rw [if_neg hx,if_neg];rintro ⟨i,h1,h2,h3⟩;by_cases hin:i=n
     ·subst hin;exact he h2
     ·exact hx ⟨i,zo,h2,h3⟩
  ·rw [if_neg hb,ih];by_cases hx:∃i,i < n/\j=8*l+i/\bitB m i=true
   ·obtain ⟨i,h1,h2,h3⟩:=hx;rw [if_pos ⟨i,h1,h2,h3⟩,if_pos ⟨i,zo,h2,h3⟩]
   ·rw [if_neg hx,if_neg];rintro ⟨i,h1,h2,h3⟩;by_cases hin:i=n
    ·subst hin;exact hb h3
    ·exact hx ⟨i,zo,h2,h3⟩
end NM
namespace NM

structure Mix (A W K:List Int):Prop where
 wl:W.length=A.length
 kl:K.length=A.length
 or:∀k,k < A.length->K.getD k 0=A.getD k 0\/K.getD k 0=W.getD k 0
theorem Mix.refl (A:List Int):Mix A A A:=⟨rfl,rfl,fun _ _=> .inl rfl⟩
theorem VW {l:List Int} {k:Nat} (h:k < l.length) (v:Int):(l.set k v).getD k 0=v:=by simp [List.getD_eq_getElem?_getD,h]
theorem ja8 {l:List Int} {k j:Nat} (h:k≠j) (v:Int):(l.set k v).getD j 0=l.getD j 0:=by simp [List.getD_eq_getElem?_getD,List.getElem?_set_ne h]
theorem Mix.store {A W K:List Int} (h:Mix A W K) {k:Nat} {v:Int} (hk:W.getD k 0=A.getD k 0\/W.getD k 0=v):Mix A (W.set k v) K:=by
 refine ⟨by simpa using h.wl,h.kl,fun j hj=> ?_⟩;by_cases e:k=j
 ·subst e;rw [VW (by rw [h.wl];exact hj)];rcases h.or k hj with h1 | h1
  ·exact .inl h1
  ·rcases hk with h2 | h2
   ·exact .inl (h1.trans h2)
   ·exact .inr (h1.trans h2)
 ·rw [ja8 e];exact h.or j hj
theorem Mix.keep {A W K:List Int} (h:Mix A W K) (l:Nat) (m:Int) (n:Nat):Mix A W (keepI W l m n K):=by
 refine ⟨h.wl,by rw [keepI_len];exact h.kl,fun j hj=> ?_⟩;rw [XU W l m j n K (by rw [h.kl];exact hj)];split
 ·exact .inr rfl
 ·exact h.or j hj
theorem Mix.steps {A:List Int} (who:Int):∀(l:List Nat) (s:NM),Mix A s.W s.K->Mix A s.W (l.foldl (NM.step who) s).K
 | [],_,h=>h
 | a :: l,s,h=>Mix.steps who l (NM.step who s a) (h.keep a 255 8)
theorem Mix.evict {A:List Int} {s:NM} (h:Mix A s.W s.K) (line mask:Int):Mix A (s.evict line mask).2.W (s.evict line mask).2.K:=by
 unfold NM.evict;split
 ·exact h.keep _ _ _
 ·exact h
theorem Mix.fence {A:List Int} {s:NM} (h:Mix A s.W s.K) (who:Int):Mix A (s.fence who).2.W (s.fence who).2.K:=by
 rw [fence_W];exact Mix.steps who _ s h
theorem Mix.base {A A' W K:List Int} (h:Mix A W K) (hl:A'.length=A.length) (ha:∀k,k < A.length->(A'.getD k 0=A.getD k 0)\/(A'.getD k 0=W.getD k 0/\K.getD k 0=W.getD k 0)):Mix A' W K:=by
 refine ⟨by rw [hl];exact h.wl,by rw [hl];exact h.kl,fun j hj=> ?_⟩;rw [hl] at hj;rcases ha j hj with e | ⟨-,e⟩
 ·rw [e];exact h.or j hj
 ·exact .inr e
theorem Mix.crash {A:List Int} {s:NM} (h:Mix A s.W s.K):Mix A s.crash.W s.crash.K:=⟨h.kl,h.kl,fun _ _=> .inr rfl⟩
end NM
end Go.Proofs.YtcnininelndjoaaGreat
namespace Go.Proofs.YtcnininelndjoaaGreat
open Go.Proofs.Tryz
open Go.RowKit

structure Kl (t p z:Int) (B:List Int) (s u:Int) (o:Option (List (Int×Int))) (C:List Int):Prop where
 u64:∀w∈B,U64 w
 last:KB t p B=some (s,u,o)
 sett:q8 t p z B=some C
theorem XY {B:List Int} (h:∀w∈B,U64 w) (k:Nat):U64 (B.getD k 0):=NM.getD_u h k
theorem Qw {N:Int}:∀{ws:List Int} {l:List (Int×Int)},kW N ws=some l->∀i,i < ws.length->∃e,l[i]? =some e/\qN (ws.getD i 0)=some e
 | [],_,_,i,hi=>by simp at hi
 | w :: ws,l,h,i,hi=>by
  unfold kW at h;cases he:qN w with
  | none=>rw [he] at h;cases h
  | some e=>
   rw [he] at h;dsimp only at h;split at h
   ·obtain ⟨r,hr,rfl⟩:=Option.map_eq_some_iff.1 h;cases i with
    | zero=>exact ⟨e,rfl,he⟩
    | succ i=>
     obtain ⟨e',h1,h2⟩:=Qw hr i (by simpa using hi);exact ⟨e',by simpa using h1,by simpa using h2⟩
   ·cases h
theorem jcE {w s k:Int} (h:qQ w s=some k):qU w=some (s,true,k):=by
 unfold qQ at h;split at h
 ·rename_i st n hn;split at h
  ·rename_i he;cases h;rw [hn,he]
  ·cases h
 ·cases h
section
variable {t p z s u:Int} {B C:List Int} {o:Option (List (Int×Int))} {l:List (Int×Int)}
theorem KX (hr:jq t p z=true) (h0:0<=u) (h1:u<=t):16+(jo t p).toNat<=(jz t p u).toNat/\(jz t p u).toNat+8=(ky t p u 0).toNat/\((ky t p u 0).toNat+96:Int)<=qM t p/\(jz t p u).toNat % 8=0/\8 < 16+(jo t p).toNat/\(u < t->(ky t p u 0).toNat+96<=(jz t p t).toNat)/\((jz t p u).toNat:Int)=jz t p u/\(∀i:Nat,ky t p u i=(((ky t p u 0).toNat+i:Nat):Int)):=by
 have hm:=jV hr;have hb:=jt hr;have h8:jO t p % 8=0:=by unfold jO;omega
 unfold jz ky;generalize jO t p=M at*
 generalize jo t p=N at*
 refine ⟨zo,zo,zo,zo,zo,fun _=>by omega,zo,fun i=>by omega⟩
theorem Kl.right (h:Kl t p z B s u o C):jq t p z=true/\(B.length:Int)=qM t p:=by
 have:=h.sett;unfold q8 at this;split at this
 ·rename_i hr;unfold Xq at hr;simpa using hr
 ·cases this
theorem Kl.vals (h:Kl t p z B s u o C):C=Kk (jo t p).toNat (VZ s o B):=by
 have:=h.sett;unfold q8 at this;split at this
 ·rw [h.last] at this;simp only [Option.map_some,Option.some.injEq] at this;exact this.symm
 ·cases this
theorem Kl.tip (h:Kl t p z B s u o C):QF (B.getD 8 0)=some (s,u)/\(0<=u/\u<=t)/\(0<=s/\s < 4294967296)/\Qe B s (jo t p).toNat=true:=by
 have hl:=h.last;have h8:=XY h.u64 8;have hb:=K1 h8;have hlo:=KA (B.getD 8 0);unfold KB at hl;have key:∀s' u':Int,QF (B.getD 8 0)=some (s',u')->s'=hiW (B.getD 8 0)/\u'=loW (B.getD 8 0):=by
  intro s' u' e;unfold QF at e;split at e
  ·simp only [Option.some.injEq,Prod.mk.injEq] at e;exact ⟨e.1.symm,e.2.symm⟩
  ·cases e
 split at hl
 ·rename_i s' u' ht;obtain ⟨e1,e2⟩:=key s' u' ht;split at hl
  ·rename_i hut;split at hl
   ·rename_i hst;split at hl
    ·obtain ⟨y,hy,he⟩:=Option.map_eq_some_iff.1 hl;simp only [Prod.mk.injEq] at he;obtain ⟨rfl,rfl,-⟩:=he;exact ⟨ht,⟨zo,hut⟩,⟨zo,zo⟩,hst⟩
    ·simp only [Option.some.injEq,Prod.mk.injEq] at hl;obtain ⟨rfl,rfl,-⟩:=hl;exact ⟨ht,⟨zo,hut⟩,⟨zo,zo⟩,hst⟩
   ·cases hl
  ·cases hl
 ·cases hl
theorem Kl.shut (h:Kl t p z B s u none C):qQ (B.getD (jz t p u).toNat 0) s=none:=by
 obtain ⟨ht,hu,-,hst⟩:=h.tip;have hl:=h.last;unfold KB at hl;rw [ht] at hl;dsimp only at hl;rw [if_pos hu.2,if_pos hst] at hl;split at hl
 ·obtain ⟨y,hy,he⟩:=Option.map_eq_some_iff.1 hl;simp at he
 ·assumption
theorem Kl.open_ (h:Kl t p z B s u (some l) C):∃k,qQ (B.getD (jz t p u).toNat 0) s=some k/\qU (B.getD (jz t p u).toNat 0)=some (s,true,k)/\kW (jo t p) ((B.drop (ky t p u 0).toNat).take k.toNat)=some l/\(l.length:Int)=k/\k<=96/\
 ∀x∈l,0<=x.1/\x.1 < jo t p/\0<=x.2/\x.2 < 4294967296:=by
 obtain ⟨ht,hu,hs0,hst⟩:=h.tip;obtain ⟨hr,hlen⟩:=h.right;have hlay:=KX hr hu.1 hu.2;have hl:=h.last;unfold KB at hl;rw [ht] at hl;dsimp only at hl;rw [if_pos hu.2,if_pos hst] at hl;split at hl
 ·rename_i k hk;have hn:=jcE hk;obtain ⟨y,hy,he⟩:=Option.map_eq_some_iff.1 hl;simp only [Prod.mk.injEq,Option.some.injEq,true_and] at he;unfold je0 at hy;rw [hn] at hy;dsimp only at hy;obtain ⟨r,hr2,rfl⟩:=Option.map_eq_some_iff.1 hy;dsimp only at he;subst he;have hf:=note_few hn;have hbd:=JC (fun w hw=>h.u64 w (List.mem_of_mem_drop (List.mem_of_mem_take hw))) hr2;refine ⟨k,hk,hn,hr2,?_,hf.2,hbd.2⟩;rw [hbd.1,List.length_take,List.length_drop];omega
 ·simp at hl
theorem Kl.entry (h:Kl t p z B s u (some l) C) {i:Nat} (hi:i < l.length):qN (B.getD ((ky t p u 0).toNat+i) 0)=some (l[i]'hi):=by
 obtain ⟨k,hk,hn,he,hl,hk2,-⟩:=h.open_;have hlt:i < ((B.drop (ky t p u 0).toNat).take k.toNat).length:=by
  obtain ⟨hr,hlen⟩:=h.right;obtain ⟨-,hu,-,-⟩:=h.tip;have hlay:=KX hr hu.1 hu.2;rw [List.length_take,List.length_drop];omega
 obtain ⟨e,h1,h2⟩:=Qw he i hlt;rw [List.getElem?_eq_getElem hi] at h1;cases h1;rw [<-h2];simp only [List.getD_eq_getElem?_getD,List.getElem?_take,List.getElem?_drop];rw [if_pos (by rw [List.length_take,List.length_drop] at hlt;omega)]
end
def layW (b:Nat) (ws:List Int) (A:List Int):Nat->List Int
 | 0=>A
 | j+1=>(layW b ws A j).set (b+j) (ws.getD j 0)

def KnC (C:List Int) (kn:List (Int×Int)):Prop:=∀y∈kn,∃i:Nat,y.1=(i:Int)/\C[i]? =some y.2
def wrP (t p z:Int) (q:Nat) (C:List Int):List (Int×Int):=(kE t p z q (jdl C)).2.writes.map fun x=>((x.1:Int),x.2)
section
variable {t p z:Int} {C vs:List Int} {kn:List (Int×Int)} {q K P:Nat}
theorem KnC.nil (C:List Int):KnC C []:=fun y hy=>by cases hy
theorem KnC.snoc (h:KnC C kn) {i:Nat} {v:Int} (hv:C[i]? =some v):KnC C (kn++[((i:Int),v)]):=by
 intro y hy;rcases List.mem_append.1 hy with hy | hy
 ·exact h y hy
 ·simp at hy;subst hy;exact ⟨i,rfl,hv⟩
end

def Cj (t p z:Int) (vs:List Int) (x:TS):List Int:=SP t p z vs (if x.own=true then x.page+1 else x.page)
def LnP (m:NM) (t:Int) (k:Nat):Prop:=(t,((k / 8:Nat):Int))∈m.P
def logW (wr:List (Int×Int)):List Int:=wr.map fun y=>kg y.1 y.2
structure Wr (t p z:Int) (vs:List Int) (x:TS):Prop where
 wr:x.wr=wrP t p z x.page (SP t p z vs x.page)
 ne:x.wr≠[]
 pg:x.page < p.toNat
structure Laid (t p:Int) (wr:List (Int×Int)) (note:Int) (B:List Int):Prop where
 log:∀k,k < wr.length->B.getD ((ky t p t 0).toNat+k) 0=(logW wr).getD k 0
 nt:B.getD (jz t p t).toNat 0=note
def ph3 (m:NM) (t:Int) (x:TS) (j:Nat):Prop:=
 (x.ph=3/\j=x.i)\/(x.ph=4/\j=x.i/\∀y:Int×Int,x.l[x.i]? =some y->hiW (m.W.getD (16+y.1).toNat 0) < x.s)\/(x.ph=5/\j=x.l.length/\∀(i:Nat) (y:Int×Int),i < x.i->x.l[i]? =some y->LnP m t (16+y.1).toNat)\/(x.ph=6/\j=x.l.length/\∀(i:Nat) (y:Int×Int),x.l[i]? =some y->LnP m t (16+y.1).toNat)
def ph11 (m:NM) (t p:Int) (x:TS) (A:List Int):Prop:=
 let b:=(ky t p t 0).toNat
 (x.ph=11/\m.W=layW b (logW x.wr) A x.i)\/(x.ph=12/\m.W=layW b (logW x.wr) A x.wr.length/\x.i % 8=0/\∀k,k < x.i->k < x.wr.length->LnP m t (b+k))\/
 (x.ph=13/\m.W=layW b (logW x.wr) A x.wr.length/\∀k,k < x.wr.length->LnP m t (b+k))\/((x.ph=14\/(x.ph=15/\LnP m t (jz t p t).toNat))/\m.W=(layW b (logW x.wr) A x.wr.length).set (jz t p t).toNat x.openN/\∀k,k < x.wr.length->LnP m t (b+k))
inductive CI (t p z:Int) (vs:List Int) (x:TS) (m:NM):Prop
 | c0 (s u:Int) (o:Option (List (Int×Int))) (hx:x=TS.begin) (hk:m.K=m.W) (hs:Kl t p z m.W s u o vs)
 | c1 (o:Option (List (Int×Int))) (hp:x.ph=1) (h0:x.own=false/\x.page=0/\x.known=[]/\x.l=[]) (hk:m.K=m.W) (hs:Kl t p z m.W x.s x.u o vs)
 | c2 (L:List (Int×Int)) (hp:x.ph=2) (h0:x.own=false/\x.page=0) (hk:m.K=m.W) (hs:Kl t p z m.W x.s x.u (some L) vs) (hn:x.note=m.W.getD (jz t p x.u).toNat 0) (hN:x.n=L.length) (hl:x.l=L.take x.i) (hi:x.i < L.length)
 | c3 (A:List Int) (j:Nat) (ho:x.own=true->x.page < p.toNat) (hs:Kl t p z A x.s x.u (some x.l) (Cj t p z vs x)) (hn:x.note=A.getD (jz t p x.u).toNat 0) (hW:m.W=yp x.s (x.l.take j) A) (hM:NM.Mix A m.W m.K) (hp:ph3 m t x j)
 | c7 (hp:x.ph=7) (ho:x.own=true->x.page < p.toNat) (hk:m.K=m.W) (hs:Kl t p z m.W x.s x.u (some x.l) (Cj t p z vs x)) (hn:x.note=m.W.getD (jz t p x.u).toNat 0) (ht:yp x.s x.l m.W=m.W)
 | c8 (A:List Int) (ho:x.own=true->x.page < p.toNat) (hs:Kl t p z A x.s x.u (some x.l) (Cj t p z vs x)) (hn:x.note=A.getD (jz t p x.u).toNat 0) (ht:yp x.s x.l A=A) (hW:m.W=A.set (jz t p x.u).toNat (YC x.note)) (hM:NM.Mix A m.W m.K) (hp:x.ph=8\/(x.ph=9/\LnP m t (jz t p x.u).toNat))
 | c10 (u:Int) (hp:x.ph=10) (hk:m.K=m.W) (hpg:x.page < p.toNat) (hs:Kl t p z m.W x.s u none (SP t p z vs x.page)) (hc:KnC (SP t p z vs x.page) x.known)
 | c11 (A:List Int) (u:Int) (hs:Kl t p z A x.s u none (SP t p z vs x.page)) (hw:Wr t p z vs x) (hM:NM.Mix A m.W m.K) (hp:ph11 m t p x A)
 | c16 (u:Int) (hp:x.ph=16) (hk:m.K=m.W) (hs:Kl t p z m.W x.s u none (SP t p z vs x.page)) (hw:Wr t p z vs x) (hl:Laid t p x.wr x.openN m.W)
 | c17 (A:List Int) (u:Int) (hs:Kl t p z A (x.s - 1) u none (SP t p z vs x.page)) (hw:Wr t p z vs x) (hl:Laid t p x.wr x.note A) (hx:x.note=kG x.s x.wr.length true/\x.l=x.wr/\x.own=true/\x.u=t) (hs0:x.s < 4294967296) (hW:m.W=A.set 8 (kg x.s t)) (hM:NM.Mix A m.W m.K) (hp:x.ph=17\/(x.ph=18/\LnP m t 8))
 | c19 (u:Int) (hp:x.ph=19) (hk:m.K=m.W) (hpg:x.page=p.toNat) (hs:Kl t p z m.W x.s u none (SP t p z vs p.toNat))
section
variable {t p z s u:Int} {A B C vs:List Int} {l:List (Int×Int)} {x:TS} {m:NM}
end

theorem jZ (w:World) (xs:List Value) (T:TypeId) (k:Nat) (hk:k=w.heap.size):∀(j:Nat) (x:Value),xs[j]? =some x->(w.alloc (.cells xs.toArray T)).cell? ((⟨k,0,none⟩:Addr).add j)=some x:=by
 subst hk;intro j x hj;rw [show (⟨w.heap.size,0,none⟩:Addr).add j=⟨w.heap.size,j,none⟩ by by_cases h0:j=0 <;> simp [Addr.add,h0]];exact (jd (heap_alloc_new w _)).trans (by simpa using hj)
theorem jci {w:World} {B e sz n:Nat} {v:Value} {xs:List Value} (h:w.ownsRow B e sz v n xs):∃a c,v= .slice a n c:=by
 rcases h.2 with ⟨h5,h6⟩ | ⟨g,cap,cur,h5,-⟩
 ·exact ⟨_,_,by rw [h5,h6]⟩
 ·exact ⟨_,_,h5⟩
def yn (t p s:Int) (lv rest:Value) (st md pg:Int):Array Value:=#[.int .i64 t,.int .i64 p,.int .i64 s,lv,rest,.int .u32 st,.int .u32 md,.int .i64 pg]
def qh (d z a v:Int) (told:Value):List Value:=[.int .i64 d,.int .i64 z,.int .i64 a,.int .i64 0,.int .u64 0,.int .u64 v,told]
theorem VP:(prog.info? 99).map (fun i=>(i.zero,i.size,i.bytes))=some (some (.agg #[.int .i64 0,.int .i64 0,.int .i64 0,.int .i64 0,.int .u64 0,.int .u64 0,.nilFunc]),7,56):=by kernel_rfl
theorem ya (b:Nat) (t:Int) (w:World) (h:w.cell? ⟨b,0,none⟩=some (.int .i64 t)):Calls prog 80 #[.pointer (some ⟨b,0,none⟩)] w fun e w'=>e= .returned (.int .i64 t)/\w=w':=by
 go_enter func80,ntmps80;go_wp2;go_ret;exact ⟨rfl,rfl⟩
structure MeB (w:World) (b:Nat) (t p s:Int) (lv rest:Value) (st md pg:Int) (n:Nat) (xs:List Value):Prop where
 box:w.heap[b]? =some (.cells (yn t p s lv rest st md pg) 95)
 row:w.ownsRow 0 99 7 lv n xs
 ne:lv.ownBlock≠some b
theorem jcP (b:Nat) (t p s:Int) (lv rest:Value) (st md pg:Int) (n:Nat) (xs:List Value) (at':Int) (F:FuncId) (rc cp:Array Value) (w:World) (h:MeB w b t p s lv rest st md pg n xs) (hn:n<=1000000) :
 Calls prog 38 #[.pointer (some ⟨b,0,none⟩),.int .i64 at',.func (.func F) rc cp] w fun e w'=>e= .returned (.tuple #[])/\(∃lv',MeB w' b t p s lv' rest st md pg (n+1) (xs++qh 1 t at' 0 (.func (.func F) rc cp))/\(∀k,lv'.ownBlock=some k->lv.ownBlock=some k\/w.heap.size<=k))/\Fr (fun k=>k=b\/lv.ownBlock=some k) w w':=by
 obtain ⟨hb,hrow,hne⟩:=h;obtain ⟨i0,hi0,hi1,hi2,hi3⟩:=info_parts VP;have HI:=zh (And.intro hi0 (And.intro hi1 (And.intro hi2 hi3)));obtain ⟨pa,pc,rfl⟩:=jci hrow;have hc:∀o:Nat,w.cell? ⟨b,o,none⟩=(yn t p s (.slice pa n pc) rest st md pg)[o]? :=fun o=>jd hb;have hblt:b < w.heap.size:=(Array.getElem?_eq_some_iff.1 hb).1;have HR:=zh hrow;have HB:=zh hb;unfold yn at hc;clear hi0 hi1 hi2 hi3 hrow hb;go_enter func38,ntmps38;go_wp2_with fail;have q0:=hc 0;have q3:=hc 3;simp at q0 q3;refine wH (S:=fun w'=>True) (trivial) fun hHeld=> ?_;refine wT 0 ?_;refine wY ?_;refine wpAnyH_ready (rs:=[4,6]) zk zT ?_;refine AllReadyH.cons (o:=_) rfl (fun K hK=> ?_) (AllReadyH.cons (o:=_) rfl (fun K hK=> ?_) AllReadyH.nil);go_simp;refine wK hK (trivial) fun hHeld=> ?_;clear hK K;refine wR 6 fun K hK=> ?_;go_simp;refine zM (ya b t _ (by simpa using q0)) ?_;rintro w1 rfl;refine wK hK (trivial) fun hHeld=> ?_;clear hK K;refine wY ?_;refine wR 11 fun K hK=> ?_;go_simp;refine wK hK (trivial) fun hHeld=> ?_;clear hK K;refine wR 12 fun K hK=> ?_;refine jP rfl (.tmp 10) (.tmp 17) rfl 99 i0 (.agg #[.int .i64 0,.int .i64 0,.int .i64 0,.int .i64 0,.int .u64 0,.int .u64 0,.nilFunc]) 7 56 underlying93 HI.out.1 HI.out.2.1 HI.out.2.2.1 HI.out.2.2.2 rfl zd (.slice pa n pc) n xs rfl ((je (w':=w.drew) HR.out (fun _ _=>rfl)).alloc _) ⟨w.heap.size,0,none⟩ 1 1 (qh 1 t at' 0 (.func (.func F) rc cp)) rfl rfl (jZ w.drew _ _ _ rfl) ?c1 ?c2 ?c3 ?_;case c1=>(intro u hu;simp [qh] at hu;rcases hu with rfl | rfl | rfl | rfl | rfl | rfl | rfl <;> rfl)
 case c2=>(unfold maxLen;omega)
 case c3=>(omega)
 intro v' w5 hown5 hg5 hnew5 hnil5;clear hnil5;obtain ⟨g',cap',rfl⟩:=Joins.ownsRow_form hown5 zo;have hb5:=hg5.block b (by simp;omega) (fun e=>hne e.symm);have hbx5:=hb5.trans ((Below.heap_alloc w.drew (.cells (qh 1 t at' 0 (.func (.func F) rc cp)).toArray 99) _ hblt).trans HB.out);have c53:=jd (o:=3) hbx5;have f5:=jh (o:=3) hbx5;have hne5:=(fun e:g'=b=>(hnew5 b (by rw [<-e];rfl)).elim hne (fun h=>by simp at h;omega))
 simp [yn] at c53;refine wK hK (trivial) fun hHeld=> ?_;clear hK K;refine wT 13 ?_;refine wY ?_;refine wR 15 fun K hK=> ?_;go_simp;refine wK hK (trivial) fun hHeld=> ?_;clear hK K;refine wD ?_;rotate_left;go_simp;refine zM (ya b t _ (by simpa using q0)) ?_;rintro w1 rfl;refine wK hK (trivial) fun hHeld=> ?_;clear hK K;refine wT 8 ?_;refine wY ?_;refine wpAnyH_ready (rs:=[4,11]) zk zT ?_;refine AllReadyH.cons (o:=_) rfl (fun K hK=> ?_) (AllReadyH.cons (o:=_) rfl (fun K hK=> ?_) AllReadyH.nil);go_simp;refine wK hK (trivial) fun hHeld=> ?_;clear hK K;refine wR 11 fun K hK=> ?_;go_simp;refine wK hK (trivial) fun hHeld=> ?_;clear hK K;refine wR 12 fun K hK=> ?_;refine jP rfl (.tmp 10) (.tmp 17) rfl 99 i0 (.agg #[.int .i64 0,.int .i64 0,.int .i64 0,.int .i64 0,.int .u64 0,.int .u64 0,.nilFunc]) 7 56 underlying93 HI.out.1 HI.out.2.1 HI.out.2.2.1 HI.out.2.2.2 rfl zd (.slice pa n pc) n xs rfl ((je (w':=w.drew) HR.out (fun _ _=>rfl)).alloc _) ⟨w.heap.size,0,none⟩ 1 1 (qh 1 t at' 0 (.func (.func F) rc cp)) rfl rfl (jZ w.drew _ _ _ rfl) ?c1 ?c2 ?c3 ?_;case c1=>(intro u hu;simp [qh] at hu;rcases hu with rfl | rfl | rfl | rfl | rfl | rfl | rfl <;> rfl)
 case c2=>(unfold maxLen;omega)
 case c3=>(omega)
 intro v' w5 hown5 hg5 hnew5 hnil5;clear hnil5;obtain ⟨g',cap',rfl⟩:=Joins.ownsRow_form hown5 zo;have hb5:=hg5.block b (by simp;omega) (fun e=>hne e.symm);have hbx5:=hb5.trans ((Below.heap_alloc w.drew (.cells (qh 1 t at' 0 (.func (.func F) rc cp)).toArray 99) _ hblt).trans HB.out);have c53:=jd (o:=3) hbx5;have f5:=jh (o:=3) hbx5;have hne5:=(fun e:g'=b=>(hnew5 b (by rw [<-e];rfl)).elim hne (fun h=>by simp at h;omega))
 simp [yn] at c53;refine wK hK (trivial) fun hHeld=> ?_;clear hK K;refine wT 13 ?_;refine wY ?_;refine wR 15 fun K hK=> ?_;go_simp;refine wK hK (trivial) fun hHeld=> ?_;clear hK K;refine wD ?_;rotate_left;go_simp;refine wK hK (trivial) fun hHeld=> ?_;clear hK K;refine wR 4 fun K hK=> ?_;go_simp;refine wK hK (trivial) fun hHeld=> ?_;clear hK K;refine wR 12 fun K hK=> ?_;refine jP rfl (.tmp 10) (.tmp 17) rfl 99 i0 (.agg #[.int .i64 0,.int .i64 0,.int .i64 0,.int .i64 0,.int .u64 0,.int .u64 0,.nilFunc]) 7 56 underlying93 HI.out.1 HI.out.2.1 HI.out.2.2.1 HI.out.2.2.2 rfl zd (.slice pa n pc) n xs rfl ((je (w':=w.drew) HR.out (fun _ _=>rfl)).alloc _) ⟨w.heap.size,0,none⟩ 1 1 (qh 1 t at' 0 (.func (.func F) rc cp)) rfl rfl (jZ w.drew _ _ _ rfl) ?c1 ?c2 ?c3 ?_;case c1=>(intro u hu;simp [qh] at hu;rcases hu with rfl | rfl | rfl | rfl | rfl | rfl | rfl <;> rfl)
 case c2=>(unfold maxLen;omega)
 case c3=>(omega)
 intro v' w5 hown5 hg5 hnew5 hnil5;clear hnil5;obtain ⟨g',cap',rfl⟩:=Joins.ownsRow_form hown5 zo;have hb5:=hg5.block b (by simp;omega) (fun e=>hne e.symm);have hbx5:=hb5.trans ((Below.heap_alloc w.drew (.cells (qh 1 t at' 0 (.func (.func F) rc cp)).toArray 99) _ hblt).trans HB.out);have c53:=jd (o:=3) hbx5;have f5:=jh (o:=3) hbx5;have hne5:=(fun e:g'=b=>(hnew5 b (by rw [<-e];rfl)).elim hne (fun h=>by simp at h;omega))
 simp [yn] at c53;refine wK hK (trivial) fun hHeld=> ?_;clear hK K;refine wT 13 ?_;refine wY ?_;refine wR 15 fun K hK=> ?_;go_simp;refine wK hK (trivial) fun hHeld=> ?_;clear hK K;refine wD ?_;all_goals
  have hF5:Fr (fun k=>k=b\/(Value.slice pa n pc).ownBlock=some k) w w5:=(((Fr.refl _ w).drew).alloc (.cells (qh 1 t at' 0 (.func (.func F) rc cp)).toArray 99)).grown hg5 (fun k hk=>Or.inl (Or.inr hk));have hF6:=hF5.setCell ⟨b,3,none⟩ (.slice (some ⟨g',0,none⟩) (n+1) cap') (Or.inl (Or.inl rfl));have hN:=hnew5;go_end0;refine ⟨rfl,⟨.slice (some ⟨g',0,none⟩) (n+1) cap',⟨(jH hbx5).trans (by simp [yn]),je hown5 fun k hk=>ji (fun e=>hne5 (by simp [Value.ownBlock] at hk;omega)),fun e=>hne5 (by simpa [Value.ownBlock] using e)⟩,fun k hk=> ?_⟩,hF6⟩;rcases hN k hk with h | h
  ·exact Or.inl h
  ·exact Or.inr (by simp at h;omega)
theorem ja0 (t p s:Int) (w:World) (hr:jq t p s=true) :
 Calls prog 11 #[.agg #[.int .i64 t,.int .i64 p,.int .i64 s]] w fun e w'=>(∃b,e= .returned (.pointer (some ⟨b,0,none⟩))/\w.heap.size<=b/\∃lv,MeB w' b t p s lv .nilFunc 0 0 0 1 (qh 1 t 8 0 (.func (.func 39) #[.pointer (some ⟨b,0,none⟩)] #[]))/\∀k,lv.ownBlock=some k->w.heap.size<=k)/\Below w.heap.size w w':=by
 have HC:=zh (fun w=>Ys t p s w hr);clear hr;go_enter func11,ntmps11;go_wp2_with fail;refine zM (HC.out _) fun w1 b1=> ?_;obtain ⟨b1c,b1f⟩:=jL b1;have b1z0:w.heap.size < w1.heap.size:=zL b1;have B1:Below w.heap.size w w1:=zR;have B2:=B1.alloc B1.size (.cells (yn t p s (.slice none 0 0) .nilFunc 0 0 0) 95);have hM:MeB (w1.alloc (.cells (yn t p s (.slice none 0 0) .nilFunc 0 0 0) 95)) w1.heap.size t p s (.slice none 0 0) .nilFunc 0 0 0 0 []:=⟨heap_alloc_new _ _,World.ownsRow_nil _ _ _ _,by simp [Value.ownBlock]⟩
 have HM:=zh hM;have HB2:=zh B2;have hz:=B1.size;clear hM B1 B2 b1;go_wp2_with fail;refine zM (jcP _ t p s _ _ _ _ _ _ _ _ _ _ _ _ HM.out zo) ?_;rintro w3 ⟨⟨lv,hM3,hlv⟩,hF⟩;have hB3:=HB2.out.trans ((hF.below (B:=w.heap.size) (by simp;omega) (fun i hi=>by
  rcases hi with rfl | hi
  ·exact hz
  ·simp [Value.ownBlock] at hi)))
 go_wp2;go_ret;refine ⟨⟨_,rfl,hz,lv,by simpa using hM3,fun k hk=> ?_⟩,hB3⟩;rcases hlv k hk with h | h
 ·simp [Value.ownBlock] at h
 ·simp at h;omega
end Go.Proofs.YtcnininelndjoaaGreat

