/- parts of the proof, merged by a program. -/
import Derived.Test.YtcnininelndjoaaGreatMma1
import Derived.Test.YtcnininelndjoaaGreatMma2
import Derived.Test.YtcnininelndjoaaGreatMma3
import Derived.Test.YtcnininelndjoaaGreatMma4
import Derived.Test.YtcnininelndjoaaGreatMma5
import Derived.Test.YtcnininelndjoaaGreatMma7
import Derived.ProofKit
import Derived.OpenShut
import Derived.Deep.Slices
set_option linter.unusedSimpArgs false
set_option linter.unusedVariables false
set_option maxRecDepth 100000
set_option maxHeartbeats 4000000
namespace Go.Proofs.YtcnininelndjoaaGreat
open Go.Proofs.Tryz
open Go.RowKit
section
variable {w:World} {t p s:Int}
end
section
variable {w:World} {t s:Int} {P:Nat} {ad:Addr} {n:Nat} {vs:List Int}
theorem XV.old (h:XV w t P s ad n vs):ad.block < w.heap.size:=by
 have hn:=h.bd;have:=World.block_lt_of_cell? _ _ (h.cells 0 zo);rwa [jfI] at this
end
end Go.Proofs.YtcnininelndjoaaGreat
namespace Go.Proofs.YtcnininelndjoaaGreat
open Go.Proofs.Tryz
open Go.ChangeShapes Go.RowKit

theorem jft (t p s:Int) (w:World) :
 Calls prog 31 #[.agg #[.int .i64 t,.int .i64 p,.int .i64 s]] w (zW (.bool (decide (p<=64))) w):=by
 go_enter func31,ntmps31;go_wp2;go_ret;refine ⟨rfl,?_⟩;exact zR
section
variable {H:Type} {enc:TypeId×Value->H} {w:World} {base:Nat} {spare:Nat->Bool} {held:Bool}
end
theorem Rd.xv {w:World} {v:Value} {vals:List Int} {t p s:Int} (h:Rd w v 1 vals.length (yP vals)) (hu:∀u∈vals,VS.U32 u) (hr:jq t p s=true) (hp:p<=1024) (hn:(vals.length:Int)=jo t p) :
 ∃ad c,v= .slice (some ad) vals.length c/\XV w t p s ad vals.length vals:=by
 have bd:=jt hr;rcases h.2 with ⟨-,h0⟩ | ⟨ad,c,rfl,hc⟩
 ·unfold jo at hn;omega
 ·refine ⟨ad,c,rfl,hr,hp,rfl,by rw [hn];rfl,hu,fun k hk=>hc k _ ?_⟩;simp [yP,hk]
end Go.Proofs.YtcnininelndjoaaGreat
namespace Go.Proofs.YtcnininelndjoaaGreat
open Go.Proofs.Tryz

theorem note_few {w st n:Int} {o:Bool} (h:qU w=some (st,o,n)):0<=n/\n<=96:=by
 unfold qU at h;split at h
 ·simp only [Option.some.injEq,Prod.mk.injEq] at h;omega
 ·cases h

theorem jeO {st k:Int} (h0:0<=st/\st < 4294967296) (h1:0<=k) (h2:k<=96):qU (kg st (k+2147483648))=some (st,true,k)/\qQ (kg st (k+2147483648)) st=some k:=by
 have hn:qU (kg st (k+2147483648))=some (st,true,k):=by
  have e1:loW (kg st (k+2147483648))=k+2147483648:=join_lo zo;have e2:hiW (kg st (k+2147483648))=st:=jfe zo;unfold qU;rw [e1,e2,show (k+2147483648) % 2147483648=k by omega,if_pos h2];simp;omega
 refine ⟨hn,?_⟩;unfold qQ;rw [hn];simp
end Go.Proofs.YtcnininelndjoaaGreat
namespace Go.Proofs.YtcnininelndjoaaGreat
open Go.Proofs.Tryz
open Go.RowKit

def Jp (v:Int):Int:=if iK v=1 then iL v else 0
theorem qj (v:Int):0<=Jp v/\Jp v<=1024/\(iK v=1->1<=Jp v/\Jp v=iL v)/\(iK v≠1->Jp v=0):=by
 have h:=Ja v;unfold Jp;split <;> refine ⟨zo,zo,?_,?_⟩
 ·intro e;have:=h.2.2.2.2.2.2.1 zo;exact ⟨this.2,rfl⟩
 ·intro e;contradiction
 ·intro e;contradiction
 ·intro e;rfl
def jD (t p s q:Int) (st:VS):Int×VS:=(Jp (st.get (ofF t p s q 0)).1,(st.get (ofF t p s q 0)).2)
def kJ (t p s q:Int) (st:VS):Int×VS:=
 if j6 p q=true then
  let r:=jD t p s q st
  (r.1,if r.1=0 then r.2 else qi t p s (kD 2 (Kh r.1) 11) q r.2)
 else (0,st)
def yY (t p s q n:Int) (st:VS):VS:=if 0<=q/\q < p/\1<=n/\n<=p - q then addF t p s q.toNat n.toNat st else st
def qg (t p s q b:Int) (st:VS):Int×VS:=((kJ t p s q st).1,((kJ t p s q st).2.put (ofF t p s b 0) 0).put (ofF t p s (b - 1) 1) 0)
def jW (t p s q:Int) (st:VS):Int×VS:=if q=0 then (-1,st) else ((st.get (ofF t p s (q - 1) 1)).1 - 1,(st.get (ofF t p s (q - 1) 1)).2)
def qR (t p s q n:Int) (st:VS):(Int×Int)×VS:=
 let f:=jW t p s q st
 if f.1 < 0 then ((q,n),f.2) else
  let g:=jD t p s f.1 f.2
  if g.1=0 then ((q,n),g.2) else
   let j:=qg t p s f.1 q g.2
   ((f.1,n+j.1),j.2)
def kX (t p s r l:Int) (st:VS):Int×VS:=
 if r < p then
  let g:=jD t p s r st
  if g.1=0 then (l,g.2) else
   let j:=qg t p s r r g.2
   (l+j.1,j.2)
 else (l,st)
def kP (n:Int) (st:VS):VS:=(st.get 0).2.put 0 (IntKind.u32.wrap ((st.get 0).1+n))
def kw (t p s q n:Int) (st:VS):VS:=
 let b:=qR t p s q n st
 let e:=kX t p s (q+n) b.1.2 b.2
 kP n (yY t p s b.1.1 e.1 e.2)
def kE (t p s q:Int) (st:VS):Bool×VS:=
 if j6 p q=true then
  let i:=st.get (ofF t p s q 0)
  if iK i.1=3 then
   let l:=i.2.get (ofF t p s q 4)
   let k:=l.2.get (ofF t p s q 5)
   if l.1=k.1 then (false,k.2) else
    let u:=k.2.put (ofF t p s q 5) l.1
    (true,if l.1=0 then kw t p s q 1 (if y7 k.1 (iC i.1)=true then u else qi t p s (13+iC i.1) q u) else if y7 k.1 (iC i.1)=true then qu t p s (13+iC i.1) q u else u)
  else (false,i.2)
 else (false,st)
theorem wl_setW (l:List (Nat×Int)) (i:Nat) (v:Int):(VS.setW l i v).length<=l.length+1:=by
 unfold VS.setW;split <;> simp
theorem yO (st:VS) (i v:Int):(st.put i v).writes.length<=st.writes.length+1:=by
 unfold VS.put;split
 ·exact wl_setW _ _ _
 ·omega
theorem JH (st:VS) (i:Int):(st.get i).2.writes=st.writes:=by
 unfold VS.get VS.read1;repeat' split
 all_goals rfl
theorem jdi (t p s head q:Int) (st:VS):(qu t p s head q st).writes.length<=st.writes.length+4:=by
 unfold qu;split
 ·dsimp only;have h1:=yO (st.get head).2 (ofF t p s q 2) (st.get head).1;have h2:=yO ((st.get head).2.put (ofF t p s q 2) (st.get head).1) (ofF t p s q 3) 0;rw [JH] at h1;generalize (((st.get head).2.put (ofF t p s q 2) (st.get head).1).put (ofF t p s q 3) 0)=s2 at*
  have h3:=yO s2 (ofF t p s ((st.get head).1 - 1) 3) (q+1);split
  ·have h4:=yO s2 head (q+1);omega
  ·have h4:=yO (s2.put (ofF t p s ((st.get head).1 - 1) 3) (q+1)) head (q+1);omega
 ·omega
theorem jdj (t p s head q:Int) (st:VS):(qi t p s head q st).writes.length<=st.writes.length+4:=by
 unfold qi;split
 ·dsimp only;have e1:((st.get (ofF t p s q 2)).2.get (ofF t p s q 3)).2.writes=st.writes:=by rw [JH,JH]
  generalize ((st.get (ofF t p s q 2)).2.get (ofF t p s q 3))=f at*
  generalize (st.get (ofF t p s q 2)).1=g at*
  have h3:(if f.1=0 then f.2.put head g else f.2.put (ofF t p s (f.1 - 1) 2) g).writes.length<=st.writes.length+1:=by
   rw [<-e1];split <;> exact yO _ _ _
  generalize (if f.1=0 then f.2.put head g else f.2.put (ofF t p s (f.1 - 1) 2) g)=s3 at*
  have h4:(if g=0 then s3 else s3.put (ofF t p s (g - 1) 3) f.1).writes.length<=s3.writes.length+1:=by
   split
   ·omega
   ·exact yO _ _ _
  generalize (if g=0 then s3 else s3.put (ofF t p s (g - 1) 3) f.1)=s4 at*
  have h5:=yO s4 (ofF t p s q 2) 0;have h6:=yO (s4.put (ofF t p s q 2) 0) (ofF t p s q 3) 0;omega
 ·omega
theorem wl_drop (t p s q:Int) (st:VS):(kJ t p s q st).2.writes.length<=st.writes.length+4:=by
 unfold kJ jD;split
 ·dsimp only;have e1:=JH st (ofF t p s q 0);generalize (st.get (ofF t p s q 0))=g at*
  split
  ·rw [e1];omega
  ·have:=jdj t p s (kD 2 (Kh (Jp g.1)) 11) q g.2;rw [e1] at this;exact this
 ·dsimp only;omega
theorem jdk (t p s q b:Int) (st:VS):(qg t p s q b st).2.writes.length<=st.writes.length+6:=by
 unfold qg;have h0:=wl_drop t p s q st;have h1:=yO (kJ t p s q st).2 (ofF t p s b 0) 0;have h2:=yO ((kJ t p s q st).2.put (ofF t p s b 0) 0) (ofF t p s (b - 1) 1) 0;dsimp only;omega
theorem wl_add (t p s q n:Int) (st:VS):(yY t p s q n st).writes.length<=st.writes.length+6:=by
 unfold yY;split
 ·unfold addF;have h1:=yO st (ofF t p s q.toNat 0) (1+16*n.toNat);have h2:=yO (st.put (ofF t p s q.toNat 0) (1+16*n.toNat)) (ofF t p s ((q.toNat:Int)+n.toNat - 1) 1) ((q.toNat:Int)+1);have h3:=jdi t p s (kD 2 (Kh n.toNat) 11) q.toNat ((st.put (ofF t p s q.toNat 0) (1+16*n.toNat)).put (ofF t p s ((q.toNat:Int)+n.toNat - 1) 1) ((q.toNat:Int)+1));omega
 ·omega
theorem YK (t p s q n:Int) (st:VS):(kw t p s q n st).writes.length<=st.writes.length+20:=by
 have ha:(jW t p s q st).2.writes=st.writes:=by
  unfold jW;split
  ·rfl
  ·exact JH _ _
 have hb:(qR t p s q n st).2.writes.length<=st.writes.length+6:=by
  unfold qR;dsimp only;split
  ·rw [ha];omega
  ·have hg:(jD t p s (jW t p s q st).1 (jW t p s q st).2).2.writes=st.writes:=by unfold jD;rw [JH,ha]
   split
   ·rw [hg];omega
   ·have:=jdk t p s (jW t p s q st).1 q (jD t p s (jW t p s q st).1 (jW t p s q st).2).2;rw [hg] at this;exact this
 have hf:∀r l (st:VS),(kX t p s r l st).2.writes.length<=st.writes.length+6:=by
  intro r l st;unfold kX;dsimp only;split
  ·have hg:(jD t p s r st).2.writes=st.writes:=by unfold jD;rw [JH]
   split
   ·rw [hg];omega
   ·have:=jdk t p s r r (jD t p s r st).2;rw [hg] at this;exact this
  ·dsimp only;omega
 unfold kw kP;dsimp only;have h1:=hf (q+n) (qR t p s q n st).1.2 (qR t p s q n st).2;have h2:=wl_add t p s (qR t p s q n st).1.1 (kX t p s (q+n) (qR t p s q n st).1.2 (qR t p s q n st).2).1 (kX t p s (q+n) (qR t p s q n st).1.2 (qR t p s q n st).2).2;generalize (yY t p s (qR t p s q n st).1.1 (kX t p s (q+n) (qR t p s q n st).1.2 (qR t p s q n st).2).1 (kX t p s (q+n) (qR t p s q n st).1.2 (qR t p s q n st).2).2)=a at*
 have h3:=yO (a.get 0).2 0 (IntKind.u32.wrap ((a.get 0).1+n));rw [JH] at h3;omega
theorem wl_sweep (t p s q:Int) (st:VS):(kE t p s q st).2.writes.length<=st.writes.length+(if (kE t p s q st).1=true then 96 else 0):=by
 unfold kE;dsimp only;split
 ·split
  ·have e1:((st.get (ofF t p s q 0)).2.get (ofF t p s q 4)).2.writes=st.writes:=by rw [JH,JH]
   generalize hl:((st.get (ofF t p s q 0)).2.get (ofF t p s q 4))=l at*
   have e2:(l.2.get (ofF t p s q 5)).2.writes=st.writes:=by rw [JH,e1]
   generalize (l.2.get (ofF t p s q 5))=k at*
   split
   ·rw [e2];omega
   ·simp only [if_true];have h1:=yO k.2 (ofF t p s q 5) l.1;rw [e2] at h1;generalize k.2.put (ofF t p s q 5) l.1=u at*
    have h2:∀h,(qi t p s h q u).writes.length<=u.writes.length+4:=fun h=>jdj t p s h q u;have h3:∀h,(qu t p s h q u).writes.length<=u.writes.length+4:=fun h=>jdi t p s h q u;have h4:=h2 (13+iC (st.get (ofF t p s q 0)).1);have h5:=h3 (13+iC (st.get (ofF t p s q 0)).1);split
    ·split
     ·have:=YK t p s q 1 u;omega
     ·have:=YK t p s q 1 (qi t p s (13+iC (st.get (ofF t p s q 0)).1) q u);omega
    ·split <;> omega
  ·rw [JH];simp
 ·simp

section
variable {n:Nat} {K C:Nat->Option Int}
structure UV (n:Nat) (K C:Nat->Option Int) (s t:VS):Prop where
 sn:s.n=n
 sk:s.known=K
 sm:s.miss=none
 tn:t.n=n
 tk:t.known=C
 tm:t.miss=none
 wr:s.writes=t.writes
def Stk (n:Nat) (K:Nat->Option Int) (s:VS):Prop:=∃i,s.miss=some i/\i < n/\K i=none
theorem Stk.ne {s:VS} (h:Stk n K s):s.miss≠none:=by obtain ⟨i,h,-⟩:=h;rw [h];simp
theorem yD {s:VS} (h:s.miss≠none) (i:Int):s.get i=(0,s):=by
 have ht:¬s.there i=true:=fun e=>h (VS.there_iff.1 e).2.2;unfold VS.get;rw [if_neg ht]
theorem kS {s:VS} (h:s.miss≠none) (i v:Int):s.put i v=s:=by
 have ht:¬s.there i=true:=fun e=>h (VS.there_iff.1 e).2.2;unfold VS.put;rw [if_neg ht]
theorem UV.there {s t:VS} (h:UV n K C s t) (i:Int):s.there i=t.there i:=by
 unfold VS.there;rw [h.sn,h.tn,h.sm,h.tm]
theorem UV.get {s t:VS} (h:UV n K C s t) (hsub:∀i v,K i=some v->C i=some v) (hC:∀i,i < n->∃v,C i=some v) (i:Int):(UV n K C (s.get i).2 (t.get i).2/\(s.get i).1=(t.get i).1)\/Stk n K (s.get i).2:=by
 have ht:=h.there i;unfold VS.get;rw [ht];by_cases hth:t.there i=true
 ·rw [if_pos hth,if_pos hth];obtain ⟨h0,h1,-⟩:=VS.there_iff.1 hth;have hw:s.wr i.toNat=t.wr i.toNat:=by unfold VS.wr;rw [h.wr]
  rw [hw];cases hx:t.wr i.toNat with
  | some v=>exact .inl ⟨h,rfl⟩
  | none=>
   dsimp only;rw [h.sk,h.tk];obtain ⟨v,hv⟩:=hC i.toNat (by have:=h.tn;omega);rw [hv];cases hk:K i.toNat with
   | none=>exact .inr ⟨i.toNat,rfl,by have:=h.tn;omega,hk⟩
   | some u=>
    have:=hsub _ _ hk;rw [hv] at this;cases this;refine .inl ⟨?_,rfl⟩;have hr:∀x:VS,(x.read1 i.toNat).n=x.n/\(x.read1 i.toNat).known=x.known/\(x.read1 i.toNat).miss=x.miss/\(x.read1 i.toNat).writes=x.writes:=fun x=>by
     unfold VS.read1;split <;> simp
    obtain ⟨a1,a2,a3,a4⟩:=hr s;obtain ⟨c1,c2,c3,c4⟩:=hr t;exact ⟨a1.trans h.sn,a2.trans h.sk,a3.trans h.sm,c1.trans h.tn,c2.trans h.tk,c3.trans h.tm,by rw [a4,c4,h.wr]⟩
 ·rw [if_neg hth,if_neg hth];exact .inl ⟨h,rfl⟩
theorem UV.put {s t:VS} (h:UV n K C s t) (i v:Int):UV n K C (s.put i v) (t.put i v):=by
 have ht:=h.there i;unfold VS.put;rw [ht];by_cases hth:t.there i=true
 ·rw [if_pos hth,if_pos hth];exact ⟨h.sn,h.sk,h.sm,h.tn,h.tk,h.tm,by show VS.setW s.writes _ _=VS.setW t.writes _ _;rw [h.wr]⟩
 ·rw [if_neg hth,if_neg hth];exact h
theorem Ql {s:VS} (h:s.miss≠none) (t p z q:Int):jD t p z q s=(0,s):=by
 unfold jD;rw [yD h];show (Jp 0,s)=(0,s)
 rw [show Jp 0=0 by decide]
theorem Kc {s:VS} (h:s.miss≠none) (t p z hd q:Int):qu t p z hd q s=s:=by
 unfold qu;split
 ·simp [yD h,kS h]
 ·rfl
theorem Kd {s:VS} (h:s.miss≠none) (t p z hd q:Int):qi t p z hd q s=s:=by
 unfold qi;split
 ·simp [yD h,kS h]
 ·rfl
theorem jcZ {s:VS} (h:s.miss≠none) (t p z q:Int):kJ t p z q s=(0,s):=by
 unfold kJ;split
 ·simp [Ql h]
 ·rfl
theorem Yy {s:VS} (h:s.miss≠none) (t p z q m:Int):yY t p z q m s=s:=by
 unfold yY addF;split
 ·simp [Kc h,kS h]
 ·rfl
theorem Qk {s:VS} (h:s.miss≠none) (t p z q b:Int):qg t p z q b s=(0,s):=by
 unfold qg;simp [jcZ h,kS h]
theorem Vc {s:VS} (h:s.miss≠none) (t p z r l:Int):kX t p z r l s=(l,s):=by
 unfold kX;split
 ·simp [Ql h]
 ·rfl
theorem jc7 {s:VS} (h:s.miss≠none) (t p z q m:Int):(qR t p z q m s).2=s:=by
 unfold qR jW;split
 ·simp
 ·simp [yD h]
theorem JD {s:VS} (h:s.miss≠none) (m:Int):kP m s=s:=by
 unfold kP;simp [yD h,kS h]
theorem yI {s:VS} (h:s.miss≠none) (t p z q m:Int):kw t p z q m s=s:=by
 unfold kw;have hb:=jc7 h t p z q m;generalize qR t p z q m s=b at*
 obtain ⟨b1,b2⟩:=b;dsimp only at hb ⊢;subst hb;simp [Vc h,Yy h,JD h]
section
variable {s t:VS}
theorem UV.free (h:UV n K C s t) (hsub:∀i v,K i=some v->C i=some v) (hC:∀i,i < n->∃v,C i=some v) (a p z q:Int) :
 (UV n K C (jD a p z q s).2 (jD a p z q t).2/\(jD a p z q s).1=(jD a p z q t).1)\/Stk n K (jD a p z q s).2:=by
 unfold jD;rcases h.get hsub hC (ofF a p z q 0) with ⟨h1,h2⟩ | h1
 ·exact .inl ⟨h1,by rw [h2]⟩
 ·exact .inr h1
theorem UV.push (h:UV n K C s t) (hsub:∀i v,K i=some v->C i=some v) (hC:∀i,i < n->∃v,C i=some v) (a p z hd q:Int) :
 UV n K C (qu a p z hd q s) (qu a p z hd q t)\/Stk n K (qu a p z hd q s):=by
 unfold qu;by_cases hq:j6 p q=true
 ·rw [if_pos hq,if_pos hq];dsimp only;rcases h.get hsub hC hd with ⟨h1,h2⟩ | h1
  ·left;rw [h2];have h3:=(h1.put (ofF a p z q 2) (t.get hd).1).put (ofF a p z q 3) 0;split
   ·exact h3.put _ _
   ·exact (h3.put _ _).put _ _
  ·right;simp only [kS h1.ne];split <;> simpa [kS h1.ne] using h1
 ·rw [if_neg hq,if_neg hq];exact .inl h
theorem UV.pull (h:UV n K C s t) (hsub:∀i v,K i=some v->C i=some v) (hC:∀i,i < n->∃v,C i=some v) (a p z hd q:Int) :
 UV n K C (qi a p z hd q s) (qi a p z hd q t)\/Stk n K (qi a p z hd q s):=by
 unfold qi;by_cases hq:j6 p q=true
 ·rw [if_pos hq,if_pos hq];dsimp only;rcases h.get hsub hC (ofF a p z q 2) with ⟨h1,h2⟩ | h1
  ·rw [h2];rcases h1.get hsub hC (ofF a p z q 3) with ⟨h3,h4⟩ | h3
   ·left;rw [h4];generalize ((s.get (ofF a p z q 2)).2.get (ofF a p z q 3)).2=s3 at*
    generalize ((t.get (ofF a p z q 2)).2.get (ofF a p z q 3)).2=t3 at*
    generalize ((t.get (ofF a p z q 2)).2.get (ofF a p z q 3)).1=f at*
    generalize (t.get (ofF a p z q 2)).1=g at*
    clear h1 h2 h4 h;have k1:UV n K C (if f=0 then s3.put hd g else s3.put (ofF a p z (f - 1) 2) g) (if f=0 then t3.put hd g else t3.put (ofF a p z (f - 1) 2) g):=by
     split
     ·exact h3.put _ _
     ·exact h3.put _ _
    generalize (if f=0 then s3.put hd g else s3.put (ofF a p z (f - 1) 2) g)=s4 at*
    generalize (if f=0 then t3.put hd g else t3.put (ofF a p z (f - 1) 2) g)=t4 at*
    have k2:UV n K C (if g=0 then s4 else s4.put (ofF a p z (g - 1) 3) f) (if g=0 then t4 else t4.put (ofF a p z (g - 1) 3) f):=by
     split
     ·exact k1
     ·exact k1.put _ _
    exact (k2.put _ _).put _ _
   ·right;simp only [kS h3.ne,ite_self];exact h3
  ·right;simp only [yD h1.ne,kS h1.ne,ite_self];exact h1
 ·rw [if_neg hq,if_neg hq];exact .inl h
theorem UV.drop (h:UV n K C s t) (hsub:∀i v,K i=some v->C i=some v) (hC:∀i,i < n->∃v,C i=some v) (a p z q:Int) :
 (UV n K C (kJ a p z q s).2 (kJ a p z q t).2/\(kJ a p z q s).1=(kJ a p z q t).1)\/Stk n K (kJ a p z q s).2:=by
 unfold kJ;by_cases hq:j6 p q=true
 ·rw [if_pos hq,if_pos hq];dsimp only;rcases h.free hsub hC a p z q with ⟨h1,h2⟩ | h1
  ·rw [h2];split
   ·exact .inl ⟨h1,rfl⟩
   ·rcases h1.pull hsub hC a p z (kD 2 (Kh (jD a p z q t).1) 11) q with h3 | h3
    ·exact .inl ⟨h3,rfl⟩
    ·exact .inr h3
  ·right;split
   ·exact h1
   ·rw [Kd h1.ne];exact h1
 ·rw [if_neg hq,if_neg hq];exact .inl ⟨h,rfl⟩
theorem UV.add (h:UV n K C s t) (hsub:∀i v,K i=some v->C i=some v) (hC:∀i,i < n->∃v,C i=some v) (a p z q m:Int) :
 UV n K C (yY a p z q m s) (yY a p z q m t)\/Stk n K (yY a p z q m s):=by
 unfold yY;by_cases hq:0<=q/\q < p/\1<=m/\m<=p - q
 ·rw [if_pos hq,if_pos hq];unfold addF;exact ((h.put _ _).put _ _).push hsub hC _ _ _ _ _
 ·rw [if_neg hq,if_neg hq];exact .inl h
theorem UV.join (h:UV n K C s t) (hsub:∀i v,K i=some v->C i=some v) (hC:∀i,i < n->∃v,C i=some v) (a p z q b:Int) :
 (UV n K C (qg a p z q b s).2 (qg a p z q b t).2/\(qg a p z q b s).1=(qg a p z q b t).1)\/Stk n K (qg a p z q b s).2:=by
 unfold qg;dsimp only;rcases h.drop hsub hC a p z q with ⟨h1,h2⟩ | h1
 ·exact .inl ⟨(h1.put _ _).put _ _,h2⟩
 ·right;rw [kS h1.ne,kS h1.ne];exact h1
theorem UV.fore (h:UV n K C s t) (hsub:∀i v,K i=some v->C i=some v) (hC:∀i,i < n->∃v,C i=some v) (a p z r l:Int) :
 (UV n K C (kX a p z r l s).2 (kX a p z r l t).2/\(kX a p z r l s).1=(kX a p z r l t).1)\/Stk n K (kX a p z r l s).2:=by
 unfold kX;by_cases hq:r < p
 ·rw [if_pos hq,if_pos hq];dsimp only;rcases h.free hsub hC a p z r with ⟨h1,h2⟩ | h1
  ·rw [h2];split
   ·exact .inl ⟨h1,rfl⟩
   ·rcases h1.join hsub hC a p z r r with ⟨h3,h4⟩ | h3
    ·exact .inl ⟨h3,by dsimp only;rw [h4]⟩
    ·exact .inr h3
  ·right;split
   ·exact h1
   ·rw [Qk h1.ne];exact h1
 ·rw [if_neg hq,if_neg hq];exact .inl ⟨h,rfl⟩
theorem UV.back (h:UV n K C s t) (hsub:∀i v,K i=some v->C i=some v) (hC:∀i,i < n->∃v,C i=some v) (a p z q m:Int) :
 (UV n K C (qR a p z q m s).2 (qR a p z q m t).2/\(qR a p z q m s).1=(qR a p z q m t).1)\/Stk n K (qR a p z q m s).2:=by
 have ha:(UV n K C (jW a p z q s).2 (jW a p z q t).2/\(jW a p z q s).1=(jW a p z q t).1)\/Stk n K (jW a p z q s).2:=by
  unfold jW;split
  ·exact .inl ⟨h,rfl⟩
  ·rcases h.get hsub hC (ofF a p z (q - 1) 1) with ⟨h1,h2⟩ | h1
   ·exact .inl ⟨h1,by dsimp only;rw [h2]⟩
   ·exact .inr h1
 unfold qR;dsimp only;rcases ha with ⟨h1,h2⟩ | h1
 ·rw [h2];split
  ·exact .inl ⟨h1,rfl⟩
  ·rcases h1.free hsub hC a p z (jW a p z q t).1 with ⟨h3,h4⟩ | h3
   ·rw [h4];split
    ·exact .inl ⟨h3,rfl⟩
    ·rcases h3.join hsub hC a p z (jW a p z q t).1 q with ⟨h5,h6⟩ | h5
     ·exact .inl ⟨h5,by dsimp only;rw [h6]⟩
     ·exact .inr h5
   ·right;split
    ·exact h3
    ·rw [Qk h3.ne];exact h3
 ·right;split
  ·exact h1
  ·rw [Ql h1.ne];split
   ·exact h1
   ·rw [Qk h1.ne];exact h1
theorem UV.count (h:UV n K C s t) (hsub:∀i v,K i=some v->C i=some v) (hC:∀i,i < n->∃v,C i=some v) (m:Int) :
 UV n K C (kP m s) (kP m t)\/Stk n K (kP m s):=by
 unfold kP;rcases h.get hsub hC 0 with ⟨h1,h2⟩ | h1
 ·rw [h2];exact .inl (h1.put _ _)
 ·right;rw [kS h1.ne];exact h1
theorem UV.release (h:UV n K C s t) (hsub:∀i v,K i=some v->C i=some v) (hC:∀i,i < n->∃v,C i=some v) (a p z q m:Int) :
 UV n K C (kw a p z q m s) (kw a p z q m t)\/Stk n K (kw a p z q m s):=by
 unfold kw;dsimp only;rcases h.back hsub hC a p z q m with ⟨h1,h2⟩ | h1
 ·rw [h2];rcases h1.fore hsub hC a p z (q+m) (qR a p z q m t).1.2 with ⟨h3,h4⟩ | h3
  ·rw [h4];rcases h3.add hsub hC a p z (qR a p z q m t).1.1 (kX a p z (q+m) (qR a p z q m t).1.2 (qR a p z q m t).2).1 with h5 | h5
   ·exact h5.count hsub hC m
   ·right;rw [JD h5.ne];exact h5
  ·right;rw [Yy h3.ne,JD h3.ne];exact h3
 ·right;rw [Vc h1.ne,Yy h1.ne,JD h1.ne];exact h1
theorem UV.sweep (h:UV n K C s t) (hsub:∀i v,K i=some v->C i=some v) (hC:∀i,i < n->∃v,C i=some v) (a p z q:Int) :
 (UV n K C (kE a p z q s).2 (kE a p z q t).2/\(kE a p z q s).1=(kE a p z q t).1)\/Stk n K (kE a p z q s).2:=by
 unfold kE;by_cases hq:j6 p q=true
 ·rw [if_pos hq,if_pos hq];dsimp only;rcases h.get hsub hC (ofF a p z q 0) with ⟨h1,h2⟩ | h1
  ·rw [h2];split
   ·rcases h1.get hsub hC (ofF a p z q 4) with ⟨h3,h4⟩ | h3
    ·rw [h4];rcases h3.get hsub hC (ofF a p z q 5) with ⟨h5,h6⟩ | h5
     ·rw [h6];split
      ·exact .inl ⟨h5,rfl⟩
      ·have h7:=h5.put (ofF a p z q 5) (((t.get (ofF a p z q 0)).2.get (ofF a p z q 4))).1;have hp:=h7.pull hsub hC a p z (13+iC (t.get (ofF a p z q 0)).1) q;have hs:=h7.push hsub hC a p z (13+iC (t.get (ofF a p z q 0)).1) q;split
       ·split
        ·rcases h7.release hsub hC a p z q 1 with h8 | h8
         ·exact .inl ⟨h8,rfl⟩
         ·exact .inr h8
        ·rcases hp with h8 | h8
         ·rcases h8.release hsub hC a p z q 1 with h9 | h9
          ·exact .inl ⟨h9,rfl⟩
          ·exact .inr h9
         ·right;rw [yI h8.ne];exact h8
       ·split
        ·rcases hs with h8 | h8
         ·exact .inl ⟨h8,rfl⟩
         ·exact .inr h8
        ·exact .inl ⟨h7,rfl⟩
     ·right;simp only [kS h5.ne,Kd h5.ne,Kc h5.ne,yI h5.ne,ite_self];split <;> exact h5
    ·right;simp only [yD h3.ne,kS h3.ne,Kd h3.ne,Kc h3.ne,yI h3.ne,ite_self];split <;> exact h3
   ·exact .inl ⟨h1,rfl⟩
  ·right;simp only [yD h1.ne,kS h1.ne,Kd h1.ne,Kc h1.ne,yI h1.ne,ite_self];repeat' split
   all_goals exact h1
 ·rw [if_neg hq,if_neg hq];exact .inl ⟨h,rfl⟩
end
end

def upI (f:Int->Int) (a v:Int):Int->Int:=fun x=>if x=a then v else f x
theorem Vk (f:Int->Int) (a v:Int):upI f a v a=v:=by simp [upI]
theorem QT {f:Int->Int} {a x:Int} (v:Int) (h:x≠a):upI f a v x=f x:=by simp [upI,h]
def seg (nx pv:Int->Int) (q ah:Int):List Int->Int->Int->Prop
 | [],r,e=>r=q/\e=ah
 | x :: l,r,e=>q=x+1/\pv x=ah/\seg nx pv (nx x) (x+1) l r e
theorem jdU {nx pv:Int->Int}:∀(A B:List Int) (q ah r e:Int),seg nx pv q ah (A++B) r e↔∃m am,seg nx pv q ah A m am/\seg nx pv m am B r e
 | [],B,q,ah,r,e=>⟨fun h=>⟨q,ah,⟨rfl,rfl⟩,h⟩,fun ⟨_,_,h1,h⟩=>by obtain ⟨rfl,rfl⟩:=h1;exact h⟩
 | x :: A,B,q,ah,r,e=>by
  simp only [List.cons_append,seg];rw [jdU A B];constructor
  ·rintro ⟨h1,h2,m,am,h3,h4⟩;exact ⟨m,am,⟨h1,h2,h3⟩,h4⟩
  ·rintro ⟨m,am,⟨h1,h2,h3⟩,h4⟩;exact ⟨h1,h2,m,am,h3,h4⟩
theorem Xc {nx pv nx' pv':Int->Int}:∀(l:List Int) (q ah r e:Int),(∀x∈l,nx' x=nx x/\pv' x=pv x)->seg nx pv q ah l r e->seg nx' pv' q ah l r e
 | [],_,_,_,_,_,h=>h
 | x :: l,q,ah,r,e,hc,h=>by
  obtain ⟨h1,h2,h3⟩:=h;obtain ⟨c1,c2⟩:=hc x zT;refine ⟨h1,by rw [c2];exact h2,?_⟩;rw [c1];exact Xc l _ _ _ _ (fun y hy=>hc y (by simp [hy])) h3
theorem jbj {nx pv:Int->Int}:∀(A:List Int) (q ah m am:Int),seg nx pv q ah A m am->(A=[]/\m=q/\am=ah)\/∃A' z,A=A'++[z]/\am=z+1/\m=nx z
 | [],q,ah,m,am,h=>Or.inl ⟨rfl,h.1,h.2⟩
 | x :: A,q,ah,m,am,h=>by
  obtain ⟨h1,h2,h3⟩:=h;rcases jbj A _ _ _ _ h3 with ⟨e,h4,h5⟩ | ⟨A',z,e,h4,h5⟩
  ·subst e;exact Or.inr ⟨[],x,rfl,h5,h4⟩
  ·subst e;exact Or.inr ⟨x :: A',z,rfl,h4,h5⟩
def LsOK (p:Int) (hd:Int->Int) (nx pv:Int->Int) (h:Int) (l:List Int):Prop:=
 (∃e,seg nx pv (hd h) 0 l 0 e)/\l.Nodup/\∀x∈l,0<=x/\x < p
def pullHd (hd nx pv:Int->Int) (h q:Int):Int->Int:=if pv q=0 then upI hd h (nx q) else hd
def pullNx (nx pv:Int->Int) (q:Int):Int->Int:=upI (if pv q=0 then nx else upI nx (pv q - 1) (nx q)) q 0
def pullPv (nx pv:Int->Int) (q:Int):Int->Int:=upI (if nx q=0 then pv else upI pv (nx q - 1) (pv q)) q 0
theorem at_page {p:Int} {hd nx pv:Int->Int} {h q:Int} {A B:List Int} (hl:LsOK p hd nx pv h (A++q :: B)) :
 ((A=[]/\pv q=0/\hd h=q+1)\/∃A' z,A=A'++[z]/\pv q=z+1/\nx z=q+1/\0<=z/\z < p)/\
 ((B=[]/\nx q=0)\/∃y B',B=y :: B'/\nx q=y+1/\0<=y/\y < p):=by
 obtain ⟨⟨e,hs⟩,hn,hb⟩:=hl;obtain ⟨m,am,h1,h2⟩:=(jdU _ _ _ _ _ _).1 hs;obtain ⟨h3,h4,h5⟩:=h2;constructor
 ·rcases jbj _ _ _ _ _ h1 with ⟨e1,e2,e3⟩ | ⟨A',z,e1,e2,e3⟩
  ·exact Or.inl ⟨e1,zo,zo⟩
  ·subst e1;have:=hb z zT;exact Or.inr ⟨A',z,rfl,zo,zo,this⟩
 ·cases B with
  | nil=>exact Or.inl ⟨rfl,h5.1.symm⟩
  | cons y B'=>
   have:=hb y zT;exact Or.inr ⟨y,B',rfl,h5.1,this⟩
def pushNx (hd nx:Int->Int) (h q:Int):Int->Int:=upI nx q (hd h)
def pushPv (hd pv:Int->Int) (h q:Int):Int->Int:=if hd h=0 then upI pv q 0 else upI (upI pv q 0) (hd h - 1) (q+1)

def wl (l:List (Nat×Int)) (i:Nat):Option Int:=(wix l i).bind fun j=>l[j]?.map (·.2)
theorem QQ (x:Nat×Int) (l:List (Nat×Int)) (i:Nat):wl (x :: l) i=if x.1=i then some x.2 else wl l i:=by
 unfold wl;by_cases h:x.1=i
 ·simp [wix,h]
 ·simp only [wix,h,if_false];cases wix l i <;> simp
theorem jdS (x:Nat×Int) (l:List (Nat×Int)) (i:Nat) (v:Int):VS.setW (x :: l) i v=if x.1=i then (i,v) :: l else x :: VS.setW l i v:=by
 unfold VS.setW;by_cases h:x.1=i
 ·simp [wix,h]
 ·simp only [wix,h,if_false];cases wix l i <;> simp
theorem jbh (i:Nat) (v:Int) (j:Nat):∀l:List (Nat×Int),wl (VS.setW l i v) j=if j=i then some v else wl l j
 | []=>by
  have:VS.setW [] i v=[(i,v)]:=rfl;rw [this,QQ];by_cases h:j=i
  ·simp [h]
  ·rw [if_neg (fun e=>h e.symm),if_neg h]
 | x :: l=>by
  rw [jdS];by_cases h:x.1=i
  ·rw [if_pos h,QQ,QQ];by_cases h2:j=i
   ·simp [h2]
   ·rw [if_neg (fun e=>h2 e.symm),if_neg h2,if_neg (fun e=>h2 (by rw [<-e,h]))]
  ·rw [if_neg h,QQ,QQ,jbh i v j l];by_cases h2:j=i
   ·subst h2;simp [h]
   ·by_cases h3:x.1=j
    ·simp [h3,h2]
    ·simp [h3,h2]
def vat (s:VS) (i:Nat):Option Int:=match wl s.writes i with | some v=>some v | none=>s.known i
theorem vat_get {s:VS} {i:Int} {v:Int} (h0:0<=i) (h1:i < s.n) (hm:s.miss=none) (hv:vat s i.toNat=some v) :
 (s.get i).1=v/\(∀j,vat (s.get i).2 j=vat s j)/\(s.get i).2.n=s.n/\(s.get i).2.miss=none:=by
 have ht:s.there i=true:=VS.there_iff.2 ⟨h0,h1,hm⟩;unfold VS.get;rw [if_pos ht];have hw:s.wr i.toNat=wl s.writes i.toNat:=rfl;rw [hw];unfold vat at hv;cases hx:wl s.writes i.toNat with
 | some u=>rw [hx] at hv;simp at hv;subst hv;exact ⟨rfl,fun _=>rfl,rfl,hm⟩
 | none=>
  rw [hx] at hv;simp only at hv;simp only [hv];refine ⟨trivial,fun j=> ?_,?_,?_⟩;all_goals
   unfold VS.read1;split
   ·first | rfl | exact hm
   ·first | rfl | exact hm
theorem jao {s:VS} {i:Int} (v:Int) (h0:0<=i) (h1:i < s.n) (hm:s.miss=none) :
 (∀j,vat (s.put i v) j=if j=i.toNat then some v else vat s j)/\(s.put i v).n=s.n/\(s.put i v).miss=none:=by
 have ht:s.there i=true:=VS.there_iff.2 ⟨h0,h1,hm⟩;unfold VS.put;rw [if_pos ht];refine ⟨fun j=> ?_,rfl,hm⟩;unfold vat;simp only [jbh];by_cases h:j=i.toNat
 ·simp [h]
 ·simp [h]
structure HV (t p s:Int) (hd nx pv:Int->Int) (st:VS):Prop where
 right:jq t p s=true
 num:(st.n:Int)=30+4*t+6*p
 miss:st.miss=none
 hd:∀h,2<=h->h<=21->vat st h.toNat=some (hd h)
 nx:∀q,0<=q->q < p->vat st (30+4*t+6*q+2).toNat=some (nx q)
 pv:∀q,0<=q->q < p->vat st (30+4*t+6*q+3).toNat=some (pv q)
section
variable {t p s:Int} {hd nx pv:Int->Int} {st:VS}
theorem HV.of (h:HV t p s hd nx pv st) {q part:Int} (h0:0<=q) (h1:q < p):ofF t p s q part=30+4*t+6*q+part:=by
 simp [ofF,h.right,h0,h1]
theorem HV.tk (h:HV t p s hd nx pv st) {i v:Int} (h0:0<=i) (h1:i < st.n) (hv:vat st i.toNat=some v):(st.get i).1=v/\HV t p s hd nx pv (st.get i).2:=by
 obtain ⟨e1,e2,e3,e4⟩:=vat_get h0 h1 h.miss hv;exact ⟨e1,h.right,by rw [e3];exact h.num,e4,fun a b c=>by rw [e2];exact h.hd a b c,fun a b c=>by rw [e2];exact h.nx a b c,fun a b c=>by rw [e2];exact h.pv a b c⟩
theorem HV.get_hd (h:HV t p s hd nx pv st) {a:Int} (h2:2<=a) (h21:a<=21):(st.get a).1=hd a/\HV t p s hd nx pv (st.get a).2:=by
 have:=h.num;have:=jt h.right;exact h.tk zo zo (h.hd a h2 h21)
theorem HV.get_nx (h:HV t p s hd nx pv st) {q:Int} (h0:0<=q) (h1:q < p):(st.get (ofF t p s q 2)).1=nx q/\HV t p s hd nx pv (st.get (ofF t p s q 2)).2:=by
 have:=h.num;have:=jt h.right;rw [h.of h0 h1];exact h.tk zo zo (h.nx q h0 h1)
theorem HV.get_pv (h:HV t p s hd nx pv st) {q:Int} (h0:0<=q) (h1:q < p):(st.get (ofF t p s q 3)).1=pv q/\HV t p s hd nx pv (st.get (ofF t p s q 3)).2:=by
 have:=h.num;have:=jt h.right;rw [h.of h0 h1];exact h.tk zo zo (h.pv q h0 h1)
theorem HV.put_hd (h:HV t p s hd nx pv st) {a:Int} (v:Int) (h2:2<=a) (h21:a<=21):HV t p s (upI hd a v) nx pv (st.put a v):=by
 have hn:=h.num;have hr:=jt h.right;obtain ⟨e1,e2,e3⟩:=jao (s:=st) (i:=a) v zo zo h.miss;refine ⟨h.right,by rw [e2];exact hn,e3,fun b c d=> ?_,fun b c d=> ?_,fun b c d=> ?_⟩
 ·rw [e1];by_cases e:b=a
  ·subst e;rw [if_pos rfl,Vk]
  ·rw [if_neg zo,QT _ e];exact h.hd b c d
 ·rw [e1,if_neg zo];exact h.nx b c d
 ·rw [e1,if_neg zo];exact h.pv b c d
theorem HV.put_nx (h:HV t p s hd nx pv st) {q:Int} (v:Int) (h0:0<=q) (h1:q < p):HV t p s hd (upI nx q v) pv (st.put (ofF t p s q 2) v):=by
 have hn:=h.num;have hr:=jt h.right;rw [h.of h0 h1];obtain ⟨e1,e2,e3⟩:=jao (s:=st) (i:=30+4*t+6*q+2) v zo zo h.miss;refine ⟨h.right,by rw [e2];exact hn,e3,fun b c d=> ?_,fun b c d=> ?_,fun b c d=> ?_⟩
 ·rw [e1,if_neg zo];exact h.hd b c d
 ·rw [e1];by_cases e:b=q
  ·subst e;rw [if_pos rfl,Vk]
  ·rw [if_neg zo,QT _ e];exact h.nx b c d
 ·rw [e1,if_neg zo];exact h.pv b c d
theorem HV.put_pv (h:HV t p s hd nx pv st) {q:Int} (v:Int) (h0:0<=q) (h1:q < p):HV t p s hd nx (upI pv q v) (st.put (ofF t p s q 3) v):=by
 have hn:=h.num;have hr:=jt h.right;rw [h.of h0 h1];obtain ⟨e1,e2,e3⟩:=jao (s:=st) (i:=30+4*t+6*q+3) v zo zo h.miss;refine ⟨h.right,by rw [e2];exact hn,e3,fun b c d=> ?_,fun b c d=> ?_,fun b c d=> ?_⟩
 ·rw [e1,if_neg zo];exact h.hd b c d
 ·rw [e1,if_neg zo];exact h.nx b c d
 ·rw [e1];by_cases e:b=q
  ·subst e;rw [if_pos rfl,Vk]
  ·rw [if_neg zo,QT _ e];exact h.pv b c d
theorem jeK {q:Int} (h0:0<=q) (h1:q < p):j6 p q=true:=by simp [j6,h0,h1]
theorem HV.pull (h:HV t p s hd nx pv st) {a q:Int} {A B:List Int} (h2:2<=a) (h21:a<=21) (hl:LsOK p hd nx pv a (A++q :: B)) :
 HV t p s (pullHd hd nx pv a q) (pullNx nx pv q) (pullPv nx pv q) (qi t p s a q st):=by
 obtain ⟨c1,c2⟩:=at_page hl;have hq:=hl.2.2 q zT;unfold qi;rw [if_pos (jeK hq.1 hq.2)];obtain ⟨g1,g2⟩:=h.get_nx hq.1 hq.2;obtain ⟨f1,f2⟩:=g2.get_pv hq.1 hq.2;simp only [g1,f1];unfold pullHd pullNx pullPv;by_cases hb:pv q=0
 ·have k1:=f2.put_hd (nx q) h2 h21;by_cases hn:nx q=0
  ·simp only [hb,hn,if_true] at k1 ⊢;exact (k1.put_nx 0 hq.1 hq.2).put_pv 0 hq.1 hq.2
  ·have hy:0<=nx q - 1/\nx q - 1 < p:=by
    rcases c2 with ⟨_,h3⟩ | ⟨y,B',h3,h4,h5⟩
    ·exact absurd h3 hn
    ·omega
   simp only [hb,hn,if_true,if_false] at k1 ⊢;exact ((k1.put_pv 0 hy.1 hy.2).put_nx 0 hq.1 hq.2).put_pv 0 hq.1 hq.2
 ·have hz:0<=pv q - 1/\pv q - 1 < p:=by
   rcases c1 with ⟨_,h3,_⟩ | ⟨A',z,h3,h4,h5,h6⟩
   ·exact absurd h3 hb
   ·omega
  have k1:=f2.put_nx (nx q) hz.1 hz.2;by_cases hn:nx q=0
  ·simp only [hb,hn,if_true,if_false] at k1 ⊢;exact (k1.put_nx 0 hq.1 hq.2).put_pv 0 hq.1 hq.2
  ·have hy:0<=nx q - 1/\nx q - 1 < p:=by
    rcases c2 with ⟨_,h3⟩ | ⟨y,B',h3,h4,h5⟩
    ·exact absurd h3 hn
    ·omega
   simp only [hb,hn,if_false] at k1 ⊢;exact ((k1.put_pv (pv q) hy.1 hy.2).put_nx 0 hq.1 hq.2).put_pv 0 hq.1 hq.2
theorem HV.push (h:HV t p s hd nx pv st) {a q:Int} {l:List Int} (h2:2<=a) (h21:a<=21) (hl:LsOK p hd nx pv a l) (h0:0<=q) (h1:q < p) :
 HV t p s (upI hd a (q+1)) (pushNx hd nx a q) (pushPv hd pv a q) (qu t p s a q st):=by
 unfold qu;rw [if_pos (jeK h0 h1)];obtain ⟨g1,g2⟩:=h.get_hd h2 h21;simp only [g1];have k2:=(g2.put_nx (hd a) h0 h1).put_pv 0 h0 h1;unfold pushNx pushPv;by_cases hz:hd a=0
 ·simp only [hz,if_true] at k2 ⊢;exact k2.put_hd (q+1) h2 h21
 ·have hy:0<=hd a - 1/\hd a - 1 < p:=by
   obtain ⟨⟨e,hs⟩,-,hb⟩:=hl;cases l with
   | nil=>exact absurd hs.1.symm hz
   | cons y l=>have:=hb y zT;have:=hs.1;omega
  simp only [hz,if_false];exact (k2.put_pv (q+1) hy.1 hy.2).put_hd (q+1) h2 h21
end

section
variable {s t:VS}
end
section
variable {R:VS->Prop} (hg:∀s i,R s->R (s.get i).2) (hp:∀s i v,R s->R (s.put i v))
include hg hp
theorem Xx {s:VS} (h:R s) (a p z hd q:Int):R (qu a p z hd q s):=by
 unfold qu;split
 ·dsimp only;have h3:=hp _ (ofF a p z q 3) 0 (hp _ (ofF a p z q 2) (s.get hd).1 (hg _ hd h));split
  ·exact hp _ _ _ h3
  ·exact hp _ _ _ (hp _ _ _ h3)
 ·exact h
theorem Xy {s:VS} (h:R s) (a p z hd q:Int):R (qi a p z hd q s):=by
 unfold qi;split
 ·dsimp only;have h1:=hg _ (ofF a p z q 3) (hg _ (ofF a p z q 2) h);generalize ((s.get (ofF a p z q 2)).2.get (ofF a p z q 3)).2=s3 at*
  generalize ((s.get (ofF a p z q 2)).2.get (ofF a p z q 3)).1=f at*
  generalize (s.get (ofF a p z q 2)).1=g at*
  have k1:R (if f=0 then s3.put hd g else s3.put (ofF a p z (f - 1) 2) g):=by
   split
   ·exact hp _ _ _ h1
   ·exact hp _ _ _ h1
  generalize (if f=0 then s3.put hd g else s3.put (ofF a p z (f - 1) 2) g)=s4 at*
  have k2:R (if g=0 then s4 else s4.put (ofF a p z (g - 1) 3) f):=by
   split
   ·exact k1
   ·exact hp _ _ _ k1
  exact hp _ _ _ (hp _ _ _ k2)
 ·exact h
theorem jez {s:VS} (h:R s) (a p z q:Int):R (kJ a p z q s).2:=by
 unfold kJ jD;split
 ·dsimp only;split
  ·exact hg _ _ h
  ·exact Xy hg hp (hg _ _ h) _ _ _ _ _
 ·exact h
theorem XA {s:VS} (h:R s) (a p z q b:Int):R (qg a p z q b s).2:=hp _ _ _ (hp _ _ _ (jez hg hp h a p z q))
theorem pres_add {s:VS} (h:R s) (a p z q m:Int):R (yY a p z q m s):=by
 unfold yY addF;split
 ·exact Xx hg hp (hp _ _ _ (hp _ _ _ h)) _ _ _ _ _
 ·exact h
theorem jey {s:VS} (h:R s) (a p z r l:Int):R (kX a p z r l s).2:=by
 unfold kX jD;dsimp only;split
 ·split
  ·exact hg _ _ h
  ·exact XA hg hp (hg _ _ h) _ _ _ _ _
 ·exact h
theorem jeA {s:VS} (h:R s) (a p z q m:Int):R (qR a p z q m s).2:=by
 have ha:R (jW a p z q s).2:=by
  unfold jW;split
  ·exact h
  ·exact hg _ _ h
 unfold qR jD;dsimp only;split
 ·exact ha
 ·split
  ·exact hg _ _ ha
  ·exact XA hg hp (hg _ _ ha) _ _ _ _ _
theorem Qv {s:VS} (h:R s) (a p z q m:Int):R (kw a p z q m s):=by
 unfold kw kP;dsimp only;exact hp _ _ _ (hg _ _ (pres_add hg hp (jey hg hp (jeA hg hp h _ _ _ _ _) _ _ _ _ _) _ _ _ _ _))
theorem jcA {s:VS} (h:R s) (a p z q:Int):R (kE a p z q s).2:=by
 unfold kE;dsimp only;have h0:=hg _ (ofF a p z q 0) h;have h1:=hg _ (ofF a p z q 4) h0;have h2:=hg _ (ofF a p z q 5) h1;split
 ·split
  ·split
   ·exact h2
   ·have h3:=hp _ (ofF a p z q 5) ((s.get (ofF a p z q 0)).2.get (ofF a p z q 4)).1 h2;dsimp only;split
    ·split
     ·exact Qv hg hp h3 _ _ _ _ _
     ·exact Qv hg hp (Xy hg hp h3 _ _ _ _ _) _ _ _ _ _
    ·split
     ·exact Xx hg hp h3 _ _ _ _ _
     ·exact h3
  ·exact h0
 ·exact h
end
def WI (n:Nat) (K:Nat->Option Int) (s:VS):Prop:=s.n=n/\s.known=K/\(s.writes.map (·.1)).Nodup/\∀x∈s.writes,x.1 < n
theorem wi_get (n:Nat) (K:Nat->Option Int) (s:VS) (i:Int) (h:WI n K s):WI n K (s.get i).2:=by
 unfold VS.get VS.read1;repeat' split
 all_goals exact h
theorem wi_put (n:Nat) (K:Nat->Option Int) (s:VS) (i v:Int) (h:WI n K s):WI n K (s.put i v):=by
 obtain ⟨h1,h2,h3,h4⟩:=h;unfold VS.put;split
 ·rename_i ht;obtain ⟨a0,a1,-⟩:=VS.there_iff.1 ht;unfold VS.setW;cases hw:wix s.writes i.toNat with
  | some j=>
   refine ⟨h1,h2,?_,fun x hx=> ?_⟩
   ·show ((s.writes.set j (i.toNat,v)).map (·.1)).Nodup;rw [VS.setW_keys_some hw];exact h3
   ·rcases List.mem_or_eq_of_mem_set hx with hx | rfl
    ·exact h4 x hx
    ·dsimp only;omega
  | none=>
   have hn:=KI.1 hw;refine ⟨h1,h2,?_,fun x hx=> ?_⟩
   ·show ((s.writes++[(i.toNat,v)]).map (·.1)).Nodup;simp only [List.map_append,List.nodup_append];exact ⟨h3,zT,fun a ha b hb=>by simp at hb;subst hb;exact fun e=>hn (e ▸ ha)⟩
   ·simp only [List.mem_append,List.mem_singleton] at hx;rcases hx with hx | rfl
    ·exact h4 x hx
    ·dsimp only;omega
 ·exact ⟨h1,h2,h3,h4⟩
theorem wi_sweep {n:Nat} {K:Nat->Option Int} {s:VS} (h:WI n K s) (t p z q:Int):WI n K (kE t p z q s).2:=jcA (wi_get n K) (wi_put n K) h t p z q

def knK (kn:List (Int×Int)) (i:Nat):Option Int:=(kn.find? fun x=>x.1 == (i:Int)).map (·.2)
def knV (n:Nat) (kn:List (Int×Int)):VS:=⟨n,knK kn,[],[],none⟩
def thF (t p z:Int) (page:Nat) (kn:List (Int×Int)):Int×List (Int×Int):=
 match (kE t p z page (knV (jo t p).toNat kn)).2.miss with
 | some i=>((i:Int),[])
 | none=>(-1,(kE t p z page (knV (jo t p).toNat kn)).2.writes.map fun x=>((x.1:Int),x.2))
theorem kn_uv (n:Nat) (kn:List (Int×Int)):UV n (knK kn) (fun i=>some ((knK kn i).getD 0)) (knV n kn) ⟨n,fun i=>some ((knK kn i).getD 0),[],[],none⟩:=⟨rfl,rfl,rfl,rfl,rfl,rfl,rfl⟩
theorem Vn (t p z:Int) (page:Nat) (kn:List (Int×Int)) :
 (∃i:Nat,(thF t p z page kn)=((i:Int),[])/\i < (jo t p).toNat/\∀x∈kn,x.1≠(i:Int))\/((thF t p z page kn).1= -1/\(thF t p z page kn).2.length<=96):=by
 unfold thF;have hk:=(kn_uv (jo t p).toNat kn).sweep (fun i v h=>by simp [h]) (fun i _=>⟨_,rfl⟩) t p z page;have hw:=wl_sweep t p z page (knV (jo t p).toNat kn);generalize (kE t p z page (knV (jo t p).toNat kn))=r at*
 rcases hk with ⟨h1,-⟩ | ⟨i,h1,h2,h3⟩
 ·right;rw [h1.sm];refine ⟨rfl,?_⟩;have h0:(knV (jo t p).toNat kn).writes.length=0:=rfl;rw [h0] at hw;dsimp only;rw [List.length_map];split at hw <;> omega
 ·left;rw [h1];refine ⟨i,rfl,h2,fun x hx e=> ?_⟩;unfold knK at h3;rw [Option.map_eq_none_iff,List.find?_eq_none] at h3;exact h3 x hx (by simp [e])
structure TS where
 ph:Nat
 i:Nat
 s:Int
 u:Int
 note:Int
 n:Int
 l:List (Int×Int)
 own:Bool
 page:Nat
 known:List (Int×Int)
 need:Int
 wr:List (Int×Int)
 made:Int
def TS.to (x:TS) (ph:Nat):TS:={ x with ph:=ph,i:=0 }
def TS.begin:TS:=⟨0,0,0,0,0,0,[],false,0,[],0,[],0⟩
def qr (t p z:Int):Nat->TS->TS
 | 0,x=>x.to 19
 | k+1,x=>
  if 0<=(thF t p z x.page x.known).1 then ({ x with need:=(thF t p z x.page x.known).1,wr:=(thF t p z x.page x.known).2 }:TS).to 10
  else if (thF t p z x.page x.known).2=[] then qr t p z k { x with need:=(thF t p z x.page x.known).1,wr:=[],page:=x.page+1,known:=[] }
  else ({ x with need:=(thF t p z x.page x.known).1,wr:=(thF t p z x.page x.known).2 }:TS).to 11
def jB (t p z:Int) (x:TS):TS:=qr t p z (p.toNat - x.page) x
def kG (st n:Int) (o:Bool):Int:=kg st (n+if o=true then 2147483648 else 0)
def TS.openN (x:TS):Int:=kG (x.s+1) x.wr.length true
def qb (x:TS):TS:=if x.ph=2/\(x.i:Int)=x.n then x.to 3 else x
def qB (x:TS):TS:=if x.ph=3/\x.i=x.l.length then x.to 5 else x
def qA (x:TS):TS:=if x.ph=5/\x.i=x.l.length then x.to 6 else x
def qy (x:TS):TS:=if x.ph=11/\x.i=x.wr.length then x.to 12 else x
def qx (x:TS):TS:=if x.ph=12/\x.wr.length<=x.i then x.to 13 else x
def ju (x:TS):TS:=qx (qy (qA (qB (qb x))))
def km (t p z:Int) (v:Int) (x:TS):TS:=match x.ph with
 | 0=>({ x with s:=((QF v).getD (0,0)).1,u:=((QF v).getD (0,0)).2 }:TS).to 1
 | 1=>match qQ v x.s with
  | none=>jB t p z x
  | some n=>({ x with note:=v,n:=n }:TS).to 2
 | 2=>{ x with l:=x.l++[(qN v).getD (0,0)],i:=x.i+1 }
 | 3=>if hiW v < hiW x.note then { x with ph:=4 } else { x with i:=x.i+1 }
 | 4=>{ x with ph:=3,i:=x.i+1 }
 | 5=>{ x with i:=x.i+1 }
 | 6=>x.to 7
 | 7=>x.to 8
 | 8=>x.to 9
 | 9=>jB t p z { x with page:=if x.own=true then x.page+1 else x.page,known:=[] }
 | 10=>jB t p z { x with known:=x.known++[(x.need,loW v)] }
 | 11=>{ x with i:=x.i+1 }
 | 12=>{ x with i:=x.i+8 }
 | 13=>x.to 14
 | 14=>x.to 15
 | 15=>x.to 16
 | 16=>({ x with note:=x.openN,s:=x.s+1,made:=x.s+1,u:=t,l:=x.wr,own:=true }:TS).to 17
 | 17=>x.to 18
 | 18=>x.to 3
 | _=>x
def jv (t p z:Int) (v:Int) (x:TS):TS:=ju (km t p z v x)
def KnI (N:Nat) (kn:List (Int×Int)):Prop:=(kn.map fun y=>y.1.toNat).Nodup/\∀y∈kn,0<=y.1/\y.1.toNat < N
theorem KnI.nil (N:Nat):KnI N []:=⟨zT,zT⟩
theorem KnI.le {N:Nat} {kn:List (Int×Int)} (h:KnI N kn):kn.length<=N:=by
 have:=VS.length_le_of_nodup N _ h.1 (fun x hx=>by
  obtain ⟨y,hy,rfl⟩:=List.mem_map.1 hx;exact (h.2 y hy).2)
 simpa using this
theorem KnI.snoc {N:Nat} {kn:List (Int×Int)} (h:KnI N kn) {i:Nat} (hi:i < N) (hn:∀x∈kn,x.1≠(i:Int)) (v:Int):KnI N (kn++[((i:Int),v)]):=by
 refine ⟨?_,fun y hy=> ?_⟩
 ·rw [List.map_append,List.nodup_append];refine ⟨h.1,zT,fun a ha b hb=> ?_⟩;simp at hb;subst hb;obtain ⟨y,hy,rfl⟩:=List.mem_map.1 ha;intro e;have h1:=h.2 y hy;exact hn y hy zo
 ·simp at hy;rcases hy with hy | rfl
  ·exact h.2 y hy
  ·simp;exact hi
theorem KnI.val {N:Nat} {kn:List (Int×Int)} {c u:Int} (h:KnI N (kn++[(c,u)])) (v:Int):KnI N (kn++[(c,v)]):=by
 obtain ⟨h1,h2⟩:=h;refine ⟨by simpa using h1,fun y hy=> ?_⟩;simp at hy;rcases hy with hy | rfl
 ·exact h2 y (by simp [hy])
 ·exact h2 (c,u) zT
structure JG (t p:Int) (x:TS):Prop where
 ph:x.ph<=19
 page:x.page<=p.toNat
 n0:0<=x.n
 n:x.n<=96
 l:x.l.length<=96
 wr:x.wr.length<=96
 h0:x.ph<=2->x.own=false
 h1:x.ph<=1->x.l=[]
 hk:x.ph<=1->x.known=[]
 h2:x.ph=2->x.i=x.l.length/\(x.i:Int) < x.n
 h3:x.ph=3\/x.ph=4\/x.ph=5->x.i < x.l.length
 own:3<=x.ph->x.ph<=9->x.own=true->x.page < p.toNat
 h10:x.ph=10->x.page < p.toNat/\KnI (jo t p).toNat (x.known++[(x.need,0)])
 h11:11<=x.ph->x.ph<=18->x.page < p.toNat
 hi:x.ph=11\/x.ph=12->x.i < x.wr.length
 h17:x.ph=17\/x.ph=18->x.l=x.wr/\x.own=true
def ql (p:Int) (W:Nat) (x:TS):Nat:=if x.own=true then (p.toNat - x.page - 1)*W else (p.toNat - x.page)*W
def mu (t p:Int) (x:TS):Nat:=
 let W:=410+(jo t p).toNat
 match x.ph with
 | 0=>400+(p.toNat - x.page)*W
 | 1=>399+(p.toNat - x.page)*W
 | 2=>(x.n.toNat - x.i)+(3*x.n.toNat+4)+(p.toNat - x.page)*W
 | 3=>2*(x.l.length - x.i)+x.l.length+4+ql p W x
 | 4=>2*(x.l.length - x.i) - 1+x.l.length+4+ql p W x
 | 5=>x.l.length - x.i+4+ql p W x
 | 6=>4+ql p W x
 | 7=>3+ql p W x
 | 8=>2+ql p W x
 | 9=>1+ql p W x
 | 10=>(jo t p).toNat - x.known.length+410+(p.toNat - x.page - 1)*W
 | 11=>(x.wr.length - x.i)+(x.wr.length+7) / 8+6+(3*x.wr.length+4)+(p.toNat - x.page - 1)*W
 | 12=>(x.wr.length - x.i+7) / 8+6+(3*x.wr.length+4)+(p.toNat - x.page - 1)*W
 | 13=>6+(3*x.wr.length+4)+(p.toNat - x.page - 1)*W
 | 14=>5+(3*x.wr.length+4)+(p.toNat - x.page - 1)*W
 | 15=>4+(3*x.wr.length+4)+(p.toNat - x.page - 1)*W
 | 16=>3+(3*x.wr.length+4)+(p.toNat - x.page - 1)*W
 | 17=>2+(3*x.wr.length+4)+(p.toNat - x.page - 1)*W
 | 18=>1+(3*x.wr.length+4)+(p.toNat - x.page - 1)*W
 | _=>0

def below (l:List Int) (q:Int):Nat:=(l.filter (fun x=>decide (x < q))).length

section
variable {t p s:Int} {c:Int->Int} {st:VS}
end

section
variable {t p s:Int} {c:Int->Int} {st:VS}
end

theorem LsOK.congr {p:Int} {hd nx pv hd' nx' pv':Int->Int} {h:Int} {l:List Int} (hl:LsOK p hd nx pv h l) (h1:hd' h=hd h) (h2:∀x,0<=x->x < p->nx' x=nx x/\pv' x=pv x):LsOK p hd' nx' pv' h l:=by
 obtain ⟨⟨e,hs⟩,hn,hb⟩:=hl;refine ⟨⟨e,?_⟩,hn,hb⟩;rw [h1];exact Xc _ _ _ _ _ (fun x hx=>h2 x (hb x hx).1 (hb x hx).2) hs
theorem LsOK.head {p:Int} {hd nx pv:Int->Int} {h:Int} {l:List Int} (hl:LsOK p hd nx pv h l):hd h=0\/(1<=hd h/\hd h<=p):=by
 obtain ⟨⟨e,hs⟩,-,hb⟩:=hl;cases l with
 | nil=>exact Or.inl hs.1.symm
 | cons y l=>have:=hb y zT;have:=hs.1;exact Or.inr zo

def cv (vs:List Int):Int->Int:=fun i=>vs.getD i.toNat 0
section
variable {vs:List Int} {t s:Int} {P:Nat}
end
end Go.Proofs.YtcnininelndjoaaGreat

