/- parts of the proof, merged by a program. -/
import Derived.Test.YtcnininelndjoaaGreatMmt1
import Derived.Test.YtcnininelndjoaaGreatMmt2
import Derived.Test.YtcnininelndjoaaGreatMmt3
import Derived.Test.YtcnininelndjoaaGreatMmt4
import Derived.Test.YtcnininelndjoaaGreatMmt5
import Derived.Test.YtcnininelndjoaaGreatMmt7
import Derived.ProofKit
import Derived.OpenShut
import Derived.Deep.Slices
set_option linter.unusedSimpArgs false
set_option linter.unusedVariables false
set_option maxRecDepth 100000
set_option maxHeartbeats 4000000
namespace Go.Proofs.YtcnininelndjoaaGreat
open Go.Proofs.Tryz
open Go.RowKit
section
variable {w:World} {t p s:Int}
end
section
variable {w:World} {t s:Int} {P:Nat} {ad:Addr} {n:Nat} {vs:List Int}
theorem XV.old (h:XV w t P s ad n vs):ad.block < w.heap.size:=by
 have hn:=h.bd;have:=World.block_lt_of_cell? _ _ (h.cells 0 zo);rwa [jfJ] at this
end
end Go.Proofs.YtcnininelndjoaaGreat
namespace Go.Proofs.YtcnininelndjoaaGreat
open Go.Proofs.Tryz
open Go.ChangeShapes Go.RowKit

theorem jfo (t p s:Int) (w:World) :
 Calls prog 31 #[.agg #[.int .i64 t,.int .i64 p,.int .i64 s]] w (zW (.bool (decide (p<=64))) w):=by
 go_enter func31,ntmps31;go_wp2;go_ret;refine ⟨rfl,?_⟩;exact zR
section
variable {H:Type} {enc:TypeId×Value->H} {w:World} {base:Nat} {spare:Nat->Bool} {held:Bool}
end
theorem Rd.xv {w:World} {v:Value} {vals:List Int} {t p s:Int} (h:Rd w v 1 vals.length (yL vals)) (hu:∀u∈vals,VS.U32 u) (hr:jq t p s=true) (hp:p<=1024) (hn:(vals.length:Int)=jk t p) :
 ∃ad c,v= .slice (some ad) vals.length c/\XV w t p s ad vals.length vals:=by
 have bd:=jn hr;rcases h.2 with ⟨-,h0⟩ | ⟨ad,c,rfl,hc⟩
 ·unfold jk at hn;omega
 ·refine ⟨ad,c,rfl,hr,hp,rfl,by rw [hn];rfl,hu,fun k hk=>hc k _ ?_⟩;simp [yL,hk]
end Go.Proofs.YtcnininelndjoaaGreat
namespace Go.Proofs.YtcnininelndjoaaGreat
open Go.Proofs.Tryz

def Qw (l:List (Int×Int)) (k:Nat):Option Int:=(l.find? fun x=>(16+x.1).toNat == k).map (·.2)
theorem qZ (s:Int):∀(l:List (Int×Int)) (ws:List Int) (k:Nat),(∀x∈l,0<=x.2/\x.2 < 4294967296)->k < ws.length->
 (jV s l ws).getD k 0=match Qw l k with
  | some v=>if hiW (ws.getD k 0) < s then jH s v else ws.getD k 0
  | none=>ws.getD k 0
 | [],_,_,_,_=>rfl
 | x :: l,ws,k,hx,hk=>by
  have hv:=hx x zT;have ih:=fun ws' (h':k < ws'.length)=>qZ s l ws' k (fun y hy=>hx y (by simp [hy])) h';unfold jV;by_cases e:(16+x.1).toNat=k
  ·have he:Qw (x :: l) k=some x.2:=by simp [Qw,e]
   rw [he,e];dsimp only;by_cases hs:hiW (ws.getD k 0) < s
   ·rw [if_pos hs,if_pos hs,ih _ (by simpa using hk)];have h1:(ws.set k (jH s x.2)).getD k 0=jH s x.2:=by simp [List.getD_eq_getElem?_getD,hk]
    rw [h1,JA hv];cases Qw l k with
    | none=>rfl
    | some v=>simp
   ·rw [if_neg hs,if_neg hs,ih _ hk];cases Qw l k with
    | none=>rfl
    | some v=>dsimp only;rw [if_neg hs]
  ·have he:Qw (x :: l) k=Qw l k:=by
    unfold Qw;rw [List.find?_cons_of_neg (by simpa using e)]
   rw [he];by_cases hs:hiW (ws.getD (16+x.1).toNat 0) < s
   ·rw [if_pos hs,ih _ (by simpa using hk)];have h1:(ws.set (16+x.1).toNat (jH s x.2)).getD k 0=ws.getD k 0:=by simp [List.getD_eq_getElem?_getD,List.getElem?_set_ne e]
    rw [h1]
   ·rw [if_neg hs,ih _ hk]
theorem Xj {s:Int} {l:List (Int×Int)} {A B:List Int} (hx:∀x∈l,0<=x.2/\x.2 < 4294967296) (hl:B.length=A.length)
 (h:∀k,k < A.length->B.getD k 0=A.getD k 0\/B.getD k 0=(jV s l A).getD k 0):jV s l B=jV s l A:=by
 apply List.ext_getElem?;intro k;by_cases hk:k < A.length
 ·have hkB:k < B.length:=zo;have g1:=qZ s l A k hx hk;have g2:=qZ s l B k hx hkB;have hh:=h k hk;have e:(jV s l B).getD k 0=(jV s l A).getD k 0:=by
   rcases hh with e | e
   ·rw [g1,g2,e]
   ·rw [g2,e];rw [g1];cases hen:Qw l k with
    | none=>rfl
    | some v=>
     dsimp only;by_cases hs:hiW (A.getD k 0) < s
     ·simp only [if_pos hs];have hv:0<=v/\v < 4294967296:=by
       unfold Qw at hen;obtain ⟨y,hy,rfl⟩:=Option.map_eq_some_iff.1 hen;exact hx y (List.mem_of_find?_eq_some hy)
      rw [JA hv];simp
     ·simp only [if_neg hs]
  have l1:k < (jV s l B).length:=by rw [qO];exact hkB
  have l2:k < (jV s l A).length:=by rw [qO];exact hk
  simp only [List.getD_eq_getElem?_getD,List.getElem?_eq_getElem l1,List.getElem?_eq_getElem l2,Option.getD_some] at e;rw [List.getElem?_eq_getElem l1,List.getElem?_eq_getElem l2,e]
 ·rw [List.getElem?_eq_none (by rw [qO];omega),List.getElem?_eq_none (by rw [qO];omega)]

theorem drop_far {A B:List Int} {m:Nat} (hl:B.length=A.length) (h:∀k,m<=k->k < A.length->B.getD k 0=A.getD k 0):B.drop m=A.drop m:=by
 apply List.ext_getElem?;intro j;rw [List.getElem?_drop,List.getElem?_drop];by_cases hj:m+j < A.length
 ·have:=h (m+j) zo hj;simp only [List.getD_eq_getElem?_getD,List.getElem?_eq_getElem hj,List.getElem?_eq_getElem (show m+j < B.length by omega),Option.getD_some] at this;rw [List.getElem?_eq_getElem hj,List.getElem?_eq_getElem (show m+j < B.length by omega),this]
 ·rw [List.getElem?_eq_none zo,List.getElem?_eq_none zo]
structure CMix (t p s:Int) (l:List (Int×Int)) (A B:List Int):Prop where
 len:B.length=A.length
 far:∀k,k < A.length->(k < 16\/16+(jk t p).toNat<=k)->B.getD k 0=A.getD k 0
 cell:∀k,k < A.length->B.getD k 0=A.getD k 0\/B.getD k 0=(jV s l A).getD k 0
theorem CMix.vals {t p s:Int} {l:List (Int×Int)} {A B:List Int} (h:CMix t p s l A B) (hx:∀x∈l,0<=x.2/\x.2 < 4294967296):yn s (some l) B=yn s (some l) A:=Xj hx h.len h.cell
theorem CMix.mlog {t p s:Int} {l:List (Int×Int)} {A B:List Int} (h:CMix t p s l A B) (u:Int) (h1:16+(jk t p).toNat<=(jo t p u).toNat) (h2:16+(jk t p).toNat<=(jJ t p u 0).toNat) (h3:(jo t p u).toNat < A.length):VV t p B u=VV t p A u:=by
 unfold VV;rw [h.far _ h3 (.inr h1),drop_far h.len (fun k hk hA=>h.far k hA (.inr zo))]
theorem CMix.stamps {t p s:Int} {l:List (Int×Int)} {A B:List Int} (h:CMix t p s l A B) (hx:∀x∈l,0<=x.2/\x.2 < 4294967296) (hn:16+(jk t p).toNat<=A.length) (hs:kW A s (jk t p).toNat=true):kW B s (jk t p).toNat=true:=by
 unfold kW at hs ⊢;rw [List.all_eq_true] at hs ⊢;intro i hi;have hA:=hs i hi;simp at hi;have hk:16+i < A.length:=zo;rw [decide_eq_true_eq] at hA ⊢;rcases h.cell (16+i) hk with e | e
 ·rw [e];exact hA
 ·rw [e,qZ s l A (16+i) hx hk];cases hen:Qw l (16+i) with
  | none=>exact hA
  | some v=>
   dsimp only;split
   ·have hv:0<=v/\v < 4294967296:=by
     unfold Qw at hen;obtain ⟨y,hy,rfl⟩:=Option.map_eq_some_iff.1 hen;exact hx y (List.mem_of_find?_eq_some hy)
    rw [JA hv];omega
   ·exact hA
theorem jaV {t p z s u:Int} {l:List (Int×Int)} {A B:List Int} (hA:qS t p A=some (s,u,some l)) (h:CMix t p s l A B) (hx:∀x∈l,0<=x.2/\x.2 < 4294967296)
 (h8:8 < A.length) (hn:16+(jk t p).toNat<=A.length) (h1:16+(jk t p).toNat<=(jo t p u).toNat) (h2:16+(jk t p).toNat<=(jJ t p u 0).toNat) (h3:(jo t p u).toNat < A.length) :
 qS t p B=some (s,u,some l)/\kw t p z B=kw t p z A:=by
 have hB:qS t p B=some (s,u,some l):=by
  unfold qS at hA ⊢;rw [h.far 8 h8 (.inl zo)];split at hA
  ·rename_i s' u' ht;split at hA
   ·rename_i hu;split at hA
    ·rename_i hst;split at hA
     ·rename_i m ho;obtain ⟨y,hy,he⟩:=Option.map_eq_some_iff.1 hA;simp only [Prod.mk.injEq,Option.some.injEq] at he;obtain ⟨rfl,rfl,rfl⟩:=he;rw [if_pos hu,if_pos (h.stamps hx hn hst)];rw [h.far _ h3 (.inr h1),ho];dsimp only;rw [h.mlog _ h1 h2 h3,hy];rfl
     ·simp at hA
    ·cases hA
   ·cases hA
  ·cases hA
 refine ⟨hB,?_⟩;unfold kw KQ;rw [hA,hB,h.len];simp only [Option.map_some,h.vals hx]

theorem note_few {w st n:Int} {o:Bool} (h:qo w=some (st,o,n)):0<=n/\n<=96:=by
 unfold qo at h;split at h
 ·simp only [Option.some.injEq,Prod.mk.injEq] at h;omega
 ·cases h
theorem Yc {t p s:Int} {A B:List Int} {e:Nat} (h:∀k,k < A.length->k < e->B.getD k 0=A.getD k 0) (hn:16+(jk t p).toNat<=e) (h3:e<=A.length):kW B s (jk t p).toNat=kW A s (jk t p).toNat:=by
 unfold kW;rw [Bool.eq_iff_iff,List.all_eq_true,List.all_eq_true];constructor <;> intro hh i hi <;> have:=hh i hi <;> simp at hi <;> have e1:=h (16+i) zo zo
 ·rw [<-e1];exact this
 ·rw [e1];exact this
theorem Xf {t p:Int} {A B:List Int} {e:Nat} (h:∀k,k < A.length->k < e->B.getD k 0=A.getD k 0) (hn:16+(jk t p).toNat<=e) (h3:e<=A.length):qY (jk t p).toNat B=qY (jk t p).toNat A:=by
 unfold qY;apply List.map_congr_left;intro i hi;simp at hi;rw [h (16+i) zo zo]
theorem jct {t p z s u:Int} {A B:List Int} {e:Nat} (hA:qS t p A=some (s,u,none)) (hl:B.length=A.length) (h:∀k,k < A.length->k < e->B.getD k 0=A.getD k 0) (h8:8 < e) (hn:16+(jk t p).toNat<=e) (h3:e<=A.length)
 (ho:qg (B.getD (jo t p u).toNat 0) s=none):qS t p B=some (s,u,none)/\kw t p z B=kw t p z A:=by
 have hB:qS t p B=some (s,u,none):=by
  unfold qS at hA ⊢;rw [h 8 zo h8];split at hA
  ·rename_i s' u' ht;split at hA
   ·rename_i hu;split at hA
    ·rename_i hst;split at hA
     ·rename_i m hm;obtain ⟨y,hy,he⟩:=Option.map_eq_some_iff.1 hA;simp at he
     ·simp only [Option.some.injEq,Prod.mk.injEq] at hA;obtain ⟨rfl,rfl,-⟩:=hA;rw [if_pos hu,Yc h hn h3,if_pos hst,ho]
    ·cases hA
   ·cases hA
  ·cases hA
 refine ⟨hB,?_⟩;unfold kw KQ;rw [hA,hB,hl];simp only [Option.map_some,yn,Xf h hn h3]

theorem jaU {t p z s u:Int} {l:List (Int×Int)} {A B:List Int} (hA:qS t p A=some (s,u,some l)) (ht:jV s l A=A) (hl:B.length=A.length) (h:∀k,k < A.length->k≠(jo t p u).toNat->B.getD k 0=A.getD k 0)
 (h8:8 < 16+(jk t p).toNat) (hn:16+(jk t p).toNat<=A.length) (h1:16+(jk t p).toNat<=(jo t p u).toNat) (ho:qg (B.getD (jo t p u).toNat 0) s=none) :
 qS t p B=some (s,u,none)/\kw t p z B=kw t p z A:=by
 have hs:∀k,k < A.length->k < 16+(jk t p).toNat->B.getD k 0=A.getD k 0:=fun k hk hk2=>h k hk zo;have hB:qS t p B=some (s,u,none):=by
  unfold qS at hA ⊢;rw [hs 8 zo h8];split at hA
  ·rename_i s' u' ht;split at hA
   ·rename_i hu;split at hA
    ·rename_i hst;split at hA
     ·rename_i m hm;obtain ⟨y,hy,he⟩:=Option.map_eq_some_iff.1 hA;simp only [Prod.mk.injEq,Option.some.injEq] at he;obtain ⟨rfl,rfl,rfl⟩:=he;rw [if_pos hu,Yc hs (Nat.le_refl _) hn,if_pos hst,ho]
     ·simp at hA
    ·cases hA
   ·cases hA
  ·cases hA
 refine ⟨hB,?_⟩;unfold kw KQ;rw [hA,hB,hl];simp only [Option.map_some,yn,ht,Xf hs (Nat.le_refl _) hn]

theorem Yo {st k:Int} (h0:0<=st/\st < 4294967296) (h1:0<=k) (h2:k<=96):qo (jH st (k+2147483648))=some (st,true,k)/\qg (jH st (k+2147483648)) st=some k:=by
 have hn:qo (jH st (k+2147483648))=some (st,true,k):=by
  have e1:loW (jH st (k+2147483648))=k+2147483648:=Yw zo;have e2:hiW (jH st (k+2147483648))=st:=JA zo;unfold qo;rw [e1,e2,show (k+2147483648) % 2147483648=k by omega,if_pos h2];simp;omega
 refine ⟨hn,?_⟩;unfold qg;rw [hn];simp
theorem jeH {st k:Int} (h0:0<=st/\st < 4294967296) (h1:0<=k) (h2:k<=96) (s:Int):qo (jH st k)=some (st,false,k)/\qg (jH st k) s=none:=by
 have hn:qo (jH st k)=some (st,false,k):=by
  have e1:loW (jH st k)=k:=Yw zo;have e2:hiW (jH st k)=st:=JA zo;unfold qo;rw [e1,e2,show k % 2147483648=k by omega,if_pos h2];simp;omega
 refine ⟨hn,?_⟩;unfold qg;rw [hn]
theorem tip_word {st u:Int} (h0:0<=st/\st < 4294967296) (h1:0<=u) (h2:u<=16):KC (jH st u)=some (st,u):=by
 have e1:loW (jH st u)=u:=Yw zo;have e2:hiW (jH st u)=st:=JA zo;unfold KC;rw [e1,e2,if_pos h2]
theorem jdk {c v:Int} (h0:0<=c/\c<=65535) (h1:0<=v/\v < 4294967296):qj (jH c v)=some (c,v):=by
 unfold qj;rw [JA h1,Yw h1,if_pos h0.2]
theorem QE {N:Int}:∀(l:List (Int×Int)),(∀x∈l,0<=x.1/\x.1 < N/\x.1<=65535/\0<=x.2/\x.2 < 4294967296)->kh N (l.map fun x=>jH x.1 x.2)=some l
 | [],_=>rfl
 | x :: l,h=>by
  obtain ⟨h1,h2,h3,h4,h5⟩:=h x zT;unfold kh;rw [List.map_cons];dsimp only;rw [jdk ⟨h1,h3⟩ ⟨h4,h5⟩];dsimp only;rw [if_pos h2,QE l (fun y hy=>h y (by simp [hy]))];rfl

theorem jaR {ws:List Int} {s s':Int} {n:Nat} (h:kW ws s n=true) (hs:s<=s'):kW ws s' n=true:=by
 unfold kW at h ⊢;rw [List.all_eq_true] at h ⊢;intro i hi;have:=h i hi;rw [decide_eq_true_eq] at this ⊢;omega
theorem last_tip {t p s u k:Int} {B l:_} (h8:KC (B.getD 8 0)=some (s,u)) (hu:u<=t) (hst:kW B s (jk t p).toNat=true) (ho:qg (B.getD (jo t p u).toNat 0) s=some k)
 (hn:qo (B.getD (jo t p u).toNat 0)=some (s,true,k)) (hl:kh (jk t p) ((B.drop (jJ t p u 0).toNat).take k.toNat)=some l):qS t p B=some (s,u,some l):=by
 unfold qS;rw [h8];dsimp only;rw [if_pos hu,if_pos hst,ho];dsimp only;unfold VV;rw [hn];dsimp only;rw [hl];rfl
theorem jdF {s:Int} {n:Nat} {l:List (Int×Int)} {B:List Int} (hx:∀x∈l,0<=x.2/\x.2 < 4294967296) (hn:16+n<=B.length) (hs:∀i,i < n->hiW (B.getD (16+i) 0) < s) :
 qY n (jV s l B)=(List.range n).map fun i=>(Qw l (16+i)).getD (loW (B.getD (16+i) 0)):=by
 unfold qY;apply List.map_congr_left;intro i hi;simp at hi;rw [qZ s l B (16+i) hx zo];cases hen:Qw l (16+i) with
 | none=>rfl
 | some v=>
  have hv:0<=v/\v < 4294967296:=by
   unfold Qw at hen;obtain ⟨y,hy,rfl⟩:=Option.map_eq_some_iff.1 hen;exact hx y (List.mem_of_find?_eq_some hy)
  dsimp only;rw [if_pos (hs i hi),Yw hv];rfl
end Go.Proofs.YtcnininelndjoaaGreat
namespace Go.Proofs.YtcnininelndjoaaGreat
open Go.Proofs.Tryz
open Go.RowKit

def K6 (v:Int):Int:=if iK v=1 then iL v else 0
theorem qd (v:Int):0<=K6 v/\K6 v<=1024/\(iK v=1->1<=K6 v/\K6 v=iL v)/\(iK v≠1->K6 v=0):=by
 have h:=kP v;unfold K6;split <;> refine ⟨zo,zo,?_,?_⟩
 ·intro e;have:=h.2.2.2.2.2.2.1 zo;exact ⟨this.2,rfl⟩
 ·intro e;contradiction
 ·intro e;contradiction
 ·intro e;rfl
def jF (t p s q:Int) (st:VS):Int×VS:=(K6 (st.get (ofF t p s q 0)).1,(st.get (ofF t p s q 0)).2)
def qA (t p s q:Int) (st:VS):Int×VS:=
 if kR p q=true then
  let r:=jF t p s q st
  (r.1,if r.1=0 then r.2 else qG t p s (kq 2 (qr r.1) 11) q r.2)
 else (0,st)
def JK (t p s q n:Int) (st:VS):VS:=if 0<=q/\q < p/\1<=n/\n<=p - q then addF t p s q.toNat n.toNat st else st
def qp (t p s q b:Int) (st:VS):Int×VS:=((qA t p s q st).1,((qA t p s q st).2.put (ofF t p s b 0) 0).put (ofF t p s (b - 1) 1) 0)
def jZ (t p s q:Int) (st:VS):Int×VS:=if q=0 then (-1,st) else ((st.get (ofF t p s (q - 1) 1)).1 - 1,(st.get (ofF t p s (q - 1) 1)).2)
def ql (t p s q n:Int) (st:VS):(Int×Int)×VS:=
 let f:=jZ t p s q st
 if f.1 < 0 then ((q,n),f.2) else
  let g:=jF t p s f.1 f.2
  if g.1=0 then ((q,n),g.2) else
   let j:=qp t p s f.1 q g.2
   ((f.1,n+j.1),j.2)
def qq (t p s r l:Int) (st:VS):Int×VS:=
 if r < p then
  let g:=jF t p s r st
  if g.1=0 then (l,g.2) else
   let j:=qp t p s r r g.2
   (l+j.1,j.2)
 else (l,st)
def qB (n:Int) (st:VS):VS:=(st.get 0).2.put 0 (IntKind.u32.wrap ((st.get 0).1+n))
def j7 (t p s q n:Int) (st:VS):VS:=
 let b:=ql t p s q n st
 let e:=qq t p s (q+n) b.1.2 b.2
 qB n (JK t p s b.1.1 e.1 e.2)
def jP (t p s q:Int) (st:VS):Bool×VS:=
 if kR p q=true then
  let i:=st.get (ofF t p s q 0)
  if iK i.1=3 then
   let l:=i.2.get (ofF t p s q 4)
   let k:=l.2.get (ofF t p s q 5)
   if l.1=k.1 then (false,k.2) else
    let u:=k.2.put (ofF t p s q 5) l.1
    (true,if l.1=0 then j7 t p s q 1 (if qx k.1 (iC i.1)=true then u else qG t p s (13+iC i.1) q u) else if qx k.1 (iC i.1)=true then yd t p s (13+iC i.1) q u else u)
  else (false,i.2)
 else (false,st)
def Xp (t p s:Int):Nat->VS->Nat×VS
 | 0,st=>(0,st)
 | k+1,st=>((if (jP t p s k (Xp t p s k st).2).1=true then (Xp t p s k st).1+1 else (Xp t p s k st).1),(jP t p s k (Xp t p s k st).2).2)
theorem wl_setW (l:List (Nat×Int)) (i:Nat) (v:Int):(VS.setW l i v).length<=l.length+1:=by
 unfold VS.setW;split <;> simp
theorem yK (st:VS) (i v:Int):(st.put i v).writes.length<=st.writes.length+1:=by
 unfold VS.put;split
 ·exact wl_setW _ _ _
 ·omega
theorem yk (st:VS) (i:Int):(st.get i).2.writes=st.writes:=by
 unfold VS.get VS.read1;repeat' split
 all_goals rfl
theorem jdA (t p s head q:Int) (st:VS):(yd t p s head q st).writes.length<=st.writes.length+4:=by
 unfold yd;split
 ·dsimp only;have h1:=yK (st.get head).2 (ofF t p s q 2) (st.get head).1;have h2:=yK ((st.get head).2.put (ofF t p s q 2) (st.get head).1) (ofF t p s q 3) 0;rw [yk] at h1;generalize (((st.get head).2.put (ofF t p s q 2) (st.get head).1).put (ofF t p s q 3) 0)=s2 at*
  have h3:=yK s2 (ofF t p s ((st.get head).1 - 1) 3) (q+1);split
  ·have h4:=yK s2 head (q+1);omega
  ·have h4:=yK (s2.put (ofF t p s ((st.get head).1 - 1) 3) (q+1)) head (q+1);omega
 ·omega
theorem jdB (t p s head q:Int) (st:VS):(qG t p s head q st).writes.length<=st.writes.length+4:=by
 unfold qG;split
 ·dsimp only;have e1:((st.get (ofF t p s q 2)).2.get (ofF t p s q 3)).2.writes=st.writes:=by rw [yk,yk]
  generalize ((st.get (ofF t p s q 2)).2.get (ofF t p s q 3))=f at*
  generalize (st.get (ofF t p s q 2)).1=g at*
  have h3:(if f.1=0 then f.2.put head g else f.2.put (ofF t p s (f.1 - 1) 2) g).writes.length<=st.writes.length+1:=by
   rw [<-e1];split <;> exact yK _ _ _
  generalize (if f.1=0 then f.2.put head g else f.2.put (ofF t p s (f.1 - 1) 2) g)=s3 at*
  have h4:(if g=0 then s3 else s3.put (ofF t p s (g - 1) 3) f.1).writes.length<=s3.writes.length+1:=by
   split
   ·omega
   ·exact yK _ _ _
  generalize (if g=0 then s3 else s3.put (ofF t p s (g - 1) 3) f.1)=s4 at*
  have h5:=yK s4 (ofF t p s q 2) 0;have h6:=yK (s4.put (ofF t p s q 2) 0) (ofF t p s q 3) 0;omega
 ·omega
theorem wl_drop (t p s q:Int) (st:VS):(qA t p s q st).2.writes.length<=st.writes.length+4:=by
 unfold qA jF;split
 ·dsimp only;have e1:=yk st (ofF t p s q 0);generalize (st.get (ofF t p s q 0))=g at*
  split
  ·rw [e1];omega
  ·have:=jdB t p s (kq 2 (qr (K6 g.1)) 11) q g.2;rw [e1] at this;exact this
 ·dsimp only;omega
theorem jdC (t p s q b:Int) (st:VS):(qp t p s q b st).2.writes.length<=st.writes.length+6:=by
 unfold qp;have h0:=wl_drop t p s q st;have h1:=yK (qA t p s q st).2 (ofF t p s b 0) 0;have h2:=yK ((qA t p s q st).2.put (ofF t p s b 0) 0) (ofF t p s (b - 1) 1) 0;dsimp only;omega
theorem wl_add (t p s q n:Int) (st:VS):(JK t p s q n st).writes.length<=st.writes.length+6:=by
 unfold JK;split
 ·unfold addF;have h1:=yK st (ofF t p s q.toNat 0) (1+16*n.toNat);have h2:=yK (st.put (ofF t p s q.toNat 0) (1+16*n.toNat)) (ofF t p s ((q.toNat:Int)+n.toNat - 1) 1) ((q.toNat:Int)+1);have h3:=jdA t p s (kq 2 (qr n.toNat) 11) q.toNat ((st.put (ofF t p s q.toNat 0) (1+16*n.toNat)).put (ofF t p s ((q.toNat:Int)+n.toNat - 1) 1) ((q.toNat:Int)+1));omega
 ·omega
theorem Y9 (t p s q n:Int) (st:VS):(j7 t p s q n st).writes.length<=st.writes.length+20:=by
 have ha:(jZ t p s q st).2.writes=st.writes:=by
  unfold jZ;split
  ·rfl
  ·exact yk _ _
 have hb:(ql t p s q n st).2.writes.length<=st.writes.length+6:=by
  unfold ql;dsimp only;split
  ·rw [ha];omega
  ·have hg:(jF t p s (jZ t p s q st).1 (jZ t p s q st).2).2.writes=st.writes:=by unfold jF;rw [yk,ha]
   split
   ·rw [hg];omega
   ·have:=jdC t p s (jZ t p s q st).1 q (jF t p s (jZ t p s q st).1 (jZ t p s q st).2).2;rw [hg] at this;exact this
 have hf:∀r l (st:VS),(qq t p s r l st).2.writes.length<=st.writes.length+6:=by
  intro r l st;unfold qq;dsimp only;split
  ·have hg:(jF t p s r st).2.writes=st.writes:=by unfold jF;rw [yk]
   split
   ·rw [hg];omega
   ·have:=jdC t p s r r (jF t p s r st).2;rw [hg] at this;exact this
  ·dsimp only;omega
 unfold j7 qB;dsimp only;have h1:=hf (q+n) (ql t p s q n st).1.2 (ql t p s q n st).2;have h2:=wl_add t p s (ql t p s q n st).1.1 (qq t p s (q+n) (ql t p s q n st).1.2 (ql t p s q n st).2).1 (qq t p s (q+n) (ql t p s q n st).1.2 (ql t p s q n st).2).2;generalize (JK t p s (ql t p s q n st).1.1 (qq t p s (q+n) (ql t p s q n st).1.2 (ql t p s q n st).2).1 (qq t p s (q+n) (ql t p s q n st).1.2 (ql t p s q n st).2).2)=a at*
 have h3:=yK (a.get 0).2 0 (IntKind.u32.wrap ((a.get 0).1+n));rw [yk] at h3;omega
theorem wl_sweep (t p s q:Int) (st:VS):(jP t p s q st).2.writes.length<=st.writes.length+(if (jP t p s q st).1=true then 96 else 0):=by
 unfold jP;dsimp only;split
 ·split
  ·have e1:((st.get (ofF t p s q 0)).2.get (ofF t p s q 4)).2.writes=st.writes:=by rw [yk,yk]
   generalize hl:((st.get (ofF t p s q 0)).2.get (ofF t p s q 4))=l at*
   have e2:(l.2.get (ofF t p s q 5)).2.writes=st.writes:=by rw [yk,e1]
   generalize (l.2.get (ofF t p s q 5))=k at*
   split
   ·rw [e2];omega
   ·simp only [if_true];have h1:=yK k.2 (ofF t p s q 5) l.1;rw [e2] at h1;generalize k.2.put (ofF t p s q 5) l.1=u at*
    have h2:∀h,(qG t p s h q u).writes.length<=u.writes.length+4:=fun h=>jdB t p s h q u;have h3:∀h,(yd t p s h q u).writes.length<=u.writes.length+4:=fun h=>jdA t p s h q u;have h4:=h2 (13+iC (st.get (ofF t p s q 0)).1);have h5:=h3 (13+iC (st.get (ofF t p s q 0)).1);split
    ·split
     ·have:=Y9 t p s q 1 u;omega
     ·have:=Y9 t p s q 1 (qG t p s (13+iC (st.get (ofF t p s q 0)).1) q u);omega
    ·split <;> omega
  ·rw [yk];simp
 ·simp

section
variable {n:Nat} {K C:Nat->Option Int}
structure UV (n:Nat) (K C:Nat->Option Int) (s t:VS):Prop where
 sn:s.n=n
 sk:s.known=K
 sm:s.miss=none
 tn:t.n=n
 tk:t.known=C
 tm:t.miss=none
 wr:s.writes=t.writes
def Stk (n:Nat) (K:Nat->Option Int) (s:VS):Prop:=∃i,s.miss=some i/\i < n/\K i=none
theorem Stk.ne {s:VS} (h:Stk n K s):s.miss≠none:=by obtain ⟨i,h,-⟩:=h;rw [h];simp
theorem yw {s:VS} (h:s.miss≠none) (i:Int):s.get i=(0,s):=by
 have ht:¬s.there i=true:=fun e=>h (VS.there_iff.1 e).2.2;unfold VS.get;rw [if_neg ht]
theorem kD {s:VS} (h:s.miss≠none) (i v:Int):s.put i v=s:=by
 have ht:¬s.there i=true:=fun e=>h (VS.there_iff.1 e).2.2;unfold VS.put;rw [if_neg ht]
theorem UV.there {s t:VS} (h:UV n K C s t) (i:Int):s.there i=t.there i:=by
 unfold VS.there;rw [h.sn,h.tn,h.sm,h.tm]
theorem UV.get {s t:VS} (h:UV n K C s t) (hsub:∀i v,K i=some v->C i=some v) (hC:∀i,i < n->∃v,C i=some v) (i:Int):(UV n K C (s.get i).2 (t.get i).2/\(s.get i).1=(t.get i).1)\/Stk n K (s.get i).2:=by
 have ht:=h.there i;unfold VS.get;rw [ht];by_cases hth:t.there i=true
 ·rw [if_pos hth,if_pos hth];obtain ⟨h0,h1,-⟩:=VS.there_iff.1 hth;have hw:s.wr i.toNat=t.wr i.toNat:=by unfold VS.wr;rw [h.wr]
  rw [hw];cases hx:t.wr i.toNat with
  | some v=>exact .inl ⟨h,rfl⟩
  | none=>
   dsimp only;rw [h.sk,h.tk];obtain ⟨v,hv⟩:=hC i.toNat (by have:=h.tn;omega);rw [hv];cases hk:K i.toNat with
   | none=>exact .inr ⟨i.toNat,rfl,by have:=h.tn;omega,hk⟩
   | some u=>
    have:=hsub _ _ hk;rw [hv] at this;cases this;refine .inl ⟨?_,rfl⟩;have hr:∀x:VS,(x.read1 i.toNat).n=x.n/\(x.read1 i.toNat).known=x.known/\(x.read1 i.toNat).miss=x.miss/\(x.read1 i.toNat).writes=x.writes:=fun x=>by
     unfold VS.read1;split <;> simp
    obtain ⟨a1,a2,a3,a4⟩:=hr s;obtain ⟨c1,c2,c3,c4⟩:=hr t;exact ⟨a1.trans h.sn,a2.trans h.sk,a3.trans h.sm,c1.trans h.tn,c2.trans h.tk,c3.trans h.tm,by rw [a4,c4,h.wr]⟩
 ·rw [if_neg hth,if_neg hth];exact .inl ⟨h,rfl⟩
theorem UV.put {s t:VS} (h:UV n K C s t) (i v:Int):UV n K C (s.put i v) (t.put i v):=by
 have ht:=h.there i;unfold VS.put;rw [ht];by_cases hth:t.there i=true
 ·rw [if_pos hth,if_pos hth];exact ⟨h.sn,h.sk,h.sm,h.tn,h.tk,h.tm,by show VS.setW s.writes _ _=VS.setW t.writes _ _;rw [h.wr]⟩
 ·rw [if_neg hth,if_neg hth];exact h
theorem Qu {s:VS} (h:s.miss≠none) (t p z q:Int):jF t p z q s=(0,s):=by
 unfold jF;rw [yw h];show (K6 0,s)=(0,s)
 rw [show K6 0=0 by decide]
theorem Kd {s:VS} (h:s.miss≠none) (t p z hd q:Int):yd t p z hd q s=s:=by
 unfold yd;split
 ·simp [yw h,kD h]
 ·rfl
theorem Kf {s:VS} (h:s.miss≠none) (t p z hd q:Int):qG t p z hd q s=s:=by
 unfold qG;split
 ·simp [yw h,kD h]
 ·rfl
theorem jdl {s:VS} (h:s.miss≠none) (t p z q:Int):qA t p z q s=(0,s):=by
 unfold qA;split
 ·simp [Qu h]
 ·rfl
theorem YM {s:VS} (h:s.miss≠none) (t p z q m:Int):JK t p z q m s=s:=by
 unfold JK addF;split
 ·simp [Kd h,kD h]
 ·rfl
theorem Qs {s:VS} (h:s.miss≠none) (t p z q b:Int):qp t p z q b s=(0,s):=by
 unfold qp;simp [jdl h,kD h]
theorem Vs {s:VS} (h:s.miss≠none) (t p z r l:Int):qq t p z r l s=(l,s):=by
 unfold qq;split
 ·simp [Qu h]
 ·rfl
theorem jdt {s:VS} (h:s.miss≠none) (t p z q m:Int):(ql t p z q m s).2=s:=by
 unfold ql jZ;split
 ·simp
 ·simp [yw h]
theorem JE {s:VS} (h:s.miss≠none) (m:Int):qB m s=s:=by
 unfold qB;simp [yw h,kD h]
theorem yC {s:VS} (h:s.miss≠none) (t p z q m:Int):j7 t p z q m s=s:=by
 unfold j7;have hb:=jdt h t p z q m;generalize ql t p z q m s=b at*
 obtain ⟨b1,b2⟩:=b;dsimp only at hb ⊢;subst hb;simp [Vs h,YM h,JE h]
section
variable {s t:VS}
theorem UV.free (h:UV n K C s t) (hsub:∀i v,K i=some v->C i=some v) (hC:∀i,i < n->∃v,C i=some v) (a p z q:Int) :
 (UV n K C (jF a p z q s).2 (jF a p z q t).2/\(jF a p z q s).1=(jF a p z q t).1)\/Stk n K (jF a p z q s).2:=by
 unfold jF;rcases h.get hsub hC (ofF a p z q 0) with ⟨h1,h2⟩ | h1
 ·exact .inl ⟨h1,by rw [h2]⟩
 ·exact .inr h1
theorem UV.push (h:UV n K C s t) (hsub:∀i v,K i=some v->C i=some v) (hC:∀i,i < n->∃v,C i=some v) (a p z hd q:Int) :
 UV n K C (yd a p z hd q s) (yd a p z hd q t)\/Stk n K (yd a p z hd q s):=by
 unfold yd;by_cases hq:kR p q=true
 ·rw [if_pos hq,if_pos hq];dsimp only;rcases h.get hsub hC hd with ⟨h1,h2⟩ | h1
  ·left;rw [h2];have h3:=(h1.put (ofF a p z q 2) (t.get hd).1).put (ofF a p z q 3) 0;split
   ·exact h3.put _ _
   ·exact (h3.put _ _).put _ _
  ·right;simp only [kD h1.ne];split <;> simpa [kD h1.ne] using h1
 ·rw [if_neg hq,if_neg hq];exact .inl h
theorem UV.pull (h:UV n K C s t) (hsub:∀i v,K i=some v->C i=some v) (hC:∀i,i < n->∃v,C i=some v) (a p z hd q:Int) :
 UV n K C (qG a p z hd q s) (qG a p z hd q t)\/Stk n K (qG a p z hd q s):=by
 unfold qG;by_cases hq:kR p q=true
 ·rw [if_pos hq,if_pos hq];dsimp only;rcases h.get hsub hC (ofF a p z q 2) with ⟨h1,h2⟩ | h1
  ·rw [h2];rcases h1.get hsub hC (ofF a p z q 3) with ⟨h3,h4⟩ | h3
   ·left;rw [h4];generalize ((s.get (ofF a p z q 2)).2.get (ofF a p z q 3)).2=s3 at*
    generalize ((t.get (ofF a p z q 2)).2.get (ofF a p z q 3)).2=t3 at*
    generalize ((t.get (ofF a p z q 2)).2.get (ofF a p z q 3)).1=f at*
    generalize (t.get (ofF a p z q 2)).1=g at*
    clear h1 h2 h4 h;have k1:UV n K C (if f=0 then s3.put hd g else s3.put (ofF a p z (f - 1) 2) g) (if f=0 then t3.put hd g else t3.put (ofF a p z (f - 1) 2) g):=by
     split
     ·exact h3.put _ _
     ·exact h3.put _ _
    generalize (if f=0 then s3.put hd g else s3.put (ofF a p z (f - 1) 2) g)=s4 at*
    generalize (if f=0 then t3.put hd g else t3.put (ofF a p z (f - 1) 2) g)=t4 at*
    have k2:UV n K C (if g=0 then s4 else s4.put (ofF a p z (g - 1) 3) f) (if g=0 then t4 else t4.put (ofF a p z (g - 1) 3) f):=by
     split
     ·exact k1
     ·exact k1.put _ _
    exact (k2.put _ _).put _ _
   ·right;simp only [kD h3.ne,ite_self];exact h3
  ·right;simp only [yw h1.ne,kD h1.ne,ite_self];exact h1
 ·rw [if_neg hq,if_neg hq];exact .inl h
theorem UV.drop (h:UV n K C s t) (hsub:∀i v,K i=some v->C i=some v) (hC:∀i,i < n->∃v,C i=some v) (a p z q:Int) :
 (UV n K C (qA a p z q s).2 (qA a p z q t).2/\(qA a p z q s).1=(qA a p z q t).1)\/Stk n K (qA a p z q s).2:=by
 unfold qA;by_cases hq:kR p q=true
 ·rw [if_pos hq,if_pos hq];dsimp only;rcases h.free hsub hC a p z q with ⟨h1,h2⟩ | h1
  ·rw [h2];split
   ·exact .inl ⟨h1,rfl⟩
   ·rcases h1.pull hsub hC a p z (kq 2 (qr (jF a p z q t).1) 11) q with h3 | h3
    ·exact .inl ⟨h3,rfl⟩
    ·exact .inr h3
  ·right;split
   ·exact h1
   ·rw [Kf h1.ne];exact h1
 ·rw [if_neg hq,if_neg hq];exact .inl ⟨h,rfl⟩
theorem UV.add (h:UV n K C s t) (hsub:∀i v,K i=some v->C i=some v) (hC:∀i,i < n->∃v,C i=some v) (a p z q m:Int) :
 UV n K C (JK a p z q m s) (JK a p z q m t)\/Stk n K (JK a p z q m s):=by
 unfold JK;by_cases hq:0<=q/\q < p/\1<=m/\m<=p - q
 ·rw [if_pos hq,if_pos hq];unfold addF;exact ((h.put _ _).put _ _).push hsub hC _ _ _ _ _
 ·rw [if_neg hq,if_neg hq];exact .inl h
theorem UV.join (h:UV n K C s t) (hsub:∀i v,K i=some v->C i=some v) (hC:∀i,i < n->∃v,C i=some v) (a p z q b:Int) :
 (UV n K C (qp a p z q b s).2 (qp a p z q b t).2/\(qp a p z q b s).1=(qp a p z q b t).1)\/Stk n K (qp a p z q b s).2:=by
 unfold qp;dsimp only;rcases h.drop hsub hC a p z q with ⟨h1,h2⟩ | h1
 ·exact .inl ⟨(h1.put _ _).put _ _,h2⟩
 ·right;rw [kD h1.ne,kD h1.ne];exact h1
theorem UV.fore (h:UV n K C s t) (hsub:∀i v,K i=some v->C i=some v) (hC:∀i,i < n->∃v,C i=some v) (a p z r l:Int) :
 (UV n K C (qq a p z r l s).2 (qq a p z r l t).2/\(qq a p z r l s).1=(qq a p z r l t).1)\/Stk n K (qq a p z r l s).2:=by
 unfold qq;by_cases hq:r < p
 ·rw [if_pos hq,if_pos hq];dsimp only;rcases h.free hsub hC a p z r with ⟨h1,h2⟩ | h1
  ·rw [h2];split
   ·exact .inl ⟨h1,rfl⟩
   ·rcases h1.join hsub hC a p z r r with ⟨h3,h4⟩ | h3
    ·exact .inl ⟨h3,by dsimp only;rw [h4]⟩
    ·exact .inr h3
  ·right;split
   ·exact h1
   ·rw [Qs h1.ne];exact h1
 ·rw [if_neg hq,if_neg hq];exact .inl ⟨h,rfl⟩
theorem UV.back (h:UV n K C s t) (hsub:∀i v,K i=some v->C i=some v) (hC:∀i,i < n->∃v,C i=some v) (a p z q m:Int) :
 (UV n K C (ql a p z q m s).2 (ql a p z q m t).2/\(ql a p z q m s).1=(ql a p z q m t).1)\/Stk n K (ql a p z q m s).2:=by
 have ha:(UV n K C (jZ a p z q s).2 (jZ a p z q t).2/\(jZ a p z q s).1=(jZ a p z q t).1)\/Stk n K (jZ a p z q s).2:=by
  unfold jZ;split
  ·exact .inl ⟨h,rfl⟩
  ·rcases h.get hsub hC (ofF a p z (q - 1) 1) with ⟨h1,h2⟩ | h1
   ·exact .inl ⟨h1,by dsimp only;rw [h2]⟩
   ·exact .inr h1
 unfold ql;dsimp only;rcases ha with ⟨h1,h2⟩ | h1
 ·rw [h2];split
  ·exact .inl ⟨h1,rfl⟩
  ·rcases h1.free hsub hC a p z (jZ a p z q t).1 with ⟨h3,h4⟩ | h3
   ·rw [h4];split
    ·exact .inl ⟨h3,rfl⟩
    ·rcases h3.join hsub hC a p z (jZ a p z q t).1 q with ⟨h5,h6⟩ | h5
     ·exact .inl ⟨h5,by dsimp only;rw [h6]⟩
     ·exact .inr h5
   ·right;split
    ·exact h3
    ·rw [Qs h3.ne];exact h3
 ·right;split
  ·exact h1
  ·rw [Qu h1.ne];split
   ·exact h1
   ·rw [Qs h1.ne];exact h1
theorem UV.count (h:UV n K C s t) (hsub:∀i v,K i=some v->C i=some v) (hC:∀i,i < n->∃v,C i=some v) (m:Int) :
 UV n K C (qB m s) (qB m t)\/Stk n K (qB m s):=by
 unfold qB;rcases h.get hsub hC 0 with ⟨h1,h2⟩ | h1
 ·rw [h2];exact .inl (h1.put _ _)
 ·right;rw [kD h1.ne];exact h1
theorem UV.release (h:UV n K C s t) (hsub:∀i v,K i=some v->C i=some v) (hC:∀i,i < n->∃v,C i=some v) (a p z q m:Int) :
 UV n K C (j7 a p z q m s) (j7 a p z q m t)\/Stk n K (j7 a p z q m s):=by
 unfold j7;dsimp only;rcases h.back hsub hC a p z q m with ⟨h1,h2⟩ | h1
 ·rw [h2];rcases h1.fore hsub hC a p z (q+m) (ql a p z q m t).1.2 with ⟨h3,h4⟩ | h3
  ·rw [h4];rcases h3.add hsub hC a p z (ql a p z q m t).1.1 (qq a p z (q+m) (ql a p z q m t).1.2 (ql a p z q m t).2).1 with h5 | h5
   ·exact h5.count hsub hC m
   ·right;rw [JE h5.ne];exact h5
  ·right;rw [YM h3.ne,JE h3.ne];exact h3
 ·right;rw [Vs h1.ne,YM h1.ne,JE h1.ne];exact h1
theorem UV.sweep (h:UV n K C s t) (hsub:∀i v,K i=some v->C i=some v) (hC:∀i,i < n->∃v,C i=some v) (a p z q:Int) :
 (UV n K C (jP a p z q s).2 (jP a p z q t).2/\(jP a p z q s).1=(jP a p z q t).1)\/Stk n K (jP a p z q s).2:=by
 unfold jP;by_cases hq:kR p q=true
 ·rw [if_pos hq,if_pos hq];dsimp only;rcases h.get hsub hC (ofF a p z q 0) with ⟨h1,h2⟩ | h1
  ·rw [h2];split
   ·rcases h1.get hsub hC (ofF a p z q 4) with ⟨h3,h4⟩ | h3
    ·rw [h4];rcases h3.get hsub hC (ofF a p z q 5) with ⟨h5,h6⟩ | h5
     ·rw [h6];split
      ·exact .inl ⟨h5,rfl⟩
      ·have h7:=h5.put (ofF a p z q 5) (((t.get (ofF a p z q 0)).2.get (ofF a p z q 4))).1;have hp:=h7.pull hsub hC a p z (13+iC (t.get (ofF a p z q 0)).1) q;have hs:=h7.push hsub hC a p z (13+iC (t.get (ofF a p z q 0)).1) q;split
       ·split
        ·rcases h7.release hsub hC a p z q 1 with h8 | h8
         ·exact .inl ⟨h8,rfl⟩
         ·exact .inr h8
        ·rcases hp with h8 | h8
         ·rcases h8.release hsub hC a p z q 1 with h9 | h9
          ·exact .inl ⟨h9,rfl⟩
          ·exact .inr h9
         ·right;rw [yC h8.ne];exact h8
       ·split
        ·rcases hs with h8 | h8
         ·exact .inl ⟨h8,rfl⟩
         ·exact .inr h8
        ·exact .inl ⟨h7,rfl⟩
     ·right;simp only [kD h5.ne,Kf h5.ne,Kd h5.ne,yC h5.ne,ite_self];split <;> exact h5
    ·right;simp only [yw h3.ne,kD h3.ne,Kf h3.ne,Kd h3.ne,yC h3.ne,ite_self];split <;> exact h3
   ·exact .inl ⟨h1,rfl⟩
  ·right;simp only [yw h1.ne,kD h1.ne,Kf h1.ne,Kd h1.ne,yC h1.ne,ite_self];repeat' split
   all_goals exact h1
 ·rw [if_neg hq,if_neg hq];exact .inl ⟨h,rfl⟩
end
end

def upI (f:Int->Int) (a v:Int):Int->Int:=fun x=>if x=a then v else f x
theorem ju (f:Int->Int) (a v:Int):upI f a v a=v:=by simp [upI]
theorem jf {f:Int->Int} {a x:Int} (v:Int) (h:x≠a):upI f a v x=f x:=by simp [upI,h]
def seg (nx pv:Int->Int) (q ah:Int):List Int->Int->Int->Prop
 | [],r,e=>r=q/\e=ah
 | x :: l,r,e=>q=x+1/\pv x=ah/\seg nx pv (nx x) (x+1) l r e
theorem Kx {nx pv:Int->Int}:∀(A B:List Int) (q ah r e:Int),seg nx pv q ah (A++B) r e↔∃m am,seg nx pv q ah A m am/\seg nx pv m am B r e
 | [],B,q,ah,r,e=>⟨fun h=>⟨q,ah,⟨rfl,rfl⟩,h⟩,fun ⟨_,_,h1,h⟩=>by obtain ⟨rfl,rfl⟩:=h1;exact h⟩
 | x :: A,B,q,ah,r,e=>by
  simp only [List.cons_append,seg];rw [Kx A B];constructor
  ·rintro ⟨h1,h2,m,am,h3,h4⟩;exact ⟨m,am,⟨h1,h2,h3⟩,h4⟩
  ·rintro ⟨m,am,⟨h1,h2,h3⟩,h4⟩;exact ⟨h1,h2,m,am,h3,h4⟩
theorem yO {nx pv nx' pv':Int->Int}:∀(l:List Int) (q ah r e:Int),(∀x∈l,nx' x=nx x/\pv' x=pv x)->seg nx pv q ah l r e->seg nx' pv' q ah l r e
 | [],_,_,_,_,_,h=>h
 | x :: l,q,ah,r,e,hc,h=>by
  obtain ⟨h1,h2,h3⟩:=h;obtain ⟨c1,c2⟩:=hc x zT;refine ⟨h1,by rw [c2];exact h2,?_⟩;rw [c1];exact yO l _ _ _ _ (fun y hy=>hc y (by simp [hy])) h3
theorem QR {nx pv:Int->Int}:∀(A:List Int) (q ah m am:Int),seg nx pv q ah A m am->(A=[]/\m=q/\am=ah)\/∃A' z,A=A'++[z]/\am=z+1/\m=nx z
 | [],q,ah,m,am,h=>Or.inl ⟨rfl,h.1,h.2⟩
 | x :: A,q,ah,m,am,h=>by
  obtain ⟨h1,h2,h3⟩:=h;rcases QR A _ _ _ _ h3 with ⟨e,h4,h5⟩ | ⟨A',z,e,h4,h5⟩
  ·subst e;exact Or.inr ⟨[],x,rfl,h5,h4⟩
  ·subst e;exact Or.inr ⟨x :: A',z,rfl,h4,h5⟩
def YQ (p:Int) (hd:Int->Int) (nx pv:Int->Int) (h:Int) (l:List Int):Prop:=
 (∃e,seg nx pv (hd h) 0 l 0 e)/\l.Nodup/\∀x∈l,0<=x/\x < p
def Jn (hd nx pv:Int->Int) (h q:Int):Int->Int:=if pv q=0 then upI hd h (nx q) else hd
def y7 (nx pv:Int->Int) (q:Int):Int->Int:=upI (if pv q=0 then nx else upI nx (pv q - 1) (nx q)) q 0
def yZ (nx pv:Int->Int) (q:Int):Int->Int:=upI (if nx q=0 then pv else upI pv (nx q - 1) (pv q)) q 0
theorem V9 {p:Int} {hd nx pv:Int->Int} {h q:Int} {A B:List Int} (hl:YQ p hd nx pv h (A++q :: B)) :
 ((A=[]/\pv q=0/\hd h=q+1)\/∃A' z,A=A'++[z]/\pv q=z+1/\nx z=q+1/\0<=z/\z < p)/\
 ((B=[]/\nx q=0)\/∃y B',B=y :: B'/\nx q=y+1/\0<=y/\y < p):=by
 obtain ⟨⟨e,hs⟩,hn,hb⟩:=hl;obtain ⟨m,am,h1,h2⟩:=(Kx _ _ _ _ _ _).1 hs;obtain ⟨h3,h4,h5⟩:=h2;constructor
 ·rcases QR _ _ _ _ _ h1 with ⟨e1,e2,e3⟩ | ⟨A',z,e1,e2,e3⟩
  ·exact Or.inl ⟨e1,zo,zo⟩
  ·subst e1;have:=hb z zT;exact Or.inr ⟨A',z,rfl,zo,zo,this⟩
 ·cases B with
  | nil=>exact Or.inl ⟨rfl,h5.1.symm⟩
  | cons y B'=>
   have:=hb y zT;exact Or.inr ⟨y,B',rfl,h5.1,this⟩
theorem pull_law {p:Int} {hd nx pv:Int->Int} {h q:Int} {A B:List Int} (hl:YQ p hd nx pv h (A++q :: B)) :
 YQ p (Jn hd nx pv h q) (y7 nx pv q) (yZ nx pv q) h (A++B):=by
 obtain ⟨⟨e,hs⟩,hn,hb⟩:=hl;have hn2:(A++B).Nodup:=by
  simp only [List.nodup_append,List.nodup_cons,List.mem_cons] at hn ⊢;exact ⟨hn.1,hn.2.1.2,fun a ha b hb=>hn.2.2 a ha b (Or.inr hb)⟩
 refine ⟨?_,hn2,fun x hx=>hb x (by simp only [List.mem_append,List.mem_cons] at hx ⊢;rcases hx with h | h <;> simp [h])⟩;obtain ⟨m,am,h1,h3,h4,h5⟩:=(Kx _ _ _ _ _ _).1 hs;have hqA:q ∉ A:=by
  simp only [List.nodup_append,List.mem_cons] at hn;exact fun hq=>hn.2.2 q hq q (Or.inl rfl) rfl
 have hqB:q ∉ B:=by
  simp only [List.nodup_append,List.nodup_cons] at hn;exact hn.2.1.1
 have hAB:∀a∈A,∀b∈B,a≠b:=by
  simp only [List.nodup_append] at hn2;exact hn2.2.2
 -- behind A stands n, with am ahead
 have key:seg (y7 nx pv q) (yZ nx pv q) (Jn hd nx pv h q h) 0 A (nx q) am:=by
  rcases QR _ _ _ _ _ h1 with ⟨e1,e2,e3⟩ | ⟨A',z,e1,e2,e3⟩
  ·subst e1;have hp0:pv q=0:=zo;simp [seg,Jn,hp0,ju];omega
  ·subst e1;have hzq:z≠q:=fun e=>hqA (by simp [e]);have hz:=hb z zT;have hp0:pv q≠0:=zo;have hpz:pv q - 1=z:=zo;obtain ⟨m2,am2,g1,g2,g3,g4,g5⟩:=(Kx _ _ _ _ _ _).1 h1;have hzA:z ∉ A':=by
    have:(A'++[z]).Nodup:=by simp only [List.nodup_append] at hn2 ⊢;exact hn2.1
    simp only [List.nodup_append,List.mem_singleton] at this;exact fun hz=>this.2.2 z hz z rfl rfl
   have hnp:∀x∈A'++[z],yZ nx pv q x=pv x:=by
    intro x hx;have hxq:x≠q:=fun e=>hqA (e ▸ hx);unfold yZ;rw [jf _ hxq];split
    ·rfl
    ·refine jf _ fun e=> ?_;cases B with
     | nil=>have:=h5.1;omega
     | cons y B'=>have:=h5.1;exact hAB x hx y zT zo
   rw [show Jn hd nx pv h q h=hd h by unfold Jn;rw [if_neg hp0]];refine (Kx _ _ _ _ _ _).2 ⟨m2,am2,yO _ _ _ _ _ (fun x hx=>⟨?_,hnp x (by simp [hx])⟩) g1,g2,by rw [hnp z zT];exact g3,?_,e2⟩
   ·have hxq:x≠q:=fun e=>hqA (by simp [<-e,hx]);have hxz:x≠pv q - 1:=fun e=>hzA (by rw [<-hpz,<-e];exact hx);unfold y7;rw [jf _ hxq,if_neg hp0,jf _ hxz]
   ·unfold y7;rw [jf _ hzq,if_neg hp0,hpz,ju]
 -- B, with am ahead
 have hBn:∀x∈B,y7 nx pv q x=nx x:=by
  intro x hx;have hxq:x≠q:=fun e=>hqB (e ▸ hx);unfold y7;rw [jf _ hxq];split
  ·rfl
  ·refine jf _ fun e=> ?_;rcases QR _ _ _ _ _ h1 with ⟨e1,e2,e3⟩ | ⟨A',z,e1,e2,e3⟩
   ·omega
   ·exact hAB z (by rw [e1];simp) x hx zo
 have hpam:pv q=am:=zo;cases B with
 | nil=>
  refine ⟨am,(Kx _ _ _ _ _ _).2 ⟨nx q,am,key,?_⟩⟩;exact ⟨h5.1,rfl⟩
 | cons y B'=>
  obtain ⟨g1,g2,g3⟩:=h5;have hy:=hb y zT;have hyq:y≠q:=fun e=>hqB (by simp [e]);have hyB:y ∉ B':=by
   simp only [List.nodup_append,List.nodup_cons] at hn2;exact hn2.2.1.1
  refine ⟨e,(Kx _ _ _ _ _ _).2 ⟨nx q,am,key,g1,?_,?_⟩⟩
  ·unfold yZ;rw [jf _ hyq,if_neg zo,show nx q - 1=y by omega,ju,hpam]
  ·rw [hBn y zT];refine yO _ _ _ _ _ (fun x hx=>⟨hBn x (by simp [hx]),?_⟩) g3;have hxq:x≠q:=fun e=>hqB (by simp [<-e,hx]);unfold yZ;rw [jf _ hxq,if_neg zo,jf _ (fun e=>hyB (by rw [show y=x by omega];exact hx))]
theorem jcQ {p:Int} {hd nx pv:Int->Int} {h h' q:Int} {A B l:List Int} (hl:YQ p hd nx pv h (A++q :: B)) (hl':YQ p hd nx pv h' l) (hh:h'≠h) (hd':∀x∈l,x ∉ A++q :: B) :
 YQ p (Jn hd nx pv h q) (y7 nx pv q) (yZ nx pv q) h' l:=by
 obtain ⟨c1,c2⟩:=V9 hl;obtain ⟨⟨e,hs⟩,hn,hb⟩:=hl';have e1:Jn hd nx pv h q h'=hd h':=by
  unfold Jn;split;· exact jf _ hh
  ·rfl
 refine ⟨⟨e,?_⟩,hn,hb⟩;rw [e1];refine yO _ _ _ _ _ (fun x hx=> ?_) hs;have hx2:=hd' x hx;have hxq:x≠q:=fun e=>hx2 (by simp [e]);constructor
 ·unfold y7;rw [jf _ hxq];split
  ·rfl
  ·rename_i h0;refine jf _ fun e=>hx2 ?_;rcases c1 with ⟨_,h3,_⟩ | ⟨A',z,h3,h4,_⟩
   ·exact absurd h3 h0
   ·rw [h3,show x=z by omega];simp
 ·unfold yZ;rw [jf _ hxq];split
  ·rfl
  ·rename_i h0;refine jf _ fun e=>hx2 ?_;rcases c2 with ⟨_,h3⟩ | ⟨y,B',h3,h4,_⟩
   ·exact absurd h3 h0
   ·rw [h3,show x=y by omega];simp
def JR (hd nx:Int->Int) (h q:Int):Int->Int:=upI nx q (hd h)
def Jm (hd pv:Int->Int) (h q:Int):Int->Int:=if hd h=0 then upI pv q 0 else upI (upI pv q 0) (hd h - 1) (q+1)
theorem push_law {p:Int} {hd nx pv:Int->Int} {h q:Int} {l:List Int} (hl:YQ p hd nx pv h l) (hq:q ∉ l) (h0:0<=q) (h1:q < p) :
 YQ p (upI hd h (q+1)) (JR hd nx h q) (Jm hd pv h q) h (q :: l):=by
 obtain ⟨⟨e,hs⟩,hn,hb⟩:=hl;refine ⟨?_,List.nodup_cons.2 ⟨hq,hn⟩,fun x hx=> ?_⟩
 ·cases l with
  | nil=>
   have h2:hd h=0:=hs.1.symm;refine ⟨q+1,by simp [ju],?_,?_,rfl⟩
   ·simp [Jm,h2,ju]
   ·simp [JR,ju,h2]
  | cons y l=>
   obtain ⟨g1,g2,g3⟩:=hs;have hy:=hb y zT;have hyq:y≠q:=fun e=>hq (by simp [e]);have hyl:y ∉ l:=(List.nodup_cons.1 hn).1;refine ⟨e,by simp [ju],?_,?_⟩
   ·unfold Jm;rw [if_neg zo,jf _ zo,ju]
   ·refine ⟨by simp [JR,ju];omega,?_,?_⟩
    ·unfold Jm;rw [if_neg zo,show hd h - 1=y by omega,ju]
    ·have e1:JR hd nx h q y=nx y:=jf _ hyq;rw [e1];refine yO _ _ _ _ _ (fun x hx=> ?_) g3;have hxq:x≠q:=fun e=>hq (by simp [<-e,hx]);refine ⟨jf _ hxq,?_⟩;unfold Jm;rw [if_neg zo,jf _ (fun e=>hyl (by rw [show y=x by omega];exact hx)),jf _ hxq]
 ·simp at hx;rcases hx with rfl | hx
  ·exact ⟨h0,h1⟩
  ·exact hb x hx

def wl (l:List (Nat×Int)) (i:Nat):Option Int:=(wix l i).bind fun j=>l[j]?.map (·.2)
theorem Ku (x:Nat×Int) (l:List (Nat×Int)) (i:Nat):wl (x :: l) i=if x.1=i then some x.2 else wl l i:=by
 unfold wl;by_cases h:x.1=i
 ·simp [wix,h]
 ·simp only [wix,h,if_false];cases wix l i <;> simp
theorem jdW (x:Nat×Int) (l:List (Nat×Int)) (i:Nat) (v:Int):VS.setW (x :: l) i v=if x.1=i then (i,v) :: l else x :: VS.setW l i v:=by
 unfold VS.setW;by_cases h:x.1=i
 ·simp [wix,h]
 ·simp only [wix,h,if_false];cases wix l i <;> simp
theorem jbD (i:Nat) (v:Int) (j:Nat):∀l:List (Nat×Int),wl (VS.setW l i v) j=if j=i then some v else wl l j
 | []=>by
  have:VS.setW [] i v=[(i,v)]:=rfl;rw [this,Ku];by_cases h:j=i
  ·simp [h]
  ·rw [if_neg (fun e=>h e.symm),if_neg h]
 | x :: l=>by
  rw [jdW];by_cases h:x.1=i
  ·rw [if_pos h,Ku,Ku];by_cases h2:j=i
   ·simp [h2]
   ·rw [if_neg (fun e=>h2 e.symm),if_neg h2,if_neg (fun e=>h2 (by rw [<-e,h]))]
  ·rw [if_neg h,Ku,Ku,jbD i v j l];by_cases h2:j=i
   ·subst h2;simp [h]
   ·by_cases h3:x.1=j
    ·simp [h3,h2]
    ·simp [h3,h2]
def vat (s:VS) (i:Nat):Option Int:=match wl s.writes i with | some v=>some v | none=>s.known i
theorem Q2 {s:VS} {i:Int} {v:Int} (h0:0<=i) (h1:i < s.n) (hm:s.miss=none) (hv:vat s i.toNat=some v) :
 (s.get i).1=v/\(∀j,vat (s.get i).2 j=vat s j)/\(s.get i).2.n=s.n/\(s.get i).2.miss=none:=by
 have ht:s.there i=true:=VS.there_iff.2 ⟨h0,h1,hm⟩;unfold VS.get;rw [if_pos ht];have hw:s.wr i.toNat=wl s.writes i.toNat:=rfl;rw [hw];unfold vat at hv;cases hx:wl s.writes i.toNat with
 | some u=>rw [hx] at hv;simp at hv;subst hv;exact ⟨rfl,fun _=>rfl,rfl,hm⟩
 | none=>
  rw [hx] at hv;simp only at hv;simp only [hv];refine ⟨trivial,fun j=> ?_,?_,?_⟩;all_goals
   unfold VS.read1;split
   ·first | rfl | exact hm
   ·first | rfl | exact hm
theorem VD {s:VS} {i:Int} (v:Int) (h0:0<=i) (h1:i < s.n) (hm:s.miss=none) :
 (∀j,vat (s.put i v) j=if j=i.toNat then some v else vat s j)/\(s.put i v).n=s.n/\(s.put i v).miss=none:=by
 have ht:s.there i=true:=VS.there_iff.2 ⟨h0,h1,hm⟩;unfold VS.put;rw [if_pos ht];refine ⟨fun j=> ?_,rfl,hm⟩;unfold vat;simp only [jbD];by_cases h:j=i.toNat
 ·simp [h]
 ·simp [h]
structure HV (t p s:Int) (hd nx pv:Int->Int) (st:VS):Prop where
 right:jq t p s=true
 num:(st.n:Int)=30+4*t+6*p
 miss:st.miss=none
 hd:∀h,2<=h->h<=21->vat st h.toNat=some (hd h)
 nx:∀q,0<=q->q < p->vat st (30+4*t+6*q+2).toNat=some (nx q)
 pv:∀q,0<=q->q < p->vat st (30+4*t+6*q+3).toNat=some (pv q)
section
variable {t p s:Int} {hd nx pv:Int->Int} {st:VS}
theorem HV.of (h:HV t p s hd nx pv st) {q part:Int} (h0:0<=q) (h1:q < p):ofF t p s q part=30+4*t+6*q+part:=by
 simp [ofF,h.right,h0,h1]
theorem HV.tk (h:HV t p s hd nx pv st) {i v:Int} (h0:0<=i) (h1:i < st.n) (hv:vat st i.toNat=some v):(st.get i).1=v/\HV t p s hd nx pv (st.get i).2:=by
 obtain ⟨e1,e2,e3,e4⟩:=Q2 h0 h1 h.miss hv;exact ⟨e1,h.right,by rw [e3];exact h.num,e4,fun a b c=>by rw [e2];exact h.hd a b c,fun a b c=>by rw [e2];exact h.nx a b c,fun a b c=>by rw [e2];exact h.pv a b c⟩
theorem HV.get_hd (h:HV t p s hd nx pv st) {a:Int} (h2:2<=a) (h21:a<=21):(st.get a).1=hd a/\HV t p s hd nx pv (st.get a).2:=by
 have:=h.num;have:=jn h.right;exact h.tk zo zo (h.hd a h2 h21)
theorem HV.get_nx (h:HV t p s hd nx pv st) {q:Int} (h0:0<=q) (h1:q < p):(st.get (ofF t p s q 2)).1=nx q/\HV t p s hd nx pv (st.get (ofF t p s q 2)).2:=by
 have:=h.num;have:=jn h.right;rw [h.of h0 h1];exact h.tk zo zo (h.nx q h0 h1)
theorem HV.get_pv (h:HV t p s hd nx pv st) {q:Int} (h0:0<=q) (h1:q < p):(st.get (ofF t p s q 3)).1=pv q/\HV t p s hd nx pv (st.get (ofF t p s q 3)).2:=by
 have:=h.num;have:=jn h.right;rw [h.of h0 h1];exact h.tk zo zo (h.pv q h0 h1)
theorem HV.put_hd (h:HV t p s hd nx pv st) {a:Int} (v:Int) (h2:2<=a) (h21:a<=21):HV t p s (upI hd a v) nx pv (st.put a v):=by
 have hn:=h.num;have hr:=jn h.right;obtain ⟨e1,e2,e3⟩:=VD (s:=st) (i:=a) v zo zo h.miss;refine ⟨h.right,by rw [e2];exact hn,e3,fun b c d=> ?_,fun b c d=> ?_,fun b c d=> ?_⟩
 ·rw [e1];by_cases e:b=a
  ·subst e;rw [if_pos rfl,ju]
  ·rw [if_neg zo,jf _ e];exact h.hd b c d
 ·rw [e1,if_neg zo];exact h.nx b c d
 ·rw [e1,if_neg zo];exact h.pv b c d
theorem HV.put_nx (h:HV t p s hd nx pv st) {q:Int} (v:Int) (h0:0<=q) (h1:q < p):HV t p s hd (upI nx q v) pv (st.put (ofF t p s q 2) v):=by
 have hn:=h.num;have hr:=jn h.right;rw [h.of h0 h1];obtain ⟨e1,e2,e3⟩:=VD (s:=st) (i:=30+4*t+6*q+2) v zo zo h.miss;refine ⟨h.right,by rw [e2];exact hn,e3,fun b c d=> ?_,fun b c d=> ?_,fun b c d=> ?_⟩
 ·rw [e1,if_neg zo];exact h.hd b c d
 ·rw [e1];by_cases e:b=q
  ·subst e;rw [if_pos rfl,ju]
  ·rw [if_neg zo,jf _ e];exact h.nx b c d
 ·rw [e1,if_neg zo];exact h.pv b c d
theorem HV.put_pv (h:HV t p s hd nx pv st) {q:Int} (v:Int) (h0:0<=q) (h1:q < p):HV t p s hd nx (upI pv q v) (st.put (ofF t p s q 3) v):=by
 have hn:=h.num;have hr:=jn h.right;rw [h.of h0 h1];obtain ⟨e1,e2,e3⟩:=VD (s:=st) (i:=30+4*t+6*q+3) v zo zo h.miss;refine ⟨h.right,by rw [e2];exact hn,e3,fun b c d=> ?_,fun b c d=> ?_,fun b c d=> ?_⟩
 ·rw [e1,if_neg zo];exact h.hd b c d
 ·rw [e1,if_neg zo];exact h.nx b c d
 ·rw [e1];by_cases e:b=q
  ·subst e;rw [if_pos rfl,ju]
  ·rw [if_neg zo,jf _ e];exact h.pv b c d
theorem Qp {q:Int} (h0:0<=q) (h1:q < p):kR p q=true:=by simp [kR,h0,h1]
theorem HV.pull (h:HV t p s hd nx pv st) {a q:Int} {A B:List Int} (h2:2<=a) (h21:a<=21) (hl:YQ p hd nx pv a (A++q :: B)) :
 HV t p s (Jn hd nx pv a q) (y7 nx pv q) (yZ nx pv q) (qG t p s a q st):=by
 obtain ⟨c1,c2⟩:=V9 hl;have hq:=hl.2.2 q zT;unfold qG;rw [if_pos (Qp hq.1 hq.2)];obtain ⟨g1,g2⟩:=h.get_nx hq.1 hq.2;obtain ⟨f1,f2⟩:=g2.get_pv hq.1 hq.2;simp only [g1,f1];unfold Jn y7 yZ;by_cases hb:pv q=0
 ·have k1:=f2.put_hd (nx q) h2 h21;by_cases hn:nx q=0
  ·simp only [hb,hn,if_true] at k1 ⊢;exact (k1.put_nx 0 hq.1 hq.2).put_pv 0 hq.1 hq.2
  ·have hy:0<=nx q - 1/\nx q - 1 < p:=by
    rcases c2 with ⟨_,h3⟩ | ⟨y,B',h3,h4,h5⟩
    ·exact absurd h3 hn
    ·omega
   simp only [hb,hn,if_true,if_false] at k1 ⊢;exact ((k1.put_pv 0 hy.1 hy.2).put_nx 0 hq.1 hq.2).put_pv 0 hq.1 hq.2
 ·have hz:0<=pv q - 1/\pv q - 1 < p:=by
   rcases c1 with ⟨_,h3,_⟩ | ⟨A',z,h3,h4,h5,h6⟩
   ·exact absurd h3 hb
   ·omega
  have k1:=f2.put_nx (nx q) hz.1 hz.2;by_cases hn:nx q=0
  ·simp only [hb,hn,if_true,if_false] at k1 ⊢;exact (k1.put_nx 0 hq.1 hq.2).put_pv 0 hq.1 hq.2
  ·have hy:0<=nx q - 1/\nx q - 1 < p:=by
    rcases c2 with ⟨_,h3⟩ | ⟨y,B',h3,h4,h5⟩
    ·exact absurd h3 hn
    ·omega
   simp only [hb,hn,if_false] at k1 ⊢;exact ((k1.put_pv (pv q) hy.1 hy.2).put_nx 0 hq.1 hq.2).put_pv 0 hq.1 hq.2
theorem HV.push (h:HV t p s hd nx pv st) {a q:Int} {l:List Int} (h2:2<=a) (h21:a<=21) (hl:YQ p hd nx pv a l) (h0:0<=q) (h1:q < p) :
 HV t p s (upI hd a (q+1)) (JR hd nx a q) (Jm hd pv a q) (yd t p s a q st):=by
 unfold yd;rw [if_pos (Qp h0 h1)];obtain ⟨g1,g2⟩:=h.get_hd h2 h21;simp only [g1];have k2:=(g2.put_nx (hd a) h0 h1).put_pv 0 h0 h1;unfold JR Jm;by_cases hz:hd a=0
 ·simp only [hz,if_true] at k2 ⊢;exact k2.put_hd (q+1) h2 h21
 ·have hy:0<=hd a - 1/\hd a - 1 < p:=by
   obtain ⟨⟨e,hs⟩,-,hb⟩:=hl;cases l with
   | nil=>exact absurd hs.1.symm hz
   | cons y l=>have:=hb y zT;have:=hs.1;omega
  simp only [hz,if_false];exact (k2.put_pv (q+1) hy.1 hy.2).put_hd (q+1) h2 h21
end

section
variable {s t:VS}
end
theorem jaO {t p z:Int} {c:Int->Int} {st:VS} (q:Int) (hc:∀i:Int,0<=i->i < st.n->vat st i.toNat=some (c i)) (hm:st.miss=none) (h:0<=ofF t p z q 0/\ofF t p z q 0 < st.n/\0<=ofF t p z q 4/\ofF t p z q 4 < st.n/\0<=ofF t p z q 5/\ofF t p z q 5 < st.n)
 (he:iK (c (ofF t p z q 0))=3->c (ofF t p z q 4)=c (ofF t p z q 5)):(jP t p z q st).1=false/\(jP t p z q st).2.writes=st.writes:=by
 obtain ⟨a0,a1,a2,a3,a4,a5⟩:=h;obtain ⟨g1,g2,g3,g4⟩:=Q2 a0 a1 hm (hc _ a0 a1);obtain ⟨l1,l2,l3,l4⟩:=Q2 (s:=(st.get (ofF t p z q 0)).2) a2 (by rw [g3];exact a3) g4 (by rw [g2];exact hc _ a2 a3);obtain ⟨k1,k2,k3,k4⟩:=Q2 (s:=((st.get (ofF t p z q 0)).2.get (ofF t p z q 4)).2) a4 (by rw [l3,g3];exact a5) l4 (by rw [l2,g2];exact hc _ a4 a5);unfold jP;dsimp only;rw [g1,l1,k1];split
 ·split
  ·rename_i h3;rw [if_pos (he h3)];exact ⟨rfl,by simp only [yk]⟩
  ·exact ⟨rfl,by simp only [yk]⟩
 ·exact ⟨rfl,rfl⟩
section
variable {R:VS->Prop} (hg:∀s i,R s->R (s.get i).2) (hp:∀s i v,R s->R (s.put i v))
include hg hp
theorem XW {s:VS} (h:R s) (a p z hd q:Int):R (yd a p z hd q s):=by
 unfold yd;split
 ·dsimp only;have h3:=hp _ (ofF a p z q 3) 0 (hp _ (ofF a p z q 2) (s.get hd).1 (hg _ hd h));split
  ·exact hp _ _ _ h3
  ·exact hp _ _ _ (hp _ _ _ h3)
 ·exact h
theorem XX {s:VS} (h:R s) (a p z hd q:Int):R (qG a p z hd q s):=by
 unfold qG;split
 ·dsimp only;have h1:=hg _ (ofF a p z q 3) (hg _ (ofF a p z q 2) h);generalize ((s.get (ofF a p z q 2)).2.get (ofF a p z q 3)).2=s3 at*
  generalize ((s.get (ofF a p z q 2)).2.get (ofF a p z q 3)).1=f at*
  generalize (s.get (ofF a p z q 2)).1=g at*
  have k1:R (if f=0 then s3.put hd g else s3.put (ofF a p z (f - 1) 2) g):=by
   split
   ·exact hp _ _ _ h1
   ·exact hp _ _ _ h1
  generalize (if f=0 then s3.put hd g else s3.put (ofF a p z (f - 1) 2) g)=s4 at*
  have k2:R (if g=0 then s4 else s4.put (ofF a p z (g - 1) 3) f):=by
   split
   ·exact k1
   ·exact hp _ _ _ k1
  exact hp _ _ _ (hp _ _ _ k2)
 ·exact h
theorem jeu {s:VS} (h:R s) (a p z q:Int):R (qA a p z q s).2:=by
 unfold qA jF;split
 ·dsimp only;split
  ·exact hg _ _ h
  ·exact XX hg hp (hg _ _ h) _ _ _ _ _
 ·exact h
theorem XY {s:VS} (h:R s) (a p z q b:Int):R (qp a p z q b s).2:=hp _ _ _ (hp _ _ _ (jeu hg hp h a p z q))
theorem pres_add {s:VS} (h:R s) (a p z q m:Int):R (JK a p z q m s):=by
 unfold JK addF;split
 ·exact XW hg hp (hp _ _ _ (hp _ _ _ h)) _ _ _ _ _
 ·exact h
theorem jet {s:VS} (h:R s) (a p z r l:Int):R (qq a p z r l s).2:=by
 unfold qq jF;dsimp only;split
 ·split
  ·exact hg _ _ h
  ·exact XY hg hp (hg _ _ h) _ _ _ _ _
 ·exact h
theorem jev {s:VS} (h:R s) (a p z q m:Int):R (ql a p z q m s).2:=by
 have ha:R (jZ a p z q s).2:=by
  unfold jZ;split
  ·exact h
  ·exact hg _ _ h
 unfold ql jF;dsimp only;split
 ·exact ha
 ·split
  ·exact hg _ _ ha
  ·exact XY hg hp (hg _ _ ha) _ _ _ _ _
theorem QC {s:VS} (h:R s) (a p z q m:Int):R (j7 a p z q m s):=by
 unfold j7 qB;dsimp only;exact hp _ _ _ (hg _ _ (pres_add hg hp (jet hg hp (jev hg hp h _ _ _ _ _) _ _ _ _ _) _ _ _ _ _))
theorem jcS {s:VS} (h:R s) (a p z q:Int):R (jP a p z q s).2:=by
 unfold jP;dsimp only;have h0:=hg _ (ofF a p z q 0) h;have h1:=hg _ (ofF a p z q 4) h0;have h2:=hg _ (ofF a p z q 5) h1;split
 ·split
  ·split
   ·exact h2
   ·have h3:=hp _ (ofF a p z q 5) ((s.get (ofF a p z q 0)).2.get (ofF a p z q 4)).1 h2;dsimp only;split
    ·split
     ·exact QC hg hp h3 _ _ _ _ _
     ·exact QC hg hp (XX hg hp h3 _ _ _ _ _) _ _ _ _ _
    ·split
     ·exact XW hg hp h3 _ _ _ _ _
     ·exact h3
  ·exact h0
 ·exact h
end
def WI (n:Nat) (K:Nat->Option Int) (s:VS):Prop:=s.n=n/\s.known=K/\(s.writes.map (·.1)).Nodup/\∀x∈s.writes,x.1 < n
theorem wi_get (n:Nat) (K:Nat->Option Int) (s:VS) (i:Int) (h:WI n K s):WI n K (s.get i).2:=by
 unfold VS.get VS.read1;repeat' split
 all_goals exact h
theorem wi_put (n:Nat) (K:Nat->Option Int) (s:VS) (i v:Int) (h:WI n K s):WI n K (s.put i v):=by
 obtain ⟨h1,h2,h3,h4⟩:=h;unfold VS.put;split
 ·rename_i ht;obtain ⟨a0,a1,-⟩:=VS.there_iff.1 ht;unfold VS.setW;cases hw:wix s.writes i.toNat with
  | some j=>
   refine ⟨h1,h2,?_,fun x hx=> ?_⟩
   ·show ((s.writes.set j (i.toNat,v)).map (·.1)).Nodup;rw [VS.setW_keys_some hw];exact h3
   ·rcases List.mem_or_eq_of_mem_set hx with hx | rfl
    ·exact h4 x hx
    ·dsimp only;omega
  | none=>
   have hn:=QL.1 hw;refine ⟨h1,h2,?_,fun x hx=> ?_⟩
   ·show ((s.writes++[(i.toNat,v)]).map (·.1)).Nodup;simp only [List.map_append,List.nodup_append];exact ⟨h3,zT,fun a ha b hb=>by simp at hb;subst hb;exact fun e=>hn (e ▸ ha)⟩
   ·simp only [List.mem_append,List.mem_singleton] at hx;rcases hx with hx | rfl
    ·exact h4 x hx
    ·dsimp only;omega
 ·exact ⟨h1,h2,h3,h4⟩
theorem QM {n:Nat} {K:Nat->Option Int} {s:VS} (h:WI n K s) (t p z q:Int):WI n K (jP t p z q s).2:=jcS (wi_get n K) (wi_put n K) h t p z q

def knK (kn:List (Int×Int)) (i:Nat):Option Int:=(kn.find? fun x=>x.1 == (i:Int)).map (·.2)
def knV (n:Nat) (kn:List (Int×Int)):VS:=⟨n,knK kn,[],[],none⟩
def thF (t p z:Int) (page:Nat) (kn:List (Int×Int)):Int×List (Int×Int):=
 match (jP t p z page (knV (jk t p).toNat kn)).2.miss with
 | some i=>((i:Int),[])
 | none=>(-1,(jP t p z page (knV (jk t p).toNat kn)).2.writes.map fun x=>((x.1:Int),x.2))
theorem kn_uv (n:Nat) (kn:List (Int×Int)):UV n (knK kn) (fun i=>some ((knK kn i).getD 0)) (knV n kn) ⟨n,fun i=>some ((knK kn i).getD 0),[],[],none⟩:=⟨rfl,rfl,rfl,rfl,rfl,rfl,rfl⟩
theorem jbG (t p z:Int) (page:Nat) (kn:List (Int×Int)) :
 (∃i:Nat,(thF t p z page kn)=((i:Int),[])/\i < (jk t p).toNat/\∀x∈kn,x.1≠(i:Int))\/((thF t p z page kn).1= -1/\(thF t p z page kn).2.length<=96):=by
 unfold thF;have hk:=(kn_uv (jk t p).toNat kn).sweep (fun i v h=>by simp [h]) (fun i _=>⟨_,rfl⟩) t p z page;have hw:=wl_sweep t p z page (knV (jk t p).toNat kn);generalize (jP t p z page (knV (jk t p).toNat kn))=r at*
 rcases hk with ⟨h1,-⟩ | ⟨i,h1,h2,h3⟩
 ·right;rw [h1.sm];refine ⟨rfl,?_⟩;have h0:(knV (jk t p).toNat kn).writes.length=0:=rfl;rw [h0] at hw;dsimp only;rw [List.length_map];split at hw <;> omega
 ·left;rw [h1];refine ⟨i,rfl,h2,fun x hx e=> ?_⟩;unfold knK at h3;rw [Option.map_eq_none_iff,List.find?_eq_none] at h3;exact h3 x hx (by simp [e])
structure TS where
 ph:Nat
 i:Nat
 s:Int
 u:Int
 note:Int
 n:Int
 l:List (Int×Int)
 own:Bool
 page:Nat
 known:List (Int×Int)
 need:Int
 wr:List (Int×Int)
 made:Int
def TS.to (x:TS) (ph:Nat):TS:={ x with ph:=ph,i:=0 }
def TS.begin:TS:=⟨0,0,0,0,0,0,[],false,0,[],0,[],0⟩
def kH (t p z:Int):Nat->TS->TS
 | 0,x=>x.to 19
 | k+1,x=>
  if 0<=(thF t p z x.page x.known).1 then ({ x with need:=(thF t p z x.page x.known).1,wr:=(thF t p z x.page x.known).2 }:TS).to 10
  else if (thF t p z x.page x.known).2=[] then kH t p z k { x with need:=(thF t p z x.page x.known).1,wr:=[],page:=x.page+1,known:=[] }
  else ({ x with need:=(thF t p z x.page x.known).1,wr:=(thF t p z x.page x.known).2 }:TS).to 11
def jL (t p z:Int) (x:TS):TS:=kH t p z (p.toNat - x.page) x
def j9 (st n:Int) (o:Bool):Int:=jH st (n+if o=true then 2147483648 else 0)
def TS.openN (x:TS):Int:=j9 (x.s+1) x.wr.length true
def qt (x:TS):TS:=if x.ph=2/\(x.i:Int)=x.n then x.to 3 else x
def yc (x:TS):TS:=if x.ph=3/\x.i=x.l.length then x.to 5 else x
def yb (x:TS):TS:=if x.ph=5/\x.i=x.l.length then x.to 6 else x
def ya (x:TS):TS:=if x.ph=11/\x.i=x.wr.length then x.to 12 else x
def q8 (x:TS):TS:=if x.ph=12/\x.wr.length<=x.i then x.to 13 else x
def jY (x:TS):TS:=q8 (ya (yb (yc (qt x))))
def kI (t p z:Int) (v:Int) (x:TS):TS:=match x.ph with
 | 0=>({ x with s:=((KC v).getD (0,0)).1,u:=((KC v).getD (0,0)).2 }:TS).to 1
 | 1=>match qg v x.s with
  | none=>jL t p z x
  | some n=>({ x with note:=v,n:=n }:TS).to 2
 | 2=>{ x with l:=x.l++[(qj v).getD (0,0)],i:=x.i+1 }
 | 3=>if hiW v < hiW x.note then { x with ph:=4 } else { x with i:=x.i+1 }
 | 4=>{ x with ph:=3,i:=x.i+1 }
 | 5=>{ x with i:=x.i+1 }
 | 6=>x.to 7
 | 7=>x.to 8
 | 8=>x.to 9
 | 9=>jL t p z { x with page:=if x.own=true then x.page+1 else x.page,known:=[] }
 | 10=>jL t p z { x with known:=x.known++[(x.need,loW v)] }
 | 11=>{ x with i:=x.i+1 }
 | 12=>{ x with i:=x.i+8 }
 | 13=>x.to 14
 | 14=>x.to 15
 | 15=>x.to 16
 | 16=>({ x with note:=x.openN,s:=x.s+1,made:=x.s+1,u:=t,l:=x.wr,own:=true }:TS).to 17
 | 17=>x.to 18
 | 18=>x.to 3
 | _=>x
def jy (t p z:Int) (v:Int) (x:TS):TS:=jY (kI t p z v x)
def KnI (N:Nat) (kn:List (Int×Int)):Prop:=(kn.map fun y=>y.1.toNat).Nodup/\∀y∈kn,0<=y.1/\y.1.toNat < N
theorem KnI.nil (N:Nat):KnI N []:=⟨zT,zT⟩
theorem KnI.le {N:Nat} {kn:List (Int×Int)} (h:KnI N kn):kn.length<=N:=by
 have:=VS.length_le_of_nodup N _ h.1 (fun x hx=>by
  obtain ⟨y,hy,rfl⟩:=List.mem_map.1 hx;exact (h.2 y hy).2)
 simpa using this
theorem KnI.snoc {N:Nat} {kn:List (Int×Int)} (h:KnI N kn) {i:Nat} (hi:i < N) (hn:∀x∈kn,x.1≠(i:Int)) (v:Int):KnI N (kn++[((i:Int),v)]):=by
 refine ⟨?_,fun y hy=> ?_⟩
 ·rw [List.map_append,List.nodup_append];refine ⟨h.1,zT,fun a ha b hb=> ?_⟩;simp at hb;subst hb;obtain ⟨y,hy,rfl⟩:=List.mem_map.1 ha;intro e;have h1:=h.2 y hy;exact hn y hy zo
 ·simp at hy;rcases hy with hy | rfl
  ·exact h.2 y hy
  ·simp;exact hi
theorem KnI.val {N:Nat} {kn:List (Int×Int)} {c u:Int} (h:KnI N (kn++[(c,u)])) (v:Int):KnI N (kn++[(c,v)]):=by
 obtain ⟨h1,h2⟩:=h;refine ⟨by simpa using h1,fun y hy=> ?_⟩;simp at hy;rcases hy with hy | rfl
 ·exact h2 y (by simp [hy])
 ·exact h2 (c,u) zT
structure yJ (t p:Int) (x:TS):Prop where
 ph:x.ph<=19
 page:x.page<=p.toNat
 n0:0<=x.n
 n:x.n<=96
 l:x.l.length<=96
 wr:x.wr.length<=96
 h0:x.ph<=2->x.own=false
 h1:x.ph<=1->x.l=[]
 hk:x.ph<=1->x.known=[]
 h2:x.ph=2->x.i=x.l.length/\(x.i:Int) < x.n
 h3:x.ph=3\/x.ph=4\/x.ph=5->x.i < x.l.length
 own:3<=x.ph->x.ph<=9->x.own=true->x.page < p.toNat
 h10:x.ph=10->x.page < p.toNat/\KnI (jk t p).toNat (x.known++[(x.need,0)])
 h11:11<=x.ph->x.ph<=18->x.page < p.toNat
 hi:x.ph=11\/x.ph=12->x.i < x.wr.length
 h17:x.ph=17\/x.ph=18->x.l=x.wr/\x.own=true
def kX (p:Int) (W:Nat) (x:TS):Nat:=if x.own=true then (p.toNat - x.page - 1)*W else (p.toNat - x.page)*W
def mu (t p:Int) (x:TS):Nat:=
 let W:=410+(jk t p).toNat
 match x.ph with
 | 0=>400+(p.toNat - x.page)*W
 | 1=>399+(p.toNat - x.page)*W
 | 2=>(x.n.toNat - x.i)+(3*x.n.toNat+4)+(p.toNat - x.page)*W
 | 3=>2*(x.l.length - x.i)+x.l.length+4+kX p W x
 | 4=>2*(x.l.length - x.i) - 1+x.l.length+4+kX p W x
 | 5=>x.l.length - x.i+4+kX p W x
 | 6=>4+kX p W x
 | 7=>3+kX p W x
 | 8=>2+kX p W x
 | 9=>1+kX p W x
 | 10=>(jk t p).toNat - x.known.length+410+(p.toNat - x.page - 1)*W
 | 11=>(x.wr.length - x.i)+(x.wr.length+7) / 8+6+(3*x.wr.length+4)+(p.toNat - x.page - 1)*W
 | 12=>(x.wr.length - x.i+7) / 8+6+(3*x.wr.length+4)+(p.toNat - x.page - 1)*W
 | 13=>6+(3*x.wr.length+4)+(p.toNat - x.page - 1)*W
 | 14=>5+(3*x.wr.length+4)+(p.toNat - x.page - 1)*W
 | 15=>4+(3*x.wr.length+4)+(p.toNat - x.page - 1)*W
 | 16=>3+(3*x.wr.length+4)+(p.toNat - x.page - 1)*W
 | 17=>2+(3*x.wr.length+4)+(p.toNat - x.page - 1)*W
 | 18=>1+(3*x.wr.length+4)+(p.toNat - x.page - 1)*W
 | _=>0

theorem je1 {vs:List Int} {t p:Int} (hu:∀v∈vs,VS.U32 v):∀(f:Nat) (q ah:Int) (out:List Int),0<=q->(K0 vs t p f q ah out).2=true->
 ∃l e,(K0 vs t p f q ah out).1=out++l/\seg (fun x=>gv vs t x 2) (fun x=>gv vs t x 3) q ah l 0 e/\∀x∈l,0<=x/\x < p:=by
 intro f;induction f with
 | zero=>intro q ah out _ h;simp [K0] at h
 | succ f ih=>
  intro q ah out hq h;unfold K0 at h ⊢;by_cases h0:q=0
  ·subst h0;rw [if_pos rfl] at h ⊢;exact ⟨[],ah,zT,⟨rfl,rfl⟩,zT⟩
  ·rw [if_neg h0] at h ⊢;by_cases h1:p < q\/p<=out.length
   ·rw [if_pos h1] at h;simp at h
   ·rw [if_neg h1] at h ⊢;by_cases h2:gv vs t (q - 1) 3≠ah
    ·rw [if_pos h2] at h;simp at h
    ·rw [if_neg h2] at h ⊢;obtain ⟨l,e,e1,e2,e3⟩:=ih (gv vs t (q - 1) 2) q (out++[q - 1]) (Kj hu _).1 h;refine ⟨(q - 1) :: l,e,by rw [e1];simp,⟨zo,by simpa using h2,?_⟩,?_⟩
     ·show seg _ _ (gv vs t (q - 1) 2) (q - 1+1) l 0 e;rw [show q - 1+1=q by omega];exact e2
     ·intro x hx;simp at hx;rcases hx with rfl | hx
      ·omega
      ·exact e3 x hx
def jcU (vs:List Int) (t:Int) (a q:Nat):Bool:=if a < 13 then qD (gv vs t (q:Int) 0) ((a - 2:Nat):Int) else qn (gv vs t (q:Int) 0) (gv vs t (q:Int) 5) ((a - 13:Nat):Int)
theorem jfu {vs:List Int} {t p s:Int} (h:(J4 vs t p s).2=true):YI vs t p=true/\JO vs t p=true:=by
 unfold J4 at h;cases h1:Kn vs t p <;> simp [h1] at h;cases h2:V7 vs t p <;> simp [h2] at h;cases h3:Qd vs t p <;> simp [h3] at h;cases h4:yB vs t p <;> simp [h4] at h;cases h5:YI vs t p <;> simp [h5] at h;cases h6:JO vs t p <;> simp [h6] at h;exact ⟨rfl,rfl⟩
theorem jcs {vs:List Int} {t p s:Int} (h:(J4 vs t p s).2=true) (a:Nat) (h2:2<=a) (h21:a<=21) :
 (qI vs t p a).2=true/\∀q:Nat,q < p.toNat->(((qI vs t p a).1.count (q:Int):Nat):Int)=Kl (jcU vs t a q):=by
 obtain ⟨hb,hr⟩:=jfu h;by_cases ha:a < 13
 ·have:=qM.1 hb (a - 2) zo;unfold YJ at this;rw [show 2+(a - 2)=a by omega] at this;simp only [Bool.and_eq_true] at this;refine ⟨this.1,fun q hq=> ?_⟩;have h3:=qM.1 this.2 q hq;unfold JG at h3;unfold jcU;rw [if_pos ha];simpa using h3
 ·have:=qM.1 hr (a - 13) zo;unfold JP at this;rw [show 13+(a - 13)=a by omega] at this;simp only [Bool.and_eq_true] at this;refine ⟨this.1,fun q hq=> ?_⟩;have h3:=qM.1 this.2 q hq;unfold yD at h3;unfold jcU;rw [if_neg ha];simpa using h3
theorem sound_ok {vs:List Int} {t p s:Int} (hu:∀v∈vs,VS.U32 v) (hp:0<=p) (h:(J4 vs t p s).2=true) (a:Nat) (h2:2<=a) (h21:a<=21) :
 YQ p (fun x=>vs.getD x.toNat 0) (fun x=>gv vs t x 2) (fun x=>gv vs t x 3) (a:Int) (qI vs t p a).1:=by
 obtain ⟨h3,h4⟩:=jcs h a h2 h21;obtain ⟨l,e,e1,e2,e3⟩:=je1 hu _ _ _ _ (Kj hu a).1 h3;have e4:(qI vs t p a).1=l:=by unfold qI;rw [e1];rfl
 refine ⟨⟨e,by rw [e4];exact e2⟩,?_,by rw [e4];exact e3⟩;rw [List.nodup_iff_count];intro x;by_cases hx:x∈l
 ·obtain ⟨b1,b2⟩:=e3 x hx;have h5:=h4 x.toNat zo;rw [show ((x.toNat:Nat):Int)=x by omega] at h5;have h6:Kl (jcU vs t a x.toNat)<=1:=by unfold Kl;split <;> omega
  omega
 ·rw [e4,List.count_eq_zero_of_not_mem hx];omega

def yA (g:Int->Int) (p:Int):Int->List Int->Prop
 | a,[]=>a=p
 | a,x :: r=>x=a/\a < p/\iK (g a)≠0/\yA g p (a+iL (g a)) r
theorem jbo {v:Int}:(okI v=false\/iK v=0)↔iK v=0:=by
 have h:=kP v;exact ⟨fun x=>x.elim (fun y=>h.2.2.2.2.2.2.2 y) id,Or.inr⟩
theorem Q9 {g:Int->Int} {p:Int}:∀(l:List Int) (f:Nat) (a:Int) (out:List Int),0<=a->p - a < f->yA g p a l->kB g p f a out=(out++l,true)
 | [],f,a,out,h0,hf,h=>by
  have e:a=p:=h;subst e;cases f with
  | zero=>simp [kB]
  | succ f=>simp [kB]
 | x :: r,f,a,out,h0,hf,h=>by
  obtain ⟨rfl,h1,h2,h3⟩:=h;have hb:=kP (g x);have hl:=hb.2.2.2.2.2.2.1 h2;cases f with
  | zero=>omega
  | succ f=>
   unfold kB;rw [if_pos h1,if_neg (fun e=>h2 (jbo.1 e)),Q9 r f (x+iL (g x)) (out++[x]) zo zo h3];simp
theorem Ya {g:Int->Int} {p:Int}:∀(f:Nat) (a:Int) (out:List Int),(kB g p f a out).2=true->∃l,kB g p f a out=(out++l,true)/\yA g p a l
 | 0,a,out,h=>by
  have e:a=p:=by simpa [kB] using h
  subst e;exact ⟨[],by simp [kB],rfl⟩
 | f+1,a,out,h=>by
  unfold kB at h ⊢;by_cases h1:a < p
  ·rw [if_pos h1] at h ⊢;by_cases h2:iK (g a)=0
   ·rw [if_pos (jbo.2 h2)] at h;cases h
   ·rw [if_neg (fun e=>h2 (jbo.1 e))] at h ⊢;obtain ⟨l,e,ht⟩:=Ya f (a+iL (g a)) (out++[a]) h;exact ⟨a :: l,by rw [e];simp,rfl,h1,h2,ht⟩
  ·rw [if_neg h1] at h ⊢;have e:a=p:=by simpa using h
   subst e;exact ⟨[],zT,rfl⟩
theorem yX {g:Int->Int} {p:Int} (hp:0<=p) {l:List Int}:jX g p=(l,true)↔yA g p 0 l:=by
 unfold jX;constructor
 ·intro h;obtain ⟨l',e,ht⟩:=Ya (p.toNat+1) 0 [] (by rw [h]);rw [h] at e;obtain rfl:l=l':=by simpa using e
  exact ht
 ·intro h;simpa using Q9 l (p.toNat+1) 0 [] zo zo h
theorem yA.ge {g:Int->Int} {p:Int}:∀{l:List Int} {a:Int},yA g p a l->∀x∈l,a<=x/\x < p
 | [],_,_,x,hx=>by cases hx
 | y :: r,a,h,x,hx=>by
  obtain ⟨rfl,h1,h2,h3⟩:=h;have hb:=(kP (g y)).2.2.2.2.2.2.1 h2;rcases List.mem_cons.1 hx with rfl | hx
  ·exact ⟨Int.le_refl _,h1⟩
  ·have:=h3.ge x hx;omega
theorem yA.le {g:Int->Int} {p:Int}:∀{l:List Int} {a:Int},yA g p a l->a<=p
 | [],_,h=>by have e:_=p:=h;omega
 | y :: r,a,h=>by obtain ⟨rfl,h1,-,-⟩:=h;omega
theorem yA.congr {g g':Int->Int} {p:Int}:∀{l:List Int} {a:Int},yA g p a l->(∀x∈l,g' x=g x)->yA g' p a l
 | [],_,h,_=>h
 | y :: r,a,h,hg=>by
  obtain ⟨rfl,h1,h2,h3⟩:=h;have e:=hg y zT;exact ⟨rfl,h1,by rw [e];exact h2,by rw [e];exact h3.congr (fun x hx=>hg x (by simp [hx]))⟩
theorem yA.app {g:Int->Int} {p:Int}:∀{A B:List Int} {a:Int},yA g p a (A++B)↔∃m,yA g m a A/\yA g p m B/\m<=p
 | [],B,a=>by
  constructor
  ·intro h;exact ⟨a,rfl,h,h.le⟩
  ·rintro ⟨m,h1,h2,-⟩;have e:a=m:=h1;subst e;exact h2
 | y :: A,B,a=>by
  constructor
  ·rintro ⟨rfl,h1,h2,h3⟩;obtain ⟨m,h4,h5,h6⟩:=yA.app.1 h3;have hb:=(kP (g y)).2.2.2.2.2.2.1 h2;have:=h4.le;exact ⟨m,⟨rfl,zo,h2,h4⟩,h5,h6⟩
  ·rintro ⟨m,⟨rfl,h1,h2,h3⟩,h5,h6⟩;exact ⟨rfl,zo,h2,yA.app.2 ⟨m,h3,h5,h6⟩⟩

theorem yA.sorted {g:Int->Int} {p:Int}:∀{l:List Int} {a:Int},yA g p a l->l.Pairwise (· < ·)
 | [],_,_=>List.Pairwise.nil
 | y :: r,a,h=>by
  obtain ⟨rfl,h1,h2,h3⟩:=h;have hb:=(kP (g y)).2.2.2.2.2.2.1 h2;exact List.Pairwise.cons (fun x hx=>by have:=h3.ge x hx;omega) h3.sorted
def below (l:List Int) (q:Int):Nat:=(l.filter (fun x=>decide (x < q))).length
theorem Jg {q:Int}:∀{l:List Int},l.Pairwise (· < ·)->(l[below l q]? =some q↔q∈l)
 | [],_=>by simp [below]
 | x :: r,h=>by
  have h1:=(List.pairwise_cons.1 h).1;have h2:=(List.pairwise_cons.1 h).2;by_cases hx:x < q
  ·have e:below (x :: r) q=below r q+1:=by simp [below,hx]
   rw [e];have ih:=Jg (q:=q) h2;have hne:q≠x:=zo;simpa [hne] using ih
  ·have e:below (x :: r) q=0:=by
    simp only [below,List.length_eq_zero_iff,List.filter_eq_nil_iff];intro y hy;rcases List.mem_cons.1 hy with rfl | hy
    ·simpa using hx
    ·have:=h1 y hy;simp;omega
   rw [e];simp only [List.getElem?_cons_zero,Option.some.injEq,List.mem_cons];constructor
   ·intro e;exact Or.inl e.symm
   ·rintro (e | e)
    ·exact e.symm
    ·have:=h1 q e;omega
theorem Qx {l:List Int} (h:l.Pairwise (· < ·)) (q:Int):below l (q+1)=if q∈l then below l q+1 else below l q:=by
 induction l with
 | nil=>simp [below]
 | cons x r ih=>
  have h1:=(List.pairwise_cons.1 h).1;have ih:=ih (List.pairwise_cons.1 h).2;have e:∀z,below (x :: r) z=(if x < z then 1 else 0)+below r z:=by
   intro z;by_cases hx:x < z <;> simp [below,hx];omega
  rw [e,e,ih];by_cases hq:q∈r
  ·have:=h1 q hq;have hne:x < q+1:=zo;simp only [hq,List.mem_cons,or_true,if_true,if_pos this,if_pos hne];omega
  ·by_cases hx:x=q
   ·subst hx;rw [if_neg hq,if_pos (show x < x+1 by omega),if_pos (show x∈x :: r by simp),if_neg (show¬x < x by omega)];omega
   ·have hxq:q ∉ x :: r:=by simp [hq,Ne.symm hx]
    rw [if_neg hq,if_neg hxq];by_cases h3:x < q
    ·rw [if_pos h3,if_pos zo]
    ·rw [if_neg h3,if_neg zo]
theorem Qh {vs:List Int} {t:Int} {l:List Int} (h:l.Pairwise (· < ·)) (h0:∀x∈l,0<=x):∀(k:Nat),(∀q:Nat,q < k->(q:Int) ∉ l->gv vs t q 0=0)->yN vs t l k=some (below l k)
 | 0,_=>by
  have e:below l ((0:Nat):Int)=0:=by
   simp only [below,List.length_eq_zero_iff,List.filter_eq_nil_iff];intro y hy;have:=h0 y hy;simp;omega
  rw [e];rfl
 | k+1,hk=>by
  unfold yN;rw [Qh h h0 k (fun q hq=>hk q zo)];dsimp only;have hs:=Qx h (k:Int);have hs':below l ((k+1:Nat):Int)=if (k:Int)∈l then below l k+1 else below l k:=by rw [<-hs];congr 1
  rw [hs'];by_cases hm:(k:Int)∈l
  ·rw [if_pos ((Jg h).2 hm),if_pos hm]
  ·rw [if_neg (fun e=>hm ((Jg h).1 e)),if_neg hm,if_pos (hk k zo hm)]
theorem Q8 {vs:List Int} {t:Int} {l:List Int} (h:l.Pairwise (· < ·)) (h0:∀x∈l,0<=x):∀(k n:Nat),yN vs t l k=some n->n=below l k/\∀q:Nat,q < k->(q:Int) ∉ l->gv vs t q 0=0
 | 0,n,hn=>by
  have e:=Qh (vs:=vs) (t:=t) h h0 0 (fun q hq=>absurd hq zo);rw [e] at hn;exact ⟨(Option.some.inj hn).symm,fun q hq=>absurd hq zo⟩
 | k+1,n,hn=>by
  unfold yN at hn;cases hk:yN vs t l k with
  | none=>rw [hk] at hn;cases hn
  | some m=>
   rw [hk] at hn;dsimp only at hn;obtain ⟨rfl,hz⟩:=Q8 h h0 k m hk;have hs:=Qx h (k:Int);have hs':below l ((k+1:Nat):Int)=if (k:Int)∈l then below l k+1 else below l k:=by rw [<-hs];congr 1
   rw [hs'];by_cases hm:(k:Int)∈l
   ·rw [if_pos ((Jg h).2 hm)] at hn;rw [if_pos hm];exact ⟨(Option.some.inj hn).symm,fun q hq hql=>by
     by_cases e:q=k
     ·subst e;exact absurd hm hql
     ·exact hz q zo hql⟩
   ·rw [if_neg (fun e=>hm ((Jg h).1 e))] at hn;rw [if_neg hm];by_cases hg:gv vs t (k:Int) 0=0
    ·rw [if_pos hg] at hn;exact ⟨(Option.some.inj hn).symm,fun q hq hql=>by
      by_cases e:q=k
      ·subst e;exact hg
      ·exact hz q zo hql⟩
    ·rw [if_neg hg] at hn;cases hn

def pl (t q k:Int):Int:=30+4*t+6*q+k
def cg (t:Int) (c:Int->Int) (k:Int):Int->Int:=fun x=>c (pl t x k)
structure CV (t p s:Int) (c:Int->Int) (st:VS):Prop where
 right:jq t p s=true
 num:(st.n:Int)=30+4*t+6*p
 miss:st.miss=none
 at_:∀i:Int,0<=i->i < st.n->vat st i.toNat=some (c i)
section
variable {t p s:Int} {c:Int->Int} {st:VS}
theorem CV.of (h:CV t p s c st) {q:Int} (k:Int) (h0:0<=q) (h1:q < p):ofF t p s q k=pl t q k:=by
 simp [ofF,h.right,h0,h1,pl]
theorem CV.get (h:CV t p s c st) {i:Int} (h0:0<=i) (h1:i < 30+4*t+6*p):(st.get i).1=c i/\CV t p s c (st.get i).2:=by
 have hn:=h.num;obtain ⟨e1,e2,e3,e4⟩:=Q2 h0 zo h.miss (h.at_ i h0 zo);exact ⟨e1,h.right,by rw [e3];exact hn,e4,fun j a b=>by rw [e2];rw [e3] at b;exact h.at_ j a b⟩
theorem CV.put (h:CV t p s c st) {i:Int} (v:Int) (h0:0<=i) (h1:i < 30+4*t+6*p):CV t p s (upI c i v) (st.put i v):=by
 have hn:=h.num;obtain ⟨e1,e2,e3⟩:=VD (s:=st) (i:=i) v h0 zo h.miss;refine ⟨h.right,by rw [e2];exact hn,e3,fun j a b=> ?_⟩;rw [e1];by_cases e:j=i
 ·subst e;rw [if_pos rfl,ju]
 ·rw [if_neg zo,jf _ e];exact h.at_ j a (by rw [e2] at b;exact b)
theorem CV.pg (h:CV t p s c st) {q k:Int} (h0:0<=q) (h1:q < p) (k0:0<=k) (k5:k<=5):(st.get (ofF t p s q k)).1=c (pl t q k)/\CV t p s c (st.get (ofF t p s q k)).2:=by
 have:=jn h.right;rw [h.of k h0 h1];exact h.get (by unfold pl;omega) (by unfold pl;omega)
theorem CV.pp (h:CV t p s c st) {q k:Int} (v:Int) (h0:0<=q) (h1:q < p) (k0:0<=k) (k5:k<=5):CV t p s (upI c (pl t q k) v) (st.put (ofF t p s q k) v):=by
 have:=jn h.right;rw [h.of k h0 h1];exact h.put v (by unfold pl;omega) (by unfold pl;omega)
end

def kG (t a q:Int) (c:Int->Int):Int->Int:=
 let c1:=if c (pl t q 3)=0 then upI c a (c (pl t q 2)) else upI c (pl t (c (pl t q 3) - 1) 2) (c (pl t q 2))
 let c2:=if c (pl t q 2)=0 then c1 else upI c1 (pl t (c (pl t q 2) - 1) 3) (c (pl t q 3))
 upI (upI c2 (pl t q 2) 0) (pl t q 3) 0
def kM (t a q:Int) (c:Int->Int):Int->Int:=
 let c2:=upI (upI c (pl t q 2) (c a)) (pl t q 3) 0
 upI (if c a=0 then c2 else upI c2 (pl t (c a - 1) 3) (q+1)) a (q+1)
def jbC (t p:Int) (c:Int->Int) (q:Int):Prop:=0<=q/\q < p/\(c (pl t q 3)=0\/(1<=c (pl t q 3)/\c (pl t q 3)<=p))/\(c (pl t q 2)=0\/(1<=c (pl t q 2)/\c (pl t q 2)<=p))
theorem jbC.of {t p:Int} {c:Int->Int} {h q:Int} {l:List Int} (hl:YQ p c (cg t c 2) (cg t c 3) h l) (hq:q∈l):jbC t p c q:=by
 obtain ⟨A,B,rfl⟩:=List.append_of_mem hq;obtain ⟨c1,c2⟩:=V9 hl;have hb:=hl.2.2 q hq;refine ⟨hb.1,hb.2,?_,?_⟩
 ·rcases c1 with ⟨_,h3,_⟩ | ⟨A',z,_,h4,_,h6⟩
  ·exact Or.inl h3
  ·exact Or.inr (by unfold cg at h4;omega)
 ·rcases c2 with ⟨_,h3⟩ | ⟨y,B',_,h4,h5⟩
  ·exact Or.inl h3
  ·exact Or.inr (by unfold cg at h4;omega)
section
variable {t p s:Int} {c:Int->Int} {st:VS}
theorem CV.pull (h:CV t p s c st) {a q:Int} (h2:2<=a) (h21:a<=21) (hk:jbC t p c q):CV t p s (kG t a q c) (qG t p s a q st):=by
 obtain ⟨h0,h1,k3,k2⟩:=hk;have hr:=jn h.right;unfold qG;rw [if_pos (Qp h0 h1)];obtain ⟨g1,g2⟩:=h.pg (k:=2) h0 h1 zo zo;obtain ⟨f1,f2⟩:=g2.pg (k:=3) h0 h1 zo zo;simp only [g1,f1];unfold kG;have m1:CV t p s (if c (pl t q 3)=0 then upI c a (c (pl t q 2)) else upI c (pl t (c (pl t q 3) - 1) 2) (c (pl t q 2))) (if c (pl t q 3)=0 then ((st.get (ofF t p s q 2)).2.get (ofF t p s q 3)).2.put a (c (pl t q 2)) else ((st.get (ofF t p s q 2)).2.get (ofF t p s q 3)).2.put (ofF t p s (c (pl t q 3) - 1) 2) (c (pl t q 2))):=by
  by_cases hb:c (pl t q 3)=0
  ·rw [if_pos hb,if_pos hb];exact f2.put _ zo zo
  ·rw [if_neg hb,if_neg hb];exact f2.pp _ zo zo zo zo
 generalize (if c (pl t q 3)=0 then ((st.get (ofF t p s q 2)).2.get (ofF t p s q 3)).2.put a (c (pl t q 2)) else ((st.get (ofF t p s q 2)).2.get (ofF t p s q 3)).2.put (ofF t p s (c (pl t q 3) - 1) 2) (c (pl t q 2)))=s1 at*
 generalize (if c (pl t q 3)=0 then upI c a (c (pl t q 2)) else upI c (pl t (c (pl t q 3) - 1) 2) (c (pl t q 2)))=c1 at*
 have m2:CV t p s (if c (pl t q 2)=0 then c1 else upI c1 (pl t (c (pl t q 2) - 1) 3) (c (pl t q 3))) (if c (pl t q 2)=0 then s1 else s1.put (ofF t p s (c (pl t q 2) - 1) 3) (c (pl t q 3))):=by
  by_cases hb:c (pl t q 2)=0
  ·rw [if_pos hb,if_pos hb];exact m1
  ·rw [if_neg hb,if_neg hb];exact m1.pp _ zo zo zo zo
 exact (m2.pp 0 h0 h1 zo zo).pp 0 h0 h1 zo zo
theorem CV.push (h:CV t p s c st) {a q:Int} (h2:2<=a) (h21:a<=21) (h0:0<=q) (h1:q < p) (hk:c a=0\/(1<=c a/\c a<=p)):CV t p s (kM t a q c) (yd t p s a q st):=by
 have hr:=jn h.right;unfold yd;rw [if_pos (Qp h0 h1)];obtain ⟨g1,g2⟩:=h.get (i:=a) zo zo;simp only [g1];unfold kM;(try dsimp only);have m1:=(g2.pp (k:=2) (c a) h0 h1 zo zo).pp (k:=3) 0 h0 h1 zo zo;by_cases hb:c a=0
 ·rw [if_pos hb,if_pos hb];exact m1.put _ zo zo
 ·rw [if_neg hb,if_neg hb];exact (m1.pp (k:=3) _ zo zo zo zo).put _ zo zo
end

theorem XU {t p a q i:Int} {c:Int->Int} (hk:jbC t p c q) (h:i≠a) (h2:∀x,0<=x->x < p->i≠pl t x 2/\i≠pl t x 3):kG t a q c i=c i:=by
 obtain ⟨h0,h1,k3,k2⟩:=hk;have hq:=h2 q h0 h1;unfold kG;(try dsimp only);rw [jf _ hq.2,jf _ hq.1];have e1:(if c (pl t q 3)=0 then upI c a (c (pl t q 2)) else upI c (pl t (c (pl t q 3) - 1) 2) (c (pl t q 2))) i=c i:=by
  split
  ·exact jf _ h
  ·exact jf _ (h2 _ zo zo).1
 split
 ·exact e1
 ·rw [jf _ (h2 _ zo zo).2];exact e1
theorem XT {t p a q i:Int} {c:Int->Int} (h0:0<=q) (h1:q < p) (hk:c a=0\/(1<=c a/\c a<=p)) (h:i≠a) (h2:∀x,0<=x->x < p->i≠pl t x 2/\i≠pl t x 3):kM t a q c i=c i:=by
 have hq:=h2 q h0 h1;unfold kM;(try dsimp only);rw [jf _ h];split
 ·rw [jf _ hq.2,jf _ hq.1]
 ·rw [jf _ (h2 _ zo zo).2,jf _ hq.2,jf _ hq.1]
theorem kU {t x y j k:Int} (h:j≠k) (j0:0<=j) (j5:j<=5) (k0:0<=k) (k5:k<=5):pl t x j≠pl t y k:=by unfold pl;omega
theorem kS {t x k i:Int} (ht:1<=t) (hx:0<=x) (hk:0<=k) (hi:i < 30):i≠pl t x k:=by unfold pl;omega
theorem qW {t x y k:Int}:pl t x k=pl t y k↔x=y:=by unfold pl;omega
theorem y8 {t p a q x k:Int} {c:Int->Int} (ht:1<=t) (h21:a<=21) (hk:jbC t p c q) (hx:0<=x) (k0:0<=k) (k5:k<=5) (hk2:k≠2) (hk3:k≠3):kG t a q c (pl t x k)=c (pl t x k):=
 XU hk (by unfold pl;omega) fun y _ _=>⟨kU hk2 k0 k5 zo zo,kU hk3 k0 k5 zo zo⟩
theorem KU {t p a q x k:Int} {c:Int->Int} (ht:1<=t) (h21:a<=21) (h0:0<=q) (h1:q < p) (hk:c a=0\/(1<=c a/\c a<=p)) (hx:0<=x) (k0:0<=k) (k5:k<=5) (hk2:k≠2) (hk3:k≠3):kM t a q c (pl t x k)=c (pl t x k):=
 XT h0 h1 hk (by unfold pl;omega) fun y _ _=>⟨kU hk2 k0 k5 zo zo,kU hk3 k0 k5 zo zo⟩
theorem KV {t p a q i:Int} {c:Int->Int} (ht:1<=t) (hk:jbC t p c q) (hi:i < 30) (h:i≠a):kG t a q c i=c i:=
 XU hk h fun y hy _=>⟨kS ht hy zo hi,kS ht hy zo hi⟩
theorem Ke {t p a q i:Int} {c:Int->Int} (ht:1<=t) (h0:0<=q) (h1:q < p) (hk:c a=0\/(1<=c a/\c a<=p)) (hi:i < 30) (h:i≠a):kM t a q c i=c i:=
 XT h0 h1 hk h fun y hy _=>⟨kS ht hy zo hi,kS ht hy zo hi⟩
theorem pullC_nx {t p a q x:Int} {c:Int->Int} (ht:1<=t) (h21:a<=21) (hk:jbC t p c q) (hx:0<=x):cg t (kG t a q c) 2 x=y7 (cg t c 2) (cg t c 3) q x:=by
 obtain ⟨h0,h1,k3,k2⟩:=hk;have n1:∀y,pl t x 2≠pl t y 3:=fun y=>kU zo zo zo zo zo;have n2:pl t x 2≠a:=by unfold pl;omega
 show kG t a q c (pl t x 2)=_;unfold kG y7;(try dsimp only);rw [jf _ (n1 q)];by_cases e:x=q
 ·subst e;rw [ju,ju]
 ·rw [jf _ (fun h=>e (qW.1 h)),jf _ e];have e2:(if c (pl t q 2)=0 then (if c (pl t q 3)=0 then upI c a (c (pl t q 2)) else upI c (pl t (c (pl t q 3) - 1) 2) (c (pl t q 2))) else upI (if c (pl t q 3)=0 then upI c a (c (pl t q 2)) else upI c (pl t (c (pl t q 3) - 1) 2) (c (pl t q 2))) (pl t (c (pl t q 2) - 1) 3) (c (pl t q 3))) (pl t x 2)=(if c (pl t q 3)=0 then upI c a (c (pl t q 2)) else upI c (pl t (c (pl t q 3) - 1) 2) (c (pl t q 2))) (pl t x 2):=by
   split
   ·rfl
   ·exact jf _ (n1 _)
  rw [e2];show _=(if c (pl t q 3)=0 then cg t c 2 else upI (cg t c 2) (c (pl t q 3) - 1) (c (pl t q 2))) x;split
  ·exact jf _ n2
  ·by_cases e3:x=c (pl t q 3) - 1
   ·rw [e3,ju,ju]
   ·rw [jf _ (fun h=>e3 (qW.1 h)),jf _ e3];rfl
theorem pullC_pv {t p a q x:Int} {c:Int->Int} (ht:1<=t) (h21:a<=21) (hk:jbC t p c q) (hx:0<=x):cg t (kG t a q c) 3 x=yZ (cg t c 2) (cg t c 3) q x:=by
 obtain ⟨h0,h1,k3,k2⟩:=hk;have n1:∀y,pl t x 3≠pl t y 2:=fun y=>kU zo zo zo zo zo;have n2:pl t x 3≠a:=by unfold pl;omega
 show kG t a q c (pl t x 3)=_;unfold kG yZ;(try dsimp only);by_cases e:x=q
 ·subst e;rw [ju,ju]
 ·rw [jf _ (fun h=>e (qW.1 h)),jf _ (n1 q),jf _ e];have e2:(if c (pl t q 3)=0 then upI c a (c (pl t q 2)) else upI c (pl t (c (pl t q 3) - 1) 2) (c (pl t q 2))) (pl t x 3)=c (pl t x 3):=by
   split
   ·exact jf _ n2
   ·exact jf _ (n1 _)
  show _=(if c (pl t q 2)=0 then cg t c 3 else upI (cg t c 3) (c (pl t q 2) - 1) (c (pl t q 3))) x;split
  ·exact e2
  ·by_cases e3:x=c (pl t q 2) - 1
   ·rw [e3,ju,ju]
   ·rw [jf _ (fun h=>e3 (qW.1 h)),jf _ e3,e2];rfl
theorem jbV {t p a q h:Int} {c:Int->Int} (ht:1<=t) (hk:jbC t p c q) (hh:h < 30):kG t a q c h=Jn c (cg t c 2) (cg t c 3) a q h:=by
 by_cases e:h=a
 ·subst e;obtain ⟨h0,h1,k3,k2⟩:=hk;have n1:∀y k,0<=y->0<=k->h≠pl t y k:=fun y k hy hk=>kS ht hy hk hh;unfold kG Jn;(try dsimp only);rw [jf _ (n1 _ _ h0 zo),jf _ (n1 _ _ h0 zo)];have e2:(if c (pl t q 3)=0 then upI c h (c (pl t q 2)) else upI c (pl t (c (pl t q 3) - 1) 2) (c (pl t q 2))) h=(if cg t c 3 q=0 then upI c h (cg t c 2 q) else c) h:=by
   show _=(if c (pl t q 3)=0 then upI c h (c (pl t q 2)) else c) h;split
   ·rfl
   ·exact jf _ (n1 _ _ zo zo)
  rw [<-e2];split
  ·rfl
  ·rw [jf _ (n1 _ _ zo zo)]
 ·rw [KV ht hk hh e];unfold Jn;split
  ·rw [jf _ e]
  ·rfl
theorem pushC_nx {t a q x:Int} {c:Int->Int} (ht:1<=t) (h21:a<=21) (hx:0<=x):cg t (kM t a q c) 2 x=JR c (cg t c 2) a q x:=by
 have n1:∀y,pl t x 2≠pl t y 3:=fun y=>kU zo zo zo zo zo;have n2:pl t x 2≠a:=by unfold pl;omega
 show kM t a q c (pl t x 2)=_;unfold kM JR;(try dsimp only);rw [jf _ n2];have e2:∀y v,(upI (upI (upI c (pl t q 2) (c a)) (pl t q 3) 0) (pl t y 3) v) (pl t x 2)=upI (cg t c 2) q (c a) x:=by
  intro y v;rw [jf _ (n1 y),jf _ (n1 q)];by_cases e:x=q
  ·subst e;rw [ju,ju]
  ·rw [jf _ (fun h=>e (qW.1 h)),jf _ e];rfl
 split
 ·exact (jf 0 (n1 q)).symm.trans (e2 q 0)
 ·exact e2 _ _
theorem pushC_pv {t a q x:Int} {c:Int->Int} (ht:1<=t) (h21:a<=21) (hx:0<=x):cg t (kM t a q c) 3 x=Jm c (cg t c 3) a q x:=by
 have n1:∀y,pl t x 3≠pl t y 2:=fun y=>kU zo zo zo zo zo;have n2:pl t x 3≠a:=by unfold pl;omega
 show kM t a q c (pl t x 3)=_;unfold kM Jm;(try dsimp only);rw [jf _ n2];have e2:(upI (upI c (pl t q 2) (c a)) (pl t q 3) 0) (pl t x 3)=upI (cg t c 3) q 0 x:=by
  by_cases e:x=q
  ·subst e;rw [ju,ju]
  ·rw [jf _ (fun h=>e (qW.1 h)),jf _ (n1 q),jf _ e];rfl
 split
 ·exact e2
 ·by_cases e3:x=c a - 1
  ·rw [e3,ju,ju]
  ·rw [jf _ (fun h=>e3 (qW.1 h)),jf _ e3,e2]
theorem jbT {t p a q h:Int} {c:Int->Int} (ht:1<=t) (h0:0<=q) (h1:q < p) (hk:c a=0\/(1<=c a/\c a<=p)) (hh:h < 30):kM t a q c h=upI c a (q+1) h:=by
 by_cases e:h=a
 ·subst e;unfold kM;rw [ju,ju]
 ·rw [Ke ht h0 h1 hk hh e,jf _ e]
theorem YQ.congr {p:Int} {hd nx pv hd' nx' pv':Int->Int} {h:Int} {l:List Int} (hl:YQ p hd nx pv h l) (h1:hd' h=hd h) (h2:∀x,0<=x->x < p->nx' x=nx x/\pv' x=pv x):YQ p hd' nx' pv' h l:=by
 obtain ⟨⟨e,hs⟩,hn,hb⟩:=hl;refine ⟨⟨e,?_⟩,hn,hb⟩;rw [h1];exact yO _ _ _ _ _ (fun x hx=>h2 x (hb x hx).1 (hb x hx).2) hs
theorem YQ.head {p:Int} {hd nx pv:Int->Int} {h:Int} {l:List Int} (hl:YQ p hd nx pv h l):hd h=0\/(1<=hd h/\hd h<=p):=by
 obtain ⟨⟨e,hs⟩,-,hb⟩:=hl;cases l with
 | nil=>exact Or.inl hs.1.symm
 | cons y l=>have:=hb y zT;have:=hs.1;exact Or.inr zo
theorem jcP {p:Int} {hd nx pv:Int->Int} {h h' q:Int} {l l':List Int} (hl:YQ p hd nx pv h l) (hl':YQ p hd nx pv h' l') (hh:h'≠h) (hd':∀x∈l',x ∉ l) (hq:q ∉ l') :
 YQ p (upI hd h (q+1)) (JR hd nx h q) (Jm hd pv h q) h' l':=by
 obtain ⟨⟨e,hs⟩,hn,hb⟩:=hl';refine ⟨⟨e,?_⟩,hn,hb⟩;rw [jf _ hh];refine yO _ _ _ _ _ (fun x hx=> ?_) hs;have hxq:x≠q:=fun e=>hq (e ▸ hx);refine ⟨jf _ hxq,?_⟩;unfold Jm;split
 ·exact jf _ hxq
 ·rename_i h0;have hxl:x≠hd h - 1:=fun e2=>hd' x hx (by
   obtain ⟨⟨e3,hs3⟩,-,-⟩:=hl;cases l with
   | nil=>exact absurd hs3.1.symm h0
   | cons y l=>have:=hs3.1;rw [show x=y by omega];simp)
  rw [jf _ hxl,jf _ hxq]

theorem yA.gap {g:Int->Int} {p:Int}:∀{l:List Int} {a:Int},yA g p a l->∀y∈l,∀z∈l,y < z->y+iL (g y)<=z
 | [],_,_,y,hy,_,_,_=>by cases hy
 | x :: r,a,h,y,hy,z,hz,hlt=>by
  obtain ⟨rfl,h1,h2,h3⟩:=h;have hb:=(kP (g x)).2.2.2.2.2.2.1 h2;rcases List.mem_cons.1 hy with h4 | h4
  ·rcases List.mem_cons.1 hz with h5 | h5
   ·omega
   ·have:=(h3.ge z h5).1;rw [h4];exact this
  ·rcases List.mem_cons.1 hz with h5 | h5
   ·have:=(h3.ge y h4).1;omega
   ·exact h3.gap y h4 z h5 hlt
theorem yA.end_le {g:Int->Int} {p:Int}:∀{l:List Int} {a:Int},yA g p a l->∀y∈l,y+iL (g y)<=p/\iK (g y)≠0
 | [],_,_,y,hy=>by cases hy
 | x :: r,a,h,y,hy=>by
  obtain ⟨rfl,h1,h2,h3⟩:=h;rcases List.mem_cons.1 hy with hy | hy
  ·subst hy;exact ⟨h3.le,h2⟩
  ·exact h3.end_le y hy
theorem yA.len {g:Int->Int} {p a y:Int} {l:List Int} (h:yA g p a l) (hy:y∈l):1<=iL (g y):=((kP (g y)).2.2.2.2.2.2.1 (h.end_le y hy).2).2
theorem yA.one {g:Int->Int} {p a q y z:Int} {l:List Int} (h:yA g p a l) (hy:y∈l) (hz:z∈l) (h1:y<=q) (h2:q < y+iL (g y)) (h3:z<=q) (h4:q < z+iL (g z)):y=z:=by
 rcases (by omega:y=z\/y < z\/z < y) with e | e | e
 ·exact e
 ·have:=h.gap y hy z hz e;omega
 ·have:=h.gap z hz y hy e;omega
theorem jay {l:List Int} {y q:Int} (hy:y∈l) (h:y < q):1<=below l q:=by
 unfold below;exact List.length_pos_of_mem (List.mem_filter.2 ⟨hy,by simpa using h⟩)
theorem yA.at_ {g:Int->Int} {p q:Int}:∀{l:List Int} {a:Int},yA g p a l->a<=q->q < p->∃y,l[below l (q+1) - 1]? =some y/\y<=q/\q < y+iL (g y)
 | [],a,h,h0,h1=>by have e:a=p:=h;omega
 | x :: r,a,h,h0,h1=>by
  obtain ⟨rfl,h2,h3,h4⟩:=h;have e:below (x :: r) (q+1)=1+below r (q+1):=by
   unfold below;rw [List.filter_cons,if_pos (by simpa using (show x < q+1 by omega)),List.length_cons];omega
  by_cases hq:q < x+iL (g x)
  ·have e2:below r (q+1)=0:=by
    simp only [below,List.length_eq_zero_iff,List.filter_eq_nil_iff];intro y hy;have:=(h4.ge y hy).1;simp;omega
   exact ⟨x,by rw [e,e2];rfl,h0,hq⟩
  ·obtain ⟨y,i1,i2,i3⟩:=h4.at_ (q:=q) zo h1;have hp:=jay (List.mem_of_getElem? i1) (show y < q+1 by omega);refine ⟨y,?_,i2,i3⟩;rw [e,show 1+below r (q+1) - 1=(below r (q+1) - 1)+1 by omega,List.getElem?_cons_succ];exact i1
section
variable {vs:List Int} {t:Int} {P:Nat} {l:List Int}
theorem feet_ptr (h:yA (fun q=>gv vs t q 0) P 0 l) (q:Nat) (hq:q < P):jbB l (below l q - 1) q=below l (q+1) - 1:=by
 have hs:=h.sorted;have hs1:=Qx hs q;cases l with
 | nil=>have e:(0:Int)=P:=h;omega
 | cons x r=>
  have hx:x=0:=h.1;subst hx;by_cases h0:q=0
  ·subst h0;have b0:below ((0:Int) :: r) ((0:Nat):Int)=0:=by
    simp only [below,List.length_eq_zero_iff,List.filter_eq_nil_iff];intro y hy;have:=(h.ge y hy).1;simp;omega
   rw [b0] at hs1;have hm:(((0:Nat):Int))∈(0:Int) :: r:=zT;rw [if_pos hm] at hs1;have hs1':below ((0:Int) :: r) (((0:Nat):Int)+1)=0+1:=hs1;rw [hs1',b0];unfold jbB;rw [if_neg];intro e;have h1:=(List.pairwise_cons.1 hs).1;simp at e;have:=h1 0 (List.mem_of_getElem? e);omega
  ·have hp:=jay (l:=(0:Int) :: r) (y:=0) (q:=q) zT zo;unfold jbB;rw [show below ((0:Int) :: r) q - 1+1=below ((0:Int) :: r) q by omega];have hsa:=Jg (q:=(q:Int)) hs;have hs1':below ((0:Int) :: r) ((q:Int)+1)=if (q:Int)∈(0:Int) :: r then below ((0:Int) :: r) q+1 else below ((0:Int) :: r) q:=hs1
   rw [hs1'];by_cases hm:(q:Int)∈(0:Int) :: r
   ·rw [if_pos (hsa.2 hm),if_pos hm];omega
   ·rw [if_neg (fun e=>hm (hsa.1 e)),if_neg hm]
theorem jat (h:yA (fun q=>gv vs t q 0) P 0 l):∀k:Nat,k<=P->((yz vs t l k).isSome=true↔∀q:Nat,q < k->gv vs t q 1=YR vs t l (below l (q+1) - 1) q)/\∀m,yz vs t l k=some m->m=below l k - 1
 | 0,_=>by
  refine ⟨⟨fun _ q hq=>by omega,fun _=>rfl⟩,fun m hm=> ?_⟩;have b0:below l ((0:Nat):Int)=0:=by
   simp only [below,List.length_eq_zero_iff,List.filter_eq_nil_iff];intro y hy;have:=(h.ge y hy).1;simp;omega
  rw [b0];exact (Option.some.inj hm).symm
 | k+1,hk=>by
  obtain ⟨i1,i2⟩:=jat h k zo;have hp:=feet_ptr h k zo;unfold yz;cases hf:yz vs t l k with
  | none=>
   refine ⟨⟨fun x=>(by cases x),fun x=> ?_⟩,fun m hm=>(by cases hm)⟩;have:=i1.2 (fun q hq=>x q zo);rw [hf] at this;cases this
  | some m=>
   have hm:=i2 m hf;subst hm;dsimp only;rw [hp];by_cases hw:gv vs t (k:Int) 1=YR vs t l (below l ((k:Int)+1) - 1) k
   ·rw [if_pos hw];refine ⟨⟨fun _ q hq=> ?_,fun _=>rfl⟩,fun m hm=>(Option.some.inj hm).symm⟩;by_cases e:q=k
    ·subst e;exact hw
    ·exact i1.1 (by rw [hf];rfl) q zo
   ·rw [if_neg hw];exact ⟨⟨fun x=>(by cases x),fun x=>absurd (x k zo) hw⟩,fun m hm=>(by cases hm)⟩
theorem jb9 (h:yA (fun q=>gv vs t q 0) P 0 l):V7 vs t P=true↔(∀y∈l,gv vs t (y+iL (gv vs t y 0) - 1) 1=y+1)/\∀x:Int,0<=x->x < P->(∀y∈l,x≠y+iL (gv vs t y 0) - 1)->gv vs t x 1=0:=by
 have hs:jX (fun q=>gv vs t q 0) P=(l,true):=(yX zo).2 h;unfold V7;rw [hs,show (P:Int).toNat=P by omega,(jat h P (Nat.le_refl _)).1];have hw:∀q:Nat,q < P->∃y∈l,y<=q/\(q:Int) < y+iL (gv vs t y 0)/\YR vs t l (below l (q+1) - 1) q=if (q:Int)=y+iL (gv vs t y 0) - 1 then y+1 else 0:=by
  intro q hq;obtain ⟨y,h1,h2,h3⟩:=h.at_ (q:=(q:Int)) zo zo;refine ⟨y,List.mem_of_getElem? h1,h2,h3,?_⟩;unfold YR;rw [show l.getD (below l ((q:Int)+1) - 1) 0=y by simp [List.getD,h1]]
 constructor
 ·intro hq;constructor
  ·intro y hy;have h1:=h.end_le y hy;have h2:=h.len hy;have h3:=(h.ge y hy).1;(try dsimp only at h1 h2);obtain ⟨z,hz,z1,z2,z3⟩:=hw (y+iL (gv vs t y 0) - 1).toNat zo;have h4:=hq (y+iL (gv vs t y 0) - 1).toNat zo;have e:(((y+iL (gv vs t y 0) - 1).toNat:Nat):Int)=y+iL (gv vs t y 0) - 1:=zo;rw [e] at z1 z2 z3 h4;have hyz:y=z:=h.one hy hz (q:=y+iL (gv vs t y 0) - 1) zo zo z1 z2;subst hyz;rw [h4,z3,if_pos rfl]
  ·intro x x0 x1 hx;obtain ⟨z,hz,z1,z2,z3⟩:=hw x.toNat zo;have h4:=hq x.toNat zo;have e:((x.toNat:Nat):Int)=x:=zo;rw [e] at z1 z2 z3 h4;rw [h4,z3,if_neg (hx z hz)]
 ·rintro ⟨f1,f0⟩ q hq;obtain ⟨z,hz,z1,z2,z3⟩:=hw q hq;rw [z3];by_cases e:(q:Int)=z+iL (gv vs t z 0) - 1
  ·rw [if_pos e,e];exact f1 z hz
  ·rw [if_neg e];refine f0 q zo zo fun y hy e2=>e ?_;have h2:=h.len hy;have h3:=(h.ge y hy).1;(try dsimp only at h2);have:y=z:=h.one hy hz (q:=(q:Int)) zo zo z1 z2;rw [<-this];exact e2
def ApL (g:Int->Int):List Int->Prop
 | []=>True
 | x :: r=>(match r with | []=>True | y :: _=>¬(iK (g x)=1/\iK (g y)=1))/\ApL g r
theorem Vy (g:Int->Int):∀l:List Int,(∀k,k < l.length - 1->¬(iK (g (l.getD (k+1) 0))=1/\iK (g (l.getD k 0))=1))↔ApL g l
 | []=>by simp [ApL]
 | [x]=>by simp [ApL]
 | x :: y :: r=>by
  have ih:=Vy g (y :: r);unfold ApL;rw [<-ih];constructor
  ·intro h;refine ⟨fun e=>h 0 zT ⟨e.2,e.1⟩,fun k hk=> ?_⟩;have:=h (k+1) (by simp at hk ⊢;omega);exact this
  ·rintro ⟨h1,h2⟩ k hk;cases k with
   | zero=>exact fun e=>h1 ⟨e.2,e.1⟩
   | succ k=>exact h2 k (by simp at hk ⊢;omega)
theorem jaz (h:yA (fun q=>gv vs t q 0) P 0 l):Qd vs t P=true↔ApL (fun q=>gv vs t q 0) l:=by
 have hs:jX (fun q=>gv vs t q 0) P=(l,true):=(yX zo).2 h;unfold Qd;rw [hs,qM,<-Vy];constructor
 ·intro hk k hlt;have:=hk k hlt;unfold apB at this;rintro ⟨e1,e2⟩;rw [e1,e2] at this;exact absurd this zd
 ·intro hk k hlt;have:=hk k hlt;unfold apB;cases e1:(iK (gv vs t (l.getD (k+1) 0) 0) == 1)
  ·rfl
  ·cases e2:(iK (gv vs t (l.getD k 0) 0) == 1)
   ·rfl
   ·exact absurd ⟨by simpa using e1,by simpa using e2⟩ this
theorem Xu:yB vs t P=true↔(∀x:Int,0<=x->x < P->∀i:Nat,i < 32->(bitB (gv vs t x 4) i=true->bitB (gv vs t x 5) i=true)/\(bitB (gv vs t x 5) i=true->iK (gv vs t x 0)=3/\(i:Int) < jE (iC (gv vs t x 0))))/\∀x:Int,0<=x->x < P->iK (gv vs t x 0)=3->gv vs t x 5≠0:=by
 unfold yB;rw [qM,show (P:Int).toNat=P by omega];have key:∀q:Nat,yY vs t q=true↔(∀i:Nat,i < 32->(bitB (gv vs t q 4) i=true->bitB (gv vs t q 5) i=true)/\(bitB (gv vs t q 5) i=true->iK (gv vs t q 0)=3/\(i:Int) < jE (iC (gv vs t q 0))))/\(iK (gv vs t q 0)=3->gv vs t q 5≠0):=by
  intro q;unfold yY;rw [Bool.and_eq_true,qM];have h1:∀i:Nat,KM vs t q i=true↔(bitB (gv vs t q 4) i=true->bitB (gv vs t q 5) i=true)/\(bitB (gv vs t q 5) i=true->iK (gv vs t q 0)=3/\(i:Int) < jE (iC (gv vs t q 0))):=by
   intro i;unfold KM jfF;cases bitB (gv vs t q 4) i <;> cases bitB (gv vs t q 5) i <;> simp
  have h2:(!(iK (gv vs t q 0) == 3 && gv vs t q 5 == 0))=true↔(iK (gv vs t q 0)=3->gv vs t q 5≠0):=by
   cases e1:(iK (gv vs t q 0) == 3)
   ·simp at e1;simp [e1]
   ·simp at e1;simp [e1]
  rw [h2];exact ⟨fun h=>⟨fun i hi=>(h1 i).1 (h.1 i hi),h.2⟩,fun h=>⟨fun i hi=>(h1 i).2 (h.1 i hi),h.2⟩⟩
 constructor
 ·intro h;constructor
  ·intro x x0 x1;have:=(key x.toNat).1 (h x.toNat zo);rw [show ((x.toNat:Nat):Int)=x by omega] at this;exact this.1
  ·intro x x0 x1;have:=(key x.toNat).1 (h x.toNat zo);rw [show ((x.toNat:Nat):Int)=x by omega] at this;exact this.2
 ·rintro ⟨h1,h2⟩ q hq;exact (key q).2 ⟨h1 q zo zo,h2 q zo zo⟩
def JH (g:Int->Int):List Int->Int
 | []=>0
 | x :: r=>(if iK (g x)=1 then iL (g x) else 0)+JH g r
theorem QO (g:Int->Int):∀l m:List Int,JH g (l++m)=JH g l+JH g m
 | [],m=>by simp [JH]
 | x :: l,m=>by simp [JH,QO g l m];omega
theorem qE {g g':Int->Int}:∀{l:List Int},(∀x∈l,g' x=g x)->JH g' l=JH g l
 | [],_=>rfl
 | x :: l,h=>by unfold JH;rw [h x zT,qE (l:=l) (fun y hy=>h y (by simp [hy]))]
theorem iK_0:iK 0=0:=by decide
theorem V5:∀(l:List Int) (q:Nat),yA (fun q=>gv vs t q 0) P q l->(∀x:Nat,q<=x->x < P->(x:Int) ∉ l->gv vs t x 0=0)->Jq vs t P=Jq vs t q+JH (fun q=>gv vs t q 0) l
 | [],q,h,_=>by
  have e:(q:Int)=P:=h;obtain rfl:q=P:=zo;simp [JH]
 | x :: r,q,h,hz=>by
  obtain ⟨rfl,h1,h2,h3⟩:=h;have hb:=(kP (gv vs t q 0)).2.2.2.2.2.2.1 h2;dsimp only at h3;have e:(q:Int)+iL (gv vs t q 0)=((q+(iL (gv vs t q 0)).toNat:Nat):Int):=zo;have h3':yA (fun q=>gv vs t q 0) P ((q+(iL (gv vs t q 0)).toNat:Nat):Int) r:=by rw [<-e];exact h3
  have ih:=V5 r _ h3' (fun y hy hy2 hyr=>hz y zo hy2 (fun hm=>by
   rcases List.mem_cons.1 hm with hm | hm
   ·omega
   ·exact hyr hm))
  have hle:=h3'.le;have key:∀j,j < (iL (gv vs t q 0)).toNat->Jq vs t (q+j+1)=Jq vs t q+(if iK (gv vs t q 0)=1 then iL (gv vs t q 0) else 0):=by
   intro j;induction j with
   | zero=>intro _;rfl
   | succ j ihj=>
    intro hj;have hz2:gv vs t ((q+j+1:Nat):Int) 0=0:=hz (q+j+1) zo zo (fun hm=>by
     rcases List.mem_cons.1 hm with hm | hm
     ·omega
     ·have:=(h3'.ge _ hm).1;omega)
    show Jq vs t (q+j+1)+(if iK (gv vs t ((q+j+1:Nat):Int) 0)=1 then iL (gv vs t ((q+j+1:Nat):Int) 0) else 0)=_;rw [ihj zo,hz2,if_neg (show¬iK 0=1 by decide)];omega
  have hk:=key ((iL (gv vs t q 0)).toNat - 1) zo;rw [show q+((iL (gv vs t q 0)).toNat - 1)+1=q+(iL (gv vs t q 0)).toNat by omega] at hk;rw [ih,hk];have es:JH (fun q=>gv vs t q 0) ((q:Int) :: r)=(if iK (gv vs t q 0)=1 then iL (gv vs t q 0) else 0)+JH (fun q=>gv vs t q 0) r:=rfl;rw [es];omega
theorem jaQ {g:Int->Int} {p:Int}:∀{l:List Int} {a:Int},yA g p a l->0<=JH g l/\JH g l<=p - a
 | [],a,h=>by have e:a=p:=h;simp [JH];omega
 | x :: r,a,h=>by
  obtain ⟨rfl,h1,h2,h3⟩:=h;have hb:=(kP (g x)).2.2.2.2.2.2.1 h2;have:=jaQ h3;unfold JH;split <;> omega
end

def Jy (t:Int) (c:Int->Int) (h x:Int):Bool:=if h < 13 then qD (c (pl t x 0)) (h - 2) else qn (c (pl t x 0)) (c (pl t x 5)) (h - 13)
structure Qe (t P:Int) (c:Int->Int) (L:Int->List Int) (a b:Int) (l1 l2:List Int):Prop where
 a0:0<=a
 ab:a<=b
 bP:b<=P
 t1:yA (cg t c 0) a 0 l1
 t2:yA (cg t c 0) P b l2
 zero:∀x,0<=x->x < P->x ∉ l1->x ∉ l2->(x≠a\/a=b)->c (pl t x 0)=0
 foot1:∀y,y∈l1\/y∈l2->c (pl t (y+iL (c (pl t y 0)) - 1) 1)=y+1
 foot0:∀x,0<=x->x < P->(∀y,y∈l1\/y∈l2->x≠y+iL (c (pl t y 0)) - 1)->(x≠b - 1\/a=b)->c (pl t x 1)=0
 ap1:ApL (cg t c 0) l1
 ap2:ApL (cg t c 0) l2
 bits:∀x,0<=x->x < P->∀i:Nat,i < 32->(bitB (c (pl t x 4)) i=true->bitB (c (pl t x 5)) i=true)/\(bitB (c (pl t x 5)) i=true->iK (c (pl t x 0))=3/\(i:Int) < jE (iC (c (pl t x 0)))/\¬(a<=x/\x < b))
 taken:∀x,0<=x->x < P->¬(a<=x/\x < b)->iK (c (pl t x 0))=3->c (pl t x 5)≠0
 lists:∀h,2<=h->h<=21->YQ P c (cg t c 2) (cg t c 3) h (L h)
 own:∀h x,2<=h->h<=21->0<=x->x < P->(x∈L h↔Jy t c h x=true/\¬(a<=x/\x < b))
 loose:∀x,0<=x->x < P->(∀h,2<=h->h<=21->x ∉ L h)->c (pl t x 2)=0/\c (pl t x 3)=0
 free:c 0=JH (cg t c 0) l1+JH (cg t c 0) l2+(if a < b then b - a - 1 else 0)
def cv (vs:List Int):Int->Int:=fun i=>vs.getD i.toNat 0
theorem cv_pl (vs:List Int) (t x k:Int):cv vs (pl t x k)=gv vs t x k:=rfl
theorem jeF (vs:List Int) (t:Int) (a x:Nat) (h:2<=a):Jy t (cv vs) a x=jcU vs t a x:=by
 unfold Jy jcU;by_cases ha:a < 13
 ·rw [if_pos zo,if_pos ha,show ((a - 2:Nat):Int)=(a:Int) - 2 by omega];rfl
 ·rw [if_neg zo,if_neg ha,show ((a - 13:Nat):Int)=(a:Int) - 13 by omega];rfl
theorem VZ {n:Int} (h1:1<=n) (h2:n<=1024):0<=qr n/\qr n<=10:=by
 have key:∀m:Nat,m<=1024->1<=m->1<=KA m/\KA m<=11:=by decide+kernel
 have:=key n.toNat zo zo;unfold qr;omega
theorem hung_own {t x:Int} {c:Int->Int}:(iK (c (pl t x 0))=1\/(iK (c (pl t x 0))=3/\qx (c (pl t x 5)) (iC (c (pl t x 0)))=false))↔∃h,2<=h/\h<=21/\Jy t c h x=true:=by
 have hb:=kP (c (pl t x 0));constructor
 ·rintro (h | ⟨h,h2⟩)
  ·have hl:=VZ (n:=iL (c (pl t x 0))) (hb.2.2.2.2.2.2.1 zo).2 zo;refine ⟨2+qr (iL (c (pl t x 0))),zo,zo,?_⟩;unfold Jy qD;rw [if_pos zo];simp [h];omega
  ·refine ⟨13+iC (c (pl t x 0)),zo,zo,?_⟩;unfold Jy qn;rw [if_neg zo,show 13+iC (c (pl t x 0)) - 13=iC (c (pl t x 0)) by omega];simp [h,h2]
 ·rintro ⟨h,h2,h21,ho⟩;unfold Jy qD qn at ho;split at ho
  ·simp at ho;exact Or.inl ho.1
  ·simp at ho;exact Or.inr ⟨ho.1.1,by rw [ho.1.2];exact ho.2⟩
theorem Kh {t x h h':Int} {c:Int->Int} (h2:2<=h) (h2':2<=h') (e:Jy t c h x=true) (e':Jy t c h' x=true):h=h':=by
 unfold Jy qD qn at e e';split at e <;> split at e' <;> simp at e e' <;> omega
theorem jeI {p:Int} {l:List Int} (hn:l.Nodup) (hb:∀x∈l,0<=x/\x < p):l.length<=p.toNat:=by
 have:=VS.length_le_of_nodup p.toNat (l.map Int.toNat) ((List.pairwise_map).2 (List.Pairwise.imp_of_mem (fun {x y} hx hy hxy=>by
  have:=hb x hx;have:=hb y hy;omega) hn)) (by
  intro x hx;obtain ⟨y,hy,rfl⟩:=List.mem_map.1 hx;have:=hb y hy;omega)
 simpa using this
theorem Xw {vs:List Int} {t p:Int}:∀(l:List Int) (f:Nat) (q ah e:Int) (out:List Int),seg (fun x=>gv vs t x 2) (fun x=>gv vs t x 3) q ah l 0 e->(∀x∈l,0<=x/\x < p)->(out.length:Int)+l.length<=p->l.length < f->K0 vs t p f q ah out=(out++l,true)
 | [],f,q,ah,e,out,h,_,_,hf=>by
  have hq:q=0:=h.1.symm;cases f with
  | zero=>simp at hf
  | succ f=>unfold K0;rw [if_pos hq];simp
 | x :: l,f,q,ah,e,out,h,hb,hl,hf=>by
  obtain ⟨h1,h2,h3⟩:=h;have hx:=hb x zT;simp only [List.length_cons] at hl hf;cases f with
  | zero=>omega
  | succ f=>
   unfold K0;have e1:q - 1=x:=zo;rw [if_neg zo,if_neg zo,e1,if_neg (by simpa using h2)];have e2:q=x+1:=h1;rw [e2,Xw l f _ _ e (out++[x]) h3 (fun y hy=>hb y (by simp [hy])) (by simp;omega) zo];simp
section
variable {vs:List Int} {t s:Int} {P:Nat}
theorem YC:(J4 vs t P s).2=true↔Kn vs t P=true/\V7 vs t P=true/\Qd vs t P=true/\yB vs t P=true/\YI vs t P=true/\JO vs t P=true/\QD vs t P=true/\JD vs t P=true/\QB vs t P s=true:=by
 unfold J4;cases h1:Kn vs t P
 ·simp
 cases h2:V7 vs t P
 ·simp
 cases h3:Qd vs t P
 ·simp
 cases h4:yB vs t P
 ·simp
 cases h5:YI vs t P
 ·simp
 cases h6:JO vs t P
 ·simp
 cases h7:QD vs t P
 ·simp
 cases h8:JD vs t P
 ·simp
 cases h9:QB vs t P s
 ·simp
 simp
theorem Xn:Kn vs t P=true↔∃l,yA (fun q=>gv vs t q 0) P 0 l/\∀x:Nat,x < P->(x:Int) ∉ l->gv vs t x 0=0:=by
 unfold Kn;constructor
 ·intro h;rw [Bool.and_eq_true] at h;obtain ⟨h1,h2⟩:=h;generalize hl:jX (fun q=>gv vs t q 0) P=sl at h1 h2;obtain ⟨l,b⟩:=sl;simp only at h1 h2;subst h1;have ht:=(yX zo).1 hl;obtain ⟨n,hn⟩:=Option.isSome_iff_exists.1 h2;rw [show (P:Int).toNat=P by omega] at hn;exact ⟨l,ht,fun x hx hxl=>(Q8 ht.sorted (fun y hy=>(ht.ge y hy).1) P n hn).2 x hx hxl⟩
 ·rintro ⟨l,ht,hz⟩;have hs:jX (fun q=>gv vs t q 0) P=(l,true):=(yX zo).2 ht;rw [hs,show (P:Int).toNat=P by omega];simp only [Bool.true_and];rw [Qh ht.sorted (fun y hy=>(ht.ge y hy).1) P hz];rfl
theorem jag:QD vs t P=true↔∀x:Int,0<=x->x < P->(∃h,2<=h/\h<=21/\Jy t (cv vs) h x=true)\/(gv vs t x 2=0/\gv vs t x 3=0):=by
 unfold QD;rw [qM,show (P:Int).toNat=P by omega];have key:∀q:Nat,y9 vs t q=true↔(∃h,2<=h/\h<=21/\Jy t (cv vs) h q=true)\/(gv vs t q 2=0/\gv vs t q 3=0):=by
  intro q;rw [<-hung_own];simp only [cv_pl];unfold y9 hungB;simp
 constructor
 ·intro h x x0 x1;have:=(key x.toNat).1 (h x.toNat zo);rwa [show ((x.toNat:Nat):Int)=x by omega] at this
 ·intro h q hq;exact (key q).2 (h q zo zo)
theorem jaj:(YI vs t P=true/\JO vs t P=true)↔∀a:Nat,2<=a->a<=21->(qI vs t P a).2=true/\∀q:Nat,q < P->(((qI vs t P a).1.count (q:Int):Nat):Int)=Kl (jcU vs t a q):=by
 unfold YI JO;rw [qM,qM];have kb:∀k,YJ vs t P k=true↔(qI vs t P (2+k)).2=true/\∀q:Nat,q < P->(((qI vs t P (2+k)).1.count (q:Int):Nat):Int)=Kl (qD (gv vs t q 0) k):=by
  intro k;unfold YJ;rw [Bool.and_eq_true,qM,show (P:Int).toNat=P by omega];unfold JG;simp
 have kr:∀k,JP vs t P k=true↔(qI vs t P (13+k)).2=true/\∀q:Nat,q < P->(((qI vs t P (13+k)).1.count (q:Int):Nat):Int)=Kl (qn (gv vs t q 0) (gv vs t q 5) k):=by
  intro k;unfold JP;rw [Bool.and_eq_true,qM,show (P:Int).toNat=P by omega];unfold yD;simp
 constructor
 ·rintro ⟨hb,hr⟩ a h2 h21;by_cases ha:a < 13
  ·have:=(kb (a - 2)).1 (hb (a - 2) zo);rw [show 2+(a - 2)=a by omega] at this;refine ⟨this.1,fun q hq=> ?_⟩;unfold jcU;rw [if_pos ha];exact this.2 q hq
  ·have:=(kr (a - 13)).1 (hr (a - 13) zo);rw [show 13+(a - 13)=a by omega] at this;refine ⟨this.1,fun q hq=> ?_⟩;unfold jcU;rw [if_neg ha];exact this.2 q hq
 ·intro h;constructor
  ·intro k hk;obtain ⟨h1,h2⟩:=h (2+k) zo zo;refine (kb k).2 ⟨h1,fun q hq=> ?_⟩;have:=h2 q hq;unfold jcU at this;rw [if_pos zo,show 2+k - 2=k by omega] at this;exact this
  ·intro k hk;obtain ⟨h1,h2⟩:=h (13+k) zo zo;refine (kr k).2 ⟨h1,fun q hq=> ?_⟩;have:=h2 q hq;unfold jcU at this;rw [if_neg zo,show 13+k - 13=k by omega] at this;exact this
theorem Yy (hu:∀v∈vs,VS.U32 v) (h:(J4 vs t P s).2=true):∃l,Qe t P (cv vs) (fun a=>(qI vs t P a.toNat).1) 0 0 [] l:=by
 obtain ⟨h1,h2,h3,h4,h5,h6,h7,h8,-⟩:=YC.1 h;obtain ⟨l,ht,hz⟩:=Xn.1 h1;obtain ⟨f1,f0⟩:=(jb9 ht).1 h2;obtain ⟨b1,b2⟩:=Xu.1 h4;have hl:=jaj.1 ⟨h5,h6⟩;have hso:=fun a h2 h21=>sound_ok hu zo h a h2 h21;have hown:∀a x:Int,2<=a->a<=21->0<=x->x < P->(x∈(qI vs t P a.toNat).1↔Jy t (cv vs) a x=true):=by
  intro a x a2 a21 x0 x1;have hc:=(hl a.toNat zo zo).2 x.toNat zo;have ho:=jeF vs t a.toNat x.toNat zo;rw [show ((a.toNat:Nat):Int)=a by omega,show ((x.toNat:Nat):Int)=x by omega] at ho;rw [show ((x.toNat:Nat):Int)=x by omega] at hc;rw [ho,<-List.count_pos_iff];cases e:jcU vs t a.toNat x.toNat
  ·rw [e] at hc;have hc2:(((qI vs t P a.toNat).1.count x:Nat):Int)=0:=hc;exact ⟨fun hp=>by omega,fun hp=>by cases hp⟩
  ·rw [e] at hc;have hc2:(((qI vs t P a.toNat).1.count x:Nat):Int)=1:=hc;exact ⟨fun _=>rfl,fun _=>by omega⟩
 refine ⟨l,⟨zo,zo,zo,rfl,ht,fun x x0 x1 _ x3 _=> ?_,fun y hy=> ?_,fun x x0 x1 x2 _=> ?_,trivial,(jaz ht).1 h3,fun x x0 x1 i hi=> ?_,fun x x0 x1 _=>b2 x x0 x1,fun a a2 a21=> ?_,fun a x a2 a21 x0 x1=> ?_,fun x x0 x1 hx=> ?_,?_⟩⟩
 ·have:=hz x.toNat zo (by rwa [show ((x.toNat:Nat):Int)=x by omega]);rwa [show ((x.toNat:Nat):Int)=x by omega] at this
 ·rcases hy with hy | hy
  ·cases hy
  ·exact f1 y hy
 ·exact f0 x x0 x1 fun y hy=>x2 y (Or.inr hy)
 ·have:=b1 x x0 x1 i hi;exact ⟨this.1,fun e=>⟨(this.2 e).1,(this.2 e).2,zo⟩⟩
 ·have:=hso a.toNat zo zo;rw [show ((a.toNat:Nat):Int)=a by omega] at this;exact this
 ·rw [hown a x a2 a21 x0 x1];exact ⟨fun e=>⟨e,zo⟩,fun e=>e.1⟩
 ·rcases jag.1 h7 x x0 x1 with ⟨a,a2,a21,ho⟩ | hn
  ·exact absurd ((hown a x a2 a21 x0 x1).2 ho) (hx a a2 a21)
  ·exact hn
 ·unfold JD at h8;rw [Bool.and_eq_true] at h8;have h9:vs.getD 0 0=Jq vs t (P:Int).toNat:=of_decide_eq_true h8.1;rw [show (P:Int).toNat=P by omega,V5 l 0 ht (fun x _ hx hxl=>hz x hx hxl)] at h9;show vs.getD 0 0=_;rw [h9];simp [JH,Jq];rfl
theorem jbw {L:Int->List Int} {l:List Int} (h:Qe t P (cv vs) L 0 0 [] l) (hlive:vs.getD 1 0=JY vs t P) (hroots:QB vs t P s=true):(J4 vs t P s).2=true:=by
 have ht:yA (fun q=>gv vs t q 0) P 0 l:=h.t2;have hz:∀x:Nat,x < P->(x:Int) ∉ l->gv vs t x 0=0:=fun x hx hxl=>h.zero x zo zo zT hxl (Or.inr rfl);have hLs:∀a:Nat,2<=a->a<=21->qI vs t P a=(L a,true):=by
  intro a a2 a21;obtain ⟨⟨e,hs⟩,hn,hb⟩:=h.lists a zo zo;have hlen:=jeI hn hb;unfold qI;have hs2:seg (fun x=>gv vs t x 2) (fun x=>gv vs t x 3) (vs.getD a 0) 0 (L a) 0 e:=hs;rw [Xw (L a) _ _ _ e [] hs2 hb (by simp;omega) zo];simp
 refine YC.2 ⟨Xn.2 ⟨l,ht,hz⟩,(jb9 ht).2 ⟨fun y hy=>h.foot1 y (Or.inr hy),fun x x0 x1 hx=>h.foot0 x x0 x1 (fun y hy=> ?_) (Or.inr rfl)⟩,(jaz ht).2 h.ap2,Xu.2 ⟨fun x x0 x1 i hi=> ?_,fun x x0 x1 hk=>h.taken x x0 x1 zo hk⟩,?_⟩
 ·rcases hy with hy | hy
  ·cases hy
  ·exact hx y hy
 ·have:=h.bits x x0 x1 i hi;exact ⟨this.1,fun e=>⟨(this.2 e).1,(this.2 e).2.1⟩⟩
 ·have hbr:YI vs t P=true/\JO vs t P=true:=by
   refine jaj.2 fun a a2 a21=> ?_;rw [hLs a a2 a21];refine ⟨rfl,fun q hq=> ?_⟩;have ho:=h.own a q zo zo zo zo;rw [jeF vs t a q zo] at ho;have hn:=(h.lists a zo zo).2.1;simp only;cases e:jcU vs t a q
   ·rw [e] at ho;have:(q:Int) ∉ L a:=fun hm=>by have:=(ho.1 hm).1;cases this
    rw [List.count_eq_zero_of_not_mem this];rfl
   ·rw [e] at ho;have:(q:Int)∈L a:=ho.2 ⟨rfl,zo⟩;rw [List.nodup_iff_count.1 hn q |> fun hle=>Nat.le_antisymm hle (List.count_pos_iff.2 this)];rfl
  refine ⟨hbr.1,hbr.2,jag.2 fun x x0 x1=> ?_,?_,hroots⟩
  ·by_cases ho:∃a,2<=a/\a<=21/\Jy t (cv vs) a x=true
   ·exact Or.inl ho
   ·exact Or.inr (h.loose x x0 x1 fun a a2 a21 hm=>ho ⟨a,a2,a21,((h.own a x a2 a21 x0 x1).1 hm).1⟩)
  ·unfold JD;have hf:=h.free;have h9:=V5 l 0 ht (fun x _ hx hxl=>hz x hx hxl);rw [show (P:Int).toNat=P by omega,Bool.and_eq_true];refine ⟨decide_eq_true ?_,decide_eq_true hlive⟩;rw [h9];have hf2:vs.getD 0 0=_:=hf;rw [hf2];simp [JH,Jq];rfl
end

structure Lst (t P:Int) (c:Int->Int) (L:Int->List Int) (own:Int->Int->Prop):Prop where
 lists:∀h,2<=h->h<=21->YQ P c (cg t c 2) (cg t c 3) h (L h)
 own_:∀h x,2<=h->h<=21->0<=x->x < P->(x∈L h↔own h x)
 one:∀h h' x,2<=h->h<=21->2<=h'->h'<=21->own h x->own h' x->h=h'
 loose:∀x,0<=x->x < P->(∀h,2<=h->h<=21->¬own h x)->c (pl t x 2)=0/\c (pl t x 3)=0
section
variable {t P:Int} {c c':Int->Int} {L:Int->List Int} {own own':Int->Int->Prop}
theorem Lst.apart (k:Lst t P c L own) {h h' x:Int} (h2:2<=h) (h21:h<=21) (h2':2<=h') (h21':h'<=21) (hx:x∈L h) (hx':x∈L h'):h=h':=by
 have hb:=(k.lists h h2 h21).2.2 x hx;exact k.one h h' x h2 h21 h2' h21' ((k.own_ h x h2 h21 hb.1 hb.2).1 hx) ((k.own_ h' x h2' h21' hb.1 hb.2).1 hx')
theorem Lst.congr (k:Lst t P c L own) (hl:∀h,2<=h->h<=21->c' h=c h) (hp:∀x,0<=x->x < P->c' (pl t x 2)=c (pl t x 2)/\c' (pl t x 3)=c (pl t x 3)) (ho:∀h x,2<=h->h<=21->0<=x->x < P->(own' h x↔own h x)) (h1:∀h h' x,2<=h->h<=21->2<=h'->h'<=21->own' h x->own' h' x->h=h'):Lst t P c' L own':=
 ⟨fun h h2 h21=>(k.lists h h2 h21).congr (hl h h2 h21) hp,fun h x h2 h21 x0 x1=>(k.own_ h x h2 h21 x0 x1).trans (ho h x h2 h21 x0 x1).symm,h1,fun x x0 x1 hx=>by
  rw [(hp x x0 x1).1,(hp x x0 x1).2];exact k.loose x x0 x1 fun h h2 h21 e=>hx h h2 h21 ((ho h x h2 h21 x0 x1).2 e)⟩
theorem Lst.pull (k:Lst t P c L own) (ht:1<=t) {a q:Int} (a2:2<=a) (a21:a<=21) (q0:0<=q) (q1:q < P) (ho:own a q) :
 jbC t P c q/\∃L',Lst t P (kG t a q c) L' (fun h x=>own h x/\x≠q):=by
 have hq:=(k.own_ a q a2 a21 q0 q1).2 ho;have hlk:=jbC.of (k.lists a a2 a21) hq;refine ⟨hlk,?_⟩;obtain ⟨A,B,e⟩:=List.append_of_mem hq;have hl:=k.lists a a2 a21;rw [e] at hl;have hpg:∀x,0<=x->x < P->cg t (kG t a q c) 2 x=y7 (cg t c 2) (cg t c 3) q x/\cg t (kG t a q c) 3 x=yZ (cg t c 2) (cg t c 3) q x:=fun x x0 _=>⟨pullC_nx ht a21 hlk x0,pullC_pv ht a21 hlk x0⟩
 refine ⟨fun h=>if h=a then A++B else L h,fun h h2 h21=> ?_,fun h x h2 h21 x0 x1=> ?_,fun h h' x h2 h21 h2' h21' o o'=>k.one h h' x h2 h21 h2' h21' o.1 o'.1,fun x x0 x1 hx=> ?_⟩
 ·by_cases eh:h=a
  ·subst eh;rw [if_pos rfl];exact (pull_law hl).congr (jbV ht hlk zo) hpg
  ·rw [if_neg eh];refine (jcQ hl (k.lists h h2 h21) eh fun x hx hx2=>eh ?_).congr (jbV ht hlk zo) hpg;exact k.apart h2 h21 a2 a21 hx (by rw [e];exact hx2)
 ·by_cases eh:h=a
  ·subst eh;rw [if_pos rfl];have h5:=k.own_ h x h2 h21 x0 x1;rw [e] at h5;have hn:=hl.2.1;rw [<-h5];simp only [List.nodup_append,List.nodup_cons,List.mem_cons,List.mem_append] at hn ⊢;constructor
   ·rintro (hx | hx)
    ·exact ⟨Or.inl hx,fun e2=>hn.2.2 x hx q (Or.inl rfl) e2⟩
    ·exact ⟨Or.inr (Or.inr hx),fun e2=>hn.2.1.1 (e2 ▸ hx)⟩
   ·rintro ⟨hx | hx | hx,h6⟩
    ·exact Or.inl hx
    ·exact absurd hx h6
    ·exact Or.inr hx
  ·rw [if_neg eh,k.own_ h x h2 h21 x0 x1];exact ⟨fun o=>⟨o,fun e2=>eh (by subst e2;exact k.one h a x h2 h21 a2 a21 o ho)⟩,fun o=>o.1⟩
 ·have e2:=(hpg x x0 x1)
  show cg t (kG t a q c) 2 x=0/\cg t (kG t a q c) 3 x=0;rw [e2.1,e2.2];by_cases eq:x=q
  ·subst eq;exact ⟨ju _ _ _,ju _ _ _⟩
  ·have hno:∀h,2<=h->h<=21->¬own h x:=fun h h2 h21 o=>hx h h2 h21 ⟨o,eq⟩;have hz:=k.loose x x0 x1 hno;have hxa:x ∉ A++q :: B:=fun hm=>hno a a2 a21 ((k.own_ a x a2 a21 x0 x1).1 (by rw [e];exact hm));obtain ⟨c1,c2⟩:=V9 hl;constructor
   ·unfold y7;rw [jf _ eq];split
    ·exact hz.1
    ·rename_i h0;rw [jf]
     ·exact hz.1
     ·rcases c1 with ⟨_,h3,_⟩ | ⟨A',z,h3,h4,_⟩
      ·exact absurd h3 h0
      ·intro e3;exact hxa (by rw [h3,show x=z by omega];simp)
   ·unfold yZ;rw [jf _ eq];split
    ·exact hz.2
    ·rename_i h0;rw [jf]
     ·exact hz.2
     ·rcases c2 with ⟨_,h3⟩ | ⟨y,B',h3,h4,_⟩
      ·exact absurd h3 h0
      ·intro e3;exact hxa (by rw [h3,show x=y by omega];simp)
theorem Lst.push (k:Lst t P c L own) (ht:1<=t) {a q:Int} (a2:2<=a) (a21:a<=21) (q0:0<=q) (q1:q < P) (hno:∀h,2<=h->h<=21->¬own h q) :
 (c a=0\/(1<=c a/\c a<=P))/\∃L',Lst t P (kM t a q c) L' (fun h x=>own h x\/(h=a/\x=q)):=by
 have hl:=k.lists a a2 a21;have hk:=hl.head;refine ⟨hk,?_⟩;have hqa:∀h,2<=h->h<=21->q ∉ L h:=fun h h2 h21 hm=>hno h h2 h21 ((k.own_ h q h2 h21 q0 q1).1 hm);have hpg:∀x,0<=x->x < P->cg t (kM t a q c) 2 x=JR c (cg t c 2) a q x/\cg t (kM t a q c) 3 x=Jm c (cg t c 3) a q x:=fun x x0 _=>⟨pushC_nx ht a21 x0,pushC_pv ht a21 x0⟩
 refine ⟨fun h=>if h=a then q :: L a else L h,fun h h2 h21=> ?_,fun h x h2 h21 x0 x1=> ?_,fun h h' x h2 h21 h2' h21' o o'=> ?_,fun x x0 x1 hx=> ?_⟩
 ·by_cases eh:h=a
  ·subst eh;rw [if_pos rfl];exact (push_law hl (hqa h h2 h21) q0 q1).congr (jbT ht q0 q1 hk zo) hpg
  ·rw [if_neg eh];exact (jcP hl (k.lists h h2 h21) eh (fun x hx hx2=>eh (k.apart h2 h21 a2 a21 hx hx2)) (hqa h h2 h21)).congr (jbT ht q0 q1 hk zo) hpg
 ·by_cases eh:h=a
  ·subst eh;rw [if_pos rfl,List.mem_cons,k.own_ h x h2 h21 x0 x1];exact ⟨fun o=>o.elim (fun e=>Or.inr ⟨rfl,e⟩) Or.inl,fun o=>o.elim Or.inr (fun e=>Or.inl e.2)⟩
  ·rw [if_neg eh,k.own_ h x h2 h21 x0 x1];exact ⟨Or.inl,fun o=>o.elim id (fun e=>absurd e.1 eh)⟩
 ·rcases o with o | ⟨o1,o2⟩
  ·rcases o' with o' | ⟨o1',o2'⟩
   ·exact k.one h h' x h2 h21 h2' h21' o o'
   ·subst o2';exact absurd o (hno h h2 h21)
  ·rcases o' with o' | ⟨o1',o2'⟩
   ·subst o2;exact absurd o' (hno h' h2' h21')
   ·omega
 ·have e2:=(hpg x x0 x1)
  show cg t (kM t a q c) 2 x=0/\cg t (kM t a q c) 3 x=0;rw [e2.1,e2.2];have hn:∀h,2<=h->h<=21->¬own h x:=fun h h2 h21 o=>hx h h2 h21 (Or.inl o);have hxq:x≠q:=fun e=>hx a a2 a21 (Or.inr ⟨rfl,e⟩);have hz:=k.loose x x0 x1 hn;refine ⟨?_,?_⟩
  ·unfold JR;rw [jf _ hxq];exact hz.1
  ·unfold Jm;split
   ·rw [jf _ hxq];exact hz.2
   ·rename_i h0;rw [jf,jf _ hxq]
    ·exact hz.2
    ·intro e3;refine hn a a2 a21 ((k.own_ a x a2 a21 x0 x1).1 ?_);obtain ⟨⟨e,hs⟩,-,hb⟩:=hl;cases hLa:L a with
     | nil=>rw [hLa] at hs;exact absurd hs.1.symm h0
     | cons y r=>rw [hLa] at hs;have:=hs.1;rw [show x=y by omega];simp
end
theorem Qe.lst {t P:Int} {c:Int->Int} {L:Int->List Int} {a b:Int} {l1 l2:List Int} (h:Qe t P c L a b l1 l2):Lst t P c L (fun i x=>Jy t c i x=true/\¬(a<=x/\x < b)):=
 ⟨h.lists,h.own,fun i i' x i2 _ i2' _ o o'=>Kh i2 i2' o.1 o'.1,fun x x0 x1 hx=>h.loose x x0 x1 fun i i2 i21 hm=>hx i i2 i21 ((h.own i x i2 i21 x0 x1).1 hm)⟩

theorem jb6 {n:Int} (h1:1<=n) (h:n<=1024):iK (1+16*n)=1/\iL (1+16*n)=n:=by
 have e1:(1+16*n) % 16=1:=zo;have e2:(1+16*n) / 16 % 4096=n:=zo;have e3:(1+16*n) / 65536=0:=zo;have ho:okI (1+16*n)=true:=by
  unfold okI;rw [e1,e2,e3];simp [yr];omega
 unfold iK iL;rw [ho,e1,e2];simp
theorem jfe (v:Int) (h:iK v=3):iL v=1:=by
 unfold iK at h;split at h
 ·rename_i ho;have h2:=ho;unfold okI yr at h2;rw [if_neg zo,if_neg zo,if_pos h] at h2;simp at h2;unfold iL;rw [if_pos ho];exact h2.1.1
 ·omega
theorem ApL.split {g:Int->Int}:∀{l m:List Int},ApL g (l++m)->ApL g l/\ApL g m
 | [],m,h=>⟨trivial,h⟩
 | [x],m,h=>⟨⟨trivial,trivial⟩,h.2⟩
 | x :: y :: l,m,h=>by
  obtain ⟨h1,h2⟩:=ApL.split (l:=y :: l) (m:=m) h.2;exact ⟨⟨h.1,h1⟩,h2⟩
theorem ApL.congr {g g':Int->Int}:∀{l:List Int},ApL g l->(∀x∈l,g' x=g x)->ApL g' l
 | [],_,_=>trivial
 | [x],h,_=>⟨trivial,trivial⟩
 | x :: y :: l,h,hg=>by
  refine ⟨?_,ApL.congr (l:=y :: l) h.2 fun z hz=>hg z (by simp [hz])⟩;show¬(iK (g' x)=1/\iK (g' y)=1);rw [hg x zT,hg y zT];exact h.1
def jaA (g:Int->Int) (l:List Int):Prop:=∀m f,l=m++[f]->iK (g f)≠1
def jci (g:Int->Int) (l:List Int):Prop:=∀m f,l=f :: m->iK (g f)≠1
theorem ApL.last {g:Int->Int}:∀{l:List Int} {f:Int},ApL g (l++[f])->iK (g f)=1->jaA g l
 | [],f,_,_,m,z,e=>by simp at e
 | [x],f,h,hf,m,z,e=>by
  cases m with
  | nil=>simp at e;subst e;exact fun hz=>h.1 ⟨hz,hf⟩
  | cons y m=>simp at e
 | x :: y :: l,f,h,hf,m,z,e=>by
  cases m with
  | nil=>simp at e
  | cons w m=>
   simp at e;exact ApL.last (l:=y :: l) h.2 hf m z e.2
theorem ApL.head {g:Int->Int} {l:List Int} {f:Int} (h:ApL g (f :: l)) (hf:iK (g f)=1):jci g l:=by
 intro m z e;subst e;exact fun hz=>h.1 ⟨hf,hz⟩
theorem ApL.join {g:Int->Int} {a:Int}:∀{l m:List Int},ApL g l->ApL g m->jaA g l->jci g m->ApL g (l++a :: m)
 | [],[],_,_,_,_=>⟨trivial,trivial⟩
 | [],z :: m,_,hm,_,hh=>⟨fun e=>hh m z rfl e.2,hm⟩
 | [x],m,_,hm,hl,hh=>⟨fun e=>hl [] x rfl e.1,ApL.join (l:=[]) (m:=m) trivial hm (fun m' f e=>by simp at e) hh⟩
 | x :: y :: l,m,h,hm,hl,hh=>⟨h.1,ApL.join (l:=y :: l) h.2 hm (fun m' f e=>hl (x :: m') f (by rw [e];rfl)) hh⟩
section
variable {t P:Int} {c c':Int->Int} {L:Int->List Int} {a b:Int} {l1 l2:List Int}

theorem Qe.kind0 (h:Qe t P c L a b l1 l2) {x:Int} (x0:0<=x) (x1:x < P) (h1:x ∉ l1) (h2:x ∉ l2) (hx:x≠a\/a=b):iK (c (pl t x 0))=0:=by
 rw [h.zero x x0 x1 h1 h2 hx];decide
theorem VQ {i x:Int} (h:Jy t c i x=true):iK (c (pl t x 0))=1\/iK (c (pl t x 0))=3:=by
 unfold Jy qD qn at h;split at h <;> simp at h
 ·exact Or.inl h.1
 ·exact Or.inr h.1.1
theorem JV {i x:Int} (h0:c' (pl t x 0)=c (pl t x 0)) (h5:c' (pl t x 5)=c (pl t x 5)):Jy t c' i x=Jy t c i x:=by
 unfold Jy;rw [h0,h5]
theorem V6 {x:Int} (h:iK (c (pl t x 0))=1):2<=2+qr (iL (c (pl t x 0)))/\2+qr (iL (c (pl t x 0)))<=12/\Jy t c (2+qr (iL (c (pl t x 0)))) x=true:=by
 have hb:=kP (c (pl t x 0));have hl:=VZ (n:=iL (c (pl t x 0))) (hb.2.2.2.2.2.2.1 zo).2 zo;refine ⟨zo,zo,?_⟩;unfold Jy qD;rw [if_pos zo];simp [h];omega
theorem Qe.absorb (h:Qe t P c L a b l1 l2) (ht:1<=t) (hab:a < b) {y z a' b':Int} {m1 m2:List Int} (hy:y∈l1\/y∈l2) (hf:iK (c (pl t y 0))=1)
 (hz:(z=a/\y+iL (c (pl t y 0))=a/\a'=y/\b'=b)\/(z=b/\y=b/\a'=a/\b'=b+iL (c (pl t y 0))))
 (hm:∀x,(x∈l1\/x∈l2)↔(x=y\/x∈m1\/x∈m2)) (hym:¬(y∈m1\/y∈m2)) (t1:yA (cg t c 0) a' 0 m1) (t2:yA (cg t c 0) P b' m2)
 (p1:ApL (cg t c 0) m1) (p2:ApL (cg t c 0) m2) (hs:JH (cg t c 0) l1+JH (cg t c 0) l2=JH (cg t c 0) m1+JH (cg t c 0) m2+iL (c (pl t y 0))) :
 jbC t P c y/\∃L',Qe t P (upI (upI (kG t (2+qr (iL (c (pl t y 0)))) y c) (pl t z 0) 0) (pl t (z - 1) 1) 0) L' a' b' m1 m2:=by
 have ha0:=h.a0;have hbP:=h.bP;have hyr:0<=y/\y < P/\(y < a\/b<=y)/\y+iL (c (pl t y 0))<=P/\(y < a->y+iL (c (pl t y 0))<=a):=by
  rcases hy with hy | hy
  ·have h3:=h.t1.ge y hy;have h4:=h.t1.end_le y hy;have h5:y+iL (c (pl t y 0))<=a:=h4.1;omega
  ·have h3:=h.t2.ge y hy;have h4:=h.t2.end_le y hy;have h5:y+iL (c (pl t y 0))<=P:=h4.1;omega
 have hn1:1<=iL (c (pl t y 0)):=((kP (c (pl t y 0))).2.2.2.2.2.2.1 zo).2;obtain ⟨o2,o12,ho⟩:=V6 hf;obtain ⟨hlk,L',k⟩:=h.lst.pull ht (a:=2+qr (iL (c (pl t y 0)))) (q:=y) o2 zo hyr.1 hyr.2.1 ⟨ho,zo⟩;refine ⟨hlk,L',?_⟩;have hzr:0<=z/\z < P:=zo;-- what c' holds
 obtain ⟨n,hn⟩:∃n,n=iL (c (pl t y 0)):=⟨_,rfl⟩
 obtain ⟨bin,hbin⟩:∃bin,bin=2+qr (iL (c (pl t y 0))):=⟨_,rfl⟩
 rw [<-hn] at hz hyr hn1 hs;rw [<-hbin] at k o2 o12 ho ⊢;have g0:∀x,0<=x->(upI (upI (kG t bin y c) (pl t z 0) 0) (pl t (z - 1) 1) 0) (pl t x 0)=if x=z then 0 else c (pl t x 0):=by
  intro x x0;rw [jf _ (kU zo zo zo zo zo)];by_cases e:x=z
  ·rw [e,ju,if_pos rfl]
  ·rw [jf _ (fun e2=>e (qW.1 e2)),if_neg e];exact y8 ht zo hlk x0 zo zo zo zo
 have g1:∀x,0<=x->(upI (upI (kG t bin y c) (pl t z 0) 0) (pl t (z - 1) 1) 0) (pl t x 1)=if x=z - 1 then 0 else c (pl t x 1):=by
  intro x x0;by_cases e:x=z - 1
  ·rw [e,ju,if_pos rfl]
  ·rw [jf _ (fun e2=>e (qW.1 e2)),if_neg e,jf _ (kU zo zo zo zo zo)];exact y8 ht zo hlk x0 zo zo zo zo
 have gk:∀x j,0<=x->j=4\/j=5->(upI (upI (kG t bin y c) (pl t z 0) 0) (pl t (z - 1) 1) 0) (pl t x j)=c (pl t x j):=by
  intro x j x0 hj;rw [jf _ (kU zo zo zo zo zo),jf _ (kU zo zo zo zo zo)];exact y8 ht zo hlk x0 zo zo zo zo
 have gl:∀x,0<=x->((upI (upI (kG t bin y c) (pl t z 0) 0) (pl t (z - 1) 1) 0) (pl t x 2)=kG t bin y c (pl t x 2)/\(upI (upI (kG t bin y c) (pl t z 0) 0) (pl t (z - 1) 1) 0) (pl t x 3)=kG t bin y c (pl t x 3)):=by
  intro x x0;constructor;all_goals rw [jf _ (kU zo zo zo zo zo),jf _ (kU zo zo zo zo zo)]
 have glo:∀i,i < 30->(upI (upI (kG t bin y c) (pl t z 0) 0) (pl t (z - 1) 1) 0) i=kG t bin y c i:=by
  intro i hi;rw [jf _ (kS ht zo zo hi),jf _ (kS ht zo zo hi)]
 have gc0:(upI (upI (kG t bin y c) (pl t z 0) 0) (pl t (z - 1) 1) 0) 0=c 0:=by
  rw [glo 0 zo];exact KV ht hlk zo zo
 generalize (upI (upI (kG t bin y c) (pl t z 0) 0) (pl t (z - 1) 1) 0)=d at*
 -- spans that are left lie beside z
 have hmr:∀x,x∈m1\/x∈m2->0<=x/\x < P/\x≠z/\(x+iL (c (pl t x 0))<=a'\/b'<=x)/\1<=iL (c (pl t x 0))/\x+iL (c (pl t x 0))<=P:=by
  rintro x (hx | hx)
  ·have h3:=t1.ge x hx;have h4:x+iL (c (pl t x 0))<=a':=(t1.end_le x hx).1;have h5:1<=iL (c (pl t x 0)):=t1.len hx;omega
  ·have h3:=t2.ge x hx;have h4:x+iL (c (pl t x 0))<=P:=(t2.end_le x hx).1;have h5:1<=iL (c (pl t x 0)):=t2.len hx;omega
 have e0:∀x,x∈m1\/x∈m2->cg t d 0 x=cg t c 0 x:=fun x hx=>by
  have:=hmr x hx;show d (pl t x 0)=c (pl t x 0);rw [g0 x zo,if_neg zo]
 refine ⟨zo,zo,zo,t1.congr fun x hx=>e0 x (Or.inl hx),t2.congr fun x hx=>e0 x (Or.inr hx),fun x x0 x1 h1 h2 hx=> ?_,fun x hx=> ?_,fun x x0 x1 hx hx2=> ?_,p1.congr fun x hx=>e0 x (Or.inl hx),p2.congr fun x hx=>e0 x (Or.inr hx),fun x x0 x1 i hi=> ?_,fun x x0 x1 hx h3=> ?_,fun i i2 i21=> ?_,fun i x i2 i21 x0 x1=> ?_,fun x x0 x1 hx=> ?_,?_⟩
 ·rw [g0 x x0];split
  ·rfl
  ·rename_i hxz;by_cases exy:x=y
   ·exfalso;omega
   ·refine h.zero x x0 x1 (fun hm1=> ?_) (fun hm2=> ?_) zo
    ·rcases (hm x).1 (Or.inl hm1) with e | e | e
     ·exact exy e
     ·exact h1 e
     ·exact h2 e
    ·rcases (hm x).1 (Or.inr hm2) with e | e | e
     ·exact exy e
     ·exact h1 e
     ·exact h2 e
 ·have h3:=hmr x hx;have h4:d (pl t x 0)=c (pl t x 0):=e0 x hx;rw [h4,g1 _ zo,if_neg zo];exact h.foot1 x ((hm x).2 (Or.inr hx))
 ·rw [g1 x x0];split
  ·rfl
  ·rename_i hxz;refine h.foot0 x x0 x1 (fun w hw=> ?_) zo;rcases (hm w).1 hw with e | e
   ·subst e;rw [<-hn];omega
   ·have h4:d (pl t w 0)=c (pl t w 0):=e0 w e;rw [<-h4];exact hx w e
 ·rw [gk x 4 x0 (Or.inl rfl),gk x 5 x0 (Or.inr rfl)];obtain ⟨i1,i2⟩:=h.bits x x0 x1 i hi;refine ⟨i1,fun hb=> ?_⟩;obtain ⟨j1,j2,j3⟩:=i2 hb;have hxm:x∈l1\/x∈l2:=by
   by_cases e:x∈l1\/x∈l2
   ·exact e
   ·have:=h.kind0 x0 x1 (fun e1=>e (Or.inl e1)) (fun e1=>e (Or.inr e1)) zo;omega
  have hxy:x≠y:=fun e=>by subst e;omega
  have hxm2:x∈m1\/x∈m2:=((hm x).1 hxm).resolve_left hxy;have h3:=hmr x hxm2;rw [g0 x x0,if_neg h3.2.2.1];exact ⟨j1,j2,zo⟩
 ·rw [gk x 5 x0 (Or.inr rfl)];rw [g0 x x0] at h3;split at h3
  ·simp [iK_0] at h3
  ·exact h.taken x x0 x1 zo h3
 ·exact (k.lists i i2 i21).congr (glo i zo) fun x x0 _=>gl x x0
 ·rw [k.own_ i x i2 i21 x0 x1];by_cases hxz:x=z
  ·have:Jy t d i x=true->False:=fun e=>by
    have:=VQ e;rw [g0 x x0,if_pos hxz] at this;simp [iK_0] at this
   constructor
   ·rintro ⟨⟨e1,e2⟩,e3⟩;exfalso;rcases hz with ⟨z1,z2,z3,z4⟩ | ⟨z1,z2,z3,z4⟩ <;> omega
   ·exact fun e=>absurd e.1 this
  ·rw [JV (c:=c) (by rw [g0 x x0,if_neg hxz]) (gk x 5 x0 (Or.inr rfl))];constructor
   ·rintro ⟨⟨e1,e2⟩,e3⟩;refine ⟨e1,fun e4=> ?_⟩;have hk:=VQ e1;have hxm:¬(x∈l1\/x∈l2):=fun e5=>by
     have h3:=hmr x (((hm x).1 e5).resolve_left e3);omega
    have:=h.kind0 x0 x1 (fun e5=>hxm (Or.inl e5)) (fun e5=>hxm (Or.inr e5)) zo;omega
   ·rintro ⟨e1,e2⟩;exact ⟨⟨e1,zo⟩,fun e3=>by subst e3;omega⟩
 ·rw [(gl x x0).1,(gl x x0).2];exact k.loose x x0 x1 fun i i2 i21 e=>hx i i2 i21 ((k.own_ i x i2 i21 x0 x1).2 e)
 ·rw [gc0,h.free,qE (fun x hx=>e0 x (Or.inl hx)),qE (fun x hx=>e0 x (Or.inr hx)),hs,if_pos hab,if_pos zo];omega
end
end Go.Proofs.YtcnininelndjoaaGreat

