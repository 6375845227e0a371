/- parts of the proof, merged by a program. -/
import Derived.Test.YtcnininelndjoaaGreatMmt1
import Derived.Test.YtcnininelndjoaaGreatMmt2
import Derived.Test.YtcnininelndjoaaGreatMmt3
import Derived.Test.YtcnininelndjoaaGreatMmt8
set_option linter.unusedSimpArgs false
set_option linter.unusedVariables false
set_option maxRecDepth 100000
set_option maxHeartbeats 4000000
namespace Go.Proofs.YtcnininelndjoaaGreat
open Go.Proofs.Tryz
open Go.RowKit

theorem jce (v i:Nat) (h:i < 32):bitB (v:Int) i=v.testBit i:=by
 have e:(v:Int) / 2 ^ i % 2=((v / 2 ^ i % 2:Nat):Int):=zT;unfold bitB;rw [e,Nat.testBit_eq_decide_div_mod_eq];simp only [h,decide_true,Bool.true_and];rcases Nat.mod_two_eq_zero_or_one (v / 2 ^ i) with h2 | h2
 ·rw [h2];rfl
 ·rw [h2];rfl
theorem bit_ext {u v:Int} (hu:VS.U32 u) (hv:VS.U32 v) (h:∀i:Nat,i < 32->bitB u i=bitB v i):u=v:=by
 obtain ⟨u0,u1⟩:=hu;obtain ⟨v0,v1⟩:=hv;have e:u.toNat=v.toNat:=by
  apply Nat.eq_of_testBit_eq;intro i;by_cases hi:i < 32
  ·have:=h i hi;rw [show u=((u.toNat:Nat):Int) by omega,show v=((v.toNat:Nat):Int) by omega,jce _ _ hi,jce _ _ hi] at this;simpa using this
  ·have hp:2 ^ 32<=2 ^ i:=Nat.pow_le_pow_right zo zo;rw [Nat.testBit_lt_two_pow (Nat.lt_of_lt_of_le (by omega:u.toNat < 2 ^ 32) hp),Nat.testBit_lt_two_pow (Nat.lt_of_lt_of_le (by omega:v.toNat < 2 ^ 32) hp)]
 omega
theorem jcd (i:Nat):bitB 0 i=false:=by simp [bitB]
theorem jab {u v:Int}:∀k:Nat,(∀i,i < k->bitB u i=true->bitB v i=true)->kj u k<=kj v k/\(kj u k=kj v k->∀i,i < k->bitB u i=bitB v i)
 | 0,_=>⟨Nat.le_refl _,fun _ i hi=>by omega⟩
 | k+1,h=>by
  obtain ⟨i1,i2⟩:=jab k (fun i hi=>h i zo);have h1:=h k zo;unfold kj;cases eu:bitB u k <;> cases ev:bitB v k
  ·simp only [Bool.false_eq_true,if_false];refine ⟨zo,fun e i hi=> ?_⟩;by_cases ek:i=k
   ·subst ek;rw [eu,ev]
   ·exact i2 zo i zo
  ·simp only [Bool.false_eq_true,if_false,if_true];exact ⟨zo,fun e=>by omega⟩
  ·rw [eu,ev] at h1;simp at h1
  ·simp only [if_true];refine ⟨zo,fun e i hi=> ?_⟩;by_cases ek:i=k
   ·subst ek;rw [eu,ev]
   ·exact i2 zo i zo
theorem Vm {v s:Int} (h0:0<=s):∀k:Nat,(∀i:Nat,i < k->bitB v i=true->(i:Int) < s)->(kj v k:Int)<=s/\kj v k<=k
 | 0,_=>⟨by simpa [kj] using h0,Nat.le_refl _⟩
 | k+1,h=>by
  obtain ⟨i1,i2⟩:=Vm h0 k (fun i hi=>h i zo);unfold kj;cases e:bitB v k
  ·simp only [Bool.false_eq_true,if_false];exact ⟨zo,zo⟩
  ·have:=h k zo e;simp only [if_true];exact ⟨zo,zo⟩
theorem je5 {u v k:Int} (hu:VS.U32 u) (hv:VS.U32 v) (hne:u≠v) (hs:∀i:Nat,i < 32->(bitB u i=true->bitB v i=true)/\(bitB v i=true->(i:Int) < jE k)):qx u k=false:=by
 obtain ⟨m1,m2⟩:=jab (u:=u) (v:=v) 32 (fun i hi=>(hs i hi).1);obtain ⟨b1,-⟩:=Vm (v:=v) (s:=jE k) (QQ k).1 32 (fun i hi=>(hs i hi).2);have hlt:kj u 32 < kj v 32:=by
  rcases Nat.lt_or_ge (kj u 32) (kj v 32) with h | h
  ·exact h
  ·exact absurd (bit_ext hu hv (m2 zo)) hne
 unfold qx;simp;omega
section
variable {t P:Int} {c:Int->Int} {L:Int->List Int} {a b q:Int} {l l1 l2:List Int}
theorem Qe.cut (h:Qe t P c L 0 0 [] (l1++l2)):∃m,Qe t P c L m m l1 l2:=by
 obtain ⟨m,h1,h2,h3⟩:=yA.app.1 h.t2;have hm:=h1.le;obtain ⟨p1,p2⟩:=h.ap2.split;refine ⟨m,⟨hm,Int.le_refl _,h3,h1,h2,fun x x0 x1 a1 a2 _=>h.zero x x0 x1 zT (by simp [a1,a2]) (Or.inr rfl),fun y hy=>h.foot1 y (Or.inr (by simpa using hy)),fun x x0 x1 hx _=>h.foot0 x x0 x1 (fun y hy=>hx y (by simpa using hy)) (Or.inr rfl),p1,p2,fun x x0 x1 i hi=> ?_,fun x x0 x1 _=>h.taken x x0 x1 zo,h.lists,fun i x i2 i21 x0 x1=> ?_,h.loose,?_⟩⟩
 ·obtain ⟨j1,j2⟩:=h.bits x x0 x1 i hi;exact ⟨j1,fun e=>⟨(j2 e).1,(j2 e).2.1,zo⟩⟩
 ·rw [h.own i x i2 i21 x0 x1];exact ⟨fun e=>⟨e.1,zo⟩,fun e=>⟨e.1,zo⟩⟩
 ·have:=h.free;rw [QO] at this;simp [JH] at this ⊢;omega
theorem Qe.take (h:Qe t P c L q q l1 (q :: l2)) (ht:1<=t) (hk:iK (c (pl t q 0))=3) (hl:c (pl t q 4)=0) :
 (qx (c (pl t q 5)) (iC (c (pl t q 0)))=false->jbC t P (upI c (pl t q 5) 0) q)/\2<=13+iC (c (pl t q 0))/\13+iC (c (pl t q 0))<=21/\
 ∃L',Qe t P (if qx (c (pl t q 5)) (iC (c (pl t q 0)))=true then upI c (pl t q 5) 0 else kG t (13+iC (c (pl t q 0))) q (upI c (pl t q 5) 0)) L' q (q+1) l1 l2:=by
 have hb:=kP (c (pl t q 0));obtain ⟨-,hqP,-,ht2⟩:=h.t2;have hq0:=h.a0;have hlen:iL (c (pl t q 0))=1:=jfe _ hk;have ht2':yA (cg t c 0) P (q+1) l2:=by
  have:yA (cg t c 0) P (q+iL (c (pl t q 0))) l2:=ht2;rwa [hlen] at this
 -- the lists, before the pull
 have k1:Lst t P (upI c (pl t q 5) 0) L (fun i x=>Jy t c i x=true):=h.lst.congr (fun i i2 i21=>jf _ (kS ht hq0 zo zo)) (fun x x0 x1=>⟨jf _ (kU zo zo zo zo zo),jf _ (kU zo zo zo zo zo)⟩) (fun i x i2 i21 x0 x1=>⟨fun e=>⟨e,zo⟩,fun e=>e.1⟩) (fun i i' x i2 _ i2' _ e e'=>Kh i2 i2' e e');have key:∀(d:Int->Int) (L':Int->List Int),(∀x j,0<=x->(j=0\/j=1\/j=4)->d (pl t x j)=c (pl t x j))->(∀x,0<=x->d (pl t x 5)=if x=q then 0 else c (pl t x 5))->d 0=c 0->Lst t P d L' (fun i x=>Jy t c i x=true/\x≠q)->Qe t P d L' q (q+1) l1 l2:=by
  intro d L' g0 g5 gc k;have e0:∀x,0<=x->cg t d 0 x=cg t c 0 x:=fun x x0=>g0 x 0 x0 (Or.inl rfl);have r1:∀x∈l1,0<=x:=fun x hx=>(h.t1.ge x hx).1;have r2:∀x∈l2,q+1<=x:=fun x hx=>(ht2'.ge x hx).1;refine ⟨hq0,zo,zo,h.t1.congr fun x hx=>e0 x (r1 x hx),ht2'.congr fun x hx=>e0 x (by have:=r2 x hx;omega),fun x x0 x1 a1 a2 hx=> ?_,fun y hy=> ?_,fun x x0 x1 hx hx2=> ?_,h.ap1.congr fun x hx=>e0 x (r1 x hx),h.ap2.2.congr fun x hx=>e0 x (by have:=r2 x hx;omega),fun x x0 x1 i hi=> ?_,fun x x0 x1 hx h3=> ?_,k.lists,fun i x i2 i21 x0 x1=> ?_,fun x x0 x1 hx=> ?_,?_⟩
  ·rw [g0 x 0 x0 (Or.inl rfl)];exact h.zero x x0 x1 a1 (by simp [a2];omega) (Or.inr rfl)
  ·have hy0:0<=y:=by
    rcases hy with hy | hy
    ·exact r1 y hy
    ·have:=r2 y hy;omega
   have hyl:1<=iL (c (pl t y 0)):=by
    rcases hy with hy | hy
    ·exact h.t1.len hy
    ·exact ht2'.len hy
   rw [g0 y 0 hy0 (Or.inl rfl),g0 _ 1 zo (Or.inr (Or.inl rfl))];exact h.foot1 y (hy.imp id (fun e=>by simp [e]))
  ·rw [g0 x 1 x0 (Or.inr (Or.inl rfl))];refine h.foot0 x x0 x1 (fun y hy=> ?_) (Or.inr rfl);by_cases e:y=q
   ·subst e;rw [hlen];omega
   ·have hy2:y∈l1\/y∈l2:=hy.imp id (fun e2=>(List.mem_cons.1 e2).resolve_left e);have hy0:0<=y:=by
     rcases hy2 with hy | hy
     ·exact r1 y hy
     ·have:=r2 y hy;omega
    have:=hx y hy2;rwa [g0 y 0 hy0 (Or.inl rfl)] at this
  ·rw [g0 x 4 x0 (Or.inr (Or.inr rfl)),g0 x 0 x0 (Or.inl rfl),g5 x x0];obtain ⟨j1,j2⟩:=h.bits x x0 x1 i hi;by_cases e:x=q
   ·subst e;rw [hl,if_pos rfl,jcd];simp
   ·rw [if_neg e];exact ⟨j1,fun e2=>⟨(j2 e2).1,(j2 e2).2.1,zo⟩⟩
  ·rw [g0 x 0 x0 (Or.inl rfl)] at h3;rw [g5 x x0,if_neg zo];exact h.taken x x0 x1 zo h3
  ·rw [k.own_ i x i2 i21 x0 x1];by_cases e:x=q
   ·constructor
    ·exact fun e2=>absurd e e2.2
    ·intro e2;omega
   ·rw [JV (c:=c) (g0 x 0 x0 (Or.inl rfl)) (by rw [g5 x x0,if_neg e])];exact ⟨fun e2=>⟨e2.1,zo⟩,fun e2=>⟨e2.1,e⟩⟩
  ·exact k.loose x x0 x1 fun i i2 i21 e=>hx i i2 i21 ((k.own_ i x i2 i21 x0 x1).2 e)
  ·have hf:=h.free;have e1:JH (cg t c 0) (q :: l2)=JH (cg t c 0) l2:=by
    show (if iK (cg t c 0 q)=1 then iL (cg t c 0 q) else 0)+JH (cg t c 0) l2=_;rw [if_neg (show¬iK (cg t c 0 q)=1 by show¬iK (c (pl t q 0))=1;omega)];omega
   rw [gc,hf,e1,qE (fun x hx=>e0 x (r1 x hx)),qE (l:=l2) (fun x hx=>e0 x (by have:=r2 x hx;omega)),if_neg zo,if_pos zo];omega
 refine ⟨fun hfull=> ?_,zo,zo,?_⟩
 ·refine (k1.pull ht (a:=13+iC (c (pl t q 0))) zo zo hq0 hqP ?_).1;unfold Jy qn;rw [if_neg zo,show 13+iC (c (pl t q 0)) - 13=iC (c (pl t q 0)) by omega];simp [hk,hfull]
 ·cases hfull:qx (c (pl t q 5)) (iC (c (pl t q 0)))
  ·rw [if_neg zT];obtain ⟨hlk,L',k⟩:=k1.pull ht (a:=13+iC (c (pl t q 0))) (q:=q) zo zo hq0 hqP (by
    unfold Jy qn;rw [if_neg zo,show 13+iC (c (pl t q 0)) - 13=iC (c (pl t q 0)) by omega];simp [hk,hfull])
   refine ⟨L',key _ L' (fun x j x0 hj=> ?_) (fun x x0=> ?_) ?_ k⟩
   ·rw [y8 ht zo hlk x0 zo zo zo zo];exact jf _ (kU zo zo zo zo zo)
   ·rw [y8 ht zo hlk x0 zo zo zo zo];by_cases e:x=q
    ·rw [e,ju,if_pos rfl]
    ·rw [jf _ (fun e2=>e (qW.1 e2)),if_neg e]
   ·rw [KV ht hlk zo zo];exact jf _ (kS ht hq0 zo zo)
  ·rw [if_pos rfl];refine ⟨L,key _ L (fun x j x0 hj=>jf _ (kU zo zo zo zo zo)) (fun x x0=> ?_) (jf _ (kS ht hq0 zo zo)) (k1.congr (fun _ _ _=>rfl) (fun _ _ _=>⟨rfl,rfl⟩) (fun i x i2 i21 x0 x1=> ?_) (fun i i' x i2 _ i2' _ e e'=>Kh i2 i2' e.1 e'.1))⟩
   ·by_cases e:x=q
    ·rw [e,ju,if_pos rfl]
    ·rw [jf _ (fun e2=>e (qW.1 e2)),if_neg e]
   ·refine ⟨fun e=>e.1,fun e=>⟨e,fun e2=> ?_⟩⟩;subst e2;unfold Jy qD qn at e;split at e
    ·simp at e;omega
    ·simp at e;rw [<-e.1.2,hfull] at e;simp at e
theorem Qe.give (h:Qe t P c L a b l1 l2) (ht:1<=t) (hP:P<=1024) (hab:a < b) (hl:jaA (cg t c 0) l1) (hh:jci (cg t c 0) l2) :
 0<=qr (b - a)/\qr (b - a)<=10/\((upI (upI c (pl t a 0) (1+16*(b - a))) (pl t (b - 1) 1) (a+1)) (2+qr (b - a))=0\/(1<=(upI (upI c (pl t a 0) (1+16*(b - a))) (pl t (b - 1) 1) (a+1)) (2+qr (b - a))/\(upI (upI c (pl t a 0) (1+16*(b - a))) (pl t (b - 1) 1) (a+1)) (2+qr (b - a))<=P))/\
 (kM t (2+qr (b - a)) a (upI (upI c (pl t a 0) (1+16*(b - a))) (pl t (b - 1) 1) (a+1))) 0=c 0/\0<=c 0/\c 0<=P/\
 ∃L',Qe t P (upI (kM t (2+qr (b - a)) a (upI (upI c (pl t a 0) (1+16*(b - a))) (pl t (b - 1) 1) (a+1))) 0 (c 0+1)) L' 0 0 [] (l1++a :: l2):=by
 have ha0:=h.a0;have hbP:=h.bP;obtain ⟨n,hn⟩:∃n,n=b - a:=⟨_,rfl⟩
 rw [<-hn];obtain ⟨f1,f2⟩:=jb6 (n:=n) zo zo;have lb:=VZ (n:=n) zo zo;have k1:Lst t P (upI (upI c (pl t a 0) (1+16*n)) (pl t (b - 1) 1) (a+1)) L (fun i x=>Jy t c i x=true/\¬(a<=x/\x < b)):=h.lst.congr (fun i i2 i21=>by rw [jf _ (kS ht zo zo zo),jf _ (kS ht zo zo zo)]) (fun x x0 x1=>by
  constructor;all_goals rw [jf _ (kU zo zo zo zo zo),jf _ (kU zo zo zo zo zo)]) (fun i x i2 i21 x0 x1=>Iff.rfl) (fun i i' x i2 _ i2' _ e e'=>Kh i2 i2' e.1 e'.1)
 obtain ⟨hk,L',k⟩:=k1.push ht (a:=2+qr n) (q:=a) zo zo ha0 zo (fun i _ _ e=>e.2 ⟨zo,hab⟩);have gp:∀x j,0<=x->(j=0\/j=1\/j=4\/j=5)->(kM t (2+qr n) a (upI (upI c (pl t a 0) (1+16*n)) (pl t (b - 1) 1) (a+1))) (pl t x j)=(upI (upI c (pl t a 0) (1+16*n)) (pl t (b - 1) 1) (a+1)) (pl t x j):=fun x j x0 hj=>KU ht zo ha0 zo hk x0 zo zo zo zo;have gz:(kM t (2+qr n) a (upI (upI c (pl t a 0) (1+16*n)) (pl t (b - 1) 1) (a+1))) 0=c 0:=by
  rw [Ke ht ha0 zo hk zo zo,jf _ (kS ht zo zo zo),jf _ (kS ht zo zo zo)]
 have hf:=h.free;have s1:=jaQ h.t1;have s2:=jaQ h.t2;rw [if_pos hab] at hf;refine ⟨lb.1,lb.2,hk,gz,zo,zo,L',?_⟩;have gn:∀x j,0<=x->0<=j->(upI (kM t (2+qr n) a (upI (upI c (pl t a 0) (1+16*n)) (pl t (b - 1) 1) (a+1))) 0 (c 0+1)) (pl t x j)=(kM t (2+qr n) a (upI (upI c (pl t a 0) (1+16*n)) (pl t (b - 1) 1) (a+1))) (pl t x j):=fun x j x0 j0=>jf _ (fun e=>(kS (i:=0) ht x0 j0 zo) e.symm);have g0:∀x,0<=x->(upI (kM t (2+qr n) a (upI (upI c (pl t a 0) (1+16*n)) (pl t (b - 1) 1) (a+1))) 0 (c 0+1)) (pl t x 0)=if x=a then 1+16*n else c (pl t x 0):=by
  intro x x0;rw [gn x 0 x0 zo,gp x 0 x0 (Or.inl rfl),jf _ (kU zo zo zo zo zo)];by_cases e:x=a
  ·rw [e,ju,if_pos rfl]
  ·rw [jf _ (fun e2=>e (qW.1 e2)),if_neg e]
 have g1:∀x,0<=x->(upI (kM t (2+qr n) a (upI (upI c (pl t a 0) (1+16*n)) (pl t (b - 1) 1) (a+1))) 0 (c 0+1)) (pl t x 1)=if x=b - 1 then a+1 else c (pl t x 1):=by
  intro x x0;rw [gn x 1 x0 zo,gp x 1 x0 (Or.inr (Or.inl rfl))];by_cases e:x=b - 1
  ·rw [e,ju,if_pos rfl]
  ·rw [jf _ (fun e2=>e (qW.1 e2)),if_neg e,jf _ (kU zo zo zo zo zo)]
 have gk:∀x j,0<=x->(j=4\/j=5)->(upI (kM t (2+qr n) a (upI (upI c (pl t a 0) (1+16*n)) (pl t (b - 1) 1) (a+1))) 0 (c 0+1)) (pl t x j)=c (pl t x j):=by
  intro x j x0 hj;rw [gn x j x0 zo,gp x j x0 zo,jf _ (kU zo zo zo zo zo),jf _ (kU zo zo zo zo zo)]
 have glk:∀x,0<=x->(upI (kM t (2+qr n) a (upI (upI c (pl t a 0) (1+16*n)) (pl t (b - 1) 1) (a+1))) 0 (c 0+1)) (pl t x 2)=(kM t (2+qr n) a (upI (upI c (pl t a 0) (1+16*n)) (pl t (b - 1) 1) (a+1))) (pl t x 2)/\(upI (kM t (2+qr n) a (upI (upI c (pl t a 0) (1+16*n)) (pl t (b - 1) 1) (a+1))) 0 (c 0+1)) (pl t x 3)=(kM t (2+qr n) a (upI (upI c (pl t a 0) (1+16*n)) (pl t (b - 1) 1) (a+1))) (pl t x 3):=fun x x0=>⟨gn x 2 x0 zo,gn x 3 x0 zo⟩
 have glo:∀i,2<=i->i<=21->(upI (kM t (2+qr n) a (upI (upI c (pl t a 0) (1+16*n)) (pl t (b - 1) 1) (a+1))) 0 (c 0+1)) i=(kM t (2+qr n) a (upI (upI c (pl t a 0) (1+16*n)) (pl t (b - 1) 1) (a+1))) i:=fun i i2 _=>jf _ zo;have gc:(upI (kM t (2+qr n) a (upI (upI c (pl t a 0) (1+16*n)) (pl t (b - 1) 1) (a+1))) 0 (c 0+1)) 0=c 0+1:=ju _ _ _;generalize (upI (kM t (2+qr n) a (upI (upI c (pl t a 0) (1+16*n)) (pl t (b - 1) 1) (a+1))) 0 (c 0+1))=d at*
 have r1:∀x∈l1,0<=x/\x < a/\x+iL (c (pl t x 0))<=a/\1<=iL (c (pl t x 0)):=fun x hx=>by
  have h1:=h.t1.ge x hx;have h2:x+iL (c (pl t x 0))<=a:=(h.t1.end_le x hx).1;have h3:1<=iL (c (pl t x 0)):=h.t1.len hx;omega
 have r2:∀x∈l2,b<=x/\x < P/\1<=iL (c (pl t x 0)):=fun x hx=>by
  have h1:=h.t2.ge x hx;have h3:1<=iL (c (pl t x 0)):=h.t2.len hx;omega
 have e1:∀x∈l1,cg t d 0 x=cg t c 0 x:=fun x hx=>by
  have:=r1 x hx;show d (pl t x 0)=c (pl t x 0);rw [g0 x zo,if_neg zo]
 have e2:∀x∈l2,cg t d 0 x=cg t c 0 x:=fun x hx=>by
  have:=r2 x hx;show d (pl t x 0)=c (pl t x 0);rw [g0 x zo,if_neg zo]
 have ea:cg t d 0 a=1+16*n:=by
  show d (pl t a 0)=_;rw [g0 a ha0,if_pos rfl]
 have t2:yA (cg t d 0) P a (a :: l2):=by
  refine ⟨rfl,zo,by rw [ea];omega,?_⟩;rw [ea,f2,show a+n=b by omega];exact h.t2.congr e2
 refine ⟨zo,zo,zo,rfl,yA.app.2 ⟨a,h.t1.congr e1,t2,zo⟩,fun x x0 x1 _ hx _=> ?_,fun y hy=> ?_,fun x x0 x1 hx _=> ?_,trivial,?_,fun x x0 x1 i hi=> ?_,fun x x0 x1 _ h3=> ?_,fun i i2 i21=>(k.lists i i2 i21).congr (glo i i2 i21) fun x x0 _=>glk x x0,fun i x i2 i21 x0 x1=> ?_,fun x x0 x1 hx=> ?_,?_⟩
 ·have hxa:x≠a:=fun e=>hx (by simp [e]);rw [g0 x x0,if_neg hxa];exact h.zero x x0 x1 (fun e=>hx (by simp [e])) (fun e=>hx (by simp [e])) (Or.inl hxa)
 ·have hy2:y∈l1\/y=a\/y∈l2:=by simpa using hy
  rcases hy2 with hy2 | rfl | hy2
  ·have h3:=r1 y hy2;rw [show d (pl t y 0)=c (pl t y 0) from e1 y hy2,g1 _ zo,if_neg zo];exact h.foot1 y (Or.inl hy2)
  ·rw [show d (pl t y 0)=1+16*n from ea,f2,g1 _ zo,if_pos zo]
  ·have h3:=r2 y hy2;rw [show d (pl t y 0)=c (pl t y 0) from e2 y hy2,g1 _ zo,if_neg zo];exact h.foot1 y (Or.inr hy2)
 ·have hxb:x≠b - 1:=fun e=>hx a (Or.inr zT) (by rw [show d (pl t a 0)=1+16*n from ea,f2];omega);rw [g1 x x0,if_neg hxb];refine h.foot0 x x0 x1 (fun y hy=> ?_) (Or.inl hxb);rcases hy with hy | hy
  ·have:=hx y (Or.inr (by simp [hy]));rwa [show d (pl t y 0)=c (pl t y 0) from e1 y hy] at this
  ·have:=hx y (Or.inr (by simp [hy]));rwa [show d (pl t y 0)=c (pl t y 0) from e2 y hy] at this
 ·refine ApL.join (h.ap1.congr e1) (h.ap2.congr e2) (fun m f e=> ?_) (fun m f e=> ?_)
  ·rw [e1 f (by rw [e];simp)];exact hl m f e
  ·rw [e2 f (by rw [e];simp)];exact hh m f e
 ·rw [gk x 4 x0 (Or.inl rfl),gk x 5 x0 (Or.inr rfl)];obtain ⟨j1,j2⟩:=h.bits x x0 x1 i hi;refine ⟨j1,fun e=> ?_⟩;obtain ⟨i1,i2,i3⟩:=j2 e;rw [g0 x x0,if_neg zo];exact ⟨i1,i2,zo⟩
 ·rw [gk x 5 x0 (Or.inr rfl)];rw [g0 x x0] at h3;split at h3
  ·omega
  ·rename_i hxa;refine h.taken x x0 x1 (fun e=> ?_) h3;have:=h.kind0 x0 x1 (fun e4=>by have:=r1 x e4;omega) (fun e4=>by have:=r2 x e4;omega) (Or.inl hxa);omega
 ·rw [k.own_ i x i2 i21 x0 x1];by_cases hxa:x=a
  ·subst hxa;have ho:Jy t d i x=true↔i=2+qr n:=by
    unfold Jy qD qn;rw [show d (pl t x 0)=1+16*n from ea];split
    ·simp only [f1,f2];simp;omega
    ·simp only [f1];simp;omega
   rw [ho];constructor
   ·rintro (e | e)
    ·exact absurd ⟨zo,hab⟩ e.2
    ·exact ⟨e.1,zo⟩
   ·exact fun e=>Or.inr ⟨e.1,rfl⟩
  ·rw [JV (c:=c) (by rw [g0 x x0,if_neg hxa]) (gk x 5 x0 (Or.inr rfl))];constructor
   ·rintro (e | e)
    ·exact ⟨e.1,zo⟩
    ·exact absurd e.2 hxa
   ·rintro ⟨e,-⟩;refine Or.inl ⟨e,fun e3=> ?_⟩;have h4:=VQ e;have:=h.kind0 x0 x1 (fun e4=>by have:=r1 x e4;omega) (fun e4=>by have:=r2 x e4;omega) (Or.inl hxa);omega
 ·rw [(glk x x0).1,(glk x x0).2];exact k.loose x x0 x1 fun i i2 i21 e=>hx i i2 i21 ((k.own_ i x i2 i21 x0 x1).2 e)
 ·have e3:JH (cg t d 0) (a :: l2)=n+JH (cg t d 0) l2:=by
   show (if iK (cg t d 0 a)=1 then iL (cg t d 0 a) else 0)+JH (cg t d 0) l2=_;rw [ea,f1,f2,if_pos rfl]
  rw [gc,QO,e3,qE e1,qE e2,hf,if_neg zo];simp [JH];omega
theorem Qe.lower (h:Qe t P c L 0 0 [] l) (ht:1<=t) (hq0:0<=q) (hq1:q < P) (hk:iK (c (pl t q 0))=3) (hu:VS.U32 (c (pl t q 4))) (hv:VS.U32 (c (pl t q 5))) (hne:c (pl t q 4)≠c (pl t q 5)) (hl0:c (pl t q 4)≠0) :
 (qx (c (pl t q 5)) (iC (c (pl t q 0)))=true->((upI c (pl t q 5) (c (pl t q 4))) (13+iC (c (pl t q 0)))=0\/(1<=(upI c (pl t q 5) (c (pl t q 4))) (13+iC (c (pl t q 0)))/\(upI c (pl t q 5) (c (pl t q 4))) (13+iC (c (pl t q 0)))<=P)))/\
 ∃L',Qe t P (if qx (c (pl t q 5)) (iC (c (pl t q 0)))=true then kM t (13+iC (c (pl t q 0))) q (upI c (pl t q 5) (c (pl t q 4))) else upI c (pl t q 5) (c (pl t q 4))) L' 0 0 [] l:=by
 have hb:=kP (c (pl t q 0));have hnf:qx (c (pl t q 4)) (iC (c (pl t q 0)))=false:=je5 hu hv hne fun i hi=>⟨(h.bits q hq0 hq1 i hi).1,fun e=>((h.bits q hq0 hq1 i hi).2 e).2.1⟩
 have k1:Lst t P (upI c (pl t q 5) (c (pl t q 4))) L (fun i x=>Jy t c i x=true):=h.lst.congr (fun i i2 i21=>jf _ (kS ht hq0 zo zo)) (fun x x0 x1=>⟨jf _ (kU zo zo zo zo zo),jf _ (kU zo zo zo zo zo)⟩) (fun i x i2 i21 x0 x1=>⟨fun e=>⟨e,zo⟩,fun e=>e.1⟩) (fun i i' x i2 _ i2' _ e e'=>Kh i2 i2' e e');have key:∀(d:Int->Int) (L':Int->List Int),(∀x j,0<=x->(j=0\/j=1\/j=4)->d (pl t x j)=c (pl t x j))->(∀x,0<=x->d (pl t x 5)=if x=q then c (pl t q 4) else c (pl t x 5))->d 0=c 0->Lst t P d L' (fun i x=>if x=q then i=13+iC (c (pl t q 0)) else Jy t c i x=true)->Qe t P d L' 0 0 [] l:=by
  intro d L' g0 g5 gc k;have r2:∀x∈l,0<=x/\1<=iL (c (pl t x 0)):=fun x hx=>⟨(h.t2.ge x hx).1,h.t2.len hx⟩
  have e0:∀x∈l,cg t d 0 x=cg t c 0 x:=fun x hx=>g0 x 0 (r2 x hx).1 (Or.inl rfl);refine ⟨zo,zo,h.bP,rfl,h.t2.congr e0,fun x x0 x1 a1 a2 hx=> ?_,fun y hy=> ?_,fun x x0 x1 hx hx2=> ?_,trivial,h.ap2.congr e0,fun x x0 x1 i hi=> ?_,fun x x0 x1 hx h3=> ?_,k.lists,fun i x i2 i21 x0 x1=> ?_,fun x x0 x1 hx=> ?_,?_⟩
  ·rw [g0 x 0 x0 (Or.inl rfl)];exact h.zero x x0 x1 a1 a2 hx
  ·have hy2:y∈l:=hy.resolve_left zT;have h3:=r2 y hy2;rw [g0 y 0 h3.1 (Or.inl rfl),g0 _ 1 zo (Or.inr (Or.inl rfl))];exact h.foot1 y hy
  ·rw [g0 x 1 x0 (Or.inr (Or.inl rfl))];refine h.foot0 x x0 x1 (fun y hy=> ?_) (Or.inr rfl);have hy2:y∈l:=hy.resolve_left zT;have:=hx y hy;rwa [g0 y 0 (r2 y hy2).1 (Or.inl rfl)] at this
  ·rw [g0 x 4 x0 (Or.inr (Or.inr rfl)),g0 x 0 x0 (Or.inl rfl),g5 x x0];obtain ⟨j1,j2⟩:=h.bits x x0 x1 i hi;by_cases e:x=q
   ·subst e;rw [if_pos rfl];exact ⟨id,fun e2=>j2 (j1 e2)⟩
   ·rw [if_neg e];exact ⟨j1,j2⟩
  ·rw [g0 x 0 x0 (Or.inl rfl)] at h3;rw [g5 x x0];split
   ·exact hl0
   ·exact h.taken x x0 x1 zo h3
  ·rw [k.own_ i x i2 i21 x0 x1];by_cases e:x=q
   ·subst e;rw [if_pos rfl];have ho:Jy t d i x=true↔i=13+iC (c (pl t x 0)):=by
     unfold Jy qD qn;rw [g0 x 0 x0 (Or.inl rfl),g5 x x0,if_pos rfl];split
     ·simp [hk];omega
     ·constructor
      ·intro e2;simp [hk] at e2;omega
      ·intro e2;rw [show i - 13=iC (c (pl t x 0)) by omega];simp [hk,hnf]
    rw [ho];exact ⟨fun e2=>⟨e2,zo⟩,fun e2=>e2.1⟩
   ·rw [if_neg e,JV (c:=c) (g0 x 0 x0 (Or.inl rfl)) (by rw [g5 x x0,if_neg e])];exact ⟨fun e2=>⟨e2,zo⟩,fun e2=>e2.1⟩
  ·exact k.loose x x0 x1 fun i i2 i21 e=>hx i i2 i21 ((k.own_ i x i2 i21 x0 x1).2 e)
  ·rw [gc,h.free,qE e0];simp [JH]
 have hone:∀i i' x,2<=i->i<=21->2<=i'->i'<=21->(if x=q then i=13+iC (c (pl t q 0)) else Jy t c i x=true)->(if x=q then i'=13+iC (c (pl t q 0)) else Jy t c i' x=true)->i=i':=by
  intro i i' x i2 _ i2' _ e e';by_cases hx:x=q
  ·rw [if_pos hx] at e e';omega
  ·rw [if_neg hx] at e e';exact Kh i2 i2' e e'
 have hqo:∀i,Jy t c i q=true↔(13<=i/\i=13+iC (c (pl t q 0))/\qx (c (pl t q 5)) (iC (c (pl t q 0)))=false):=by
  intro i;unfold Jy qD qn;split
  ·simp [hk];omega
  ·constructor
   ·intro e;simp [hk] at e;exact ⟨zo,zo,by rw [e.1];exact e.2⟩
   ·rintro ⟨e1,e2,e3⟩;rw [show i - 13=iC (c (pl t q 0)) by omega];simp [hk,e3]
 cases hfull:qx (c (pl t q 5)) (iC (c (pl t q 0)))
 ·refine ⟨fun e=>(by cases e),L,?_⟩;rw [if_neg zT];refine key _ L (fun x j x0 hj=>jf _ (kU zo zo zo zo zo)) (fun x x0=> ?_) (jf _ (kS ht hq0 zo zo)) (k1.congr (fun _ _ _=>rfl) (fun _ _ _=>⟨rfl,rfl⟩) (fun i x i2 i21 x0 x1=> ?_) hone)
  ·by_cases e:x=q
   ·rw [e,ju,if_pos rfl]
   ·rw [jf _ (fun e2=>e (qW.1 e2)),if_neg e]
  ·by_cases e:x=q
   ·subst e;rw [if_pos rfl,hqo];exact ⟨fun e2=>⟨zo,e2,hfull⟩,fun e2=>e2.2.1⟩
   ·rw [if_neg e]
 ·obtain ⟨hk2,L',k⟩:=k1.push ht (a:=13+iC (c (pl t q 0))) (q:=q) zo zo hq0 hq1 (fun i _ _ e=>by have:=(hqo i).1 e;rw [hfull] at this;simp at this);refine ⟨fun _=>hk2,L',?_⟩;rw [if_pos rfl];refine key _ L' (fun x j x0 hj=> ?_) (fun x x0=> ?_) ?_ (k.congr (fun _ _ _=>rfl) (fun _ _ _=>⟨rfl,rfl⟩) (fun i x i2 i21 x0 x1=> ?_) hone)
  ·rw [KU ht zo hq0 hq1 hk2 x0 zo zo zo zo];exact jf _ (kU zo zo zo zo zo)
  ·rw [KU ht zo hq0 hq1 hk2 x0 zo zo zo zo];by_cases e:x=q
   ·rw [e,ju,if_pos rfl]
   ·rw [jf _ (fun e2=>e (qW.1 e2)),if_neg e]
  ·rw [Ke ht hq0 hq1 hk2 zo zo];exact jf _ (kS ht hq0 zo zo)
  ·by_cases e:x=q
   ·subst e;rw [if_pos rfl];constructor
    ·exact fun e2=>Or.inr ⟨e2,rfl⟩
    ·rintro (e2 | e2)
     ·exact ((hqo i).1 e2).2.1
     ·exact e2.1
   ·rw [if_neg e];exact ⟨Or.inl,fun e2=>e2.elim id (fun e3=>absurd e3.2 e)⟩
end

def AU (c:Int->Int):Prop:=∀i,VS.U32 (c i)
theorem AU.up {c:Int->Int} (h:AU c) {v:Int} (i:Int) (hv:VS.U32 v):AU (upI c i v):=fun j=>by
 unfold upI;split
 ·exact hv
 ·exact h j
theorem AU.pull {c:Int->Int} (h:AU c) (t a q:Int):AU (kG t a q c):=by
 unfold kG;have h1:AU (if c (pl t q 3)=0 then upI c a (c (pl t q 2)) else upI c (pl t (c (pl t q 3) - 1) 2) (c (pl t q 2))):=by split <;> exact h.up _ (h _)
 have h2:AU (if c (pl t q 2)=0 then (if c (pl t q 3)=0 then upI c a (c (pl t q 2)) else upI c (pl t (c (pl t q 3) - 1) 2) (c (pl t q 2))) else upI (if c (pl t q 3)=0 then upI c a (c (pl t q 2)) else upI c (pl t (c (pl t q 3) - 1) 2) (c (pl t q 2))) (pl t (c (pl t q 2) - 1) 3) (c (pl t q 3))):=by
  split
  ·exact h1
  ·exact h1.up _ (h _)
 exact (h2.up _ VS.u32_zero).up _ VS.u32_zero
theorem AU.push {c:Int->Int} (h:AU c) (t a:Int) {q:Int} (hq:VS.U32 (q+1)):AU (kM t a q c):=by
 unfold kM;have h1:AU (upI (upI c (pl t q 2) (c a)) (pl t q 3) 0):=(h.up _ (h _)).up _ VS.u32_zero;dsimp only;split
 ·exact h1.up _ hq
 ·exact (h1.up _ hq).up _ hq
structure Chg (t q:Int) (c c':Int->Int):Prop where
 k45:∀x,0<=x->c' (pl t x 4)=c (pl t x 4)/\c' (pl t x 5)=c (pl t x 5)
 k0:∀x,0<=x->c' (pl t x 0)=c (pl t x 0)\/(iK (c (pl t x 0))≠2/\(iK (c (pl t x 0))=3->x=q)/\(iK (c' (pl t x 0))=0\/iK (c' (pl t x 0))=1))
 low:∀i,i=1\/(22<=i/\i < 30)->c' i=c i
theorem Chg.refl (t q:Int) (c:Int->Int):Chg t q c c:=⟨fun _ _=>⟨rfl,rfl⟩,fun _ _=>Or.inl rfl,fun _ _=>rfl⟩
theorem Chg.trans {t q:Int} {c d e:Int->Int} (h:Chg t q c d) (k:Chg t q d e):Chg t q c e:=by
 refine ⟨fun x x0=>⟨(k.k45 x x0).1.trans (h.k45 x x0).1,(k.k45 x x0).2.trans (h.k45 x x0).2⟩,fun x x0=> ?_,fun i hi=>(k.low i hi).trans (h.low i hi)⟩;rcases h.k0 x x0 with e1 | ⟨a1,a2,a3⟩
 ·rcases k.k0 x x0 with e2 | b
  ·exact Or.inl (e2.trans e1)
  ·rw [e1] at b;exact Or.inr b
 ·rcases k.k0 x x0 with e2 | ⟨b1,b2,b3⟩
  ·rw [e2];exact Or.inr ⟨a1,a2,a3⟩
  ·exact Or.inr ⟨a1,a2,b3⟩
section
variable {t P s:Int} {c:Int->Int} {st:VS}
theorem Vv {q bin y z:Int} (ht:1<=t) (b2:2<=bin) (b21:bin<=21) (hlk:jbC t P c y) (hz0:0<=z) (hz1:1<=z) (hz:z=q/\iK (c (pl t z 0))≠2\/iK (c (pl t z 0))=1) :
 Chg t q c (upI (upI (kG t bin y c) (pl t z 0) 0) (pl t (z - 1) 1) 0)/\(upI (upI (kG t bin y c) (pl t z 0) 0) (pl t (z - 1) 1) 0) 0=c 0/\∀x,0<=x->x≠z->(upI (upI (kG t bin y c) (pl t z 0) 0) (pl t (z - 1) 1) 0) (pl t x 0)=c (pl t x 0):=by
 have g:∀x k,0<=x->(k=4\/k=5)->(upI (upI (kG t bin y c) (pl t z 0) 0) (pl t (z - 1) 1) 0) (pl t x k)=c (pl t x k):=by
  intro x k x0 hk;rw [jf _ (kU zo zo zo zo zo),jf _ (kU zo zo zo zo zo)];exact y8 ht b21 hlk x0 zo zo zo zo
 have g0:∀x,0<=x->(upI (upI (kG t bin y c) (pl t z 0) 0) (pl t (z - 1) 1) 0) (pl t x 0)=if x=z then 0 else c (pl t x 0):=by
  intro x x0;rw [jf _ (kU zo zo zo zo zo)];by_cases e:x=z
  ·rw [e,ju,if_pos rfl]
  ·rw [jf _ (fun e2=>e (qW.1 e2)),if_neg e];exact y8 ht b21 hlk x0 zo zo zo zo
 have gl:∀i,i < 30->i≠bin->(upI (upI (kG t bin y c) (pl t z 0) 0) (pl t (z - 1) 1) 0) i=c i:=by
  intro i hi hb;rw [jf _ (kS ht zo zo hi),jf _ (kS ht zo zo hi)];exact KV ht hlk hi hb
 refine ⟨⟨fun x x0=>⟨g x 4 x0 (Or.inl rfl),g x 5 x0 (Or.inr rfl)⟩,fun x x0=> ?_,fun i hi=>gl i zo zo⟩,gl 0 zo zo,fun x x0 hx=>by rw [g0 x x0,if_neg hx]⟩;rw [g0 x x0];by_cases e:x=z
 ·subst e;rw [if_pos rfl];refine Or.inr ⟨?_,?_,Or.inl zd⟩
  ·rcases hz with h | h
   ·exact h.2
   ·omega
  ·rcases hz with h | h
   ·exact fun _=>h.1
   ·intro h3;omega
 ·rw [if_neg e];exact Or.inl rfl
theorem chg_give {q a b n bin:Int} (ht:1<=t) (b2:2<=bin) (b21:bin<=21) (ha0:0<=a) (ha1:a < P) (hb:a < b) (hn1:1<=n) (hn2:n<=1024) (hk:(upI (upI c (pl t a 0) (1+16*n)) (pl t (b - 1) 1) (a+1)) bin=0\/(1<=(upI (upI c (pl t a 0) (1+16*n)) (pl t (b - 1) 1) (a+1)) bin/\(upI (upI c (pl t a 0) (1+16*n)) (pl t (b - 1) 1) (a+1)) bin<=P)) (hz:a=q/\iK (c (pl t a 0))≠2\/iK (c (pl t a 0))=1) (v:Int) :
 Chg t q c (upI (kM t bin a (upI (upI c (pl t a 0) (1+16*n)) (pl t (b - 1) 1) (a+1))) 0 v):=by
 have g:∀x k,0<=x->(k=0\/k=4\/k=5)->(upI (kM t bin a (upI (upI c (pl t a 0) (1+16*n)) (pl t (b - 1) 1) (a+1))) 0 v) (pl t x k)=(upI c (pl t a 0) (1+16*n)) (pl t x k):=by
  intro x k x0 hk2;rw [jf _ (fun e=>(kS (i:=0) ht x0 zo zo) e.symm),KU ht b21 ha0 ha1 hk x0 zo zo zo zo,jf _ (kU zo zo zo zo zo)]
 refine ⟨fun x x0=>⟨?_,?_⟩,fun x x0=> ?_,fun i hi=> ?_⟩
 ·rw [g x 4 x0 zo,jf _ (kU zo zo zo zo zo)]
 ·rw [g x 5 x0 zo,jf _ (kU zo zo zo zo zo)]
 ·rw [g x 0 x0 zo];by_cases e:x=a
  ·subst e;rw [ju];refine Or.inr ⟨?_,?_,Or.inr (jb6 hn1 hn2).1⟩
   ·rcases hz with h | h
    ·exact h.2
    ·omega
   ·rcases hz with h | h
    ·exact fun _=>h.1
    ·intro h3;omega
  ·rw [jf _ (fun e2=>e (qW.1 e2))];exact Or.inl rfl
 ·rw [jf _ zo,Ke ht ha0 ha1 hk zo zo,jf _ (kS ht zo zo zo),jf _ (kS ht zo zo zo)]
theorem CV.freeAt_ (h:CV t P s c st) {q:Int} (h0:0<=q) (h1:q < P):(jF t P s q st).1=K6 (c (pl t q 0))/\CV t P s c (jF t P s q st).2:=by
 obtain ⟨g1,g2⟩:=h.pg (k:=0) h0 h1 zo zo;unfold jF;exact ⟨by rw [g1],g2⟩
theorem Va {n:Int} (h0:0<=qr n) (h1:qr n<=10):kq 2 (qr n) 11=2+qr n:=by unfold kq;rw [if_neg zo]
theorem CV.join (h:CV t P s c st) {y z:Int} (hf:iK (c (pl t y 0))=1) (hlk:jbC t P c y) (hz1:1<=z) (hz2:z < P) :
 (qp t P s y z st).1=iL (c (pl t y 0))/\CV t P s (upI (upI (kG t (2+qr (iL (c (pl t y 0)))) y c) (pl t z 0) 0) (pl t (z - 1) 1) 0) (qp t P s y z st).2:=by
 obtain ⟨y0,y1,-,-⟩:=id hlk;have hfv:=qd (c (pl t y 0));have hfe:=hfv.2.2.1 hf;have lb:=VZ (n:=iL (c (pl t y 0))) zo zo;obtain ⟨f1,f2⟩:=h.freeAt_ y0 y1;have hd:(qA t P s y st).1=iL (c (pl t y 0))/\CV t P s (kG t (2+qr (iL (c (pl t y 0)))) y c) (qA t P s y st).2:=by
  unfold qA;rw [if_pos (Qp y0 y1)];dsimp only;rw [f1,hfe.2,if_neg zo,Va lb.1 lb.2];exact ⟨rfl,f2.pull zo zo hlk⟩
 unfold qp;exact ⟨hd.1,(hd.2.pp (k:=0) 0 zo hz2 zo zo).pp (k:=1) 0 zo zo zo zo⟩
theorem mem_last {x f:Int} {m l:List Int}:(x∈m++[f]\/x∈l)↔(x=f\/x∈m\/x∈l):=by
 rw [List.mem_append,List.mem_singleton];constructor
 ·rintro ((h | h) | h)
  ·exact Or.inr (Or.inl h)
  ·exact Or.inl h
  ·exact Or.inr (Or.inr h)
 ·rintro (h | h | h)
  ·exact Or.inl (Or.inr h)
  ·exact Or.inl (Or.inl h)
  ·exact Or.inr h
theorem jeX {x f:Int} {m l:List Int}:(x∈m\/x∈f :: l)↔(x=f\/x∈m\/x∈l):=by
 rw [List.mem_cons];constructor
 ·rintro (h | h | h)
  ·exact Or.inr (Or.inl h)
  ·exact Or.inl h
  ·exact Or.inr (Or.inr h)
 ·rintro (h | h | h)
  ·exact Or.inr (Or.inl h)
  ·exact Or.inl h
  ·exact Or.inr (Or.inr h)
theorem je0 {l:List Int} (h:l≠[]):∃m f,l=m++[f]:=⟨l.dropLast,l.getLast h,(List.dropLast_concat_getLast h).symm⟩
theorem XN {L:Int->List Int} {q:Int} {l1 l2:List Int} (hc:CV t P s c st) (hP:P<=1024) (h:Qe t P c L q (q+1) l1 l2) (hu:AU c) (hk2:iK (c (pl t q 0))≠2) :
 ∃c' L' l',CV t P s c' (j7 t P s q 1 st)/\Qe t P c' L' 0 0 [] l'/\Chg t q c c'/\AU c'/\c' 0=c 0+1:=by
 have hr:=jn hc.right;have ht:1<=t:=zo;have hq0:=h.a0;have hq1:=h.bP;-- back
 have hback:∃(a n:Int) (d:Int->Int) (L1:Int->List Int) (m1:List Int),(ql t P s q 1 st).1=(a,n)/\CV t P s d (ql t P s q 1 st).2/\Qe t P d L1 a (q+1) m1 l2/\jaA (cg t d 0) m1/\Chg t q c d/\AU d/\d 0=c 0/\a+n=q+1/\1<=n/\(a=q/\iK (d (pl t a 0))≠2\/iK (d (pl t a 0))=1):=by
  unfold ql jZ;by_cases hz:q=0
  ·subst hz;rw [if_pos rfl];dsimp only;rw [if_pos zo];have hnl:l1=[]:=by
    cases l1 with
    | nil=>rfl
    | cons x r=>have:=(h.t1).2.1;have:=h.t1.1;omega
   subst hnl;exact ⟨0,1,c,L,[],rfl,hc,h,(fun m f e=>by simp at e),Chg.refl _ _ _,hu,rfl,zo,zo,Or.inl ⟨rfl,hk2⟩⟩
  ·rw [if_neg hz];dsimp only;have hne:l1≠[]:=by
    rintro rfl;have e:(0:Int)=q:=h.t1;omega
   obtain ⟨m,f,hmf⟩:=je0 hne;have hfm:f∈l1:=by rw [hmf];simp
   have hfr:=h.t1.ge f hfm;have hfend:f+iL (c (pl t f 0))=q:=by
    have h1:=h.t1;rw [hmf] at h1;obtain ⟨w,w1,w2,-⟩:=yA.app.1 h1;obtain ⟨e1,-,-,e2⟩:=w2;subst e1;exact e2
   have hfoot:=h.foot1 f (Or.inl hfm);rw [show f+iL (c (pl t f 0)) - 1=q - 1 by omega] at hfoot;obtain ⟨g1,g2⟩:=hc.pg (q:=q - 1) (k:=1) zo zo zo zo;rw [g1,hfoot,show f+1 - 1=f by omega,if_neg zo];obtain ⟨v1,v2⟩:=g2.freeAt_ (q:=f) hfr.1 zo;rw [v1];by_cases hfree:iK (c (pl t f 0))=1
   ·have hfv:=(qd (c (pl t f 0))).2.2.1 hfree;rw [if_neg zo];dsimp only;have p1:=h.ap1;rw [hmf] at p1;have t1':yA (cg t c 0) f 0 m:=by
     have h1:=h.t1;rw [hmf] at h1;obtain ⟨w,w1,w2,-⟩:=yA.app.1 h1;obtain ⟨e1,-,-,-⟩:=w2;subst e1;exact w1
    have hfnm:f ∉ m:=fun e=>by have:=t1'.ge f e;omega
    have hfn2:f ∉ l2:=fun e=>by have:=h.t2.ge f e;omega
    obtain ⟨hlk,L1,hh⟩:=h.absorb ht zo (y:=f) (z:=q) (a':=f) (b':=q+1) (m1:=m) (m2:=l2) (Or.inl hfm) hfree (Or.inl ⟨rfl,hfend,rfl,rfl⟩) (fun x=>by rw [hmf];exact mem_last) (fun e=>e.elim hfnm hfn2) t1' h.t2 p1.split.1 h.ap2 (by
     rw [hmf,QO];have:JH (cg t c 0) [f]=iL (c (pl t f 0)):=by
      show (if iK (cg t c 0 f)=1 then iL (cg t c 0 f) else 0)+0=_;rw [if_pos (show iK (cg t c 0 f)=1 from hfree)];show iL (c (pl t f 0))+0=_;omega
     omega)
    obtain ⟨j1,j2⟩:=v2.join (y:=f) (z:=q) hfree hlk zo zo;have fo:=V6 hfree;obtain ⟨ch,c00,cx⟩:=Vv (q:=q) (bin:=2+qr (iL (c (pl t f 0)))) (y:=f) (z:=q) ht zo zo hlk hq0 zo (Or.inl ⟨rfl,hk2⟩);refine ⟨f,1+(qp t P s f q (jF t P s f (st.get (ofF t P s (q - 1) 1)).2).2).1,_,L1,m,rfl,j2,hh,?_,ch,((hu.pull _ _ _).up _ VS.u32_zero).up _ VS.u32_zero,c00,by rw [j1];omega,by rw [j1];omega,Or.inr ?_⟩
    ·intro m' f' e';have hx:f'∈m:=by rw [e'];simp
     have h3:=t1'.ge f' hx;show iK ((upI (upI (kG t (2+qr (iL (c (pl t f 0)))) f c) (pl t q 0) 0) (pl t (q - 1) 1) 0) (pl t f' 0))≠1;rw [cx f' h3.1 zo];exact p1.last hfree m' f' e'
    ·rw [cx f hfr.1 zo];exact hfree
   ·have hfv:=(qd (c (pl t f 0))).2.2.2 hfree;rw [if_pos hfv];refine ⟨q,1,c,L,l1,rfl,v2,h,?_,Chg.refl _ _ _,hu,rfl,zo,zo,Or.inl ⟨rfl,hk2⟩⟩;intro m' f' e';rw [hmf] at e';have:=List.append_inj_right' e' rfl;simp at this;subst this;exact hfree
 obtain ⟨a,n,d,L1,m1,hb1,hb2,hh,hnl,ch1,hu1,d0,han,hn1,hka⟩:=hback;have ha0:=hh.a0;-- fore
 have hfore:∃(b:Int) (d2:Int->Int) (L2:Int->List Int) (m2:List Int),(qq t P s (q+1) n (ql t P s q 1 st).2).1=b - a/\CV t P s d2 (qq t P s (q+1) n (ql t P s q 1 st).2).2/\Qe t P d2 L2 a b m1 m2/\jaA (cg t d2 0) m1/\jci (cg t d2 0) m2/\Chg t q c d2/\AU d2/\d2 0=c 0/\a < b/\(a=q/\iK (d2 (pl t a 0))≠2\/iK (d2 (pl t a 0))=1)/\b<=P:=by
  unfold qq;by_cases hlt:q+1 < P
  ·rw [if_pos hlt];dsimp only;obtain ⟨v1,v2⟩:=hb2.freeAt_ (q:=q+1) zo hlt;rw [v1];obtain ⟨r,hr2⟩:∃r,l2=(q+1) :: r:=by
    cases hl2:l2 with
    | nil=>have e:=hh.t2;rw [hl2] at e;have e2:q+1=P:=e;omega
    | cons x r=>have e:=hh.t2;rw [hl2] at e;have:=e.1;exact ⟨r,by rw [this]⟩
   subst hr2;obtain ⟨-,-,-,tr⟩:=hh.t2;by_cases hfree:iK (d (pl t (q+1) 0))=1
   ·have hfv:=(qd (d (pl t (q+1) 0))).2.2.1 hfree;rw [if_neg zo];dsimp only;have tr':yA (cg t d 0) P (q+1+iL (d (pl t (q+1) 0))) r:=tr;have hym1:q+1 ∉ m1:=fun e=>by have:=hh.t1.ge _ e;omega
    have hymr:q+1 ∉ r:=fun e=>by have:=tr'.ge _ e;omega
    obtain ⟨hlk,L2,hh2⟩:=hh.absorb ht zo (y:=q+1) (z:=q+1) (a':=a) (b':=q+1+iL (d (pl t (q+1) 0))) (m1:=m1) (m2:=r) (Or.inr zT) hfree (Or.inr ⟨rfl,rfl,rfl,rfl⟩) (fun x=>jeX) (fun e=>e.elim hym1 hymr) hh.t1 tr' hh.ap1 hh.ap2.2 (by
     have:JH (cg t d 0) ((q+1) :: r)=iL (d (pl t (q+1) 0))+JH (cg t d 0) r:=by
      show (if iK (cg t d 0 (q+1))=1 then iL (cg t d 0 (q+1)) else 0)+_=_;rw [if_pos (show iK (cg t d 0 (q+1))=1 from hfree)];rfl
     omega)
    obtain ⟨j1,j2⟩:=v2.join (y:=q+1) (z:=q+1) hfree hlk zo hlt;have fo:=V6 hfree;obtain ⟨ch,c00,cx⟩:=Vv (q:=q) (bin:=2+qr (iL (d (pl t (q+1) 0)))) (y:=q+1) (z:=q+1) ht zo zo hlk zo zo (Or.inr hfree);refine ⟨q+1+iL (d (pl t (q+1) 0)),_,L2,r,by rw [j1];omega,j2,hh2,?_,?_,ch1.trans ch,((hu1.pull _ _ _).up _ VS.u32_zero).up _ VS.u32_zero,c00.trans d0,zo,?_,hh2.bP⟩
    ·intro m' f' e';have h3:=hh.t1.ge f' (by rw [e'];simp);show iK ((upI (upI (kG t (2+qr (iL (d (pl t (q+1) 0)))) (q+1) d) (pl t (q+1) 0) 0) (pl t (q+1 - 1) 1) 0) (pl t f' 0))≠1;rw [cx f' h3.1 zo];exact hnl m' f' e'
    ·intro m' f' e';have h3:=tr'.ge f' (by rw [e'];simp);show iK ((upI (upI (kG t (2+qr (iL (d (pl t (q+1) 0)))) (q+1) d) (pl t (q+1) 0) 0) (pl t (q+1 - 1) 1) 0) (pl t f' 0))≠1;rw [cx f' zo zo];exact hh.ap2.head hfree m' f' e'
    ·rw [cx a ha0 zo];exact hka
   ·have hfv:=(qd (d (pl t (q+1) 0))).2.2.2 hfree;rw [if_pos hfv];refine ⟨q+1,d,L1,(q+1) :: r,by show n=_;omega,v2,hh,hnl,?_,ch1,hu1,d0,zo,hka,zo⟩;intro m' f' e';simp at e';rw [<-e'.1];exact hfree
  ·rw [if_neg hlt];have hP2:q+1=P:=zo;refine ⟨q+1,d,L1,l2,by show n=_;omega,hb2,hh,hnl,?_,ch1,hu1,d0,zo,hka,zo⟩;intro m' f' e';have:=hh.t2.ge f' (by rw [e'];simp);omega
 obtain ⟨b,d2,L2,m2,hf1,hf2,hh2,hnl2,hnh,ch2,hu2,d20,hab,hka2,hbP⟩:=hfore;obtain ⟨lb0,lb1,hkp,gz,c0a,c0b,L3,hh3⟩:=hh2.give ht hP hab hnl2 hnh;have hcv:CV t P s (upI (kM t (2+qr (b - a)) a (upI (upI d2 (pl t a 0) (1+16*(b - a))) (pl t (b - 1) 1) (a+1))) 0 (d2 0+1)) (j7 t P s q 1 st):=by
  unfold j7;dsimp only;rw [hb1];dsimp only;rw [hf1];have hadd:CV t P s (kM t (2+qr (b - a)) a (upI (upI d2 (pl t a 0) (1+16*(b - a))) (pl t (b - 1) 1) (a+1))) (JK t P s a (b - a) (qq t P s (q+1) n (ql t P s q 1 st).2).2):=by
   unfold JK;rw [if_pos ⟨ha0,zo,zo,zo⟩];unfold addF;have e1:((a.toNat:Nat):Int)=a:=zo;have e2:(((b - a).toNat:Nat):Int)=b - a:=zo;rw [e1,e2,Va lb0 lb1,show a+(b - a) - 1=b - 1 by omega];exact ((hf2.pp (k:=0) _ ha0 zo zo zo).pp (k:=1) _ zo zo zo zo).push zo zo ha0 zo hkp
  unfold qB;obtain ⟨w1,w2⟩:=hadd.get (i:=0) zo zo;rw [w1,gz];have hw:IntKind.u32.wrap (d2 0+1)=d2 0+1:=by rw [IntKind.wrap_u32];omega
  rw [hw];exact w2.put _ zo zo
 refine ⟨_,L3,_,hcv,hh3,ch2.trans (chg_give (n:=b - a) ht zo zo ha0 zo hab zo zo hkp hka2 _),?_,by rw [ju,d20]⟩;refine AU.up (AU.push (AU.up (AU.up hu2 _ ⟨zo,zo⟩) _ ⟨zo,zo⟩) _ _ ⟨zo,zo⟩) _ ⟨zo,zo⟩
end

def Hp (t P:Int) (c:Int->Int):Prop:=∃L l,Qe t P c L 0 0 [] l
theorem Hp.congr {t P:Int} {c c':Int->Int} (ht:1<=t) (h:Hp t P c) (he:∀i,0<=i->i < 30+4*t+6*P->c' i=c i):Hp t P c':=by
 obtain ⟨L,l,h⟩:=h;have hP:=h.bP;have pg:∀x k,0<=x->x < P->0<=k->k<=5->c' (pl t x k)=c (pl t x k):=fun x k x0 x1 k0 k5=>he _ (by unfold pl;omega) (by unfold pl;omega);have lo:∀i,0<=i->i < 30->c' i=c i:=fun i i0 i1=>he i i0 zo;have r2:∀x∈l,0<=x/\x < P/\1<=iL (c (pl t x 0))/\x+iL (c (pl t x 0))<=P:=fun x hx=>by
  have h1:=h.t2.ge x hx;have h2:x+iL (c (pl t x 0))<=P:=(h.t2.end_le x hx).1;have h3:1<=iL (c (pl t x 0)):=h.t2.len hx;omega
 have e0:∀x∈l,cg t c' 0 x=cg t c 0 x:=fun x hx=>pg x 0 (r2 x hx).1 (r2 x hx).2.1 zo zo;refine ⟨L,l,zo,zo,hP,rfl,h.t2.congr e0,fun x x0 x1 a1 a2 hx=> ?_,fun y hy=> ?_,fun x x0 x1 hx hx2=> ?_,trivial,h.ap2.congr e0,fun x x0 x1 i hi=> ?_,fun x x0 x1 hx h3=> ?_,fun i i2 i21=>(h.lists i i2 i21).congr (lo i zo zo) fun x x0 x1=>⟨pg x 2 x0 x1 zo zo,pg x 3 x0 x1 zo zo⟩,fun i x i2 i21 x0 x1=> ?_,fun x x0 x1 hx=> ?_,?_⟩
 ·rw [pg x 0 x0 x1 zo zo];exact h.zero x x0 x1 a1 a2 hx
 ·have hy2:y∈l:=hy.resolve_left zT;have h3:=r2 y hy2;rw [pg y 0 h3.1 h3.2.1 zo zo,pg _ 1 zo zo zo zo];exact h.foot1 y hy
 ·rw [pg x 1 x0 x1 zo zo];refine h.foot0 x x0 x1 (fun y hy=> ?_) (Or.inr rfl);have hy2:y∈l:=hy.resolve_left zT;have h3:=r2 y hy2;have:=hx y hy;rwa [pg y 0 h3.1 h3.2.1 zo zo] at this
 ·rw [pg x 4 x0 x1 zo zo,pg x 5 x0 x1 zo zo,pg x 0 x0 x1 zo zo];exact h.bits x x0 x1 i hi
 ·rw [pg x 0 x0 x1 zo zo] at h3;rw [pg x 5 x0 x1 zo zo];exact h.taken x x0 x1 hx h3
 ·rw [JV (c:=c) (pg x 0 x0 x1 zo zo) (pg x 5 x0 x1 zo zo)];exact h.own i x i2 i21 x0 x1
 ·rw [pg x 2 x0 x1 zo zo,pg x 3 x0 x1 zo zo];exact h.loose x x0 x1 hx
 ·rw [lo 0 zo zo,h.free,qE e0];simp [JH]
structure Swp (t P q:Int) (c c':Int->Int):Prop where
 s4:∀x,0<=x->c' (pl t x 4)=c (pl t x 4)
 s5:∀x,0<=x->x≠q->c' (pl t x 5)=c (pl t x 5)
 k0:∀x,0<=x->c' (pl t x 0)=c (pl t x 0)\/(iK (c (pl t x 0))≠2/\(iK (c (pl t x 0))=3->x=q/\c (pl t q 4)=0)/\(iK (c' (pl t x 0))=0\/iK (c' (pl t x 0))=1))
 low:∀i,i=1\/(22<=i/\i < 30)->c' i=c i
 clean:0<=q->q < P->iK (c' (pl t q 0))=3->c' (pl t q 4)=c' (pl t q 5)
 free:c' 0=c 0+(if 0<=q/\q < P/\iK (c (pl t q 0))=3/\c (pl t q 4)=0 then 1 else 0)
section
variable {t P s:Int} {c:Int->Int} {st:VS}
theorem jcr (q:Int) (hc:CV t P s c st) (hP:P<=1024) (h:Hp t P c) (hu:AU c) :
 ∃c',CV t P s c' (jP t P s q st).2/\Hp t P c'/\AU c'/\Swp t P q c c'/\((jP t P s q st).1=false->c'=c/\(jP t P s q st).2.writes=st.writes)/\((∀x,0<=x->x < P->iK (c (pl t x 0))=3->c (pl t x 4)=c (pl t x 5))->(jP t P s q st).1=false):=by
 have hr:=jn hc.right;have ht:1<=t:=zo;unfold jP;by_cases hq:kR P q=true
 ·have hqr:0<=q/\q < P:=by unfold kR at hq;simpa using hq
  rw [if_pos hq];dsimp only;obtain ⟨g1,g2⟩:=hc.pg (k:=0) hqr.1 hqr.2 zo zo;rw [g1];by_cases h3:iK (c (pl t q 0))=3
  ·rw [if_pos h3];obtain ⟨l1,l2⟩:=g2.pg (k:=4) hqr.1 hqr.2 zo zo;obtain ⟨k1,k2⟩:=l2.pg (k:=5) hqr.1 hqr.2 zo zo;rw [l1,k1];obtain ⟨L,l,hh⟩:=h;have hwr:(((st.get (ofF t P s q 0)).2.get (ofF t P s q 4)).2.get (ofF t P s q 5)).2.writes=st.writes:=by rw [yk,yk,yk]
   by_cases he:c (pl t q 4)=c (pl t q 5)
   ·rw [if_pos he];have hno:¬(0<=q/\q < P/\iK (c (pl t q 0))=3/\c (pl t q 4)=0):=fun e=>hh.taken q hqr.1 hqr.2 zo h3 (by rw [<-he];exact e.2.2.2);exact ⟨c,k2,⟨L,l,hh⟩,hu,⟨fun _ _=>rfl,fun _ _ _=>rfl,fun _ _=>Or.inl rfl,fun _ _=>rfl,fun _ _ _=>he,by rw [if_neg hno];omega⟩,fun _=>⟨rfl,hwr⟩,fun _=>rfl⟩
   ·rw [if_neg he];have hput:=k2.pp (k:=5) (c (pl t q 4)) hqr.1 hqr.2 zo zo;have hcl:(∀x,0<=x->x < P->iK (c (pl t x 0))=3->c (pl t x 4)=c (pl t x 5))->(true:Bool)=false:=fun e=>absurd (e q hqr.1 hqr.2 h3) he;by_cases h0:c (pl t q 4)=0
    ·-- nothing live: the slab is no more
     dsimp only;rw [if_pos h0];have hql:q∈l:=by
      rcases Classical.em (q∈l) with e | e
      ·exact e
      ·have:=hh.kind0 hqr.1 hqr.2 zT e (Or.inr rfl);omega
     obtain ⟨m1,m2,hlm⟩:=List.append_of_mem hql;rw [hlm] at hh;obtain ⟨m,hcut⟩:=hh.cut;have hmq:m=q:=hcut.t2.1.symm;subst hmq;obtain ⟨hlk,b2,b21,L',hand⟩:=hcut.take ht h3 h0;rw [h0] at hput;have hcd:∃d,d=(if qx (c (pl t m 5)) (iC (c (pl t m 0)))=true then upI c (pl t m 5) 0 else kG t (13+iC (c (pl t m 0))) m (upI c (pl t m 5) 0)):=⟨_,rfl⟩
     obtain ⟨d,hd⟩:=hcd;rw [<-hd] at hand;have hcvd:CV t P s d (if qx (c (pl t m 5)) (iC (c (pl t m 0)))=true then ((((st.get (ofF t P s m 0)).2.get (ofF t P s m 4)).2.get (ofF t P s m 5)).2.put (ofF t P s m 5) 0) else qG t P s (13+iC (c (pl t m 0))) m ((((st.get (ofF t P s m 0)).2.get (ofF t P s m 4)).2.get (ofF t P s m 5)).2.put (ofF t P s m 5) 0)):=by
      rw [hd];cases hf:qx (c (pl t m 5)) (iC (c (pl t m 0)))
      ·rw [if_neg zT,if_neg zT];exact hput.pull b2 b21 (hlk hf)
      ·rw [if_pos rfl,if_pos rfl];exact hput
     have dpg:∀x k,0<=x->(k=0\/k=4\/k=5)->d (pl t x k)=(upI c (pl t m 5) 0) (pl t x k):=by
      intro x k x0 hk;rw [hd];cases hf:qx (c (pl t m 5)) (iC (c (pl t m 0)))
      ·rw [if_neg zT];exact y8 ht b21 (hlk hf) x0 zo zo zo zo
      ·rw [if_pos rfl]
     have dlo:∀i,i < 30->(i < 2\/22<=i)->d i=c i:=by
      intro i hi hi2;have e1:(upI c (pl t m 5) 0) i=c i:=jf _ (kS ht hqr.1 zo hi);rw [hd];cases hf:qx (c (pl t m 5)) (iC (c (pl t m 0)))
      ·rw [if_neg zT,KV ht (hlk hf) hi zo];exact e1
      ·rw [if_pos rfl];exact e1
     have hud:AU d:=by
      rw [hd];split
      ·exact hu.up _ VS.u32_zero
      ·exact (hu.up _ VS.u32_zero).pull _ _ _
     have d0:∀x,0<=x->d (pl t x 0)=c (pl t x 0):=fun x x0=>by
      rw [dpg x 0 x0 (Or.inl rfl)];exact jf _ (kU zo zo zo zo zo)
     have d4:∀x,0<=x->d (pl t x 4)=c (pl t x 4):=fun x x0=>by
      rw [dpg x 4 x0 zo];exact jf _ (kU zo zo zo zo zo)
     have d5:∀x,0<=x->d (pl t x 5)=if x=m then 0 else c (pl t x 5):=fun x x0=>by
      rw [dpg x 5 x0 zo];by_cases e:x=m
      ·rw [e,ju,if_pos rfl]
      ·rw [jf _ (fun e2=>e (qW.1 e2)),if_neg e]
     obtain ⟨c',L2,l',r1,r2,r3,r4,r5⟩:=XN hcvd hP hand hud (by rw [d0 m hqr.1,h3];omega);rw [h0];refine ⟨c',r1,⟨L2,l',r2⟩,r4,⟨fun x x0=>(r3.k45 x x0).1.trans (d4 x x0),fun x x0 hx=>by rw [(r3.k45 x x0).2,d5 x x0,if_neg hx],fun x x0=> ?_,fun i hi=>(r3.low i hi).trans (dlo i zo zo),fun _ _ e=> ?_,?_⟩,fun e=>(by cases e),hcl⟩
     ·have:=r3.k0 x x0;rw [d0 x x0] at this;exact this.imp id fun e=>⟨e.1,fun e3=>⟨e.2.1 e3,h0⟩,e.2.2⟩
     ·rw [(r3.k45 m hqr.1).1,(r3.k45 m hqr.1).2,d4 m hqr.1,d5 m hqr.1,if_pos rfl,h0]
     ·rw [r5,dlo 0 zo zo,if_pos ⟨hqr.1,hqr.2,h3,h0⟩]
    ·dsimp only;rw [if_neg h0];obtain ⟨hk,L',hand⟩:=hh.lower ht hqr.1 hqr.2 h3 (hu _) (hu _) he h0;have b:=kP (c (pl t q 0));have hno:¬(0<=q/\q < P/\iK (c (pl t q 0))=3/\c (pl t q 4)=0):=fun e=>h0 e.2.2.2;cases hf:qx (c (pl t q 5)) (iC (c (pl t q 0)))
     ·rw [hf,if_neg zT] at hand;rw [if_neg zT];refine ⟨_,hput,⟨L',l,hand⟩,hu.up _ (hu _),⟨fun x x0=>jf _ (kU zo zo zo zo zo),fun x x0 hx=>jf _ (fun e=>hx (qW.1 e)),fun x x0=>Or.inl (jf _ (kU zo zo zo zo zo)),fun i hi=>jf _ (kS ht hqr.1 zo zo),fun _ _ _=> ?_,?_⟩,fun e=>(by cases e),hcl⟩
      ·rw [ju,jf _ (kU zo zo zo zo zo)]
      ·rw [if_neg hno,jf _ (kS ht hqr.1 zo zo)];omega
     ·rw [hf,if_pos rfl] at hand;rw [if_pos rfl];have hk2:=hk hf;have hpg:∀x k,0<=x->(k=0\/k=4\/k=5)->kM t (13+iC (c (pl t q 0))) q (upI c (pl t q 5) (c (pl t q 4))) (pl t x k)=(upI c (pl t q 5) (c (pl t q 4))) (pl t x k):=fun x k x0 hk3=>KU ht zo hqr.1 hqr.2 hk2 x0 zo zo zo zo;refine ⟨_,hput.push zo zo hqr.1 hqr.2 hk2,⟨L',l,hand⟩,(hu.up _ (hu _)).push _ _ ⟨zo,zo⟩,⟨fun x x0=> ?_,fun x x0 hx=> ?_,fun x x0=>Or.inl ?_,fun i hi=> ?_,fun _ _ _=> ?_,?_⟩,fun e=>(by cases e),hcl⟩
      ·rw [hpg x 4 x0 zo];exact jf _ (kU zo zo zo zo zo)
      ·rw [hpg x 5 x0 zo];exact jf _ (fun e=>hx (qW.1 e))
      ·rw [hpg x 0 x0 zo];exact jf _ (kU zo zo zo zo zo)
      ·rw [Ke ht hqr.1 hqr.2 hk2 zo zo];exact jf _ (kS ht hqr.1 zo zo)
      ·rw [hpg q 4 hqr.1 zo,hpg q 5 hqr.1 zo,ju,jf _ (kU zo zo zo zo zo)]
      ·rw [if_neg hno,Ke ht hqr.1 hqr.2 hk2 zo zo,jf _ (kS ht hqr.1 zo zo)];omega
  ·rw [if_neg h3];refine ⟨c,g2,h,hu,⟨fun _ _=>rfl,fun _ _ _=>rfl,fun _ _=>Or.inl rfl,fun _ _=>rfl,fun _ _ e=>absurd e h3,by rw [if_neg (fun e=>h3 e.2.2.1)];omega⟩,fun _=>⟨rfl,yk _ _⟩,fun _=>rfl⟩
 ·rw [if_neg hq];have hqr:¬(0<=q/\q < P):=fun e=>hq (Qp e.1 e.2);refine ⟨c,hc,h,hu,⟨fun _ _=>rfl,fun _ _ _=>rfl,fun _ _=>Or.inl rfl,fun _ _=>rfl,fun a b=>absurd ⟨a,b⟩ hqr,by rw [if_neg (fun e=>hqr ⟨e.1,e.2.1⟩)];omega⟩,fun _=>⟨rfl,rfl⟩,fun _=>rfl⟩
def zN (t:Int) (c:Int->Int):Nat->Int
 | 0=>0
 | k+1=>zN t c k+if iK (c (pl t k 0))=3/\c (pl t k 4)=0 then 1 else 0
theorem Swp.zero {q:Int} {c c':Int->Int} (h:Swp t P q c c') (hc':0<=q->q < P->iK (c' (pl t q 0))=3->c' (pl t q 5)≠0):∀k:Nat,(k:Int)<=P->zN t c' k=zN t c k - (if 0<=q/\q < k/\iK (c (pl t q 0))=3/\c (pl t q 4)=0 then 1 else 0)
 | 0,_=>by simp [zN];omega
 | k+1,hk=>by
  have ih:=h.zero hc' k zo;unfold zN;rw [ih];have h4:=h.s4 k zo;by_cases e:(k:Int)=q
  ·have hz:¬(iK (c' (pl t k 0))=3/\c' (pl t k 4)=0):=by
    rintro ⟨e1,e2⟩;rw [e] at e1 e2;have:=h.clean zo zo e1;exact hc' zo zo e1 zo
   rw [if_neg hz,if_neg (show¬(0<=q/\q < (k:Int)/\iK (c (pl t q 0))=3/\c (pl t q 4)=0) by omega),e];by_cases hx:iK (c (pl t q 0))=3/\c (pl t q 4)=0
   ·rw [if_pos hx,if_pos ⟨zo,zo,hx⟩];omega
   ·rw [if_neg hx,if_neg (fun e2=>hx e2.2.2)];omega
  ·have hiff:(iK (c' (pl t k 0))=3/\c' (pl t k 4)=0)↔(iK (c (pl t k 0))=3/\c (pl t k 4)=0):=by
    rw [h4];rcases h.k0 k zo with e1 | ⟨e1,e2,e3⟩
    ·rw [e1]
    ·constructor
     ·rintro ⟨x,-⟩;omega
     ·rintro ⟨x,-⟩;exact absurd (e2 x).1 e
   have hq:(0<=q/\q < ((k+1:Nat):Int)/\iK (c (pl t q 0))=3/\c (pl t q 4)=0)↔(0<=q/\q < (k:Int)/\iK (c (pl t q 0))=3/\c (pl t q 4)=0):=by
    constructor
    ·rintro ⟨a,b,d⟩;exact ⟨a,zo,d⟩
    ·rintro ⟨a,b,d⟩;exact ⟨a,zo,d⟩
   simp only [hiff,hq];omega
structure KpS (t:Int) (c c':Int->Int):Prop where
 s4:∀x,0<=x->c' (pl t x 4)=c (pl t x 4)
 k0:∀x,0<=x->c' (pl t x 0)=c (pl t x 0)\/(iK (c (pl t x 0))≠2/\(iK (c (pl t x 0))=3->c (pl t x 4)=0)/\(iK (c' (pl t x 0))=0\/iK (c' (pl t x 0))=1))
 low:∀i,i=1\/(22<=i/\i < 30)->c' i=c i
theorem KpS.refl (t:Int) (c:Int->Int):KpS t c c:=⟨fun _ _=>rfl,fun _ _=>Or.inl rfl,fun _ _=>rfl⟩
theorem KpS.step {q:Int} {c d e:Int->Int} (h:KpS t c d) (k:Swp t P q d e):KpS t c e:=by
 refine ⟨fun x x0=>(k.s4 x x0).trans (h.s4 x x0),fun x x0=> ?_,fun i hi=>(k.low i hi).trans (h.low i hi)⟩;rcases h.k0 x x0 with e1 | ⟨a1,a2,a3⟩
 ·rcases k.k0 x x0 with e2 | ⟨b1,b2,b3⟩
  ·exact Or.inl (e2.trans e1)
  ·rw [e1] at b1 b2;refine Or.inr ⟨b1,fun e3=> ?_,b3⟩;obtain ⟨rfl,hz⟩:=b2 e3;rw [<-h.s4 x x0];exact hz
 ·rcases k.k0 x x0 with e2 | ⟨b1,b2,b3⟩
  ·rw [e2];exact Or.inr ⟨a1,a2,a3⟩
  ·exact Or.inr ⟨a1,a2,b3⟩
theorem Swp.keeps {q x:Int} {c c':Int->Int} (h:Swp t P q c c') (x0:0<=x) (hx:x≠q) (hcl:iK (c (pl t x 0))=3->c (pl t x 4)=c (pl t x 5)):iK (c' (pl t x 0))=3->c' (pl t x 4)=c' (pl t x 5):=by
 intro e;rcases h.k0 x x0 with e1 | ⟨-,-,e3⟩
 ·rw [h.s4 x x0,h.s5 x x0 hx];exact hcl (by rw [<-e1];exact e)
 ·omega
end

section
variable {vs vs':List Int} {t s:Int} {P:Nat}
theorem Yt (q k:Int) (h4:gv vs' t q 4=gv vs t q 4):∀b:Nat,qH (Km vs' t s q k b)=qH (Km vs t s q k b)
 | 0=>rfl
 | b+1=>by
  unfold Km;rw [yf,yf,Yt q k h4 b,h4];congr 1;unfold qH;cases e:bitB (gv vs t q 4) b
  ·simp only [jfa];cases bitB (gv vs' t q 5) b <;> cases bitB (gv vs t q 5) b <;> simp [qH]
  ·simp [jfa]
theorem Vq (q k:Int) (h4:gv vs t q 4=0):∀b:Nat,qH (Km vs t s q k b)=[]
 | 0=>rfl
 | b+1=>by
  unfold Km;rw [yf,Vq q k h4 b,h4,jcd];unfold qH jfa;cases bitB (gv vs t q 5) b <;> simp [qH]
theorem jfB (q:Nat) (h4:gv vs' t q 4=gv vs t q 4) (h0:gv vs' t q 0=gv vs t q 0\/(iK (gv vs t q 0)≠2/\(iK (gv vs t q 0)=3->gv vs t q 4=0)/\(iK (gv vs' t q 0)=0\/iK (gv vs' t q 0)=1))):qH (QI vs' t s q)=qH (QI vs t s q):=by
 rcases h0 with h0 | ⟨h2,h3,h1⟩
 ·unfold QI;rw [h0];split
  ·rfl
  ·split
   ·unfold Ql;rw [yf,yf,Yt _ _ h4]
   ·rfl
 ·have e1:qH (QI vs' t s q)=[]:=by
   unfold QI;rcases h1 with h1 | h1
   ·rw [if_neg zo,if_neg zo];rfl
   ·rw [if_pos (Or.inl h1),h1];simp [qH]
  have b:=kP (gv vs t q 0);have e2:qH (QI vs t s q)=[]:=by
   unfold QI;rcases (by omega:iK (gv vs t q 0)=0\/iK (gv vs t q 0)=1\/iK (gv vs t q 0)=3) with h5 | h5 | h5
   ·rw [if_neg zo,if_neg zo];rfl
   ·rw [if_pos (Or.inl h5),h5];simp [qH]
   ·rw [if_neg zo,if_pos h5];unfold Ql;rw [yf,Vq _ _ (h3 h5)];split <;> simp [qH]
  rw [e1,e2]
theorem jfA (hk:KpS t (cv vs) (cv vs')):qC vs' t P s=qC vs t P s:=by
 unfold qC JS;have key:∀k:Nat,qH (yR vs' t s k)=qH (yR vs t s k):=by
  intro k;induction k with
  | zero=>rfl
  | succ k ih=>
   unfold yR;rw [yf,yf,ih,jfB k (hk.s4 k zo) (hk.k0 k zo)]
 exact key _
theorem jeZ (hk:KpS t (cv vs) (cv vs')):∀k:Nat,JY vs' t k=JY vs t k
 | 0=>rfl
 | k+1=>by
  unfold JY;have h4:gv vs' t k 4=gv vs t k 4:=hk.s4 k zo;have h0:(iK (gv vs' t k 0)=2↔iK (gv vs t k 0)=2):=by
   rcases hk.k0 k zo with e | ⟨e1,-,e3⟩
   ·have e':gv vs' t k 0=gv vs t k 0:=e;rw [e']
   ·have e1':iK (gv vs t k 0)≠2:=e1;have e3':iK (gv vs' t k 0)=0\/iK (gv vs' t k 0)=1:=e3;constructor
    ·intro x;omega
    ·intro x;omega
  rw [jeZ hk k,h4];simp only [h0]
theorem kept_chk (ht:1<=t) (h:(J4 vs t P s).2=true) (hh:Hp t P (cv vs')) (hk:KpS t (cv vs) (cv vs')) :
 (J4 vs' t P s).2=true/\qC vs' t P s=qC vs t P s/\∀i:Nat,i < 8->vs'.getD (22+i) 0=vs.getD (22+i) 0:=by
 have hb:=jfA (P:=P) (s:=s) hk;have hr:∀i:Nat,i < 8->vs'.getD (22+i) 0=vs.getD (22+i) 0:=fun i hi=>by
  have:=hk.low ((22+i:Nat):Int) (Or.inr zo);exact this
 obtain ⟨-,-,-,-,-,-,-,h8,h9⟩:=YC.1 h;obtain ⟨L,l,hand⟩:=hh;refine ⟨jbw hand ?_ ?_,hb,hr⟩
 ·unfold JD at h8;rw [Bool.and_eq_true] at h8;have h10:vs.getD 1 0=JY vs t (P:Int).toNat:=of_decide_eq_true h8.2;have h11:vs'.getD 1 0=vs.getD 1 0:=hk.low 1 (Or.inl rfl);rw [h11,h10,jeZ hk];rfl
 ·unfold QB at h9 ⊢;rw [qM] at h9 ⊢;intro i hi;have:=h9 i hi;unfold XE at this ⊢;rw [hr i hi,hb];exact this
end

structure SwV (t s:Int) (P:Nat) (vs:List Int) (K:Nat) (c:Int->Int) (st:VS):Prop where
 cvw:CV t P s c st
 hp:Hp t P c
 au:AU c
 kp:KpS t (cv vs) c
 fr:c 0+zN t c P=cv vs 0+zN t (cv vs) P
 cl:∀x:Int,0<=x->x < P->x < K->iK (c (pl t x 0))=3->c (pl t x 4)=c (pl t x 5)
section
variable {t s:Int} {P K:Nat} {vs:List Int} {c:Int->Int} {st:VS}
theorem cv_au (hu:∀v∈vs,VS.U32 v):AU (cv vs):=fun i=>Kj hu _
theorem VC (hr:jq t P s=true) (hn:(vs.length:Int)=30+4*t+6*P):CV t P s (cv vs) (qs vs):=by
 refine ⟨hr,hn,rfl,fun i i0 i1=> ?_⟩;have hi:i.toNat < vs.length:=by
  have:(qs vs).n=vs.length:=rfl;omega
 show (match wl [] i.toNat with | some v=>some v | none=>vs[i.toNat]?)=_;have:wl [] i.toNat=none:=rfl;rw [this];unfold cv;simp [hi]
theorem SwV.start (hr:jq t P s=true) (hn:(vs.length:Int)=30+4*t+6*P) (hu:∀v∈vs,VS.U32 v) (h:(J4 vs t P s).2=true):SwV t s P vs 0 (cv vs) (qs vs):=by
 obtain ⟨l,hh⟩:=Yy hu h;exact ⟨VC hr hn,⟨_,l,hh⟩,cv_au hu,KpS.refl _ _,rfl,fun x _ _ hx=>by omega⟩
theorem SwV.step (hP:P<=1024) (h:SwV t s P vs K c st) (q:Int):∃c',SwV t s P vs K c' (jP t P s q st).2/\(q=K->SwV t s P vs (K+1) c' (jP t P s q st).2):=by
 obtain ⟨c',h1,h2,h3,h4,-,-⟩:=jcr q h.cvw zo h.hp h.au;have hz:zN t c' P=zN t c P - (if 0<=q/\q < (P:Int)/\iK (c (pl t q 0))=3/\c (pl t q 4)=0 then 1 else 0):=h4.zero (fun a b e=>by
  obtain ⟨L,l,hh⟩:=h2;exact hh.taken q a b zo e) P zo
 have hfr:c' 0+zN t c' P=cv vs 0+zN t (cv vs) P:=by
  rw [<-h.fr,hz,h4.free];have e:(0<=q/\q < (P:Int)/\iK (c (pl t q 0))=3/\c (pl t q 4)=0)↔(0<=q/\q < ((P:Nat):Int)/\iK (c (pl t q 0))=3/\c (pl t q 4)=0):=Iff.rfl;split <;> omega
 have hcl:∀x:Int,0<=x->x < P->(x < K\/x=q)->iK (c' (pl t x 0))=3->c' (pl t x 4)=c' (pl t x 5):=by
  intro x x0 x1 hx e;by_cases hxq:x=q
  ·subst hxq;exact h4.clean x0 x1 e
  ·exact h4.keeps x0 hxq (h.cl x x0 x1 (hx.resolve_right hxq)) e
 exact ⟨c',⟨h1,h2,h3,h.kp.step h4,hfr,fun x x0 x1 hx=>hcl x x0 x1 (Or.inl hx)⟩,fun hq=>⟨h1,h2,h3,h.kp.step h4,hfr,fun x x0 x1 hx=>hcl x x0 x1 zo⟩⟩
theorem SwV.all (hP:P<=1024) (h:SwV t s P vs 0 c st):∀k:Nat,k<=P->∃c',SwV t s P vs k c' (Xp t P s k st).2
 | 0,_=>⟨c,h⟩
 | k+1,hk=>by
  obtain ⟨d,hd⟩:=SwV.all hP h k zo;obtain ⟨c',-,h2⟩:=hd.step hP (k:Int);exact ⟨c',h2 rfl⟩
theorem jbH (i:Nat):∀(ws:List (Nat×Int)) (vals:List Int),(∀p∈ws,p.1≠i)->(ws.foldl (fun l x=>l.set x.1 x.2) vals)[i]? =vals[i]?
 | [],_,_=>rfl
 | x :: ws,vals,h=>by
  show (ws.foldl _ (vals.set x.1 x.2))[i]? =_;rw [jbH i ws _ (fun p hp=>h p (by simp [hp])),List.getElem?_set,if_neg (h x zT)]
theorem jbt (i:Nat):∀(ws:List (Nat×Int)) (vals:List Int),(ws.map (·.1)).Nodup->i < vals.length->(ws.foldl (fun l x=>l.set x.1 x.2) vals)[i]? =match wl ws i with | some v=>some v | none=>vals[i]?
 | [],_,_,_=>rfl
 | x :: ws,vals,hn,hi=>by
  simp only [List.map_cons,List.nodup_cons] at hn;show (ws.foldl _ (vals.set x.1 x.2))[i]? =_;rw [Ku];by_cases e:x.1=i
  ·rw [if_pos e,jbH i ws _ (fun p hp e2=>hn.1 (by rw [e,<-e2];exact List.mem_map_of_mem hp)),List.getElem?_set,if_pos e,if_pos zo]
  ·rw [if_neg e,jbt i ws _ hn.2 (by simpa using hi),List.getElem?_set,if_neg e];try (cases wl ws i <;> rfl)
theorem SwV.vals (h:SwV t s P vs K c st) (hn:(vs.length:Int)=30+4*t+6*P) (hi:(st.writes.map (·.1)).Nodup) (hc:(J4 vs t P s).2=true) {vals:List Int} (hl:vals.length=st.n) (hk:∀i,i < st.n->st.known i=vals[i]?) :
 ∃vs',vs'=setN vals st.writes st.writes.length/\vs'.length=vs.length/\(∀v∈vs',VS.U32 v)/\(∀i:Int,0<=i->i < 30+4*t+6*P->cv vs' i=c i)/\Hp t P (cv vs')/\
  (J4 vs' t P s).2=true/\qC vs' t P s=qC vs t P s/\∀i:Nat,i < 8->vs'.getD (22+i) 0=vs.getD (22+i) 0:=by
 have hr:=jn h.cvw.right;have hnn:=h.cvw.num;have hat:∀i:Nat,i < vals.length->(setN vals st.writes st.writes.length)[i]? =some (c i):=by
  intro i hi2;unfold setN;rw [List.take_length,jbt i _ _ hi hi2];have:=h.cvw.at_ (i:Int) zo zo;unfold vat at this;rw [show ((i:Int)).toNat=i by omega] at this;rw [<-this];cases wl st.writes i with
  | some v=>rfl
  | none=>exact (hk i zo).symm
 refine ⟨_,rfl,?_⟩;have hlen:(setN vals st.writes st.writes.length).length=vals.length:=jbI _ _ _;generalize setN vals st.writes st.writes.length=vs' at*
 have hcv:∀i:Int,0<=i->i < 30+4*t+6*P->cv vs' i=c i:=by
  intro i i0 i1;unfold cv;have:=hat i.toNat zo;rw [show ((i.toNat:Nat):Int)=i by omega] at this;simp [List.getD,this]
 have hpg:∀x k,0<=x->x < (P:Int)->0<=k->k<=5->cv vs' (pl t x k)=c (pl t x k):=fun x k x0 x1 k0 k5=>hcv _ (by unfold pl;omega) (by unfold pl;omega);have hhp:Hp t P (cv vs'):=h.hp.congr zo hcv;have hu':∀v∈vs',VS.U32 v:=by
  intro v hv;obtain ⟨i,hi2,he⟩:=List.getElem_of_mem hv;have:=hat i zo;rw [List.getElem?_eq_getElem hi2,he] at this;rw [Option.some.inj this];exact h.au _
 -- beyond the pages nothing is asked: cells that there are not read 0 in both
 have hout:∀x,0<=x->¬x < (P:Int)->∀k,0<=k->k<=5->cv vs' (pl t x k)=0/\cv vs (pl t x k)=0:=by
  intro x x0 x1 k k0 k5;unfold cv pl;constructor
  ·rw [List.getD,List.getElem?_eq_none zo];rfl
  ·rw [List.getD,List.getElem?_eq_none zo];rfl
 have hkp:KpS t (cv vs) (cv vs'):=by
  refine ⟨fun x x0=> ?_,fun x x0=> ?_,fun i hi2=> ?_⟩
  ·by_cases x1:x < (P:Int)
   ·rw [hpg x 4 x0 x1 zo zo];exact h.kp.s4 x x0
   ·rw [(hout x x0 x1 4 zo zo).1,(hout x x0 x1 4 zo zo).2]
  ·by_cases x1:x < (P:Int)
   ·rw [hpg x 0 x0 x1 zo zo];exact h.kp.k0 x x0
   ·rw [(hout x x0 x1 0 zo zo).1,(hout x x0 x1 0 zo zo).2];exact Or.inl rfl
  ·rw [hcv i zo zo];exact h.kp.low i hi2
 obtain ⟨k1,k2,k3⟩:=kept_chk zo hc hhp hkp;exact ⟨zo,hu',hcv,hhp,k1,k2,k3⟩
end

def wrW (w:List (Nat×Int)) (C:List Int):List Int:=setN C w w.length
def JT (t p z:Int) (q:Nat) (C:List Int):List Int:=wrW (jP t p z q (qs C)).2.writes C
def SP (t p z:Int) (C:List Int):Nat->List Int
 | 0=>C
 | j+1=>JT t p z j (SP t p z C j)
theorem wrW_len (w:List (Nat×Int)) (C:List Int):(wrW w C).length=C.length:=jbI _ _ _
theorem wrW_at {w:List (Nat×Int)} {C:List Int} (hn:(w.map (·.1)).Nodup) {i:Nat} (hi:i < C.length):(wrW w C)[i]? =match wl w i with | some v=>some v | none=>C[i]? :=by
 unfold wrW setN;rw [List.take_length];exact jbt i w C hn hi
theorem VB (C:List Int):WI C.length (fun i=>C[i]?) (qs C):=⟨rfl,rfl,by simp [qs],by simp [qs]⟩
structure SH (t s:Int) (P:Nat) (vs C:List Int) (K:Nat):Prop where
 right:jq t P s=true
 num:(vs.length:Int)=30+4*t+6*P
 len:C.length=vs.length
 u32:∀v∈C,VS.U32 v
 chk:(J4 C t P s).2=true
 blocks:qC C t P s=qC vs t P s
 roots:∀i:Nat,i < 8->C.getD (22+i) 0=vs.getD (22+i) 0
 cl:∀x:Int,0<=x->x < P->x < K->iK (cv C (pl t x 0))=3->cv C (pl t x 4)=cv C (pl t x 5)
section
variable {t s:Int} {P K:Nat} {vs C:List Int}
theorem SH.start (hr:jq t P s=true) (hn:(vs.length:Int)=30+4*t+6*P) (hu:∀v∈vs,VS.U32 v) (hc:(J4 vs t P s).2=true):SH t s P vs vs 0:=
 ⟨hr,hn,rfl,hu,hc,rfl,fun _ _=>rfl,fun x _ _ hx=>by omega⟩
theorem SH.again (h:SH t s P vs C K):SH t s P C C K:=
 ⟨h.right,by rw [h.len];exact h.num,rfl,h.u32,h.chk,rfl,fun _ _=>rfl,h.cl⟩
theorem SH.swv (h:SH t s P vs C K):SwV t s P C K (cv C) (qs C):=by
 obtain ⟨l,hh⟩:=Yy h.u32 h.chk;exact ⟨VC h.right (by rw [h.len];exact h.num),⟨_,l,hh⟩,cv_au h.u32,KpS.refl _ _,rfl,h.cl⟩
theorem SH.step (h:SH t s P vs C K) (hP:P<=1024):SH t s P vs (JT t P s K C) (K+1):=by
 obtain ⟨c',-,h2⟩:=h.swv.step hP (K:Int);have h3:=h2 rfl;have w2:=QM (VB C) t P s K;have hn:(C.length:Int)=30+4*t+6*P:=by rw [h.len];exact h.num
 obtain ⟨vs',e,a1,a2,a3,a4,a5,a6,a7⟩:=h3.vals hn w2.2.2.1 h.chk (vals:=C) w2.1.symm (fun i _=>by rw [w2.2.1]);have e':vs'=JT t P s K C:=e;subst e';refine ⟨h.right,h.num,a1.trans h.len,a2,a5,a6.trans h.blocks,fun i hi=>(a7 i hi).trans (h.roots i hi),fun x x0 x1 x2 hx=> ?_⟩;have hb:∀k,0<=k->k<=5->cv (JT t P s K C) (pl t x k)=c' (pl t x k):=fun k k0 k5=>a3 _ (by have:=jn h.right;unfold pl;omega) (by unfold pl;omega);rw [hb 4 zo zo,hb 5 zo zo];rw [hb 0 zo zo] at hx;exact h3.cl x x0 x1 zo hx
theorem SH.same (h:SH t s P vs C K) {q:Nat} (hq:q < K) (hqP:q < P):(jP t P s q (qs C)).2.writes=[]/\JT t P s q C=C:=by
 have hr:=jn h.right;have hn:(C.length:Int)=30+4*t+6*P:=by rw [h.len];exact h.num
 have hof:∀k:Int,ofF t P s q k=pl t q k:=fun k=>by
  have h1:(0:Int)<=(q:Int):=zo;have h2:(q:Int) < (P:Int):=zo;simp [ofF,h.right,h1,h2,pl]
 have hcv:=VC h.right hn;have hw:=(jaO (t:=t) (p:=P) (z:=s) (c:=cv C) (st:=qs C) (q:Int) hcv.at_ rfl (by
  simp only [hof];have:((qs C).n:Int)=30+4*t+6*P:=hn;unfold pl;omega) (by
  simp only [hof];exact h.cl q zo zo zo)).2
 have hw':(jP t P s q (qs C)).2.writes=[]:=hw;refine ⟨hw',?_⟩;unfold JT;rw [hw'];rfl
theorem SH.same_all (h:SH t s P vs C K) (hK:K<=P):∀j,j<=K->SP t P s C j=C
 | 0,_=>rfl
 | j+1,hj=>by
  show JT t P s j (SP t P s C j)=C;rw [h.same_all hK j zo];exact (h.same zo zo).2
theorem SH.all (h:SH t s P vs C 0) (hP:P<=1024):∀j,SH t s P vs (SP t P s C j) j
 | 0=>h
 | j+1=>(h.all hP j).step hP
end

def swBd (t p:Int) (x:TS) (k:Nat):Nat:=match k with
 | 0=>0
 | k+1=>(jk t p).toNat - x.known.length+410+k*(410+(jk t p).toNat)
theorem Vc (t p z:Int):∀(k:Nat) (x:TS),x.page+k=p.toNat->KnI (jk t p).toNat x.known->0<=x.n->x.n<=96->x.l.length<=96->x.wr.length<=96->
 yJ t p (kH t p z k x)/\mu t p (kH t p z k x)<=swBd t p x k/\10<=(kH t p z k x).ph:=by
 intro k;induction k with
 | zero=>
  intro x hp hk h1 h2 h3 h4;refine ⟨?_,Nat.le_refl _,by simp [kH,TS.to]⟩;constructor <;> simp_all [kH,TS.to]
 | succ k ih=>
  intro x hp hk h1 h2 h3 h4;unfold kH;rcases jbG t p z x.page x.known with ⟨i,hi,hi2,hi3⟩ | ⟨hn,hw⟩
  ·rw [hi];have h0:(0:Int)<=(i:Int):=zo;have HK:=zh (hk.snoc hi2 hi3 0);clear hi2 hi3;dsimp only;rw [if_pos h0];refine ⟨?_,?_,by simp [TS.to]⟩
   ·constructor <;> simp_all [TS.to]
    ·omega
    ·exact ⟨zo,HK.out⟩
   ·have e:p.toNat - x.page - 1=k:=zo;simp [mu,TS.to,swBd,e]
  ·have h0:¬(0:Int)<=(thF t p z x.page x.known).1:=zo;rw [if_neg h0];by_cases hwr:(thF t p z x.page x.known).2=[]
   ·rw [if_pos hwr];obtain ⟨a1,a2,a3⟩:=ih { x with need:=(thF t p z x.page x.known).1,wr:=[],page:=x.page+1,known:=[] } (by dsimp only;omega) (KnI.nil _) h1 h2 h3 zT;refine ⟨a1,Nat.le_trans a2 ?_,a3⟩;unfold swBd;cases k with
    | zero=>exact Nat.zero_le _
    | succ k=>
     dsimp only;rw [Nat.succ_mul];simp;omega
   ·rw [if_neg hwr];have hpos:0 < (thF t p z x.page x.known).2.length:=List.length_pos_iff.2 hwr;refine ⟨?_,?_,by simp [TS.to]⟩
    ·constructor <;> simp_all [TS.to];all_goals omega
    ·have e:p.toNat - x.page - 1=k:=zo;simp [mu,TS.to,swBd,e];omega

theorem KN {t p:Int} {x:TS} (h:yJ t p x):jY x=x:=by
 have e1:qt x=x:=by unfold qt;rw [if_neg];rintro ⟨a,b⟩;have:=h.h2 a;omega
 have e2:yc x=x:=by unfold yc;rw [if_neg];rintro ⟨a,b⟩;have:=h.h3 (.inl a);omega
 have e3:yb x=x:=by unfold yb;rw [if_neg];rintro ⟨a,b⟩;have:=h.h3 (.inr (.inr a));omega
 have e4:ya x=x:=by unfold ya;rw [if_neg];rintro ⟨a,b⟩;have:=h.hi (.inl a);omega
 have e5:q8 x=x:=by unfold q8;rw [if_neg];rintro ⟨a,b⟩;have:=h.hi (.inr a);omega
 unfold jY;rw [e1,e2,e3,e4,e5]
theorem Vu (x:TS):jY (x.to 3)=if x.l=[] then x.to 6 else x.to 3:=by
 by_cases hl:x.l=[]
 ·rw [if_pos hl];simp [jY,qt,yc,yb,ya,q8,TS.to,hl]
 ·rw [if_neg hl];have:0≠x.l.length:=by have:=List.length_pos_iff.2 hl;omega
  simp [jY,qt,yc,yb,ya,q8,TS.to,this]
theorem open_bd {v s n:Int} (h:qg v s=some n):0<=n/\n<=96:=by
 unfold qg qo at h;split at h
 ·rename_i st m hm;split at hm
  ·rename_i h96;simp only [Option.some.injEq,Prod.mk.injEq] at hm;obtain ⟨-,-,rfl⟩:=hm;split at h
   ·cases h;omega
   ·cases h
  ·cases hm
 ·cases h
theorem Q4 {t p z:Int} {x:TS} (h:yJ t p x) (hp:x.ph≠19) (v:Int):yJ t p (jy t p z v x)/\mu t p (jy t p z v x) < mu t p x:=by
 have hph:=h.ph;have hpg:=h.page;have hn0:=h.n0;have hn:=h.n;have hl:=h.l;have hwr:=h.wr;have h0:=h.h0;have h1:=h.h1;have hk:=h.hk;have h2:=h.h2;have h3:=h.h3;have how:=h.own;have h10:=h.h10;have h11:=h.h11;have hi:=h.hi;have h17:=h.h17;clear h;obtain ⟨ph,i,s,u,note,n,l,own,page,known,need,wr,made⟩:=x;dsimp only at hph hpg hn0 hn hl hwr h0 h1 hk h2 h3 how h10 h11 hi h17 hp;have hgo:∀y:TS,y.page<=p.toNat->KnI (jk t p).toNat y.known->0<=y.n->y.n<=96->y.l.length<=96->y.wr.length<=96->
  yJ t p (jY (jL t p z y))/\mu t p (jY (jL t p z y))<=swBd t p y (p.toNat - y.page):=by
  intro y a1 a2 a3 a4 a5 a6;obtain ⟨b1,b2,-⟩:=Vc t p z (p.toNat - y.page) y zo a2 a3 a4 a5 a6;rw [show jY (jL t p z y)=jL t p z y from KN b1];exact ⟨b1,b2⟩
 have hid:∀y:TS,yJ t p y->mu t p y < mu t p ⟨ph,i,s,u,note,n,l,own,page,known,need,wr,made⟩->yJ t p (jY y)/\mu t p (jY y) < mu t p ⟨ph,i,s,u,note,n,l,own,page,known,need,wr,made⟩:=by
  intro y a1 a2;rw [KN a1];exact ⟨a1,a2⟩
 unfold jy;have hc:ph=0\/ph=1\/ph=2\/ph=3\/ph=4\/ph=5\/ph=6\/ph=7\/ph=8\/ph=9\/ph=10\/ph=11\/ph=12\/ph=13\/ph=14\/ph=15\/ph=16\/ph=17\/ph=18:=zo;rcases hc with rfl | rfl | rfl | rfl | rfl | rfl | rfl | rfl | rfl | rfl | rfl | rfl | rfl | rfl | rfl | rfl | rfl | rfl | rfl
 ·refine hid _ ?_ ?_
  ·constructor <;> simp_all [kI,TS.to]
  ·simp [kI,TS.to,mu]
 ·have ho:=h0 zo;have hk0:=hk zo;have hl0:=h1 zo;subst ho hk0 hl0;simp only [kI];cases hop:qg v s with
  | none=>
   dsimp only;obtain ⟨b1,b2⟩:=hgo ⟨1,i,s,u,note,n,[],false,page,[],need,wr,made⟩ hpg (KnI.nil _) hn0 hn hl hwr;refine ⟨b1,Nat.lt_of_le_of_lt b2 ?_⟩;dsimp only [swBd,mu];cases p.toNat - page with
   | zero=>simp
   | succ k=>simp [Nat.succ_mul];omega
  | some m=>
   obtain ⟨m0,m1⟩:=open_bd hop;dsimp only;by_cases hm:m=0
   ·subst hm;have e:jY (({ ph:=1,i:=i,s:=s,u:=u,note:=v,n:=0,l:=[],own:=false,page:=page,known:=[],need:=need,wr:=wr,made:=made }:TS).to 2)=({ ph:=1,i:=i,s:=s,u:=u,note:=v,n:=0,l:=[],own:=false,page:=page,known:=[],need:=need,wr:=wr,made:=made }:TS).to 6:=by
     simp [jY,qt,yc,yb,ya,q8,TS.to]
    rw [e];refine ⟨?_,?_⟩
    ·constructor <;> simp_all [TS.to]
    ·simp [TS.to,mu,kX]
   ·refine hid _ ?_ ?_
    ·constructor <;> (simp_all [TS.to] <;> omega)
    ·simp [TS.to,mu] <;> omega
 ·-- 2: an entry is copied
  have ho:=h0 zo;obtain ⟨hil,hin⟩:=h2 rfl;subst ho;simp only [kI];by_cases hm:((i:Int)+1)=n
  ·have e:jY ({ ph:=2,i:=i+1,s:=s,u:=u,note:=note,n:=n,l:=l++[(qj v).getD (0,0)],own:=false,page:=page,known:=known,need:=need,wr:=wr,made:=made }:TS)=jY (({ ph:=2,i:=i+1,s:=s,u:=u,note:=note,n:=n,l:=l++[(qj v).getD (0,0)],own:=false,page:=page,known:=known,need:=need,wr:=wr,made:=made }:TS).to 3):=by
    have e1:qt ({ ph:=2,i:=i+1,s:=s,u:=u,note:=note,n:=n,l:=l++[(qj v).getD (0,0)],own:=false,page:=page,known:=known,need:=need,wr:=wr,made:=made }:TS)=({ ph:=2,i:=i+1,s:=s,u:=u,note:=note,n:=n,l:=l++[(qj v).getD (0,0)],own:=false,page:=page,known:=known,need:=need,wr:=wr,made:=made }:TS).to 3:=by
     unfold qt;rw [if_pos];exact ⟨rfl,by dsimp only;omega⟩
    have e2:qt (({ ph:=2,i:=i+1,s:=s,u:=u,note:=note,n:=n,l:=l++[(qj v).getD (0,0)],own:=false,page:=page,known:=known,need:=need,wr:=wr,made:=made }:TS).to 3)=({ ph:=2,i:=i+1,s:=s,u:=u,note:=note,n:=n,l:=l++[(qj v).getD (0,0)],own:=false,page:=page,known:=known,need:=need,wr:=wr,made:=made }:TS).to 3:=by
     unfold qt;rw [if_neg];simp [TS.to]
    unfold jY;rw [e1,e2]
   rw [e,Vu,if_neg zT];refine ⟨?_,?_⟩
   ·constructor <;> (simp_all [TS.to] <;> omega)
   ·first | (simp [TS.to,mu,kX];omega) | (cases own <;> simp [TS.to,mu,kX] <;> omega) | (simp only [TS.to,mu,kX] <;> omega)
  ·refine hid _ ?_ ?_
   ·constructor <;> (simp_all [TS.to] <;> omega)
   ·simp [mu] <;> omega
 ·-- 3: a cell is loaded
  have hil:=h3 zT;simp only [kI];by_cases hs:hiW v < hiW note
  ·rw [if_pos hs];refine hid _ ?_ ?_
   ·constructor <;> simp_all [TS.to]
   ·first | (simp [TS.to,mu,kX];omega) | (cases own <;> simp [TS.to,mu,kX] <;> omega) | (simp only [TS.to,mu,kX] <;> omega)
  ·rw [if_neg hs];by_cases hm:i+1=l.length
   ·have e:jY ({ ph:=3,i:=i+1,s:=s,u:=u,note:=note,n:=n,l:=l,own:=own,page:=page,known:=known,need:=need,wr:=wr,made:=made }:TS)=({ ph:=3,i:=i+1,s:=s,u:=u,note:=note,n:=n,l:=l,own:=own,page:=page,known:=known,need:=need,wr:=wr,made:=made }:TS).to 5:=by
     have hz:¬0=l.length:=zo;simp [jY,qt,yc,yb,ya,q8,TS.to,hm,hz]
    rw [e];refine ⟨?_,?_⟩
    ·constructor <;> (simp_all [TS.to] <;> omega)
    ·first | (simp [TS.to,mu,kX];omega) | (cases own <;> simp [TS.to,mu,kX] <;> omega) | (simp only [TS.to,mu,kX] <;> omega)
   ·refine hid _ ?_ ?_
    ·constructor <;> (simp_all [TS.to] <;> omega)
    ·first | (simp [TS.to,mu,kX];omega) | (cases own <;> simp [TS.to,mu,kX] <;> omega) | (simp only [TS.to,mu,kX] <;> omega)
 ·-- 4: a cell is stored
  have hil:=h3 zT;simp only [kI];by_cases hm:i+1=l.length
  ·have e:jY ({ ph:=3,i:=i+1,s:=s,u:=u,note:=note,n:=n,l:=l,own:=own,page:=page,known:=known,need:=need,wr:=wr,made:=made }:TS)=({ ph:=3,i:=i+1,s:=s,u:=u,note:=note,n:=n,l:=l,own:=own,page:=page,known:=known,need:=need,wr:=wr,made:=made }:TS).to 5:=by
    have hz:¬0=l.length:=zo;simp [jY,qt,yc,yb,ya,q8,TS.to,hm,hz]
   rw [e];refine ⟨?_,?_⟩
   ·constructor <;> (simp_all [TS.to] <;> omega)
   ·first | (simp [TS.to,mu,kX];omega) | (cases own <;> simp [TS.to,mu,kX] <;> omega) | (simp only [TS.to,mu,kX] <;> omega)
  ·refine hid _ ?_ ?_
   ·constructor <;> (simp_all [TS.to] <;> omega)
   ·first | (simp [TS.to,mu,kX];omega) | (cases own <;> simp [TS.to,mu,kX] <;> omega) | (simp only [TS.to,mu,kX] <;> omega)
 ·-- 5: a cell is flushed
  have hil:=h3 zT;simp only [kI];by_cases hm:i+1=l.length
  ·have e:jY ({ ph:=5,i:=i+1,s:=s,u:=u,note:=note,n:=n,l:=l,own:=own,page:=page,known:=known,need:=need,wr:=wr,made:=made }:TS)=({ ph:=5,i:=i+1,s:=s,u:=u,note:=note,n:=n,l:=l,own:=own,page:=page,known:=known,need:=need,wr:=wr,made:=made }:TS).to 6:=by
    simp [jY,qt,yc,yb,ya,q8,TS.to,hm]
   rw [e];refine ⟨?_,?_⟩
   ·constructor <;> simp_all [TS.to]
   ·first | (simp [TS.to,mu,kX];omega) | (cases own <;> simp [TS.to,mu,kX] <;> omega) | (simp only [TS.to,mu,kX] <;> omega)
  ·refine hid _ ?_ ?_
   ·constructor <;> (simp_all [TS.to] <;> omega)
   ·first | (simp [TS.to,mu,kX];omega) | (cases own <;> simp [TS.to,mu,kX] <;> omega) | (simp only [TS.to,mu,kX] <;> omega)
 ·refine hid _ ?_ ?_
  ·constructor <;> simp_all [kI,TS.to]
  ·simp [kI,TS.to,mu,kX]
 ·refine hid _ ?_ ?_
  ·constructor <;> simp_all [kI,TS.to]
  ·simp [kI,TS.to,mu,kX]
 ·refine hid _ ?_ ?_
  ·constructor <;> simp_all [kI,TS.to]
  ·simp [kI,TS.to,mu,kX]
 ·-- 9: a change is done
  simp only [kI];cases own with
  | true=>
   have hlt:=how zo zo rfl;obtain ⟨b1,b2⟩:=hgo ({ ph:=9,i:=i,s:=s,u:=u,note:=note,n:=n,l:=l,own:=true,page:=page+1,known:=[],need:=need,wr:=wr,made:=made }:TS) (by dsimp only;omega) (KnI.nil _) hn0 hn hl hwr;refine ⟨b1,Nat.lt_of_le_of_lt b2 ?_⟩;have e:p.toNat - (page+1)=p.toNat - page - 1:=zo;simp only [swBd,mu,kX,e,if_true];cases p.toNat - page - 1 with
   | zero=>simp
   | succ k=>simp [Nat.succ_mul];omega
  | false=>
   obtain ⟨b1,b2⟩:=hgo ({ ph:=9,i:=i,s:=s,u:=u,note:=note,n:=n,l:=l,own:=false,page:=page,known:=[],need:=need,wr:=wr,made:=made }:TS) (by dsimp only;omega) (KnI.nil _) hn0 hn hl hwr;refine ⟨b1,Nat.lt_of_le_of_lt b2 ?_⟩;simp only [swBd,mu,kX];cases p.toNat - page with
   | zero=>simp
   | succ k=>simp [Nat.succ_mul];omega
 ·-- 10: a cell is known
  obtain ⟨hlt,hK⟩:=h10 rfl;simp only [kI];have hle:=hK.le;obtain ⟨b1,b2⟩:=hgo ({ ph:=10,i:=i,s:=s,u:=u,note:=note,n:=n,l:=l,own:=own,page:=page,known:=known++[(need,loW v)],need:=need,wr:=wr,made:=made }:TS) (by dsimp only;omega) (hK.val _) hn0 hn hl hwr;refine ⟨b1,Nat.lt_of_le_of_lt b2 ?_⟩;obtain ⟨k,hk2⟩:∃k,p.toNat - page=k+1:=⟨p.toNat - page - 1,zo⟩
  simp at hle;simp only [swBd,mu,hk2];simp;omega
 ·-- 11: a log's entry is stored
  have hil:=hi zT;have hlt:=h11 zo zo;simp only [kI];by_cases hm:i+1=wr.length
  ·have e:jY ({ ph:=11,i:=i+1,s:=s,u:=u,note:=note,n:=n,l:=l,own:=own,page:=page,known:=known,need:=need,wr:=wr,made:=made }:TS)=({ ph:=11,i:=i+1,s:=s,u:=u,note:=note,n:=n,l:=l,own:=own,page:=page,known:=known,need:=need,wr:=wr,made:=made }:TS).to 12:=by
    have hz:¬wr.length<=0:=zo;have hz2:wr≠[]:=fun e=>by simp [e] at hz
    simp [jY,qt,yc,yb,ya,q8,TS.to,hm,hz2]
   rw [e];refine ⟨?_,?_⟩
   ·constructor <;> (simp_all [TS.to] <;> omega)
   ·simp [TS.to,mu] <;> omega
  ·refine hid _ ?_ ?_
   ·constructor <;> (simp_all [TS.to] <;> omega)
   ·simp [mu] <;> omega
 ·-- 12: a log's line is flushed
  have hil:=hi zT;have hlt:=h11 zo zo;simp only [kI];by_cases hm:wr.length<=i+8
  ·have e:jY ({ ph:=12,i:=i+8,s:=s,u:=u,note:=note,n:=n,l:=l,own:=own,page:=page,known:=known,need:=need,wr:=wr,made:=made }:TS)=({ ph:=12,i:=i+8,s:=s,u:=u,note:=note,n:=n,l:=l,own:=own,page:=page,known:=known,need:=need,wr:=wr,made:=made }:TS).to 13:=by
    simp [jY,qt,yc,yb,ya,q8,TS.to,hm]
   rw [e];refine ⟨?_,?_⟩
   ·constructor <;> simp_all [TS.to]
   ·simp [TS.to,mu] <;> omega
  ·refine hid _ ?_ ?_
   ·constructor <;> (simp_all [TS.to] <;> omega)
   ·simp [mu] <;> omega
 ·refine hid _ ?_ ?_
  ·constructor <;> simp_all [kI,TS.to]
  ·simp [kI,TS.to,mu] <;> omega
 ·refine hid _ ?_ ?_
  ·constructor <;> simp_all [kI,TS.to]
  ·simp [kI,TS.to,mu] <;> omega
 ·refine hid _ ?_ ?_
  ·constructor <;> simp_all [kI,TS.to]
  ·simp [kI,TS.to,mu] <;> omega
 ·refine hid _ ?_ ?_
  ·constructor <;> simp_all [kI,TS.to]
  ·simp [kI,TS.to,mu] <;> omega
 ·refine hid _ ?_ ?_
  ·constructor <;> simp_all [kI,TS.to]
  ·simp [kI,TS.to,mu] <;> omega
 ·-- 18: the change is kept
  have hlt:=h11 zo zo;obtain ⟨e1,e2⟩:=h17 zT;subst e1 e2;simp only [kI];rw [Vu];split
  ·rename_i hl0;refine ⟨?_,?_⟩
   ·constructor <;> simp_all [TS.to]
   ·dsimp only at hl0;simp [TS.to,mu,kX,hl0]
  ·rename_i hl0;have hpos:=List.length_pos_iff.2 hl0;refine ⟨?_,?_⟩
   ·constructor <;> simp_all [TS.to]
   ·first | (simp [TS.to,mu,kX];omega) | (cases own <;> simp [TS.to,mu,kX] <;> omega) | (simp only [TS.to,mu,kX] <;> omega)

def qX (t p u:Int):Int:=if 0<=u/\u<=t then jo t p u else -1
def YP (t p u i:Int):Int:=if 0<=u/\u<=t/\0<=i/\i < 96 then jJ t p u i else -1
def Je (t p c:Int):Int:=if 0<=c/\c < jk t p then 16+c else -1
def Jv (w:Int):Int:=match qo w with
 | some (st,_,n)=>j9 st n false
 | none=>0
def jp (t p:Int) (x:TS):Option (Int×Int×Int):=match x.ph with
 | 0=>some (1,8,0)
 | 1=>some (1,qX t p x.u,0)
 | 2=>some (1,YP t p x.u x.i,0)
 | 3=>some (1,Je t p (x.l.getD x.i (0,0)).1,0)
 | 4=>some (2,Je t p (x.l.getD x.i (0,0)).1,jH (hiW x.note) (x.l.getD x.i (0,0)).2)
 | 5=>some (4,Je t p (x.l.getD x.i (0,0)).1,0)
 | 6=>some (5,0,0)
 | 7=>some (2,qX t p x.u,Jv x.note)
 | 8=>some (4,qX t p x.u,0)
 | 9=>some (5,0,0)
 | 10=>some (1,Je t p x.need,0)
 | 11=>some (2,YP t p t x.i,jH (x.wr.getD x.i (0,0)).1 (x.wr.getD x.i (0,0)).2)
 | 12=>some (4,YP t p t x.i,0)
 | 13=>some (2,qX t p t,x.openN)
 | 14=>some (4,qX t p t,0)
 | 15=>some (5,0,0)
 | 16=>some (2,8,jH (x.s+1) t)
 | 17=>some (4,8,0)
 | 18=>some (5,0,0)
 | _=>none
theorem Jp {t p:Int} {x:TS} (h:yJ t p x):jp t p x=none↔x.ph=19:=by
 have hph:=h.ph;have hc:x.ph=0\/x.ph=1\/x.ph=2\/x.ph=3\/x.ph=4\/x.ph=5\/x.ph=6\/x.ph=7\/x.ph=8\/x.ph=9\/x.ph=10\/x.ph=11\/x.ph=12\/x.ph=13\/x.ph=14\/x.ph=15\/x.ph=16\/x.ph=17\/x.ph=18\/x.ph=19:=zo;unfold jp;rcases hc with e | e | e | e | e | e | e | e | e | e | e | e | e | e | e | e | e | e | e | e <;> rw [e] <;> simp
theorem YL (t p:Int):yJ t p TS.begin:=by
 constructor <;> simp [TS.begin]
theorem begin_mu (t p:Int):mu t p TS.begin=400+p.toNat*(410+(jk t p).toNat):=by simp [mu,TS.begin]
end Go.Proofs.YtcnininelndjoaaGreat
namespace Go.Proofs.YtcnininelndjoaaGreat
open Go.Proofs.Tryz

namespace NM
theorem Yv (W:List Int) (l:Nat) (m:Int) (j:Nat):∀(n:Nat) (K:List Int),j < K.length->(keepI W l m n K).getD j 0=if∃i,i < n/\j=8*l+i/\bitB m i=true then W.getD j 0 else K.getD j 0
 | 0,K,_=>by
  rw [if_neg (by rintro ⟨i,hi,-⟩;omega)];rfl
 | n+1,K,hj=>by
  have ih:=Yv W l m j n K hj;unfold keepI;by_cases hb:bitB m n=true
  ·rw [if_pos hb];by_cases he:j=8*l+n
   ·rw [if_pos ⟨n,zo,he,hb⟩,<-he];have hl:j < (keepI W l m n K).length:=by rw [keepI_len];exact hj
    simp [List.getD_eq_getElem?_getD,hl]
   ·have e1:((keepI W l m n K).set (8*l+n) (W.getD (8*l+n) 0)).getD j 0=(keepI W l m n K).getD j 0:=by
     simp only [List.getD_eq_getElem?_getD,List.getElem?_set,if_neg (Ne.symm he)]
    rw [e1,ih];by_cases hx:∃i,i < n/\j=8*l+i/\bitB m i=true
    ·obtain ⟨i,h1,h2,h3⟩:=hx;rw [if_pos ⟨i,h1,h2,h3⟩,if_pos ⟨i,zo,h2,h3⟩]
    ·rw [if_neg hx,if_neg];rintro ⟨i,h1,h2,h3⟩;by_cases hin:i=n
     ·subst hin;exact he h2
     ·exact hx ⟨i,zo,h2,h3⟩
  ·rw [if_neg hb,ih];by_cases hx:∃i,i < n/\j=8*l+i/\bitB m i=true
   ·obtain ⟨i,h1,h2,h3⟩:=hx;rw [if_pos ⟨i,h1,h2,h3⟩,if_pos ⟨i,zo,h2,h3⟩]
   ·rw [if_neg hx,if_neg];rintro ⟨i,h1,h2,h3⟩;by_cases hin:i=n
    ·subst hin;exact hb h3
    ·exact hx ⟨i,zo,h2,h3⟩
theorem bit255 {i:Nat} (h:i < 8):bitB 255 i=true:=by
 have:i=0\/i=1\/i=2\/i=3\/i=4\/i=5\/i=6\/i=7:=zo;rcases this with rfl | rfl | rfl | rfl | rfl | rfl | rfl | rfl <;> decide
theorem step_K (who:Int) (s:NM) (l j:Nat) (hj:j < s.K.length):(step who s l).K.getD j 0=if j / 8=l then s.W.getD j 0 else s.K.getD j 0:=by
 unfold step;dsimp only;rw [Yv _ _ _ _ _ _ hj];by_cases h:j / 8=l
 ·rw [if_pos h,if_pos ⟨j % 8,zo,zo,bit255 zo⟩]
 ·rw [if_neg h,if_neg];rintro ⟨i,h1,h2,-⟩;omega
theorem steps_K (who:Int) (j:Nat):∀(l:List Nat) (s:NM),j < s.K.length->(l.foldl (step who) s).K.getD j 0=if j / 8∈l then s.W.getD j 0 else s.K.getD j 0
 | [],s,_=>by simp
 | a :: l,s,hj=>by
  have hl:j < (step who s a).K.length:=by
   show j < (keepI _ _ _ _ _).length;rw [keepI_len];exact hj
  rw [List.foldl_cons,steps_K who j l (step who s a) hl,step_K who s a j hj];by_cases h1:j / 8∈l
  ·rw [if_pos h1,if_pos (List.mem_cons_of_mem _ h1)];rfl
  ·rw [if_neg h1];by_cases h2:j / 8=a
   ·rw [if_pos h2,if_pos (by rw [h2];exact List.mem_cons_self)]
   ·rw [if_neg h2,if_neg (by simp;exact ⟨h2,h1⟩)]
end NM
namespace NM

structure Mix (A W K:List Int):Prop where
 wl:W.length=A.length
 kl:K.length=A.length
 or:∀k,k < A.length->K.getD k 0=A.getD k 0\/K.getD k 0=W.getD k 0
theorem Mix.refl (A:List Int):Mix A A A:=⟨rfl,rfl,fun _ _=> .inl rfl⟩
theorem getD_set_self {l:List Int} {k:Nat} (h:k < l.length) (v:Int):(l.set k v).getD k 0=v:=by simp [List.getD_eq_getElem?_getD,h]
theorem getD_set_ne {l:List Int} {k j:Nat} (h:k≠j) (v:Int):(l.set k v).getD j 0=l.getD j 0:=by simp [List.getD_eq_getElem?_getD,List.getElem?_set_ne h]
theorem Mix.store {A W K:List Int} (h:Mix A W K) {k:Nat} {v:Int} (hk:W.getD k 0=A.getD k 0\/W.getD k 0=v):Mix A (W.set k v) K:=by
 refine ⟨by simpa using h.wl,h.kl,fun j hj=> ?_⟩;by_cases e:k=j
 ·subst e;rw [getD_set_self (by rw [h.wl];exact hj)];rcases h.or k hj with h1 | h1
  ·exact .inl h1
  ·rcases hk with h2 | h2
   ·exact .inl (h1.trans h2)
   ·exact .inr (h1.trans h2)
 ·rw [getD_set_ne e];exact h.or j hj
theorem Mix.keep {A W K:List Int} (h:Mix A W K) (l:Nat) (m:Int) (n:Nat):Mix A W (keepI W l m n K):=by
 refine ⟨h.wl,by rw [keepI_len];exact h.kl,fun j hj=> ?_⟩;rw [Yv W l m j n K (by rw [h.kl];exact hj)];split
 ·exact .inr rfl
 ·exact h.or j hj
theorem Mix.steps {A:List Int} (who:Int):∀(l:List Nat) (s:NM),Mix A s.W s.K->Mix A s.W (l.foldl (NM.step who) s).K
 | [],_,h=>h
 | a :: l,s,h=>Mix.steps who l (NM.step who s a) (h.keep a 255 8)
theorem Mix.fence {A:List Int} {s:NM} (h:Mix A s.W s.K) (who:Int):Mix A (s.fence who).2.W (s.fence who).2.K:=by
 rw [fence_W];exact Mix.steps who _ s h
theorem Mix.base {A A' W K:List Int} (h:Mix A W K) (hl:A'.length=A.length) (ha:∀k,k < A.length->(A'.getD k 0=A.getD k 0)\/(A'.getD k 0=W.getD k 0/\K.getD k 0=W.getD k 0)):Mix A' W K:=by
 refine ⟨by rw [hl];exact h.wl,by rw [hl];exact h.kl,fun j hj=> ?_⟩;rw [hl] at hj;rcases ha j hj with e | ⟨-,e⟩
 ·rw [e];exact h.or j hj
 ·exact .inr e
end NM
end Go.Proofs.YtcnininelndjoaaGreat
namespace Go.Proofs.YtcnininelndjoaaGreat
open Go.Proofs.Tryz
open Go.RowKit

structure kQ (t p z:Int) (B:List Int) (s u:Int) (o:Option (List (Int×Int))) (C:List Int):Prop where
 u64:∀w∈B,U64 w
 last:qS t p B=some (s,u,o)
 sett:kw t p z B=some C
theorem K5 {B:List Int} (h:∀w∈B,U64 w) (k:Nat):U64 (B.getD k 0):=NM.getD_u h k
theorem QF {N:Int}:∀{ws:List Int} {l:List (Int×Int)},kh N ws=some l->∀i,i < ws.length->∃e,l[i]? =some e/\qj (ws.getD i 0)=some e
 | [],_,_,i,hi=>by simp at hi
 | w :: ws,l,h,i,hi=>by
  unfold kh at h;cases he:qj w with
  | none=>rw [he] at h;cases h
  | some e=>
   rw [he] at h;dsimp only at h;split at h
   ·obtain ⟨r,hr,rfl⟩:=Option.map_eq_some_iff.1 h;cases i with
    | zero=>exact ⟨e,rfl,he⟩
    | succ i=>
     obtain ⟨e',h1,h2⟩:=QF hr i (by simpa using hi);exact ⟨e',by simpa using h1,by simpa using h2⟩
   ·cases h
theorem jcX {w s k:Int} (h:qg w s=some k):qo w=some (s,true,k):=by
 unfold qg at h;split at h
 ·rename_i st n hn;split at h
  ·rename_i he;cases h;rw [hn,he]
  ·cases h
 ·cases h
section
variable {t p z s u:Int} {B C:List Int} {o:Option (List (Int×Int))} {l:List (Int×Int)}
theorem kV (hr:jq t p z=true) (h0:0<=u) (h1:u<=t):16+(jk t p).toNat<=(jo t p u).toNat/\(jo t p u).toNat+8=(jJ t p u 0).toNat/\((jJ t p u 0).toNat+96:Int)<=qa t p/\(jo t p u).toNat % 8=0/\8 < 16+(jk t p).toNat/\(u < t->(jJ t p u 0).toNat+96<=(jo t p t).toNat)/\((jo t p u).toNat:Int)=jo t p u/\(∀i:Nat,jJ t p u i=(((jJ t p u 0).toNat+i:Nat):Int)):=by
 have hm:=jI hr;have hb:=jn hr;have h8:jG t p % 8=0:=by unfold jG;omega
 unfold jo jJ;generalize jG t p=M at*
 generalize jk t p=N at*
 refine ⟨zo,zo,zo,zo,zo,fun _=>by omega,zo,fun i=>by omega⟩
theorem kQ.right (h:kQ t p z B s u o C):jq t p z=true/\(B.length:Int)=qa t p:=by
 have:=h.sett;unfold kw at this;split at this
 ·rename_i hr;unfold KQ at hr;simpa using hr
 ·cases this
theorem kQ.vals (h:kQ t p z B s u o C):C=qY (jk t p).toNat (yn s o B):=by
 have:=h.sett;unfold kw at this;split at this
 ·rw [h.last] at this;simp only [Option.map_some,Option.some.injEq] at this;exact this.symm
 ·cases this
theorem kQ.mk' (hu:∀w∈B,U64 w) (hr:jq t p z=true) (hl:(B.length:Int)=qa t p) (h:qS t p B=some (s,u,o)):kQ t p z B s u o (qY (jk t p).toNat (yn s o B)):=
 ⟨hu,h,by
  unfold kw KQ;rw [if_pos (by simp [hr,hl]),h];rfl⟩
theorem kQ.tip (h:kQ t p z B s u o C):KC (B.getD 8 0)=some (s,u)/\(0<=u/\u<=t)/\(0<=s/\s < 4294967296)/\kW B s (jk t p).toNat=true:=by
 have hl:=h.last;have h8:=K5 h.u64 8;have hb:=Qt h8;have hlo:=KZ (B.getD 8 0);unfold qS at hl;have key:∀s' u':Int,KC (B.getD 8 0)=some (s',u')->s'=hiW (B.getD 8 0)/\u'=loW (B.getD 8 0):=by
  intro s' u' e;unfold KC at e;split at e
  ·simp only [Option.some.injEq,Prod.mk.injEq] at e;exact ⟨e.1.symm,e.2.symm⟩
  ·cases e
 split at hl
 ·rename_i s' u' ht;obtain ⟨e1,e2⟩:=key s' u' ht;split at hl
  ·rename_i hut;split at hl
   ·rename_i hst;split at hl
    ·obtain ⟨y,hy,he⟩:=Option.map_eq_some_iff.1 hl;simp only [Prod.mk.injEq] at he;obtain ⟨rfl,rfl,-⟩:=he;exact ⟨ht,⟨zo,hut⟩,⟨zo,zo⟩,hst⟩
    ·simp only [Option.some.injEq,Prod.mk.injEq] at hl;obtain ⟨rfl,rfl,-⟩:=hl;exact ⟨ht,⟨zo,hut⟩,⟨zo,zo⟩,hst⟩
   ·cases hl
  ·cases hl
 ·cases hl
theorem kQ.shut (h:kQ t p z B s u none C):qg (B.getD (jo t p u).toNat 0) s=none:=by
 obtain ⟨ht,hu,-,hst⟩:=h.tip;have hl:=h.last;unfold qS at hl;rw [ht] at hl;dsimp only at hl;rw [if_pos hu.2,if_pos hst] at hl;split at hl
 ·obtain ⟨y,hy,he⟩:=Option.map_eq_some_iff.1 hl;simp at he
 ·assumption
theorem kQ.open_ (h:kQ t p z B s u (some l) C):∃k,qg (B.getD (jo t p u).toNat 0) s=some k/\qo (B.getD (jo t p u).toNat 0)=some (s,true,k)/\kh (jk t p) ((B.drop (jJ t p u 0).toNat).take k.toNat)=some l/\(l.length:Int)=k/\k<=96/\
 ∀x∈l,0<=x.1/\x.1 < jk t p/\0<=x.2/\x.2 < 4294967296:=by
 obtain ⟨ht,hu,hs0,hst⟩:=h.tip;obtain ⟨hr,hlen⟩:=h.right;have hlay:=kV hr hu.1 hu.2;have hl:=h.last;unfold qS at hl;rw [ht] at hl;dsimp only at hl;rw [if_pos hu.2,if_pos hst] at hl;split at hl
 ·rename_i k hk;have hn:=jcX hk;obtain ⟨y,hy,he⟩:=Option.map_eq_some_iff.1 hl;simp only [Prod.mk.injEq,Option.some.injEq,true_and] at he;unfold VV at hy;rw [hn] at hy;dsimp only at hy;obtain ⟨r,hr2,rfl⟩:=Option.map_eq_some_iff.1 hy;dsimp only at he;subst he;have hf:=note_few hn;have hbd:=JC (fun w hw=>h.u64 w (List.mem_of_mem_drop (List.mem_of_mem_take hw))) hr2;refine ⟨k,hk,hn,hr2,?_,hf.2,hbd.2⟩;rw [hbd.1,List.length_take,List.length_drop];omega
 ·simp at hl
theorem kQ.entry (h:kQ t p z B s u (some l) C) {i:Nat} (hi:i < l.length):qj (B.getD ((jJ t p u 0).toNat+i) 0)=some (l[i]'hi):=by
 obtain ⟨k,hk,hn,he,hl,hk2,-⟩:=h.open_;have hlt:i < ((B.drop (jJ t p u 0).toNat).take k.toNat).length:=by
  obtain ⟨hr,hlen⟩:=h.right;obtain ⟨-,hu,-,-⟩:=h.tip;have hlay:=kV hr hu.1 hu.2;rw [List.length_take,List.length_drop];omega
 obtain ⟨e,h1,h2⟩:=QF he i hlt;rw [List.getElem?_eq_getElem hi] at h1;cases h1;rw [<-h2];simp only [List.getD_eq_getElem?_getD,List.getElem?_take,List.getElem?_drop];rw [if_pos (by rw [List.length_take,List.length_drop] at hlt;omega)]
end
theorem K9 {m:NM} {who:Int} (hi:m.Inv) (h:∀k,k < m.W.length->m.K.getD k 0=m.W.getD k 0\/(who,((k / 8:Nat):Int))∈m.P):(m.fence who).2.K=m.W/\(m.fence who).2.W=m.W:=by
 refine ⟨?_,NM.fence_W m who⟩;show ((m.pend who).foldl (NM.step who) m).K=m.W;have hlen:((m.pend who).foldl (NM.step who) m).K.length=m.W.length:=by
  have:=(NM.Inv.steps who (m.pend who) m hi).kl;rw [this,NM.steps_W]
 apply List.ext_getElem?;intro k;by_cases hk:k < m.W.length
 ·have hkK:k < m.K.length:=by rw [hi.kl];exact hk
  have e:=NM.steps_K who k (m.pend who) m hkK;have hfin:((m.pend who).foldl (NM.step who) m).K.getD k 0=m.W.getD k 0:=by
   rw [e];split
   ·rfl
   ·rename_i hno;rcases h k hk with h1 | h1
    ·exact h1
    ·refine absurd ?_ hno;unfold NM.pend;rw [List.mem_filter,List.mem_range];have:=hi.oct;exact ⟨zo,by simpa using h1⟩
  simp only [List.getD_eq_getElem?_getD,List.getElem?_eq_getElem hk,List.getElem?_eq_getElem (show k < ((m.pend who).foldl (NM.step who) m).K.length by omega),Option.getD_some] at hfin;rw [List.getElem?_eq_getElem hk,List.getElem?_eq_getElem zo,hfin]
 ·rw [List.getElem?_eq_none zo,List.getElem?_eq_none zo]
theorem J0 {m:NM} {who a:Int} (h:m.th a=true) (hw:NM.som who=true):∀q,q∈(m.flush who a).2.P↔q∈m.P\/q=(who,a / 8):=by
 intro q;unfold NM.flush;rw [if_pos ⟨h,hw⟩];exact NM.mem_addP
theorem K7 (m:NM) (who a:Int):(m.flush who a).2.W=m.W/\(m.flush who a).2.K=m.K:=by
 unfold NM.flush;split <;> exact ⟨rfl,rfl⟩
theorem KL {m:NM} {a v:Int} (h:m.th a=true):(m.store a v).2.W=m.W.set a.toNat v/\(m.store a v).2.K=m.K/\(m.store a v).2.P=m.P:=by
 unfold NM.store;rw [if_pos h];exact ⟨rfl,rfl,rfl⟩
def Xb (b:Nat) (ws:List Int) (A:List Int):Nat->List Int
 | 0=>A
 | j+1=>(Xb b ws A j).set (b+j) (ws.getD j 0)
theorem V0 (b:Nat) (ws A:List Int):∀j,(Xb b ws A j).length=A.length
 | 0=>rfl
 | j+1=>by unfold Xb;rw [List.length_set,V0 b ws A j]
theorem QV (b:Nat) (ws A:List Int) {k:Nat} (hk:k < A.length):∀j,(Xb b ws A j).getD k 0=if b<=k/\k < b+j then ws.getD (k - b) 0 else A.getD k 0
 | 0=>by rw [if_neg zo];rfl
 | j+1=>by
  unfold Xb;by_cases e:b+j=k
  ·rw [e,NM.getD_set_self (by rw [V0];exact hk),if_pos zo,show k - b=j by omega]
  ·rw [NM.getD_set_ne e,QV b ws A hk j];by_cases h:b<=k/\k < b+j
   ·rw [if_pos h,if_pos zo]
   ·rw [if_neg h,if_neg zo]
theorem yM (s:Int):∀(l:List (Int×Int)) (A:List Int) (i:Nat) (y:Int×Int),l[i]? =some y->jV s (l.take (i+1)) A=if hiW ((jV s (l.take i) A).getD (16+y.1).toNat 0) < s then (jV s (l.take i) A).set (16+y.1).toNat (jH s y.2) else jV s (l.take i) A
 | [],_,i,y,h=>by simp at h
 | x :: l,A,0,y,h=>by
  simp at h;subst h;simp [jV]
 | x :: l,A,i+1,y,h=>by
  have:=yM s l (if hiW (A.getD (16+x.1).toNat 0) < s then A.set (16+x.1).toNat (jH s x.2) else A) i y (by simpa using h);simpa [jV] using this

def KnC (C:List Int) (kn:List (Int×Int)):Prop:=∀y∈kn,∃i:Nat,y.1=(i:Int)/\C[i]? =some y.2
def wrP (t p z:Int) (q:Nat) (C:List Int):List (Int×Int):=(jP t p z q (qs C)).2.writes.map fun x=>((x.1:Int),x.2)
section
variable {t p z:Int} {C vs:List Int} {kn:List (Int×Int)} {q K P:Nat}
theorem KnC.nil (C:List Int):KnC C []:=fun y hy=>by cases hy
theorem KnC.snoc (h:KnC C kn) {i:Nat} {v:Int} (hv:C[i]? =some v):KnC C (kn++[((i:Int),v)]):=by
 intro y hy;rcases List.mem_append.1 hy with hy | hy
 ·exact h y hy
 ·simp at hy;subst hy;exact ⟨i,rfl,hv⟩
theorem jbF (hn:C.length=(jk t p).toNat) (hk:KnC C kn) (h:¬0<=(thF t p z q kn).1):(thF t p z q kn).2=wrP t p z q C:=by
 have hu:UV (jk t p).toNat (knK kn) (fun i=>C[i]?) (knV (jk t p).toNat kn) (qs C):=⟨rfl,rfl,rfl,hn,rfl,rfl,rfl⟩
 have hsub:∀i v,knK kn i=some v->C[i]? =some v:=by
  intro i v e;unfold knK at e;obtain ⟨x,hx,rfl⟩:=Option.map_eq_some_iff.1 e;have h1:=List.find?_some hx;obtain ⟨j,e1,e2⟩:=hk x (List.mem_of_find?_eq_some hx);simp at h1;have:i=j:=zo;rw [this];exact e2
 have hC:∀i,i < (jk t p).toNat->∃v,C[i]? =some v:=fun i hi=>⟨_,List.getElem?_eq_getElem zo⟩
 unfold thF at h ⊢;rcases hu.sweep hsub hC t p z q with ⟨h1,-⟩ | ⟨i,h1,-⟩
 ·rw [h1.sm];dsimp only;rw [h1.wr];rfl
 ·rw [h1] at h;exact absurd (Int.natCast_nonneg i) h
theorem jdD (l:List (Nat×Int)) (i:Nat):wl l i=(l.find? fun x=>x.1 == i).map (·.2):=by
 induction l with
 | nil=>rfl
 | cons x l ih=>
  rw [Ku];by_cases e:x.1=i
  ·rw [if_pos e,List.find?_cons_of_pos (by simpa using e)];rfl
  ·rw [if_neg e,List.find?_cons_of_neg (by simpa using e),ih]
theorem entK_map (l:List (Nat×Int)) (i:Nat):Qw (l.map fun x=>((x.1:Int),x.2)) (16+i)=wl l i:=by
 rw [jdD];unfold Qw;induction l with
 | nil=>rfl
 | cons x l ih=>
  rw [List.map_cons];by_cases e:x.1=i
  ·rw [List.find?_cons_of_pos (by simp;omega),List.find?_cons_of_pos (by simpa using e)];rfl
  ·rw [List.find?_cons_of_neg (by simp;omega),List.find?_cons_of_neg (by simpa using e)];exact ih
theorem page_at {i:Nat} (hi:i < C.length):(JT t p z q C)[i]? =match Qw (wrP t p z q C) (16+i) with | some v=>some v | none=>C[i]? :=by
 unfold JT wrP;rw [entK_map,wrW_at (QM (VB C) t p z q).2.2.1 hi];all_goals (cases wl (jP t p z q (qs C)).2.writes i <;> rfl)
theorem jeE:(JT t p z q C).length=C.length:=wrW_len _ _
theorem jeD (h:wrP t p z q C=[]):JT t p z q C=C:=by
 unfold wrP at h;rw [List.map_eq_nil_iff] at h;unfold JT;rw [h];rfl
theorem wrP_bd {t z:Int} (h:SH t z P vs C K) (hK:K < P) (hP:P<=1024):∀x∈wrP t P z K C,0<=x.1/\x.1 < jk t P/\0<=x.2/\x.2 < 4294967296:=by
 intro x hx;have hs:=(h.step hP).u32;have hl:=h.len;have hnum:=h.num;have wi:=QM (VB C) t P z K;obtain ⟨y,hy,rfl⟩:=List.mem_map.1 hx;have hy1:=wi.2.2.2 y hy;have hw:wl (jP t P z K (qs C)).2.writes y.1=some y.2:=by
  have hnd:=wi.2.2.1;rw [jdD];generalize (jP t P z K (qs C)).2.writes=l at hy hnd;induction l with
  | nil=>cases hy
  | cons a l ih=>
   simp only [List.map_cons,List.nodup_cons] at hnd;rcases List.mem_cons.1 hy with rfl | hy
   ·rw [List.find?_cons_of_pos zT];rfl
   ·rw [List.find?_cons_of_neg (by
     simp;exact fun e=>hnd.1 (by rw [e];exact List.mem_map_of_mem hy))]
    exact ih hy hnd.2
 have hp:=wrW_at wi.2.2.1 hy1;rw [hw] at hp;dsimp only at hp;have hm:y.2∈JT t P z K C:=List.mem_of_getElem? hp;have:=hs y.2 hm;unfold jk;have h2:VS.U32 y.2:=this;unfold VS.U32 at h2;dsimp only;omega
theorem jeC {s:Int} {B:List Int} (hC:C=qY (jk t p).toNat B) (hn:16+(jk t p).toNat<=B.length) (hs:kW B s (jk t p).toNat=true) (hx:∀x∈wrP t p z q C,0<=x.2/\x.2 < 4294967296) :
 qY (jk t p).toNat (jV (s+1) (wrP t p z q C) B)=JT t p z q C:=by
 have hlen:C.length=(jk t p).toNat:=by rw [hC];exact KE _ _
 rw [jdF hx hn (fun i hi=>by
  unfold kW at hs;rw [List.all_eq_true] at hs;have:=hs i (by simpa using hi);rw [decide_eq_true_eq] at this;omega)]
 apply List.ext_getElem?;intro i;by_cases hi:i < (jk t p).toNat
 ·rw [page_at zo];rw [List.getElem?_map,List.getElem?_range hi];have hCi:C[i]? =some (loW (B.getD (16+i) 0)):=by
   rw [hC];unfold qY;rw [List.getElem?_map,List.getElem?_range hi];rfl
  cases he:Qw (wrP t p z q C) (16+i) with
  | some v=>simp [he]
  | none=>simp [he,hCi]
 ·rw [List.getElem?_eq_none (by simp;omega),List.getElem?_eq_none (by rw [jeE];omega)]
end

def Cj (t p z:Int) (vs:List Int) (x:TS):List Int:=SP t p z vs (if x.own=true then x.page+1 else x.page)
def LnP (m:NM) (t:Int) (k:Nat):Prop:=(t,((k / 8:Nat):Int))∈m.P
def YO (wr:List (Int×Int)):List Int:=wr.map fun y=>jH y.1 y.2
structure Wr (t p z:Int) (vs:List Int) (x:TS):Prop where
 wr:x.wr=wrP t p z x.page (SP t p z vs x.page)
 ne:x.wr≠[]
 pg:x.page < p.toNat
structure Laid (t p:Int) (wr:List (Int×Int)) (note:Int) (B:List Int):Prop where
 log:∀k,k < wr.length->B.getD ((jJ t p t 0).toNat+k) 0=(YO wr).getD k 0
 nt:B.getD (jo t p t).toNat 0=note
def ph3 (m:NM) (t:Int) (x:TS) (j:Nat):Prop:=
 (x.ph=3/\j=x.i)\/(x.ph=4/\j=x.i/\∀y:Int×Int,x.l[x.i]? =some y->hiW (m.W.getD (16+y.1).toNat 0) < x.s)\/(x.ph=5/\j=x.l.length/\∀(i:Nat) (y:Int×Int),i < x.i->x.l[i]? =some y->LnP m t (16+y.1).toNat)\/(x.ph=6/\j=x.l.length/\∀(i:Nat) (y:Int×Int),x.l[i]? =some y->LnP m t (16+y.1).toNat)
def ph11 (m:NM) (t p:Int) (x:TS) (A:List Int):Prop:=
 let b:=(jJ t p t 0).toNat
 (x.ph=11/\m.W=Xb b (YO x.wr) A x.i)\/(x.ph=12/\m.W=Xb b (YO x.wr) A x.wr.length/\x.i % 8=0/\∀k,k < x.i->k < x.wr.length->LnP m t (b+k))\/
 (x.ph=13/\m.W=Xb b (YO x.wr) A x.wr.length/\∀k,k < x.wr.length->LnP m t (b+k))\/((x.ph=14\/(x.ph=15/\LnP m t (jo t p t).toNat))/\m.W=(Xb b (YO x.wr) A x.wr.length).set (jo t p t).toNat x.openN/\∀k,k < x.wr.length->LnP m t (b+k))
inductive CI (t p z:Int) (vs:List Int) (x:TS) (m:NM):Prop
 | c0 (s u:Int) (o:Option (List (Int×Int))) (hx:x=TS.begin) (hk:m.K=m.W) (hs:kQ t p z m.W s u o vs)
 | c1 (o:Option (List (Int×Int))) (hp:x.ph=1) (h0:x.own=false/\x.page=0/\x.known=[]/\x.l=[]) (hk:m.K=m.W) (hs:kQ t p z m.W x.s x.u o vs)
 | c2 (L:List (Int×Int)) (hp:x.ph=2) (h0:x.own=false/\x.page=0) (hk:m.K=m.W) (hs:kQ t p z m.W x.s x.u (some L) vs) (hn:x.note=m.W.getD (jo t p x.u).toNat 0) (hN:x.n=L.length) (hl:x.l=L.take x.i) (hi:x.i < L.length)
 | c3 (A:List Int) (j:Nat) (ho:x.own=true->x.page < p.toNat) (hs:kQ t p z A x.s x.u (some x.l) (Cj t p z vs x)) (hn:x.note=A.getD (jo t p x.u).toNat 0) (hW:m.W=jV x.s (x.l.take j) A) (hM:NM.Mix A m.W m.K) (hp:ph3 m t x j)
 | c7 (hp:x.ph=7) (ho:x.own=true->x.page < p.toNat) (hk:m.K=m.W) (hs:kQ t p z m.W x.s x.u (some x.l) (Cj t p z vs x)) (hn:x.note=m.W.getD (jo t p x.u).toNat 0) (ht:jV x.s x.l m.W=m.W)
 | c8 (A:List Int) (ho:x.own=true->x.page < p.toNat) (hs:kQ t p z A x.s x.u (some x.l) (Cj t p z vs x)) (hn:x.note=A.getD (jo t p x.u).toNat 0) (ht:jV x.s x.l A=A) (hW:m.W=A.set (jo t p x.u).toNat (Jv x.note)) (hM:NM.Mix A m.W m.K) (hp:x.ph=8\/(x.ph=9/\LnP m t (jo t p x.u).toNat))
 | c10 (u:Int) (hp:x.ph=10) (hk:m.K=m.W) (hpg:x.page < p.toNat) (hs:kQ t p z m.W x.s u none (SP t p z vs x.page)) (hc:KnC (SP t p z vs x.page) x.known)
 | c11 (A:List Int) (u:Int) (hs:kQ t p z A x.s u none (SP t p z vs x.page)) (hw:Wr t p z vs x) (hM:NM.Mix A m.W m.K) (hp:ph11 m t p x A)
 | c16 (u:Int) (hp:x.ph=16) (hk:m.K=m.W) (hs:kQ t p z m.W x.s u none (SP t p z vs x.page)) (hw:Wr t p z vs x) (hl:Laid t p x.wr x.openN m.W)
 | c17 (A:List Int) (u:Int) (hs:kQ t p z A (x.s - 1) u none (SP t p z vs x.page)) (hw:Wr t p z vs x) (hl:Laid t p x.wr x.note A) (hx:x.note=j9 x.s x.wr.length true/\x.l=x.wr/\x.own=true/\x.u=t) (hs0:x.s < 4294967296) (hW:m.W=A.set 8 (jH x.s t)) (hM:NM.Mix A m.W m.K) (hp:x.ph=17\/(x.ph=18/\LnP m t 8))
 | c19 (u:Int) (hp:x.ph=19) (hk:m.K=m.W) (hpg:x.page=p.toNat) (hs:kQ t p z m.W x.s u none (SP t p z vs p.toNat))
section
variable {t p z s u:Int} {A B C vs:List Int} {l:List (Int×Int)} {x:TS} {m:NM}
theorem Xi (hx:∀x∈l,0<=x.2/\x.2 < 4294967296) (j:Nat) {k:Nat} (hk:k < A.length):(jV s (l.take j) A).getD k 0=A.getD k 0\/(jV s (l.take j) A).getD k 0=(jV s l A).getD k 0:=by
 rw [qZ s _ A k (fun y hy=>hx y (List.mem_of_mem_take hy)) hk,qZ s _ A k hx hk];have hsub:∀v,Qw (l.take j) k=some v->Qw l k=some v:=by
  intro v e;unfold Qw at e ⊢;obtain ⟨y,hy,rfl⟩:=Option.map_eq_some_iff.1 e;conv=>lhs;rw [<-List.take_append_drop j l]
  rw [List.find?_append,hy];rfl
 cases he:Qw (l.take j) k with
 | none=>exact .inl rfl
 | some v=>rw [hsub v he];exact .inr rfl
theorem Kv {k:Nat} (hx:∀x∈l,0<=x.2/\x.2 < 4294967296) (hk:k < A.length) (h:∀y∈l,(16+y.1).toNat≠k):(jV s l A).getD k 0=A.getD k 0:=by
 rw [qZ s l A k hx hk];have:Qw l k=none:=by
  unfold Qw;rw [Option.map_eq_none_iff,List.find?_eq_none];intro y hy;simpa using h y hy
 rw [this]
theorem kQ.cmix (h:kQ t p z A s u (some l) C) (j:Nat) {K:List Int} (hM:NM.Mix A (jV s (l.take j) A) K):CMix t p s l A K:=by
 obtain ⟨k,-,-,-,-,-,hb⟩:=h.open_;have hb2:∀y∈l,0<=y.2/\y.2 < 4294967296:=fun y hy=>(hb y hy).2.2;refine ⟨hM.kl,fun k hk hf=> ?_,fun k hk=> ?_⟩
 ·rcases hM.or k hk with e | e
  ·exact e
  ·rw [e];exact Kv (fun y hy=>hb2 y (List.mem_of_mem_take hy)) hk (fun y hy=>by
    have:=hb y (List.mem_of_mem_take hy);omega)
 ·rcases hM.or k hk with e | e
  ·exact .inl e
  ·rw [e];exact Xi hb2 j hk
theorem kQ.cm {K:List Int} (h:kQ t p z A s u (some l) C) (hc:CMix t p s l A K) (hu:∀w∈K,U64 w):kQ t p z K s u (some l) C:=by
 obtain ⟨k,-,-,-,-,-,hb⟩:=h.open_;obtain ⟨hr,hl⟩:=h.right;obtain ⟨-,h0,-,-⟩:=h.tip;have ly:=kV hr h0.1 h0.2;obtain ⟨h1,h2⟩:=jaV (z:=z) h.last hc (fun y hy=>(hb y hy).2.2) zo zo ly.1 zo zo;exact ⟨hu,h1,h2.trans h.sett⟩
theorem kQ.turning (h:kQ t p z A s u (some l) C) (j:Nat) {K:List Int} (hM:NM.Mix A (jV s (l.take j) A) K) (hu:∀w∈K,U64 w):kQ t p z K s u (some l) C:=h.cm (h.cmix j hM) hu
theorem jaW {A:List Int} {i:Nat} {v:Int}:∀k,k < A.length->k≠i->(A.set i v).getD k 0=A.getD k 0:=fun k _ hk=>NM.getD_set_ne (Ne.symm hk) v
theorem kQ.shutting (h:kQ t p z A s u (some l) C) (ht:jV s l A=A) (hu:∀w∈A.set (jo t p u).toNat (Jv (A.getD (jo t p u).toNat 0)),U64 w):kQ t p z (A.set (jo t p u).toNat (Jv (A.getD (jo t p u).toNat 0))) s u none C:=by
 obtain ⟨k,-,hn,-,hlk,hk,-⟩:=h.open_;obtain ⟨hr,hl⟩:=h.right;obtain ⟨-,h0,hs,-⟩:=h.tip;have ly:=kV hr h0.1 h0.2;have hsh:Jv (A.getD (jo t p u).toNat 0)=jH s k:=by
  unfold Jv;rw [hn];simp [j9]
 obtain ⟨h1,h2⟩:=jaU (z:=z) (B:=A.set (jo t p u).toNat (Jv (A.getD (jo t p u).toNat 0))) h.last ht zT (fun k hk hne=>jaW k hk hne) zo zo ly.1 (by
  rw [NM.getD_set_self zo,hsh];exact (jeH hs zo hk s).2)
 exact ⟨hu,h1,h2.trans h.sett⟩
theorem kQ.logging (h:kQ t p z A s u none C) (hl:B.length=A.length) (hu:∀w∈B,U64 w) (hf:∀k,k < A.length->k < (jo t p t).toNat->B.getD k 0=A.getD k 0) (hn:B.getD (jo t p t).toNat 0=A.getD (jo t p t).toNat 0\/qg (B.getD (jo t p t).toNat 0) s=none):kQ t p z B s u none C:=by
 obtain ⟨hr,hlen⟩:=h.right;obtain ⟨-,h0,-,-⟩:=h.tip;have ly:=kV hr h0.1 h0.2;have lt:=kV (u:=t) hr zo (Int.le_refl _);have ho:qg (B.getD (jo t p u).toNat 0) s=none:=by
  by_cases e:u=t
  ·rw [e];rcases hn with e1 | e1
   ·rw [e1];have hsh:=h.shut;rw [e] at hsh;exact hsh
   ·exact e1
  ·rw [hf _ zo zo];exact h.shut
 obtain ⟨h1,h2⟩:=jct (z:=z) (B:=B) (e:=(jo t p t).toNat) h.last hl hf zo lt.1 zo ho;exact ⟨hu,h1,h2.trans h.sett⟩
theorem jcV {st k s:Int} (h0:0<=st/\st < 4294967296) (h1:0<=k) (h2:k<=96) (hs:st≠s):qg (j9 st k true) s=none:=by
 have:=(Yo h0 h1 h2).1;unfold qg j9;rw [if_pos rfl,this];dsimp only;rw [if_neg hs]
theorem jb2 (wr:List (Int×Int)):(YO wr).length=wr.length:=by simp [YO]
theorem kQ.tipped {wr:List (Int×Int)} {q:Nat} (h:kQ t p z A s u none C) (hs:s+1 < 4294967296) (hwr:wr=wrP t p z q C) (hb:∀x∈wr,0<=x.1/\x.1 < jk t p/\0<=x.2/\x.2 < 4294967296) (h96:wr.length<=96) (hl:Laid t p wr (j9 (s+1) wr.length true) A) (hu:∀w∈A.set 8 (jH (s+1) t),U64 w) :
 kQ t p z (A.set 8 (jH (s+1) t)) (s+1) t (some wr) (JT t p z q C):=by
 obtain ⟨hr,hlen⟩:=h.right;obtain ⟨-,h0,hs0,hst⟩:=h.tip;have hC:=h.vals;have hrb:=jn hr;have hmb:=jI hr;have lt:=kV (u:=t) hr zo (Int.le_refl _);have hno:=Yo (st:=s+1) (k:=wr.length) zo zo zo;have hB:∀k,8 < k->(A.set 8 (jH (s+1) t)).getD k 0=A.getD k 0:=fun k hk=>NM.getD_set_ne zo _;have hnt:(A.set 8 (jH (s+1) t)).getD (jo t p t).toNat 0=jH (s+1) ((wr.length:Int)+2147483648):=by
  rw [hB _ zo,hl.nt];unfold j9;rw [if_pos rfl]
 have hst':kW (A.set 8 (jH (s+1) t)) s (jk t p).toNat=true:=by
  unfold kW at hst ⊢;rw [List.all_eq_true] at hst ⊢;intro i hi;rw [hB _ zo];exact hst i hi
 have hlast:qS t p (A.set 8 (jH (s+1) t))=some (s+1,t,some wr):=by
  refine last_tip (k:=wr.length) ?_ (Int.le_refl _) (jaR hst' zo) ?_ ?_ ?_
  ·rw [NM.getD_set_self zo];exact tip_word zo zo zo
  ·rw [hnt];exact hno.2
  ·rw [hnt];exact hno.1
  ·have e:(((A.set 8 (jH (s+1) t)).drop (jJ t p t 0).toNat).take (wr.length:Int).toNat)=YO wr:=by
    apply List.ext_getElem?;intro i;rw [List.getElem?_take,List.getElem?_drop];by_cases hi:i < wr.length
    ·rw [if_pos zo];have e1:=hl.log i hi;rw [<-hB _ zo] at e1;have l1:(jJ t p t 0).toNat+i < (A.set 8 (jH (s+1) t)).length:=by simp;omega
     have l2:i < (YO wr).length:=by rw [jb2];exact hi
     simp only [List.getD_eq_getElem?_getD,List.getElem?_eq_getElem l1,List.getElem?_eq_getElem l2,Option.getD_some] at e1;rw [List.getElem?_eq_getElem l1,List.getElem?_eq_getElem l2,e1]
    ·rw [if_neg zo,List.getElem?_eq_none (by rw [jb2];omega)]
   rw [e];exact QE wr (fun y hy=>by have:=hb y hy;omega)
 have hm:=kQ.mk' (z:=z) hu hr (by simpa using hlen) hlast;have hv:C=qY (jk t p).toNat (A.set 8 (jH (s+1) t)):=by
  rw [hC];unfold qY yn;apply List.map_congr_left;intro i _;dsimp only;rw [hB _ zo]
 have hpt:=jeC (z:=z) (q:=q) hv (by simp;omega) hst' (fun y hy=>(hb y (by rw [hwr];exact hy)).2.2);unfold yn at hm;dsimp only at hm;rw [<-hwr] at hpt;rw [hpt] at hm;exact hm
end

theorem ky (w:World) (xs:List Value) (T:TypeId) (k:Nat) (hk:k=w.heap.size):∀(j:Nat) (x:Value),xs[j]? =some x->(w.alloc (.cells xs.toArray T)).cell? ((⟨k,0,none⟩:Addr).add j)=some x:=by
 subst hk;intro j x hj;rw [show (⟨w.heap.size,0,none⟩:Addr).add j=⟨w.heap.size,j,none⟩ by by_cases h0:j=0 <;> simp [Addr.add,h0]];exact (jd (heap_alloc_new w _)).trans (by simpa using hj)
theorem jcC {w:World} {B e sz n:Nat} {v:Value} {xs:List Value} (h:w.ownsRow B e sz v n xs):∃a c,v= .slice a n c:=by
 rcases h.2 with ⟨h5,h6⟩ | ⟨g,cap,cur,h5,-⟩
 ·exact ⟨_,_,by rw [h5,h6]⟩
 ·exact ⟨_,_,h5⟩
def yi (t p s:Int) (lv rest:Value) (st md pg:Int):Array Value:=#[.int .i64 t,.int .i64 p,.int .i64 s,lv,rest,.int .u32 st,.int .u32 md,.int .i64 pg]
def kT (d z a v:Int) (told:Value):List Value:=[.int .i64 d,.int .i64 z,.int .i64 a,.int .i64 0,.int .u64 0,.int .u64 v,told]
theorem V1:(prog.info? 99).map (fun i=>(i.zero,i.size,i.bytes))=some (some (.agg #[.int .i64 0,.int .i64 0,.int .i64 0,.int .i64 0,.int .u64 0,.int .u64 0,.nilFunc]),7,56):=by kernel_rfl
theorem qR (b:Nat) (t:Int) (w:World) (h:w.cell? ⟨b,0,none⟩=some (.int .i64 t)):Calls prog 80 #[.pointer (some ⟨b,0,none⟩)] w fun e w'=>e= .returned (.int .i64 t)/\w=w':=by
 go_enter func80,ntmps80;go_wp2;go_ret;exact ⟨rfl,rfl⟩
structure MeB (w:World) (b:Nat) (t p s:Int) (lv rest:Value) (st md pg:Int) (n:Nat) (xs:List Value):Prop where
 box:w.heap[b]? =some (.cells (yi t p s lv rest st md pg) 95)
 row:w.ownsRow 0 99 7 lv n xs
 ne:lv.ownBlock≠some b
theorem jda (b:Nat) (t p s:Int) (lv rest:Value) (st md pg:Int) (n:Nat) (xs:List Value) (at':Int) (F:FuncId) (rc cp:Array Value) (w:World) (h:MeB w b t p s lv rest st md pg n xs) (hn:n<=1000000) :
 Calls prog 38 #[.pointer (some ⟨b,0,none⟩),.int .i64 at',.func (.func F) rc cp] w fun e w'=>e= .returned (.tuple #[])/\(∃lv',MeB w' b t p s lv' rest st md pg (n+1) (xs++kT 1 t at' 0 (.func (.func F) rc cp))/\(∀k,lv'.ownBlock=some k->lv.ownBlock=some k\/w.heap.size<=k))/\Fr (fun k=>k=b\/lv.ownBlock=some k) w w':=by
 obtain ⟨hb,hrow,hne⟩:=h;obtain ⟨i0,hi0,hi1,hi2,hi3⟩:=info_parts V1;have HI:=zh (And.intro hi0 (And.intro hi1 (And.intro hi2 hi3)));obtain ⟨pa,pc,rfl⟩:=jcC hrow;have hc:∀o:Nat,w.cell? ⟨b,o,none⟩=(yi t p s (.slice pa n pc) rest st md pg)[o]? :=fun o=>jd hb;have hblt:b < w.heap.size:=(Array.getElem?_eq_some_iff.1 hb).1;have HR:=zh hrow;have HB:=zh hb;unfold yi at hc;clear hi0 hi1 hi2 hi3 hrow hb;go_enter func38,ntmps38;go_wp2_with fail;have q0:=hc 0;have q3:=hc 3;simp at q0 q3;refine wH (S:=fun w'=>True) (trivial) fun hHeld=> ?_;refine wT 0 ?_;refine wY ?_;refine wpAnyH_ready (rs:=[4,6]) zk zT ?_;refine AllReadyH.cons (o:=_) rfl (fun K hK=> ?_) (AllReadyH.cons (o:=_) rfl (fun K hK=> ?_) AllReadyH.nil);go_simp;refine wK hK (trivial) fun hHeld=> ?_;clear hK K;refine wR 6 fun K hK=> ?_;go_simp;refine zM (qR b t _ (by simpa using q0)) ?_;rintro w1 rfl;refine wK hK (trivial) fun hHeld=> ?_;clear hK K;refine wY ?_;refine wR 11 fun K hK=> ?_;go_simp;refine wK hK (trivial) fun hHeld=> ?_;clear hK K;refine wR 12 fun K hK=> ?_;refine kA rfl (.tmp 10) (.tmp 17) rfl 99 i0 (.agg #[.int .i64 0,.int .i64 0,.int .i64 0,.int .i64 0,.int .u64 0,.int .u64 0,.nilFunc]) 7 56 underlying93 HI.out.1 HI.out.2.1 HI.out.2.2.1 HI.out.2.2.2 rfl zd (.slice pa n pc) n xs rfl ((jh (w':=w.drew) HR.out (fun _ _=>rfl)).alloc _) ⟨w.heap.size,0,none⟩ 1 1 (kT 1 t at' 0 (.func (.func F) rc cp)) rfl rfl (ky w.drew _ _ _ rfl) ?c1 ?c2 ?c3 ?_;case c1=>(intro u hu;simp [kT] at hu;rcases hu with rfl | rfl | rfl | rfl | rfl | rfl | rfl <;> rfl)
 case c2=>(unfold maxLen;omega)
 case c3=>(omega)
 intro v' w5 hown5 hg5 hnew5 hnil5;clear hnil5;obtain ⟨g',cap',rfl⟩:=Joins.ownsRow_form hown5 zo;have hb5:=hg5.block b (by simp;omega) (fun e=>hne e.symm);have hbx5:=hb5.trans ((Below.heap_alloc w.drew (.cells (kT 1 t at' 0 (.func (.func F) rc cp)).toArray 99) _ hblt).trans HB.out);have c53:=jd (o:=3) hbx5;have f5:=jj (o:=3) hbx5;have hne5:=(fun e:g'=b=>(hnew5 b (by rw [<-e];rfl)).elim hne (fun h=>by simp at h;omega))
 simp [yi] at c53;refine wK hK (trivial) fun hHeld=> ?_;clear hK K;refine wT 13 ?_;refine wY ?_;refine wR 15 fun K hK=> ?_;go_simp;refine wK hK (trivial) fun hHeld=> ?_;clear hK K;refine wD ?_;rotate_left;go_simp;refine zM (qR b t _ (by simpa using q0)) ?_;rintro w1 rfl;refine wK hK (trivial) fun hHeld=> ?_;clear hK K;refine wT 8 ?_;refine wY ?_;refine wpAnyH_ready (rs:=[4,11]) zk zT ?_;refine AllReadyH.cons (o:=_) rfl (fun K hK=> ?_) (AllReadyH.cons (o:=_) rfl (fun K hK=> ?_) AllReadyH.nil);go_simp;refine wK hK (trivial) fun hHeld=> ?_;clear hK K;refine wR 11 fun K hK=> ?_;go_simp;refine wK hK (trivial) fun hHeld=> ?_;clear hK K;refine wR 12 fun K hK=> ?_;refine kA rfl (.tmp 10) (.tmp 17) rfl 99 i0 (.agg #[.int .i64 0,.int .i64 0,.int .i64 0,.int .i64 0,.int .u64 0,.int .u64 0,.nilFunc]) 7 56 underlying93 HI.out.1 HI.out.2.1 HI.out.2.2.1 HI.out.2.2.2 rfl zd (.slice pa n pc) n xs rfl ((jh (w':=w.drew) HR.out (fun _ _=>rfl)).alloc _) ⟨w.heap.size,0,none⟩ 1 1 (kT 1 t at' 0 (.func (.func F) rc cp)) rfl rfl (ky w.drew _ _ _ rfl) ?c1 ?c2 ?c3 ?_;case c1=>(intro u hu;simp [kT] at hu;rcases hu with rfl | rfl | rfl | rfl | rfl | rfl | rfl <;> rfl)
 case c2=>(unfold maxLen;omega)
 case c3=>(omega)
 intro v' w5 hown5 hg5 hnew5 hnil5;clear hnil5;obtain ⟨g',cap',rfl⟩:=Joins.ownsRow_form hown5 zo;have hb5:=hg5.block b (by simp;omega) (fun e=>hne e.symm);have hbx5:=hb5.trans ((Below.heap_alloc w.drew (.cells (kT 1 t at' 0 (.func (.func F) rc cp)).toArray 99) _ hblt).trans HB.out);have c53:=jd (o:=3) hbx5;have f5:=jj (o:=3) hbx5;have hne5:=(fun e:g'=b=>(hnew5 b (by rw [<-e];rfl)).elim hne (fun h=>by simp at h;omega))
 simp [yi] at c53;refine wK hK (trivial) fun hHeld=> ?_;clear hK K;refine wT 13 ?_;refine wY ?_;refine wR 15 fun K hK=> ?_;go_simp;refine wK hK (trivial) fun hHeld=> ?_;clear hK K;refine wD ?_;rotate_left;go_simp;refine wK hK (trivial) fun hHeld=> ?_;clear hK K;refine wR 4 fun K hK=> ?_;go_simp;refine wK hK (trivial) fun hHeld=> ?_;clear hK K;refine wR 12 fun K hK=> ?_;refine kA rfl (.tmp 10) (.tmp 17) rfl 99 i0 (.agg #[.int .i64 0,.int .i64 0,.int .i64 0,.int .i64 0,.int .u64 0,.int .u64 0,.nilFunc]) 7 56 underlying93 HI.out.1 HI.out.2.1 HI.out.2.2.1 HI.out.2.2.2 rfl zd (.slice pa n pc) n xs rfl ((jh (w':=w.drew) HR.out (fun _ _=>rfl)).alloc _) ⟨w.heap.size,0,none⟩ 1 1 (kT 1 t at' 0 (.func (.func F) rc cp)) rfl rfl (ky w.drew _ _ _ rfl) ?c1 ?c2 ?c3 ?_;case c1=>(intro u hu;simp [kT] at hu;rcases hu with rfl | rfl | rfl | rfl | rfl | rfl | rfl <;> rfl)
 case c2=>(unfold maxLen;omega)
 case c3=>(omega)
 intro v' w5 hown5 hg5 hnew5 hnil5;clear hnil5;obtain ⟨g',cap',rfl⟩:=Joins.ownsRow_form hown5 zo;have hb5:=hg5.block b (by simp;omega) (fun e=>hne e.symm);have hbx5:=hb5.trans ((Below.heap_alloc w.drew (.cells (kT 1 t at' 0 (.func (.func F) rc cp)).toArray 99) _ hblt).trans HB.out);have c53:=jd (o:=3) hbx5;have f5:=jj (o:=3) hbx5;have hne5:=(fun e:g'=b=>(hnew5 b (by rw [<-e];rfl)).elim hne (fun h=>by simp at h;omega))
 simp [yi] at c53;refine wK hK (trivial) fun hHeld=> ?_;clear hK K;refine wT 13 ?_;refine wY ?_;refine wR 15 fun K hK=> ?_;go_simp;refine wK hK (trivial) fun hHeld=> ?_;clear hK K;refine wD ?_;all_goals
  have hF5:Fr (fun k=>k=b\/(Value.slice pa n pc).ownBlock=some k) w w5:=(((Fr.refl _ w).drew).alloc (.cells (kT 1 t at' 0 (.func (.func F) rc cp)).toArray 99)).grown hg5 (fun k hk=>Or.inl (Or.inr hk));have hF6:=hF5.setCell ⟨b,3,none⟩ (.slice (some ⟨g',0,none⟩) (n+1) cap') (Or.inl (Or.inl rfl));have hN:=hnew5;go_end0;refine ⟨rfl,⟨.slice (some ⟨g',0,none⟩) (n+1) cap',⟨(jR hbx5).trans (by simp [yi]),jh hown5 fun k hk=>jg (fun e=>hne5 (by simp [Value.ownBlock] at hk;omega)),fun e=>hne5 (by simpa [Value.ownBlock] using e)⟩,fun k hk=> ?_⟩,hF6⟩;rcases hN k hk with h | h
  ·exact Or.inl h
  ·exact Or.inr (by simp at h;omega)
theorem jbm (t p s:Int) (w:World) (hr:jq t p s=true) :
 Calls prog 11 #[.agg #[.int .i64 t,.int .i64 p,.int .i64 s]] w fun e w'=>(∃b,e= .returned (.pointer (some ⟨b,0,none⟩))/\w.heap.size<=b/\∃lv,MeB w' b t p s lv .nilFunc 0 0 0 1 (kT 1 t 8 0 (.func (.func 39) #[.pointer (some ⟨b,0,none⟩)] #[]))/\∀k,lv.ownBlock=some k->w.heap.size<=k)/\Below w.heap.size w w':=by
 have HC:=zh (fun w=>YD t p s w hr);clear hr;go_enter func11,ntmps11;go_wp2_with fail;refine zM (HC.out _) fun w1 b1=> ?_;obtain ⟨b1c,b1f⟩:=jB b1;have b1z0:w.heap.size < w1.heap.size:=zL b1;have B1:Below w.heap.size w w1:=zR;have B2:=B1.alloc B1.size (.cells (yi t p s (.slice none 0 0) .nilFunc 0 0 0) 95);have hM:MeB (w1.alloc (.cells (yi t p s (.slice none 0 0) .nilFunc 0 0 0) 95)) w1.heap.size t p s (.slice none 0 0) .nilFunc 0 0 0 0 []:=⟨heap_alloc_new _ _,World.ownsRow_nil _ _ _ _,by simp [Value.ownBlock]⟩
 have HM:=zh hM;have HB2:=zh B2;have hz:=B1.size;clear hM B1 B2 b1;go_wp2_with fail;refine zM (jda _ t p s _ _ _ _ _ _ _ _ _ _ _ _ HM.out zo) ?_;rintro w3 ⟨⟨lv,hM3,hlv⟩,hF⟩;have hB3:=HB2.out.trans ((hF.below (B:=w.heap.size) (by simp;omega) (fun i hi=>by
  rcases hi with rfl | hi
  ·exact hz
  ·simp [Value.ownBlock] at hi)))
 go_wp2;go_ret;refine ⟨⟨_,rfl,hz,lv,by simpa using hM3,fun k hk=> ?_⟩,hB3⟩;rcases hlv k hk with h | h
 ·simp [Value.ownBlock] at h
 ·simp at h;omega
end Go.Proofs.YtcnininelndjoaaGreat

