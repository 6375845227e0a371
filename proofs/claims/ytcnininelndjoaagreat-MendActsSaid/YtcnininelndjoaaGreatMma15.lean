/- parts of the proof, merged by a program. -/
import Derived.Test.YtcnininelndjoaaGreatMma1
import Derived.Test.YtcnininelndjoaaGreatMma2
import Derived.Test.YtcnininelndjoaaGreatMma3
import Derived.Test.YtcnininelndjoaaGreatMma8
import Derived.Test.YtcnininelndjoaaGreatMma10
import Derived.Test.YtcnininelndjoaaGreatMma11
import Derived.Test.YtcnininelndjoaaGreatMma13
import Derived.Test.YtcnininelndjoaaGreatMma14
import Derived.Deep.RegionHeld3
set_option linter.unusedSimpArgs false
set_option linter.unusedVariables false
set_option maxRecDepth 100000
set_option maxHeartbeats 4000000
namespace Go.Proofs.YtcnininelndjoaaGreat
open Go.Proofs.Tryz
open Go.RowKit

theorem jbi (t p z:Int):∀(k:Nat) (y:TS),(qr t p z k y).ph=10\/(qr t p z k y).ph=11\/(qr t p z k y).ph=19
 | 0,y=> .inr (.inr rfl)
 | k+1,y=>by
  unfold qr;split
  ·exact .inl rfl
  ·split
   ·exact jbi t p z k _
   ·exact .inr (.inl rfl)
theorem Jn {x y:TS} {n:Nat} (e:y.ph=n) (h:(3<=n/\n<=12)\/n=19):3<=y.ph/\(13<=y.ph->y.ph<=18->y.wr=x.wr/\12<=x.ph):=
 ⟨zo,fun h1 h2=>absurd h1 zo⟩
theorem QY {t p z:Int} {x:TS} (y:TS):3<=(jB t p z y).ph/\(13<=(jB t p z y).ph->(jB t p z y).ph<=18->(jB t p z y).wr=x.wr/\12<=x.ph):=by
 rcases jbi t p z (p.toNat - y.page) y with e | e | e
 ·exact Jn (y:=jB t p z y) e zd
 ·exact Jn (y:=jB t p z y) e zd
 ·exact Jn (y:=jB t p z y) e zd
section
variable {t z:Int} {P:Nat} {x:TS} {m:NM} {k:Nat}
theorem jbN:3<=(K6 x).ph/\(13<=(K6 x).ph->(K6 x).ph<=18->(K6 x).wr=x.wr/\12<=x.ph):=by
 unfold K6;split
 ·exact Jn (n:=5) rfl zd
 ·exact Jn (n:=3) rfl zd
theorem Yq (y:TS):3<=(ju (y.to 3)).ph/\(13<=(ju (y.to 3)).ph->(ju (y.to 3)).ph<=18->(ju (y.to 3)).wr=x.wr/\12<=x.ph):=by
 rw [jbL];split
 ·exact Jn (n:=6) rfl zd
 ·exact Jn (n:=3) rfl zd
theorem told_low (h:JG t P x) (h3:3<=x.ph) (h19:x.ph≠19) (v:Int):3<=(jv t P z v x).ph/\(13<=(jv t P z v x).ph->(jv t P z v x).ph<=18->(jv t P z v x).wr=x.wr/\12<=x.ph):=by
 have hph:=h.ph;have hc:x.ph=3\/x.ph=4\/x.ph=5\/(x.ph=6\/x.ph=7\/x.ph=8\/x.ph=13\/x.ph=14\/x.ph=15\/x.ph=17)\/x.ph=9\/x.ph=10\/x.ph=11\/x.ph=12\/x.ph=16\/x.ph=18:=zo;rcases hc with e | e | e | e | e | e | e | e | e | e
 ·rw [toldT3 e (h.h3 (.inl e))];split
  ·exact Jn (n:=4) rfl zd
  ·exact jbN
 ·rw [toldT4 e (h.h3 (.inr (.inl e)))];exact jbN
 ·rw [toldT5 e (h.h3 (.inr (.inr e)))];split
  ·exact Jn (n:=6) rfl zd
  ·exact Jn (n:=5) rfl zd
 ·rw [jdx e];refine ⟨show 3<=x.ph+1 by omega,fun h1 h2=>⟨rfl,?_⟩⟩;have h1':13<=x.ph+1:=h1;omega
 ·rw [toldT9 h e];exact QY _
 ·rw [jdE h e];exact QY _
 ·rw [jdD e (h.hi (.inl e))];split
  ·exact Jn (n:=12) rfl zd
  ·exact Jn (n:=11) rfl zd
 ·rw [jdC e];split
  ·exact ⟨show 3<=13 by decide,fun _ _=>⟨rfl,zo⟩⟩
  ·exact Jn (n:=12) rfl zd
 ·rw [jdB e];exact ⟨show 3<=17 by decide,fun _ _=>⟨rfl,zo⟩⟩
 ·rw [jdA e];exact Yq _
structure LI (t z:Int) (P:Nat) (k:Nat) (x:TS) (m:NM):Prop where
 rt:jq t P z=true
 inv:JG t P x
 mi:m.Inv
 q0:x.ph=0->∃s u o C,Kl t P z m.W s u o C/\s < 2180000000
 q1:x.ph=1->∃o C,Kl t P z m.W x.s x.u o C
 q2:x.ph=2->∃L C,Kl t P z m.W x.s x.u (some L) C/\x.n=L.length/\x.i < L.length
 q3:13<=x.ph->x.ph<=18->x.wr≠[]
 mu:mu t P x+k<=VG t P
theorem LI.vok (h:LI t z P k x m) {d a v:Int} (hn:jN t P x=some (d,a,v)):VOK t P x (doM t m d a v).1:=by
 have hr:=h.rt;have hmb:=jV hr;have hrb:=jt hr;refine ⟨jfv h.mi d a v,fun hp=> ?_,fun hp=> ?_⟩
 ·obtain ⟨s,u,o,C,hs,hb⟩:=h.q0 hp;have e:jN t P x=some (1,8,0):=by unfold jN;rw [hp];rfl
  rw [e] at hn;cases hn;obtain ⟨-,hl⟩:=hs.right;obtain ⟨h1,h2,h3,-⟩:=hs.tip;rw [yv,Yn (a:=8) (k:=8) rfl zo];exact ⟨s,u,h1,h2.1,h2.2,h3.1,hb⟩
 ·obtain ⟨L,C,hs,hN,hiL⟩:=h.q2 hp;have e:jN t P x=some (1,VL t P x.u x.i,0):=by unfold jN;rw [hp];rfl
  rw [e] at hn;cases hn;obtain ⟨-,hlen⟩:=hs.right;obtain ⟨-,hu,-,-⟩:=hs.tip;obtain ⟨k,hko,hno,hen,hkl,hk96,hb⟩:=hs.open_;obtain ⟨l1,l2,l3,l4,l5,l6,l7,l8⟩:=KX hr hu.1 hu.2;have ea:VL t P x.u x.i=(((ky t P x.u 0).toNat+x.i:Nat):Int):=by unfold VL;rw [if_pos ⟨hu.1,hu.2,zo,zo⟩];exact l8 x.i
  rw [yv,Yn ea zo];have hb2:=hb _ (List.getElem_mem hiL);exact ⟨_,hs.entry hiL,hb2.1,hb2.2.1⟩
theorem LI.next (h:LI t z P k x m) (hp:x.ph≠19):∃d a v,jN t P x=some (d,a,v):=by
 cases hn:jN t P x with
 | none=>exact absurd ((Jm h.inv).1 hn) hp
 | some y=>exact ⟨y.1,y.2.1,y.2.2,rfl⟩
theorem LI.w18 (h:LI t z P k x m) (hp:x.ph=18):x.wr≠[]:=h.q3 zo zo
theorem LI.step (h:LI t z P k x m) (hp:x.ph≠19) {d a v:Int} (hn:jN t P x=some (d,a,v)) (hu:U64 v):LI t z P (k+1) (nxt t P z (x,m)).1 (nxt t P z (x,m)).2:=by
 obtain ⟨h1,h2⟩:=QX (z:=z) h.inv hp (doM t m d a v).1;have hmu:=h.mu;have hr:=h.rt;have hmb:=jV hr;have hrb:=jt hr;have hmi:=doM_inv (t:=t) h.mi (d:=d) (a:=a) hu;have hv:=h.vok hn;rw [VD hn];have fin:∀{y:TS} {m':NM},jv t P z (doM t m d a v).1 x=y->(doM t m d a v).2=m'->(y.ph=0->∃s u o C,Kl t P z m'.W s u o C/\s < 2180000000)->(y.ph=1->∃o C,Kl t P z m'.W y.s y.u o C)->
  (y.ph=2->∃L C,Kl t P z m'.W y.s y.u (some L) C/\y.n=L.length/\y.i < L.length)->(13<=y.ph->y.ph<=18->y.wr≠[])->LI t z P (k+1) (jv t P z (doM t m d a v).1 x) (doM t m d a v).2:=by
  rintro y m' rfl rfl a0 a1 a2 a3;exact ⟨hr,h1,hmi,a0,a1,a2,a3,zo⟩
 have big:∀{y:TS} {m':NM},jv t P z (doM t m d a v).1 x=y->(doM t m d a v).2=m'->3<=y.ph->(13<=y.ph->y.ph<=18->y.wr≠[])->LI t z P (k+1) (jv t P z (doM t m d a v).1 x) (doM t m d a v).2:=by
  intro y m' e1 e2 h3 a3;exact fin e1 e2 (fun e=>absurd e zo) (fun e=>absurd e zo) (fun e=>absurd e zo) a3
 by_cases h3:3<=x.ph
 ·obtain ⟨b3,b13⟩:=told_low (z:=z) h.inv h3 hp (doM t m d a v).1;refine big rfl rfl b3 fun e1 e2=> ?_;obtain ⟨e3,e4⟩:=b13 e1 e2;rw [e3];by_cases e12:x.ph=12
  ·have:=h.inv.hi (.inr e12);intro e;rw [e] at this;simp at this
  ·have hph:=h.inv.ph;exact h.q3 zo zo
 ·have hc:x.ph=0\/x.ph=1\/x.ph=2:=zo;rcases hc with e | e | e
  ·obtain ⟨s,u,o,C,hs,hb⟩:=h.q0 e;have e1:jN t P x=some (1,8,0):=by unfold jN;rw [e];rfl
   rw [e1] at hn;cases hn;obtain ⟨-,hl⟩:=hs.right;have ev:(doM t m 1 8 0).1=m.W.getD 8 0:=by rw [yv];exact Yn (a:=8) (k:=8) rfl zo
   have et:jv t P z (doM t m 1 8 0).1 x=({ x with s:=s,u:=u }:TS).to 1:=by rw [ev];exact jdF e hs.tip.1
   exact fin et (by rw [yv]) (fun e=>absurd (show (1:Nat)=0 from e) zd) (fun _=>⟨o,C,hs⟩) (fun e=>absurd (show (1:Nat)=2 from e) zd) (fun e=>absurd (show (13:Nat)<=1 from e) zd)
  ·obtain ⟨o,C,hs⟩:=h.q1 e;have e1:jN t P x=some (1,JM t P x.u,0):=by unfold jN;rw [e];rfl
   rw [e1] at hn;cases hn;obtain ⟨-,hl⟩:=hs.right;obtain ⟨-,hu1,-,-⟩:=hs.tip;have ly:=KX hr hu1.1 hu1.2;have ea:JM t P x.u=(((jz t P x.u).toNat:Nat):Int):=by unfold JM;rw [if_pos hu1];omega
   have ev:(doM t m 1 (JM t P x.u) 0).1=m.W.getD (jz t P x.u).toNat 0:=by rw [yv];exact Yn (k:=(jz t P x.u).toNat) ea zo
   cases o with
   | none=>
    obtain ⟨b3,b13⟩:=QY (t:=t) (p:=P) (z:=z) (x:=x) x;have et:jv t P z (doM t m 1 (JM t P x.u) 0).1 x=jB t P z x:=by rw [ev];exact jdz h.inv e hs.shut
    exact big et rfl b3 (fun e1 e2=>absurd (b13 e1 e2).2 zo)
   | some L=>
    obtain ⟨j,hko,hno,hen,hkl,hk96,hb⟩:=hs.open_;by_cases hk0:j=0
    ·obtain ⟨b3,b13⟩:=Yq (x:=x) ({ x with note:=m.W.getD (jz t P x.u).toNat 0,n:=j }:TS);have et:jv t P z (doM t m 1 (JM t P x.u) 0).1 x=ju (({ x with note:=m.W.getD (jz t P x.u).toNat 0,n:=j }:TS).to 3):=by rw [ev,jat e hko,if_pos hk0]
     exact big et rfl b3 (fun e1 e2=>absurd (b13 e1 e2).2 zo)
    ·have et:jv t P z (doM t m 1 (JM t P x.u) 0).1 x=({ x with note:=m.W.getD (jz t P x.u).toNat 0,n:=j }:TS).to 2:=by rw [ev,jat e hko,if_neg hk0]
     exact fin et (by rw [yv]) (fun e=>absurd (show (2:Nat)=0 from e) zd) (fun e=>absurd (show (2:Nat)=1 from e) zd) (fun _=>⟨L,C,hs,hkl.symm,by show 0 < L.length;omega⟩) (fun e=>absurd (show (13:Nat)<=2 from e) zd)
  ·obtain ⟨L,C,hs,hN,hiL⟩:=h.q2 e;have e1:jN t P x=some (1,VL t P x.u x.i,0):=by unfold jN;rw [e];rfl
   rw [e1] at hn;cases hn;obtain ⟨-,hlen⟩:=hs.right;obtain ⟨-,hu1,-,-⟩:=hs.tip;obtain ⟨j,hko,hno,hen,hkl,hk96,hb⟩:=hs.open_;obtain ⟨l1,l2,l3,l4,l5,l6,l7,l8⟩:=KX hr hu1.1 hu1.2;have ea:VL t P x.u x.i=(((ky t P x.u 0).toNat+x.i:Nat):Int):=by unfold VL;rw [if_pos ⟨hu1.1,hu1.2,zo,zo⟩];exact l8 x.i
   have ev:(doM t m 1 (VL t P x.u x.i) 0).1=m.W.getD ((ky t P x.u 0).toNat+x.i) 0:=by rw [yv];exact Yn ea zo
   have hen:=hs.entry hiL;by_cases hd:(x.i:Int)+1=x.n
   ·obtain ⟨b3,b13⟩:=Yq (x:=x) ({ x with l:=x.l++[L[x.i]] }:TS);have et:jv t P z (doM t m 1 (VL t P x.u x.i) 0).1 x=ju (({ x with l:=x.l++[L[x.i]] }:TS).to 3):=by rw [ev,jdy e hen,if_pos hd]
    exact big et rfl b3 (fun e1 e2=>absurd (b13 e1 e2).2 zo)
   ·have et:=jdy (t:=t) (p:=P) (z:=z) e hen;rw [if_neg hd,<-ev] at et;exact fin et (by rw [yv]) (fun e=>absurd (show (2:Nat)=0 from e) zd) (fun e=>absurd (show (2:Nat)=1 from e) zd) (fun _=>⟨L,C,hs,hN,by show x.i+1 < L.length;omega⟩) (fun e=>absurd (show (13:Nat)<=2 from e) zd)
theorem LI.begin (hr:jq t P z=true) (hmi:m.Inv) {s u:Int} {o:Option (List (Int×Int))} {C:List Int} (hs:Kl t P z m.W s u o C) (hb:s < 2180000000):LI t z P 0 TS.begin m:=
 ⟨hr,Yx t P,hmi,fun _=>⟨s,u,o,C,hs,hb⟩,fun e=>absurd (show (0:Nat)=1 from e) zd,fun e=>absurd (show (0:Nat)=2 from e) zd,fun e=>absurd (show (13:Nat)<=0 from e) zd,by
  have:=begin_mu t (P:Int);unfold VG;simp at this;omega⟩
end

theorem QR {i:Nat}:∀{l l':List (Nat×Int)},l.map (·.1)=l'.map (·.1)->wix l i=wix l' i
 | [],[],_=>rfl
 | [],_ :: _,h=>by simp at h
 | _ :: _,[],h=>by simp at h
 | p :: r,p' :: r',h=>by
  simp only [List.map_cons,List.cons.injEq] at h;simp only [wix,h.1,QR (i:=i) h.2]
theorem jan (i k:Nat) (v:Int):∀l:List (Nat×Int),wix (l++[(i,v)]) k=match wix l k with | some j=>some j | none=>if i=k then some l.length else none
 | []=>by simp [wix]
 | p :: r=>by
  simp only [List.cons_append,wix,jan i k v r];split
  ·rfl
  ·cases wix r k with
   | some j=>rfl
   | none=>by_cases h:i=k <;> simp [h]
theorem wr_put (s:VS) (i:Nat) (v:Int):({ s with writes:=VS.setW s.writes i v }:VS).wr i=some v/\∀j,j≠i->({ s with writes:=VS.setW s.writes i v }:VS).wr j=s.wr j:=by
 unfold VS.wr VS.setW;cases hw:wix s.writes i with
 | some m=>
  obtain ⟨h1,u,h2⟩:=ye hw;have hk:=VS.setW_keys_some (v:=v) hw;simp only;refine ⟨?_,fun j hj=> ?_⟩
  ·rw [QR hk,hw];simp [h1]
  ·rw [QR hk];cases hj2:wix s.writes j with
   | none=>rfl
   | some m2=>
    obtain ⟨h3,u2,h4⟩:=ye hj2;have hne:m≠m2:=by
     rintro rfl;rw [h2] at h4;simp at h4;exact hj h4.1.symm
    simp [List.getElem?_set,hne]
 | none=>
  simp only;refine ⟨?_,fun j hj=> ?_⟩
  ·rw [jan,hw];simp
  ·rw [jan];cases hj2:wix s.writes j with
   | none=>simp only [if_neg (fun e:i=j=>hj e.symm)];rfl
   | some m2=>
    obtain ⟨h3,u2,h4⟩:=ye hj2;simp [List.getElem?_append_left h3]
theorem jdf {s:VS} {i:Nat}:s.wr i=none↔wix s.writes i=none:=by
 unfold VS.wr;cases hw:wix s.writes i with
 | none=>simp
 | some m=>obtain ⟨h1,u,h2⟩:=ye hw;simp [h2]
theorem RVs.blk [AllF] {w w2:World} {b:Nat} {S:Nat->Prop} {s:VS} {kv vv iv tv rv wv gv:Value} {all:Bool} (h:RVs w b S s kv vv iv tv rv wv all) (X:Obj) (hg:(w.alloc X).grownBy w2 gv.ownBlock) {k:Nat} (hk:S k) (hn:gv.ownBlock≠some k):w2.heap[k]? =w.heap[k]? :=by
 have hl:=h.lt k hk;rw [hg.block k (by simp;omega) (fun e=>hn e.symm),Below.heap_alloc _ _ _ hl]
theorem RVs.rebuild [AllF] {w w':World} {b:Nat} {S:Nat->Prop} {s s':VS} {kv vv iv tv rv wv rv' wv':Value} {all:Bool} (h:RVs w b S s kv vv iv tv rv wv all) (F:Fr S w w')
 (hc:w'.heap[b]? =some (.cells #[.int .i64 s'.n,kv,vv,iv,tv,rv',wv',.int .i64 (qX s'),.bool all] 167)) (hn:s'.n=s.n) (hk:s'.known=s.known)
 (bk:∀k,kv.ownBlock=some k->w'.heap[k]? =w.heap[k]?) (bv:∀k,vv.ownBlock=some k->w'.heap[k]? =w.heap[k]?)
 (ir:w'.ownsRow 0 4 1 iv s.n (Js s.n (isF s'))) (tr:w'.ownsRow 0 44 1 tv s.n (Js s.n (toF s')))
 (rr:w'.ownsRow 0 3 1 rv' s'.reads.length (jY s'.reads)) (wr:w'.ownsRow 0 3 1 wv' s'.writes.length (jY (s'.writes.map (·.1))))
 (d3:∀k,rv'.ownBlock=some k->wv'.ownBlock≠some k)
 (hr:∀k,rv'.ownBlock=some k->S k\/w.heap.size<=k) (hw:∀k,wv'.ownBlock=some k->S k\/w.heap.size<=k) (hi:s'.Inv):JQ w b S s' w':=by
 have su:∀k,S k->upd S w w' k:=fun k hk=>Or.inl hk;refine ⟨⟨kv,vv,iv,tv,rv',wv',all,hc,?_,?_,by rw [hn];exact ir,by rw [hn];exact tr,rr,wr,h.d1,h.d2,d3,su _ h.inb,fun k hk=>su k (h.ink k hk),fun k hk=>su k (h.inv' k hk),fun k hk=>su k (h.ini k hk),fun k hk=>su k (h.int k hk),?_,?_,?_,hi,by rw [hn,hk];exact h.tot,h.al⟩,F⟩
 ·have e:Jo s'=Jo s:=by funext i;simp [Jo,hk]
  rw [hn,e];exact je h.kr bk
 ·have e:V0 s'=V0 s:=by funext i;simp [V0,hk]
  rw [hn,e];exact je h.vr bv
 ·intro k hk;rcases hr k hk with x | x
  ·exact Or.inl x
  ·exact Or.inr ⟨x,jn rr hk⟩
 ·intro k hk;rcases hw k hk with x | x
  ·exact Or.inl x
  ·exact Or.inr ⟨x,jn wr hk⟩
 ·intro k hk;rcases hk with hk | hk
  ·exact Nat.lt_of_lt_of_le (h.lt k hk) F.size
  ·exact hk.2
theorem jeN [AllF] {w w2:World} {b:Nat} {S:Nat->Prop} {s:VS} {kv vv iv tv rv wv:Value} {all:Bool} {n g' cap':Nat} {X:Obj} (h:RVs w b S s kv vv iv tv rv wv all) (hg:(w.alloc X).grownBy w2 rv.ownBlock)
 (hown:w2.ownsRow 0 3 1 (.slice (some ⟨g',0,none⟩) (s.reads.length+1) cap') (s.reads.length+1) (jY s.reads++[.int .i64 n]))
 (hnew:∀k,(Value.slice (some ⟨g',0,none⟩) (s.reads.length+1) cap').ownBlock=some k->rv.ownBlock=some k\/(w.alloc X).heap.size<=k) (hi:VS.Inv { s with reads:=s.reads++[n] }) :
 JQ w b S { s with reads:=s.reads++[n] } (w2.setCell ⟨b,5,none⟩ (.slice (some ⟨g',0,none⟩) (s.reads.length+1) cap')):=by
 have rb:=jm h.rr h.cells zd;have bb:w2.heap[b]? =w.heap[b]? :=h.blk X hg h.inb rb;have hg':=hnew g' rfl;have hbl:∀k,S k->rv.ownBlock≠some k->k≠b->(w2.setCell ⟨b,5,none⟩ (.slice (some ⟨g',0,none⟩) (s.reads.length+1) cap')).heap[k]? =w.heap[k]? :=fun k hk h1 h2=>by
  rw [Below.heap_setCell _ _ _ _ (by simpa using h2)];exact h.blk X hg hk h1
 have hgb:g'≠b:=by
  rintro rfl;rcases hg' with x | x
  ·exact rb x
  ·have:=h.lt _ h.inb;simp at x;omega
 have F:Fr S w (w2.setCell ⟨b,5,none⟩ (.slice (some ⟨g',0,none⟩) (s.reads.length+1) cap')):=
  (((Fr.refl S w).alloc X).grown hg (fun k hk=>Or.inl (h.inr k hk))).setCell _ _ (Or.inl h.inb)
 refine h.rebuild (rv':= .slice (some ⟨g',0,none⟩) (s.reads.length+1) cap') (wv':=wv) F ?_ rfl rfl ?_ ?_ ?_ ?_ ?_ ?_ ?_ ?_ (fun k hk=>Or.inl (h.inw k hk)) hi
 ·have:=Joins.block_setCell (i:=5) (bb.trans h.cells) (.slice (some ⟨g',0,none⟩) (s.reads.length+1) cap');rw [this];rfl
 ·exact fun k hk=>hbl k (h.ink k hk) (jy h.rr h.kr zd hk) (fun e=>jm h.kr h.cells zd (by rw [hk,e]))
 ·exact fun k hk=>hbl k (h.inv' k hk) (jy h.rr h.vr zd hk) (fun e=>jm h.vr h.cells zd (by rw [hk,e]))
 ·exact je h.ir fun k hk=>hbl k (h.ini k hk) (jy h.rr h.ir zd hk) (fun e=>jm h.ir h.cells zd (by rw [hk,e]))
 ·exact je h.tr fun k hk=>hbl k (h.int k hk) (jy h.rr h.tr zd hk) (fun e=>jm h.tr h.cells zd (by rw [hk,e]))
 ·have:=je (w':=w2.setCell ⟨b,5,none⟩ (.slice (some ⟨g',0,none⟩) (s.reads.length+1) cap')) hown (fun k hk=>Below.heap_setCell _ _ _ _ (by simp [Value.ownBlock] at hk;subst hk;simpa using hgb));simpa [jY] using this
 ·exact je h.wr fun k hk=>hbl k (h.inw k hk) (fun e=>h.d3 k e hk) (fun e=>jm h.wr h.cells zd (by rw [hk,e]))
 ·intro k hk hk2;rcases hnew k hk with x | x
  ·exact h.d3 k x hk2
  ·have:=jn h.wr hk2;simp at x;omega
 ·intro k hk;rcases hnew k hk with x | x
  ·exact Or.inl (h.inr k x)
  ·simp at x;exact Or.inr zo
theorem rget_new [AllF] (b:Nat) (i:Int) (w:World) (S:Nat->Prop) (s:VS) (h:RV w b S s) (ht:s.there i=true) (v:Int) (hw:s.wr i.toNat=none) (hk:s.known i.toNat=some v) (hr:i.toNat ∉ s.reads) :
 Calls prog 162 #[.pointer (some ⟨b,0,none⟩),.int .i64 i] w fun e w'=>e= .returned (.int .u32 v)/\JQ w b S { s with reads:=s.reads++[i.toNat] } w':=by
 have hinv:=(jk.inv h).get i;have e:s.get i=(v,{ s with reads:=s.reads++[i.toNat] }):=by simp [VS.get,ht,hw,hk,VS.read1,hr]
 rw [e] at hinv;obtain ⟨hi0,hi1,hm⟩:=VS.there_iff.1 ht;obtain ⟨n,rfl⟩:=Int.eq_ofNat_of_zero_le hi0;simp only [Int.toNat_natCast] at hw hk hr hinv ⊢;obtain ⟨kv,vv,iv,tv,rv,wv,all,hv⟩:=h;have h0:=hv.cell 0;have h1:=hv.cell 1;have h3:=hv.cell 3;have h5:=hv.cell 5;have h7:=hv.cell 7;have e7:qX s= -1:=by simp [qX,hm]
 simp [e7] at h0 h1 h3 h5 h7;obtain ⟨gi,ci,rfl⟩:=Joins.ownsRow_form hv.ir zo;obtain ⟨gk,ck,rfl⟩:=Joins.ownsRow_form hv.kr zo;obtain ⟨gv,cv,rfl⟩:=Joins.ownsRow_form hv.vr zo;have ci0:w.cell? ⟨gi,n,none⟩=some (.bool false):=by rw [hv.ir.cellAt n zo,kB _ zo];simp [isF,hw]
 have ck0:w.cell? ⟨gk,n,none⟩=some (.bool true):=by rw [hv.kr.cellAt n zo,kB _ zo];simp [Jo,hk]
 have cv0:w.cell? ⟨gv,n,none⟩=some (.int .u32 v):=by rw [hv.vr.cellAt n zo,kB _ zo];simp [V0,hk]
 have hl:=hv.inv.reads_le;have hs:=hv.inv.small;have H:=jfo s.reads n rv w hv.rr zo;simp only [hr,decide_false] at H;have HH:=zh H;have HV:=zh hv;have HI:=zh hinv;have HC:=zh cv0;have hbv:b≠gv:=fun x=>jm hv.vr hv.cells zd (by rw [x];rfl);obtain ⟨i0,hi0,hi1,hi2,hi3⟩:=info_parts KC;have HT:=zh (And.intro hi0 (And.intro hi1 (And.intro hi2 hi3)));clear hv hm ht hw hk hr e7 H hinv e cv0 hi0 hi1 hi2 hi3;go_enter func162,ntmps162;go_wp2_with (first | (go_at_call 209;go_must (refine HH.out.mono ?_);rintro e w1 ⟨rfl,rfl⟩) | (at_builtin;go_must (refine jR rfl _ _ rfl 3 i0 (.int .i64 0) 1 8 underlying66 HT.out.1 HT.out.2.1 HT.out.2.2.1 HT.out.2.2.2 rfl zd rv s.reads.length (jY s.reads) rfl (HV.out.rr.alloc _) ⟨w.heap.size,0,none⟩ 1 1 [.int .i64 n] rfl rfl (cell_one_new _ _ _) ?c1 ?c2 ?c3 ?_);go_must (case c1=>(simp [Value.oneCell']));go_must (case c2=>(unfold maxLen;omega));go_must (case c3=>(omega));go_must (intro v' w2 hown2 hg2 hnew2 hnil2);clear hnil2;go_must (obtain ⟨g',cap',rfl⟩:=Joins.ownsRow_form hown2 zo);go_must (have bb:w2.heap[b]? =w.heap[b]? :=HV.out.blk _ hg2 HV.out.inb (jm HV.out.rr HV.out.cells zd));go_must (have e5:w2.cell? ⟨b,5,none⟩=some rv:=(World.cell?_of_block (a:=⟨b,5,none⟩) bb).trans h5);go_must (have f5:w2.frozen? ⟨b,5,none⟩=false:=jX _ _ _ (bb.trans HV.out.cells) _);go_must (have e2:w2.cell? ⟨b,2,none⟩=some (.slice (some ⟨gv,0,none⟩) s.n cv):=(World.cell?_of_block (a:=⟨b,2,none⟩) bb).trans ((HV.out.cell 2).trans rfl));go_must (have ev:w2.cell? ⟨gv,n,none⟩=some (.int .u32 v):=(World.cell?_of_block (a:=⟨gv,n,none⟩) (HV.out.blk _ hg2 (HV.out.inv' gv rfl) (jy HV.out.rr HV.out.vr zd rfl))).trans HC.out)));go_ret;exact ⟨rfl,jeN HV.out hg2 hown2 hnew2 HI.out⟩
theorem jd7 [AllF] (b:Nat) (i:Int) (w:World) (S:Nat->Prop) (s:VS) (h:RV w b S s) (ht:s.there i=true) (hw:s.wr i.toNat=none) (hk:s.known i.toNat=none) :
 Calls prog 162 #[.pointer (some ⟨b,0,none⟩),.int .i64 i] w fun e w'=>e= .returned (.int .u32 0)/\JQ w b S { s with miss:=some i.toNat } w':=by
 obtain ⟨hi0,hi1,hm⟩:=VS.there_iff.1 ht;obtain ⟨n,rfl⟩:=Int.eq_ofNat_of_zero_le hi0;simp only [Int.toNat_natCast] at hw hk ⊢;obtain ⟨kv,vv,iv,tv,rv,wv,all,hv⟩:=h;have h0:=hv.cell 0;have h1:=hv.cell 1;have h3:=hv.cell 3;have h7:=hv.cell 7;have e7:qX s= -1:=by simp [qX,hm]
 simp [e7] at h0 h1 h3 h7;have f7:=jX w b _ hv.cells 7;obtain ⟨gi,ci,hiv⟩:=Joins.ownsRow_form hv.ir zo;obtain ⟨gk,ck,hkv⟩:=Joins.ownsRow_form hv.kr zo;have ci0:w.cell? ⟨gi,n,none⟩=some (.bool false):=by
  have:=hv.ir;rw [hiv] at this;rw [this.cellAt n zo,kB _ zo];simp [isF,hw]
 have ck0:w.cell? ⟨gk,n,none⟩=some (.bool false):=by
  have:=hv.kr;rw [hkv] at this;rw [this.cellAt n zo,kB _ zo];simp [Jo,hk]
 have hs:=hv.inv.small;have HN:Hid (JQ w b S { s with miss:=some n } (w.setCell ⟨b,7,none⟩ (.int .i64 n))):=zh (by
  have hbl:∀k,k≠b->(w.setCell ⟨b,7,none⟩ (.int .i64 n)).heap[k]? =w.heap[k]? :=fun k hk=>Below.heap_setCell _ _ _ _ (by simpa using hk);refine hv.rebuild (rv':=rv) (wv':=wv) ((Fr.refl S w).setCell ⟨b,7,none⟩ _ (Or.inl hv.inb)) ?_ rfl rfl ?_ ?_ ?_ ?_ ?_ ?_ hv.d3 (fun k hk=>Or.inl (hv.inr k hk)) (fun k hk=>Or.inl (hv.inw k hk)) ⟨hv.inv.small,hv.inv.rnd,hv.inv.rlt,hv.inv.wnd,hv.inv.wlt,hv.inv.ku,hv.inv.wu⟩
  ·have:=Joins.block_setCell (i:=7) hv.cells (.int .i64 n);rw [this];rfl
  ·exact fun k hk=>hbl k (fun e=>jm hv.kr hv.cells zd (by rw [hk,e]))
  ·exact fun k hk=>hbl k (fun e=>jm hv.vr hv.cells zd (by rw [hk,e]))
  ·exact je hv.ir fun k hk=>hbl k (fun e=>jm hv.ir hv.cells zd (by rw [hk,e]))
  ·exact je hv.tr fun k hk=>hbl k (fun e=>jm hv.tr hv.cells zd (by rw [hk,e]))
  ·exact je hv.rr fun k hk=>hbl k (fun e=>jm hv.rr hv.cells zd (by rw [hk,e]))
  ·exact je hv.wr fun k hk=>hbl k (fun e=>jm hv.wr hv.cells zd (by rw [hk,e])))
 subst hiv hkv;clear hv hm ht hw hk e7;go_enter func162,ntmps162;go_wp2;go_ret;exact ⟨rfl,HN.out⟩
theorem yg [AllF] (b:Nat) (i:Int) (w:World) (S:Nat->Prop) (s:VS) (h:RV w b S s) :
 Calls prog 162 #[.pointer (some ⟨b,0,none⟩),.int .i64 i] w fun e w'=>e= .returned (.int .u32 (s.get i).1)/\JQ w b S (s.get i).2 w':=by
 cases ht:s.there i with
 | false=>
  have e:s.get i=(0,s):=by simp [VS.get,ht]
  rw [e];exact (rget_no b i w S s h ht).mono fun _ _ ⟨h1,h2⟩=>⟨h1,h2 ▸ JQ.refl h⟩
 | true=>
  obtain ⟨h0,h1,-⟩:=VS.there_iff.1 ht;cases hw:s.wr i.toNat with
  | some v=>
   have e:s.get i=(v,s):=by simp [VS.get,ht,hw]
   rw [e];exact (rget_put b i w S s h ht v hw).mono fun _ _ ⟨h1,h2⟩=>⟨h1,h2 ▸ JQ.refl h⟩
  | none=>
   cases hk:s.known i.toNat with
   | none=>
    have e:s.get i=(0,{ s with miss:=some i.toNat }):=by simp [VS.get,ht,hw,hk]
    rw [e];exact jd7 b i w S s h ht hw hk
   | some v=>
    by_cases hr:i.toNat∈s.reads
    ·have e:s.get i=(v,s):=by simp [VS.get,ht,hw,hk,VS.read1,hr]
     rw [e];exact (rget_old b i w S s h ht v hw hk hr).mono fun _ _ ⟨h1,h2⟩=>⟨h1,h2 ▸ JQ.refl h⟩
    ·have e:s.get i=(v,{ s with reads:=s.reads++[i.toNat] }):=by simp [VS.get,ht,hw,hk,VS.read1,hr]
     rw [e];exact rget_new b i w S s h ht v hw hk hr

theorem rput_no [AllF] (b:Nat) (i v:Int) (w:World) (S:Nat->Prop) (s:VS) (h:RV w b S s) (ht:s.there i=false) :
 Calls prog 163 #[.pointer (some ⟨b,0,none⟩),.int .i64 i,.int .u32 v] w fun e w'=>e= .returned (.tuple #[])/\w=w':=by
 obtain ⟨kv,vv,iv,tv,rv,wv,all,hv⟩:=h;have h0:=hv.cell 0;have h7:=hv.cell 7;simp at h0 h7;clear hv;by_cases h1:i < 0
 ·clear h0 h7 ht;go_enter func163,ntmps163;go_wp2;refine bodyPost_ret (results_none rfl _ _ _) rfl ?_;exact ⟨rfl,rfl⟩
 ·by_cases h2:(s.n:Int)<=i
  ·clear h7 ht;go_enter func163,ntmps163;go_wp2;refine bodyPost_ret (results_none rfl _ _ _) rfl ?_;exact ⟨rfl,rfl⟩
  ·have h3:∃j,s.miss=some j:=by
    cases hm:s.miss with
    | none=>simp [VS.there,hm] at ht;omega
    | some j=>exact ⟨j,rfl⟩
   obtain ⟨j,hj⟩:=h3;have hm:qX s=(j:Int):=by simp [qX,hj]
   rw [hm] at h7;have h8:(0:Int)<=(j:Int):=zo;clear ht hj hm;go_enter func163,ntmps163;go_wp2;refine bodyPost_ret (results_none rfl _ _ _) rfl ?_;exact ⟨rfl,rfl⟩
theorem jbv {w:World} {s:VS} {n:Nat} {v:Int} {gi ci gt ct:Nat} (ir:w.ownsRow 0 4 1 (.slice (some ⟨gi,0,none⟩) s.n ci) s.n (Js s.n (isF s))) (tr:w.ownsRow 0 44 1 (.slice (some ⟨gt,0,none⟩) s.n ct) s.n (Js s.n (toF s))) (hne:gi≠gt) :
 ((w.setCell ⟨gi,n,none⟩ (.bool true)).setCell ⟨gt,n,none⟩ (.int .u32 v)).ownsRow 0 4 1 (.slice (some ⟨gi,0,none⟩) s.n ci) s.n (Js s.n (isF { s with writes:=VS.setW s.writes n v }))/\
 ((w.setCell ⟨gi,n,none⟩ (.bool true)).setCell ⟨gt,n,none⟩ (.int .u32 v)).ownsRow 0 44 1 (.slice (some ⟨gt,0,none⟩) s.n ct) s.n (Js s.n (toF { s with writes:=VS.setW s.writes n v })):=by
 obtain ⟨w1,w2⟩:=wr_put s n v;have e1:(Js s.n (isF s)).set n (.bool true)=Js s.n (isF { s with writes:=VS.setW s.writes n v }):=
  J8 _ _ _ (by simp [isF,w1]) (fun j hj=>by simp [isF,w2 j hj])
 have e2:(Js s.n (toF s)).set n (.int .u32 v)=Js s.n (toF { s with writes:=VS.setW s.writes n v }):=
  J8 _ _ _ (by simp [toF,w1]) (fun j hj=>by simp [toF,w2 j hj])
 constructor
 ·have a1:=(ir.stored n (.bool true)).1;rw [e1] at a1;exact je a1 fun k hk=>Below.heap_setCell _ _ _ _ (by simp [Value.ownBlock] at hk;subst hk;simpa using hne)
 ·have a1:=je (w':=w.setCell ⟨gi,n,none⟩ (.bool true)) tr fun k hk=>Below.heap_setCell _ _ _ _ (by simp [Value.ownBlock] at hk;subst hk;simpa using fun e=>hne e.symm);have a2:=(a1.stored n (.int .u32 v)).1;rw [e2] at a2;exact a2
theorem XH [AllF] {w:World} {b:Nat} {S:Nat->Prop} {s:VS} {kv vv rv wv:Value} {all:Bool} {n gi ci gt ct:Nat} {v:Int}
 (h:RVs w b S s kv vv (.slice (some ⟨gi,0,none⟩) s.n ci) (.slice (some ⟨gt,0,none⟩) s.n ct) rv wv all) (hj:(wix s.writes n).isSome=true) (hi:VS.Inv { s with writes:=VS.setW s.writes n v }) :
 JQ w b S { s with writes:=VS.setW s.writes n v } ((w.setCell ⟨gi,n,none⟩ (.bool true)).setCell ⟨gt,n,none⟩ (.int .u32 v)):=by
 have ib:=jm h.ir h.cells zd;have tb:=jm h.tr h.cells zd;have hne:gi≠gt:=fun e=>jy h.ir h.tr zd (k:=gt) rfl (by rw [e];rfl);have F:Fr S w ((w.setCell ⟨gi,n,none⟩ (.bool true)).setCell ⟨gt,n,none⟩ (.int .u32 v)):=
  ((Fr.refl S w).setCell _ _ (Or.inl (h.ini gi rfl))).setCell _ _ (Or.inl (h.int gt rfl))
 have hbl:∀k,k≠gi->k≠gt->((w.setCell ⟨gi,n,none⟩ (.bool true)).setCell ⟨gt,n,none⟩ (.int .u32 v)).heap[k]? =w.heap[k]? :=fun k h1 h2=>by
  rw [Below.heap_setCell _ _ _ _ (by simpa using h2),Below.heap_setCell _ _ _ _ (by simpa using h1)]
 obtain ⟨r1,r2⟩:=jbv (n:=n) (v:=v) h.ir h.tr hne;have ek:(VS.setW s.writes n v).map (·.1)=s.writes.map (·.1):=by
  unfold VS.setW;cases hw:wix s.writes n with
  | none=>rw [hw] at hj;simp at hj
  | some j=>exact VS.setW_keys_some hw
 have el:(VS.setW s.writes n v).length=s.writes.length:=by simpa using congrArg List.length ek
 refine h.rebuild (rv':=rv) (wv':=wv) F ?_ rfl rfl ?_ ?_ r1 r2 ?_ ?_ h.d3 (fun k hk=>Or.inl (h.inr k hk)) (fun k hk=>Or.inl (h.inw k hk)) hi
 ·exact (hbl b (fun e=>ib (by rw [e];rfl)) (fun e=>tb (by rw [e];rfl))).trans h.cells
 ·exact fun k hk=>hbl k (fun e=>h.d1 k hk (by rw [e];rfl)) (fun e=>jy h.kr h.tr zd (k:=gt) rfl (by rw [hk,e]))
 ·exact fun k hk=>hbl k (fun e=>jy h.vr h.ir zd (k:=gi) rfl (by rw [hk,e])) (fun e=>h.d2 k hk (by rw [e];rfl))
 ·exact je h.rr fun k hk=>hbl k (fun e=>jy h.rr h.ir zd (k:=gi) rfl (by rw [hk,e])) (fun e=>jy h.rr h.tr zd (k:=gt) rfl (by rw [hk,e]))
 ·show World.ownsRow _ 0 _ 1 wv (VS.setW s.writes n v).length (jY ((VS.setW s.writes n v).map (·.1)));rw [ek,el];exact je h.wr fun k hk=>hbl k (fun e=>jy h.wr h.ir zd (k:=gi) rfl (by rw [hk,e])) (fun e=>jy h.wr h.tr zd (k:=gt) rfl (by rw [hk,e]))
theorem rput_old [AllF] (b:Nat) (i v:Int) (w:World) (S:Nat->Prop) (s:VS) (h:RV w b S s) (hu:VS.U32 v) (ht:s.there i=true) (u:Int) (hw:s.wr i.toNat=some u) :
 Calls prog 163 #[.pointer (some ⟨b,0,none⟩),.int .i64 i,.int .u32 v] w fun e w'=>e= .returned (.tuple #[])/\JQ w b S (s.put i v) w':=by
 have hinv:=(jk.inv h).put i v hu;have e:s.put i v={ s with writes:=VS.setW s.writes i.toNat v }:=by simp [VS.put,ht]
 rw [e] at hinv ⊢;obtain ⟨hi0,hi1,hm⟩:=VS.there_iff.1 ht;obtain ⟨n,rfl⟩:=Int.eq_ofNat_of_zero_le hi0;simp only [Int.toNat_natCast] at hw hinv ⊢;have hj:(wix s.writes n).isSome=true:=by
  cases hx:wix s.writes n with
  | none=>rw [jdf.2 hx] at hw;simp at hw
  | some _=>rfl
 obtain ⟨kv,vv,iv,tv,rv,wv,all,hv⟩:=h;have h0:=hv.cell 0;have h3:=hv.cell 3;have h4:=hv.cell 4;have h7:=hv.cell 7;have e7:qX s= -1:=by simp [qX,hm]
 simp [e7] at h0 h3 h4 h7;obtain ⟨gi,ci,rfl⟩:=Joins.ownsRow_form hv.ir zo;obtain ⟨gt,ct,rfl⟩:=Joins.ownsRow_form hv.tr zo;have ci0:w.cell? ⟨gi,n,none⟩=some (.bool true):=by rw [hv.ir.cellAt n zo,kB _ zo];simp [isF,hw]
 have ct0:w.cell? ⟨gt,n,none⟩=some (.int .u32 u):=by rw [hv.tr.cellAt n zo,kB _ zo];simp [toF,hw]
 have fi0:=hv.ir.frozenAt n;have ft0:=hv.tr.frozenAt n;have hbi:b≠gi:=fun x=>jm hv.ir hv.cells zd (by rw [x];rfl);have hbt:b≠gt:=fun x=>jm hv.tr hv.cells zd (by rw [x];rfl);have hit:gi≠gt:=fun e=>jy hv.ir hv.tr zd (k:=gt) rfl (by rw [e];rfl);have hib:=Ne.symm hbi;have htb:=Ne.symm hbt;have hti:=Ne.symm hit;have HV:=zh hv;have HI:=zh hinv;have HJ:=zh hj;clear hv hm ht hw e7 hinv e hu hj;go_enter func163,ntmps163;go_wp2;go_end0;exact ⟨rfl,XH HV.out HJ.out HI.out⟩
theorem XJ [AllF] {w w2:World} {b:Nat} {S:Nat->Prop} {s:VS} {kv vv rv wv:Value} {all:Bool} {n gi ci gt ct g' cap':Nat} {v:Int} {X:Obj}
 (h:RVs w b S s kv vv (.slice (some ⟨gi,0,none⟩) s.n ci) (.slice (some ⟨gt,0,none⟩) s.n ct) rv wv all) (hg:(w.alloc X).grownBy w2 wv.ownBlock)
 (hown:w2.ownsRow 0 3 1 (.slice (some ⟨g',0,none⟩) (s.writes.length+1) cap') (s.writes.length+1) (jY (s.writes.map (·.1))++[.int .i64 n]))
 (hnew:∀k,(Value.slice (some ⟨g',0,none⟩) (s.writes.length+1) cap').ownBlock=some k->wv.ownBlock=some k\/(w.alloc X).heap.size<=k)
 (hj:wix s.writes n=none) (hi:VS.Inv { s with writes:=VS.setW s.writes n v }) :
 JQ w b S { s with writes:=VS.setW s.writes n v } (((w2.setCell ⟨b,6,none⟩ (.slice (some ⟨g',0,none⟩) (s.writes.length+1) cap')).setCell ⟨gi,n,none⟩ (.bool true)).setCell ⟨gt,n,none⟩ (.int .u32 v)):=by
 have ib:=jm h.ir h.cells zd;have tb:=jm h.tr h.cells zd;have wb:=jm h.wr h.cells zd;have hne:gi≠gt:=fun e=>jy h.ir h.tr zd (k:=gt) rfl (by rw [e];rfl);have hg':=hnew g' rfl;have g'b:g'≠b:=by
  rintro rfl;rcases hg' with x | x
  ·exact wb x
  ·have:=h.lt _ h.inb;simp at x;omega
 have g'i:g'≠gi:=by
  rintro rfl;rcases hg' with x | x
  ·exact jy h.wr h.ir zd (k:=g') rfl x
  ·have:=h.lt _ (h.ini g' rfl);simp at x;omega
 have g't:g'≠gt:=by
  rintro rfl;rcases hg' with x | x
  ·exact jy h.wr h.tr zd (k:=g') rfl x
  ·have:=h.lt _ (h.int g' rfl);simp at x;omega
 have bi:b≠gi:=fun e=>ib (by rw [e];rfl);have bt:b≠gt:=fun e=>tb (by rw [e];rfl);have F:Fr S w (((w2.setCell ⟨b,6,none⟩ (.slice (some ⟨g',0,none⟩) (s.writes.length+1) cap')).setCell ⟨gi,n,none⟩ (.bool true)).setCell ⟨gt,n,none⟩ (.int .u32 v)):=
  (((((Fr.refl S w).alloc X).grown hg (fun k hk=>Or.inl (h.inw k hk))).setCell _ _ (Or.inl h.inb)).setCell _ _ (Or.inl (h.ini gi rfl))).setCell _ _ (Or.inl (h.int gt rfl))
 have hset:∀k,k≠gi->k≠gt->k≠b->(((w2.setCell ⟨b,6,none⟩ (.slice (some ⟨g',0,none⟩) (s.writes.length+1) cap')).setCell ⟨gi,n,none⟩ (.bool true)).setCell ⟨gt,n,none⟩ (.int .u32 v)).heap[k]? =w2.heap[k]? :=fun k h1 h2 h3=>by
  rw [Below.heap_setCell _ _ _ _ (by simpa using h2),Below.heap_setCell _ _ _ _ (by simpa using h1),Below.heap_setCell _ _ _ _ (by simpa using h3)]
 have hbl:∀k,S k->wv.ownBlock≠some k->k≠gi->k≠gt->k≠b->(((w2.setCell ⟨b,6,none⟩ (.slice (some ⟨g',0,none⟩) (s.writes.length+1) cap')).setCell ⟨gi,n,none⟩ (.bool true)).setCell ⟨gt,n,none⟩ (.int .u32 v)).heap[k]? =w.heap[k]? :=fun k hk h0 h1 h2 h3=>
  (hset k h1 h2 h3).trans (h.blk X hg hk h0)
 have i2:(w2.setCell ⟨b,6,none⟩ (.slice (some ⟨g',0,none⟩) (s.writes.length+1) cap')).heap[gi]? =w.heap[gi]? :=by
  rw [Below.heap_setCell _ _ _ _ (by simpa using fun e=>bi e.symm)];exact h.blk X hg (h.ini gi rfl) (jy h.wr h.ir zd rfl)
 have t2:(w2.setCell ⟨b,6,none⟩ (.slice (some ⟨g',0,none⟩) (s.writes.length+1) cap')).heap[gt]? =w.heap[gt]? :=by
  rw [Below.heap_setCell _ _ _ _ (by simpa using fun e=>bt e.symm)];exact h.blk X hg (h.int gt rfl) (jy h.wr h.tr zd rfl)
 obtain ⟨r1,r2⟩:=jbv (n:=n) (v:=v) (je (w':=w2.setCell ⟨b,6,none⟩ (.slice (some ⟨g',0,none⟩) (s.writes.length+1) cap')) h.ir (fun k hk=>by simp [Value.ownBlock] at hk;subst hk;exact i2)) (je (w':=w2.setCell ⟨b,6,none⟩ (.slice (some ⟨g',0,none⟩) (s.writes.length+1) cap')) h.tr (fun k hk=>by simp [Value.ownBlock] at hk;subst hk;exact t2)) hne;have bb:w2.heap[b]? =w.heap[b]? :=h.blk X hg h.inb wb;have es:VS.setW s.writes n v=s.writes++[(n,v)]:=by simp [VS.setW,hj]
 refine h.rebuild (rv':=rv) (wv':= .slice (some ⟨g',0,none⟩) (s.writes.length+1) cap') F ?_ rfl rfl ?_ ?_ r1 r2 ?_ ?_ ?_ (fun k hk=>Or.inl (h.inr k hk)) ?_ hi
 ·have:=Joins.block_setCell (i:=6) (bb.trans h.cells) (.slice (some ⟨g',0,none⟩) (s.writes.length+1) cap');rw [Below.heap_setCell _ _ _ _ (by simpa using bt),Below.heap_setCell _ _ _ _ (by simpa using bi),this];rfl
 ·exact fun k hk=>hbl k (h.ink k hk) (jy h.wr h.kr zd hk) (fun e=>h.d1 k hk (by rw [e];rfl)) (fun e=>jy h.kr h.tr zd (k:=gt) rfl (by rw [hk,e])) (fun e=>jm h.kr h.cells zd (by rw [hk,e]))
 ·exact fun k hk=>hbl k (h.inv' k hk) (jy h.wr h.vr zd hk) (fun e=>jy h.vr h.ir zd (k:=gi) rfl (by rw [hk,e])) (fun e=>h.d2 k hk (by rw [e];rfl)) (fun e=>jm h.vr h.cells zd (by rw [hk,e]))
 ·exact je h.rr fun k hk=>hbl k (h.inr k hk) (fun e=>h.d3 k hk e) (fun e=>jy h.rr h.ir zd (k:=gi) rfl (by rw [hk,e])) (fun e=>jy h.rr h.tr zd (k:=gt) rfl (by rw [hk,e])) (fun e=>jm h.rr h.cells zd (by rw [hk,e]))
 ·show World.ownsRow _ 0 _ 1 _ (VS.setW s.writes n v).length (jY ((VS.setW s.writes n v).map (·.1)));rw [es];have:=je (w':=((w2.setCell ⟨b,6,none⟩ (.slice (some ⟨g',0,none⟩) (s.writes.length+1) cap')).setCell ⟨gi,n,none⟩ (.bool true)).setCell ⟨gt,n,none⟩ (.int .u32 v)) hown (fun k hk=>by simp [Value.ownBlock] at hk;subst hk;exact hset _ g'i g't g'b);simpa [jY] using this
 ·intro k hk hk2;rcases hnew k hk2 with x | x
  ·exact h.d3 k hk x
  ·have:=jn h.rr hk;simp at x;omega
 ·intro k hk;rcases hnew k hk with x | x
  ·exact Or.inl (h.inw k x)
  ·simp at x;exact Or.inr zo
theorem rput_new [AllF] (b:Nat) (i v:Int) (w:World) (S:Nat->Prop) (s:VS) (h:RV w b S s) (hu:VS.U32 v) (ht:s.there i=true) (hw:s.wr i.toNat=none) :
 Calls prog 163 #[.pointer (some ⟨b,0,none⟩),.int .i64 i,.int .u32 v] w fun e w'=>e= .returned (.tuple #[])/\JQ w b S (s.put i v) w':=by
 have hinv:=(jk.inv h).put i v hu;have e:s.put i v={ s with writes:=VS.setW s.writes i.toNat v }:=by simp [VS.put,ht]
 rw [e] at hinv ⊢;obtain ⟨hi0,hi1,hm⟩:=VS.there_iff.1 ht;obtain ⟨n,rfl⟩:=Int.eq_ofNat_of_zero_le hi0;simp only [Int.toNat_natCast] at hw hinv ⊢;have hj:=jdf.1 hw;obtain ⟨kv,vv,iv,tv,rv,wv,all,hv⟩:=h;have h0:=hv.cell 0;have h3:=hv.cell 3;have h6:=hv.cell 6;have h7:=hv.cell 7;have e7:qX s= -1:=by simp [qX,hm]
 simp [e7] at h0 h3 h6 h7;obtain ⟨gi,ci,rfl⟩:=Joins.ownsRow_form hv.ir zo;obtain ⟨gt,ct,rfl⟩:=Joins.ownsRow_form hv.tr zo;have ci0:w.cell? ⟨gi,n,none⟩=some (.bool false):=by rw [hv.ir.cellAt n zo,kB _ zo];simp [isF,hw]
 have ct0:w.cell? ⟨gt,n,none⟩=some (.int .u32 0):=by rw [hv.tr.cellAt n zo,kB _ zo];simp [toF,hw]
 have CI:=zh ci0;have CT:=zh ct0;have fi0:=zh (hv.ir.frozenAt n);have ft0:=zh (hv.tr.frozenAt n);have hbi:b≠gi:=fun x=>jm hv.ir hv.cells zd (by rw [x];rfl);have hbt:b≠gt:=fun x=>jm hv.tr hv.cells zd (by rw [x];rfl);have hit:gi≠gt:=fun e=>jy hv.ir hv.tr zd (k:=gt) rfl (by rw [e];rfl);have hib:=Ne.symm hbi;have htb:=Ne.symm hbt;have hti:=Ne.symm hit;have hl:=hv.inv.writes_le;have hs:=hv.inv.small;have HV:=zh hv;have HI:=zh hinv;have HJ:=zh hj;obtain ⟨i0,hx0,hx1,hx2,hx3⟩:=info_parts KC;have HT:=zh (And.intro hx0 (And.intro hx1 (And.intro hx2 hx3)));clear hv hm ht hw e7 hinv e hu hj ct0 hx0 hx1 hx2 hx3;go_enter func163,ntmps163;go_wp2_with (at_builtin;go_must (refine jR rfl _ _ rfl 3 i0 (.int .i64 0) 1 8 underlying66 HT.out.1 HT.out.2.1 HT.out.2.2.1 HT.out.2.2.2 rfl zd wv s.writes.length (jY (s.writes.map (·.1))) rfl (HV.out.wr.alloc _) ⟨w.heap.size,0,none⟩ 1 1 [.int .i64 n] rfl rfl (cell_one_new _ _ _) ?c1 ?c2 ?c3 ?_);go_must (case c1=>(simp [Value.oneCell']));go_must (case c2=>(unfold maxLen;omega));go_must (case c3=>(omega));go_must (intro v' w2 hown2 hg2 hnew2 hnil2);clear hnil2;go_must (obtain ⟨g',cap',rfl⟩:=Joins.ownsRow_form hown2 zo);go_must (have bb:w2.heap[b]? =w.heap[b]? :=HV.out.blk _ hg2 HV.out.inb (jm HV.out.wr HV.out.cells zd));go_must (have e6:w2.cell? ⟨b,6,none⟩=some wv:=(World.cell?_of_block (a:=⟨b,6,none⟩) bb).trans h6);go_must (have f6:w2.frozen? ⟨b,6,none⟩=false:=jX _ _ _ (bb.trans HV.out.cells) _);go_must (have e3:w2.cell? ⟨b,3,none⟩=some (.slice (some ⟨gi,0,none⟩) s.n ci):=(World.cell?_of_block (a:=⟨b,3,none⟩) bb).trans ((HV.out.cell 3).trans rfl));go_must (have e4:w2.cell? ⟨b,4,none⟩=some (.slice (some ⟨gt,0,none⟩) s.n ct):=(World.cell?_of_block (a:=⟨b,4,none⟩) bb).trans ((HV.out.cell 4).trans rfl));go_must (have bi2:=HV.out.blk _ hg2 (HV.out.ini gi rfl) (jy HV.out.wr HV.out.ir zd rfl));go_must (have bt2:=HV.out.blk _ hg2 (HV.out.int gt rfl) (jy HV.out.wr HV.out.tr zd rfl));go_must (have ei:w2.cell? ⟨gi,n,none⟩=some (.bool false):=(World.cell?_of_block (a:=⟨gi,n,none⟩) bi2).trans CI.out);go_must (have et:w2.cell? ⟨gt,n,none⟩=some (.int .u32 0):=(World.cell?_of_block (a:=⟨gt,n,none⟩) bt2).trans CT.out);go_must (have fi:w2.frozen? ⟨gi,n,none⟩=false:=(World.frozen?_of_block (a:=⟨gi,n,none⟩) bi2).trans fi0.out);go_must (have ft:w2.frozen? ⟨gt,n,none⟩=false:=(World.frozen?_of_block (a:=⟨gt,n,none⟩) bt2).trans ft0.out);clear bb bi2 bt2);go_end0;exact ⟨rfl,XJ HV.out hg2 hown2 hnew2 HJ.out HI.out⟩
theorem jI [AllF] (b:Nat) (i v:Int) (w:World) (S:Nat->Prop) (s:VS) (h:RV w b S s) (hu:VS.U32 v) :
 Calls prog 163 #[.pointer (some ⟨b,0,none⟩),.int .i64 i,.int .u32 v] w fun e w'=>e= .returned (.tuple #[])/\JQ w b S (s.put i v) w':=by
 cases ht:s.there i with
 | false=>
  have e:s.put i v=s:=by simp [VS.put,ht]
  rw [e];exact (rput_no b i v w S s h ht).mono fun _ _ ⟨h1,h2⟩=>⟨h1,h2 ▸ JQ.refl h⟩
 | true=>
  cases hw:s.wr i.toNat with
  | some u=>exact rput_old b i v w S s h hu ht u hw
  | none=>exact rput_new b i v w S s h hu ht hw

theorem rpush_no [AllF] (b:Nat) (t p s head q:Int) (w:World) (S:Nat->Prop) (st:VS) (h:RV w b S st) (hq:j6 p q=false) :
 Calls prog 168 #[.pointer (some ⟨b,0,none⟩),.agg #[.int .i64 t,.int .i64 p,.int .i64 s],.int .i64 head,.int .i64 q] w fun e w'=>e= .returned (.tuple #[])/\JQ w b S st w':=by
 have hV:=(VSt.start jk h).alloc jk (.cells #[.int .i64 t,.int .i64 p,.int .i64 s] 23);clear h;by_cases h1:q < 0
 ·clear hq;go_enter func168,ntmps168;go_wp2;refine bodyPost_ret (results_none rfl _ _ _) rfl ?_;exact ⟨rfl,hV.done jk⟩
 ·have h2:p<=q:=by simp [j6] at hq;omega
  clear hq;go_enter func168,ntmps168;go_wp2;refine bodyPost_ret (results_none rfl _ _ _) rfl ?_;exact ⟨rfl,hV.done jk⟩
theorem jcc [AllF] (b:Nat) (t p s head q:Int) (w:World) (S:Nat->Prop) (st:VS) (h:RV w b S st) (hq:j6 p q=true) (hp:p<=1024) (h0:(st.get head).1=0) :
 Calls prog 168 #[.pointer (some ⟨b,0,none⟩),.agg #[.int .i64 t,.int .i64 p,.int .i64 s],.int .i64 head,.int .i64 q] w fun e w'=>e= .returned (.tuple #[])/\JQ w b S (qu t p s head q st) w':=by
 have hV:=(VSt.start jk h).alloc jk (.cells #[.int .i64 t,.int .i64 p,.int .i64 s] 23);have c0:=jp w #[.int .i64 t,.int .i64 p,.int .i64 s] 23;have hu:=VS.get_u32 (jk.inv h) head;have hF:qu t p s head q st=(((st.get head).2.put (ofF t p s q 2) (st.get head).1).put (ofF t p s q 3) 0).put head (q+1):=by simp [qu,hq,h0]
 rw [hF];have hb:((st.get head).1 != 0)=false:=by simp [h0]
 have hq1:0<=q:=by simp [j6] at hq;omega
 have hq5:q < p:=by simp [j6] at hq;omega
 have hq2:q < 1024:=zo;have HU:=zh hu;have HQ:VS.U32 (q+1):=⟨zo,zo⟩
 have HQ':=zh HQ;have hq3:IntKind.u32.wrap q=q:=IntWalk.u32_in _ zo;have hq4:IntKind.u32.wrap (q+1)=q+1:=IntWalk.u32_in _ zo;have hv3:IntKind.i64.wrap (st.get head).1=(st.get head).1:=jr _ (by have:=hu.1;have:=hu.2;omega);have hv4:IntKind.i64.wrap ((st.get head).1 - 1)=(st.get head).1 - 1:=jr _ (by have:=hu.1;have:=hu.2;omega);have HG:=zh (fun (w:World) (S1:Nat->Prop) (h1:RV w b S1 st)=>yg b head w S1 st h1);clear h hF hu HQ h0 hq;generalize (st.get head).2=s1 at*
 generalize (st.get head).1=v at*
 go_enter func168,ntmps168;go_wp2_with fail;refine zM (jf hV (HG.out _)) ?_;rintro w1 ⟨hV1,hV1l⟩;have c1:=jc hV1l zT c0;clear hV1l;go_wp2_with fail;refine zM (jj jk hV1 (qd _ _ _ _ _)) ?_;rintro w2 ⟨hV2,hV2l⟩;have c2:=jc hV2l zT c1;clear hV2l;go_wp2_with fail;refine zM (jf hV2 (fun S1 h1=>jI _ _ _ _ _ _ h1 HU.out)) ?_;rintro w3 ⟨hV3,hV3l⟩;have c3:=jc hV3l zT c2;clear hV3l;go_wp2_with fail;refine zM (jj jk hV3 (kQ _ _ _ _ _)) ?_;rintro w4 ⟨hV4,hV4l⟩;have c4:=jc hV4l zT c3;clear hV4l;go_wp2_with fail;refine zM (jf hV4 (fun S1 h1=>jI _ _ _ _ _ _ h1 VS.u32_zero)) ?_;rintro w5 ⟨hV5,hV5l⟩;have c5:=jc hV5l zT c4;clear hV5l;go_wp2_with fail;refine zM (jf hV5 (fun S1 h1=>jI _ _ _ _ _ _ h1 HQ'.out)) ?_;rintro w6 ⟨hV6,hV6l⟩;have c6:=jc hV6l zT c5;clear hV6l;go_wp2;go_end0;exact ⟨rfl,hV6.done jk⟩
theorem jcd [AllF] (b:Nat) (t p s head q:Int) (w:World) (S:Nat->Prop) (st:VS) (h:RV w b S st) (hq:j6 p q=true) (hp:p<=1024) (h0:(st.get head).1≠0) :
 Calls prog 168 #[.pointer (some ⟨b,0,none⟩),.agg #[.int .i64 t,.int .i64 p,.int .i64 s],.int .i64 head,.int .i64 q] w fun e w'=>e= .returned (.tuple #[])/\JQ w b S (qu t p s head q st) w':=by
 have hV:=(VSt.start jk h).alloc jk (.cells #[.int .i64 t,.int .i64 p,.int .i64 s] 23);have c0:=jp w #[.int .i64 t,.int .i64 p,.int .i64 s] 23;have hu:=VS.get_u32 (jk.inv h) head;have hF:qu t p s head q st=((((st.get head).2.put (ofF t p s q 2) (st.get head).1).put (ofF t p s q 3) 0).put (ofF t p s ((st.get head).1 - 1) 3) (q+1)).put head (q+1):=by simp [qu,hq,h0]
 rw [hF];have hb:((st.get head).1 != 0)=true:=by simp [h0]
 have hq1:0<=q:=by simp [j6] at hq;omega
 have hq5:q < p:=by simp [j6] at hq;omega
 have hq2:q < 1024:=zo;have HU:=zh hu;have HQ:VS.U32 (q+1):=⟨zo,zo⟩
 have HQ':=zh HQ;have hq3:IntKind.u32.wrap q=q:=IntWalk.u32_in _ zo;have hq4:IntKind.u32.wrap (q+1)=q+1:=IntWalk.u32_in _ zo;have hv3:IntKind.i64.wrap (st.get head).1=(st.get head).1:=jr _ (by have:=hu.1;have:=hu.2;omega);have hv4:IntKind.i64.wrap ((st.get head).1 - 1)=(st.get head).1 - 1:=jr _ (by have:=hu.1;have:=hu.2;omega);have HG:=zh (fun (w:World) (S1:Nat->Prop) (h1:RV w b S1 st)=>yg b head w S1 st h1);clear h hF hu HQ h0 hq;generalize (st.get head).2=s1 at*
 generalize (st.get head).1=v at*
 go_enter func168,ntmps168;go_wp2_with fail;refine zM (jf hV (HG.out _)) ?_;rintro w1 ⟨hV1,hV1l⟩;have c1:=jc hV1l zT c0;clear hV1l;go_wp2_with fail;refine zM (jj jk hV1 (qd _ _ _ _ _)) ?_;rintro w2 ⟨hV2,hV2l⟩;have c2:=jc hV2l zT c1;clear hV2l;go_wp2_with fail;refine zM (jf hV2 (fun S1 h1=>jI _ _ _ _ _ _ h1 HU.out)) ?_;rintro w3 ⟨hV3,hV3l⟩;have c3:=jc hV3l zT c2;clear hV3l;go_wp2_with fail;refine zM (jj jk hV3 (kQ _ _ _ _ _)) ?_;rintro w4 ⟨hV4,hV4l⟩;have c4:=jc hV4l zT c3;clear hV4l;go_wp2_with fail;refine zM (jf hV4 (fun S1 h1=>jI _ _ _ _ _ _ h1 VS.u32_zero)) ?_;rintro w5 ⟨hV5,hV5l⟩;have c5:=jc hV5l zT c4;clear hV5l;go_wp2_with fail;refine zM (jj jk hV5 (kQ _ _ _ _ _)) ?_;rintro w6 ⟨hV6,hV6l⟩;have c6:=jc hV6l zT c5;clear hV6l;go_wp2_with fail;refine zM (jf hV6 (fun S1 h1=>jI _ _ _ _ _ _ h1 HQ'.out)) ?_;rintro w7 ⟨hV7,hV7l⟩;have c7:=jc hV7l zT c6;clear hV7l;go_wp2_with fail;refine zM (jf hV7 (fun S1 h1=>jI _ _ _ _ _ _ h1 HQ'.out)) ?_;rintro w8 ⟨hV8,hV8l⟩;have c8:=jc hV8l zT c7;clear hV8l;go_wp2;go_end0;exact ⟨rfl,hV8.done jk⟩
theorem Xi [AllF] (b:Nat) (t p s head q:Int) (w:World) (S:Nat->Prop) (st:VS) (h:RV w b S st) (hp:p<=1024) :
 Calls prog 168 #[.pointer (some ⟨b,0,none⟩),.agg #[.int .i64 t,.int .i64 p,.int .i64 s],.int .i64 head,.int .i64 q] w fun e w'=>e= .returned (.tuple #[])/\JQ w b S (qu t p s head q st) w':=by
 cases hq:j6 p q with
 | false=>
  have hF:qu t p s head q st=st:=by simp [qu,hq]
  rw [hF];exact rpush_no b t p s head q w S st h hq
 | true=>
  by_cases h0:(st.get head).1=0
  ·exact jcc b t p s head q w S st h hq hp h0
  ·exact jcd b t p s head q w S st h hq hp h0

theorem rpull_no [AllF] (b:Nat) (t p s head q:Int) (w:World) (S:Nat->Prop) (st:VS) (h:RV w b S st) (hq:j6 p q=false) :
 Calls prog 165 #[.pointer (some ⟨b,0,none⟩),.agg #[.int .i64 t,.int .i64 p,.int .i64 s],.int .i64 head,.int .i64 q] w fun e w'=>e= .returned (.tuple #[])/\JQ w b S st w':=by
 have hV:=(VSt.start jk h).alloc jk (.cells #[.int .i64 t,.int .i64 p,.int .i64 s] 23);clear h;by_cases h1:q < 0
 ·clear hq;go_enter func165,ntmps165;go_wp2;refine bodyPost_ret (results_none rfl _ _ _) rfl ?_;exact ⟨rfl,hV.done jk⟩
 ·have h2:p<=q:=by simp [j6] at hq;omega
  clear hq;go_enter func165,ntmps165;go_wp2;refine bodyPost_ret (results_none rfl _ _ _) rfl ?_;exact ⟨rfl,hV.done jk⟩
theorem jch [AllF] (b:Nat) (t p s head q:Int) (w:World) (S:Nat->Prop) (st s1 s2:VS) (v u:Int) (h:RV w b S st) (hq:j6 p q=true) (e1:st.get (ofF t p s q 2)=(v,s1)) (e2:s1.get (ofF t p s q 3)=(u,s2)) (h0:u=0) (h1:v=0) :
 Calls prog 165 #[.pointer (some ⟨b,0,none⟩),.agg #[.int .i64 t,.int .i64 p,.int .i64 s],.int .i64 head,.int .i64 q] w fun e w'=>e= .returned (.tuple #[])/\JQ w b S (((s2.put head v).put (ofF t p s q 2) 0).put (ofF t p s q 3) 0) w':=by
 have hV:=(VSt.start jk h).alloc jk (.cells #[.int .i64 t,.int .i64 p,.int .i64 s] 23);have c0:=jp w #[.int .i64 t,.int .i64 p,.int .i64 s] 23;have i1:=(jk.inv h).get (ofF t p s q 2);have u1:=VS.get_u32 (jk.inv h) (ofF t p s q 2);rw [e1] at i1 u1;have u2:=VS.get_u32 i1 (ofF t p s q 3);rw [e2] at u2;have HU1:=zh u1;have HU2:=zh u2;have G1:=fun (w:World) (S1:Nat->Prop) (h1:RV w b S1 st)=>yg b (ofF t p s q 2) w S1 st h1;have G2:=fun (w:World) (S1:Nat->Prop) (h1:RV w b S1 s1)=>yg b (ofF t p s q 3) w S1 s1 h1;rw [e1] at G1;rw [e2] at G2;have HG1:=zh G1;have HG2:=zh G2;have hb:(u == 0)=true:=by simp [h0]
 have hc:(v != 0)=false:=by simp [h1]
 have hq1:0<=q:=by simp [j6] at hq;omega
 have hq5:q < p:=by simp [j6] at hq;omega
 have hv3:IntKind.i64.wrap v=v:=jr _ (by have:=u1.1;have:=u1.2;omega);have hv4:IntKind.i64.wrap (v - 1)=v - 1:=jr _ (by have:=u1.1;have:=u1.2;omega);have hu3:IntKind.i64.wrap u=u:=jr _ (by have:=u2.1;have:=u2.2;omega);have hu4:IntKind.i64.wrap (u - 1)=u - 1:=jr _ (by have:=u2.1;have:=u2.2;omega);clear h i1 u1 u2 G1 G2 e1 e2 h0 h1 hq;go_enter func165,ntmps165;go_wp2_with fail;refine zM (jj jk hV (qd _ _ _ _ _)) ?_;rintro w1 ⟨hV1,hV1l⟩;have c1:=jc hV1l zT c0;clear hV1l;go_wp2_with fail;refine zM (jf hV1 (HG1.out _)) ?_;rintro w2 ⟨hV2,hV2l⟩;have c2:=jc hV2l zT c1;clear hV2l;go_wp2_with fail;refine zM (jj jk hV2 (kQ _ _ _ _ _)) ?_;rintro w3 ⟨hV3,hV3l⟩;have c3:=jc hV3l zT c2;clear hV3l;go_wp2_with fail;refine zM (jf hV3 (HG2.out _)) ?_;rintro w4 ⟨hV4,hV4l⟩;have c4:=jc hV4l zT c3;clear hV4l;go_wp2_with fail;refine zM (jf hV4 (fun S1 h1=>jI _ _ _ _ _ _ h1 HU1.out)) ?_;rintro w5 ⟨hV5,hV5l⟩;have c5:=jc hV5l zT c4;clear hV5l;go_wp2_with fail;refine zM (jj jk hV5 (qd _ _ _ _ _)) ?_;rintro w6 ⟨hV6,hV6l⟩;have c6:=jc hV6l zT c5;clear hV6l;go_wp2_with fail;refine zM (jf hV6 (fun S1 h1=>jI _ _ _ _ _ _ h1 VS.u32_zero)) ?_;rintro w7 ⟨hV7,hV7l⟩;have c7:=jc hV7l zT c6;clear hV7l;go_wp2_with fail;refine zM (jj jk hV7 (kQ _ _ _ _ _)) ?_;rintro w8 ⟨hV8,hV8l⟩;have c8:=jc hV8l zT c7;clear hV8l;go_wp2_with fail;refine zM (jf hV8 (fun S1 h1=>jI _ _ _ _ _ _ h1 VS.u32_zero)) ?_;rintro w9 ⟨hV9,hV9l⟩;have c9:=jc hV9l zT c8;clear hV9l;go_wp2;go_end0;exact ⟨rfl,hV9.done jk⟩
theorem jcg [AllF] (b:Nat) (t p s head q:Int) (w:World) (S:Nat->Prop) (st s1 s2:VS) (v u:Int) (h:RV w b S st) (hq:j6 p q=true) (e1:st.get (ofF t p s q 2)=(v,s1)) (e2:s1.get (ofF t p s q 3)=(u,s2)) (h0:u=0) (h1:v≠0) :
 Calls prog 165 #[.pointer (some ⟨b,0,none⟩),.agg #[.int .i64 t,.int .i64 p,.int .i64 s],.int .i64 head,.int .i64 q] w fun e w'=>e= .returned (.tuple #[])/\JQ w b S ((((s2.put head v).put (ofF t p s (v - 1) 3) u).put (ofF t p s q 2) 0).put (ofF t p s q 3) 0) w':=by
 have hV:=(VSt.start jk h).alloc jk (.cells #[.int .i64 t,.int .i64 p,.int .i64 s] 23);have c0:=jp w #[.int .i64 t,.int .i64 p,.int .i64 s] 23;have i1:=(jk.inv h).get (ofF t p s q 2);have u1:=VS.get_u32 (jk.inv h) (ofF t p s q 2);rw [e1] at i1 u1;have u2:=VS.get_u32 i1 (ofF t p s q 3);rw [e2] at u2;have HU1:=zh u1;have HU2:=zh u2;have G1:=fun (w:World) (S1:Nat->Prop) (h1:RV w b S1 st)=>yg b (ofF t p s q 2) w S1 st h1;have G2:=fun (w:World) (S1:Nat->Prop) (h1:RV w b S1 s1)=>yg b (ofF t p s q 3) w S1 s1 h1;rw [e1] at G1;rw [e2] at G2;have HG1:=zh G1;have HG2:=zh G2;have hb:(u == 0)=true:=by simp [h0]
 have hc:(v != 0)=true:=by simp [h1]
 have hq1:0<=q:=by simp [j6] at hq;omega
 have hq5:q < p:=by simp [j6] at hq;omega
 have hv3:IntKind.i64.wrap v=v:=jr _ (by have:=u1.1;have:=u1.2;omega);have hv4:IntKind.i64.wrap (v - 1)=v - 1:=jr _ (by have:=u1.1;have:=u1.2;omega);have hu3:IntKind.i64.wrap u=u:=jr _ (by have:=u2.1;have:=u2.2;omega);have hu4:IntKind.i64.wrap (u - 1)=u - 1:=jr _ (by have:=u2.1;have:=u2.2;omega);clear h i1 u1 u2 G1 G2 e1 e2 h0 h1 hq;go_enter func165,ntmps165;go_wp2_with fail;refine zM (jj jk hV (qd _ _ _ _ _)) ?_;rintro w1 ⟨hV1,hV1l⟩;have c1:=jc hV1l zT c0;clear hV1l;go_wp2_with fail;refine zM (jf hV1 (HG1.out _)) ?_;rintro w2 ⟨hV2,hV2l⟩;have c2:=jc hV2l zT c1;clear hV2l;go_wp2_with fail;refine zM (jj jk hV2 (kQ _ _ _ _ _)) ?_;rintro w3 ⟨hV3,hV3l⟩;have c3:=jc hV3l zT c2;clear hV3l;go_wp2_with fail;refine zM (jf hV3 (HG2.out _)) ?_;rintro w4 ⟨hV4,hV4l⟩;have c4:=jc hV4l zT c3;clear hV4l;go_wp2_with fail;refine zM (jf hV4 (fun S1 h1=>jI _ _ _ _ _ _ h1 HU1.out)) ?_;rintro w5 ⟨hV5,hV5l⟩;have c5:=jc hV5l zT c4;clear hV5l;go_wp2_with fail;refine zM (jj jk hV5 (kQ _ _ _ _ _)) ?_;rintro w6 ⟨hV6,hV6l⟩;have c6:=jc hV6l zT c5;clear hV6l;go_wp2_with fail;refine zM (jf hV6 (fun S1 h1=>jI _ _ _ _ _ _ h1 HU2.out)) ?_;rintro w7 ⟨hV7,hV7l⟩;have c7:=jc hV7l zT c6;clear hV7l;go_wp2_with fail;refine zM (jj jk hV7 (qd _ _ _ _ _)) ?_;rintro w8 ⟨hV8,hV8l⟩;have c8:=jc hV8l zT c7;clear hV8l;go_wp2_with fail;refine zM (jf hV8 (fun S1 h1=>jI _ _ _ _ _ _ h1 VS.u32_zero)) ?_;rintro w9 ⟨hV9,hV9l⟩;have c9:=jc hV9l zT c8;clear hV9l;go_wp2_with fail;refine zM (jj jk hV9 (kQ _ _ _ _ _)) ?_;rintro w10 ⟨hV10,hV10l⟩;have c10:=jc hV10l zT c9;clear hV10l;go_wp2_with fail;refine zM (jf hV10 (fun S1 h1=>jI _ _ _ _ _ _ h1 VS.u32_zero)) ?_;rintro w11 ⟨hV11,hV11l⟩;have c11:=jc hV11l zT c10;clear hV11l;go_wp2;go_end0;exact ⟨rfl,hV11.done jk⟩
theorem jcf [AllF] (b:Nat) (t p s head q:Int) (w:World) (S:Nat->Prop) (st s1 s2:VS) (v u:Int) (h:RV w b S st) (hq:j6 p q=true) (e1:st.get (ofF t p s q 2)=(v,s1)) (e2:s1.get (ofF t p s q 3)=(u,s2)) (h0:u≠0) (h1:v=0) :
 Calls prog 165 #[.pointer (some ⟨b,0,none⟩),.agg #[.int .i64 t,.int .i64 p,.int .i64 s],.int .i64 head,.int .i64 q] w fun e w'=>e= .returned (.tuple #[])/\JQ w b S (((s2.put (ofF t p s (u - 1) 2) v).put (ofF t p s q 2) 0).put (ofF t p s q 3) 0) w':=by
 have hV:=(VSt.start jk h).alloc jk (.cells #[.int .i64 t,.int .i64 p,.int .i64 s] 23);have c0:=jp w #[.int .i64 t,.int .i64 p,.int .i64 s] 23;have i1:=(jk.inv h).get (ofF t p s q 2);have u1:=VS.get_u32 (jk.inv h) (ofF t p s q 2);rw [e1] at i1 u1;have u2:=VS.get_u32 i1 (ofF t p s q 3);rw [e2] at u2;have HU1:=zh u1;have HU2:=zh u2;have G1:=fun (w:World) (S1:Nat->Prop) (h1:RV w b S1 st)=>yg b (ofF t p s q 2) w S1 st h1;have G2:=fun (w:World) (S1:Nat->Prop) (h1:RV w b S1 s1)=>yg b (ofF t p s q 3) w S1 s1 h1;rw [e1] at G1;rw [e2] at G2;have HG1:=zh G1;have HG2:=zh G2;have hb:(u == 0)=false:=by simp [h0]
 have hc:(v != 0)=false:=by simp [h1]
 have hq1:0<=q:=by simp [j6] at hq;omega
 have hq5:q < p:=by simp [j6] at hq;omega
 have hv3:IntKind.i64.wrap v=v:=jr _ (by have:=u1.1;have:=u1.2;omega);have hv4:IntKind.i64.wrap (v - 1)=v - 1:=jr _ (by have:=u1.1;have:=u1.2;omega);have hu3:IntKind.i64.wrap u=u:=jr _ (by have:=u2.1;have:=u2.2;omega);have hu4:IntKind.i64.wrap (u - 1)=u - 1:=jr _ (by have:=u2.1;have:=u2.2;omega);clear h i1 u1 u2 G1 G2 e1 e2 h0 h1 hq;go_enter func165,ntmps165;go_wp2_with fail;refine zM (jj jk hV (qd _ _ _ _ _)) ?_;rintro w1 ⟨hV1,hV1l⟩;have c1:=jc hV1l zT c0;clear hV1l;go_wp2_with fail;refine zM (jf hV1 (HG1.out _)) ?_;rintro w2 ⟨hV2,hV2l⟩;have c2:=jc hV2l zT c1;clear hV2l;go_wp2_with fail;refine zM (jj jk hV2 (kQ _ _ _ _ _)) ?_;rintro w3 ⟨hV3,hV3l⟩;have c3:=jc hV3l zT c2;clear hV3l;go_wp2_with fail;refine zM (jf hV3 (HG2.out _)) ?_;rintro w4 ⟨hV4,hV4l⟩;have c4:=jc hV4l zT c3;clear hV4l;go_wp2_with fail;refine zM (jj jk hV4 (qd _ _ _ _ _)) ?_;rintro w5 ⟨hV5,hV5l⟩;have c5:=jc hV5l zT c4;clear hV5l;go_wp2_with fail;refine zM (jf hV5 (fun S1 h1=>jI _ _ _ _ _ _ h1 HU1.out)) ?_;rintro w6 ⟨hV6,hV6l⟩;have c6:=jc hV6l zT c5;clear hV6l;go_wp2_with fail;refine zM (jj jk hV6 (qd _ _ _ _ _)) ?_;rintro w7 ⟨hV7,hV7l⟩;have c7:=jc hV7l zT c6;clear hV7l;go_wp2_with fail;refine zM (jf hV7 (fun S1 h1=>jI _ _ _ _ _ _ h1 VS.u32_zero)) ?_;rintro w8 ⟨hV8,hV8l⟩;have c8:=jc hV8l zT c7;clear hV8l;go_wp2_with fail;refine zM (jj jk hV8 (kQ _ _ _ _ _)) ?_;rintro w9 ⟨hV9,hV9l⟩;have c9:=jc hV9l zT c8;clear hV9l;go_wp2_with fail;refine zM (jf hV9 (fun S1 h1=>jI _ _ _ _ _ _ h1 VS.u32_zero)) ?_;rintro w10 ⟨hV10,hV10l⟩;have c10:=jc hV10l zT c9;clear hV10l;go_wp2;go_end0;exact ⟨rfl,hV10.done jk⟩
theorem jce [AllF] (b:Nat) (t p s head q:Int) (w:World) (S:Nat->Prop) (st s1 s2:VS) (v u:Int) (h:RV w b S st) (hq:j6 p q=true) (e1:st.get (ofF t p s q 2)=(v,s1)) (e2:s1.get (ofF t p s q 3)=(u,s2)) (h0:u≠0) (h1:v≠0) :
 Calls prog 165 #[.pointer (some ⟨b,0,none⟩),.agg #[.int .i64 t,.int .i64 p,.int .i64 s],.int .i64 head,.int .i64 q] w fun e w'=>e= .returned (.tuple #[])/\JQ w b S ((((s2.put (ofF t p s (u - 1) 2) v).put (ofF t p s (v - 1) 3) u).put (ofF t p s q 2) 0).put (ofF t p s q 3) 0) w':=by
 have hV:=(VSt.start jk h).alloc jk (.cells #[.int .i64 t,.int .i64 p,.int .i64 s] 23);have c0:=jp w #[.int .i64 t,.int .i64 p,.int .i64 s] 23;have i1:=(jk.inv h).get (ofF t p s q 2);have u1:=VS.get_u32 (jk.inv h) (ofF t p s q 2);rw [e1] at i1 u1;have u2:=VS.get_u32 i1 (ofF t p s q 3);rw [e2] at u2;have HU1:=zh u1;have HU2:=zh u2;have G1:=fun (w:World) (S1:Nat->Prop) (h1:RV w b S1 st)=>yg b (ofF t p s q 2) w S1 st h1;have G2:=fun (w:World) (S1:Nat->Prop) (h1:RV w b S1 s1)=>yg b (ofF t p s q 3) w S1 s1 h1;rw [e1] at G1;rw [e2] at G2;have HG1:=zh G1;have HG2:=zh G2;have hb:(u == 0)=false:=by simp [h0]
 have hc:(v != 0)=true:=by simp [h1]
 have hq1:0<=q:=by simp [j6] at hq;omega
 have hq5:q < p:=by simp [j6] at hq;omega
 have hv3:IntKind.i64.wrap v=v:=jr _ (by have:=u1.1;have:=u1.2;omega);have hv4:IntKind.i64.wrap (v - 1)=v - 1:=jr _ (by have:=u1.1;have:=u1.2;omega);have hu3:IntKind.i64.wrap u=u:=jr _ (by have:=u2.1;have:=u2.2;omega);have hu4:IntKind.i64.wrap (u - 1)=u - 1:=jr _ (by have:=u2.1;have:=u2.2;omega);clear h i1 u1 u2 G1 G2 e1 e2 h0 h1 hq;go_enter func165,ntmps165;go_wp2_with fail;refine zM (jj jk hV (qd _ _ _ _ _)) ?_;rintro w1 ⟨hV1,hV1l⟩;have c1:=jc hV1l zT c0;clear hV1l;go_wp2_with fail;refine zM (jf hV1 (HG1.out _)) ?_;rintro w2 ⟨hV2,hV2l⟩;have c2:=jc hV2l zT c1;clear hV2l;go_wp2_with fail;refine zM (jj jk hV2 (kQ _ _ _ _ _)) ?_;rintro w3 ⟨hV3,hV3l⟩;have c3:=jc hV3l zT c2;clear hV3l;go_wp2_with fail;refine zM (jf hV3 (HG2.out _)) ?_;rintro w4 ⟨hV4,hV4l⟩;have c4:=jc hV4l zT c3;clear hV4l;go_wp2_with fail;refine zM (jj jk hV4 (qd _ _ _ _ _)) ?_;rintro w5 ⟨hV5,hV5l⟩;have c5:=jc hV5l zT c4;clear hV5l;go_wp2_with fail;refine zM (jf hV5 (fun S1 h1=>jI _ _ _ _ _ _ h1 HU1.out)) ?_;rintro w6 ⟨hV6,hV6l⟩;have c6:=jc hV6l zT c5;clear hV6l;go_wp2_with fail;refine zM (jj jk hV6 (kQ _ _ _ _ _)) ?_;rintro w7 ⟨hV7,hV7l⟩;have c7:=jc hV7l zT c6;clear hV7l;go_wp2_with fail;refine zM (jf hV7 (fun S1 h1=>jI _ _ _ _ _ _ h1 HU2.out)) ?_;rintro w8 ⟨hV8,hV8l⟩;have c8:=jc hV8l zT c7;clear hV8l;go_wp2_with fail;refine zM (jj jk hV8 (qd _ _ _ _ _)) ?_;rintro w9 ⟨hV9,hV9l⟩;have c9:=jc hV9l zT c8;clear hV9l;go_wp2_with fail;refine zM (jf hV9 (fun S1 h1=>jI _ _ _ _ _ _ h1 VS.u32_zero)) ?_;rintro w10 ⟨hV10,hV10l⟩;have c10:=jc hV10l zT c9;clear hV10l;go_wp2_with fail;refine zM (jj jk hV10 (kQ _ _ _ _ _)) ?_;rintro w11 ⟨hV11,hV11l⟩;have c11:=jc hV11l zT c10;clear hV11l;go_wp2_with fail;refine zM (jf hV11 (fun S1 h1=>jI _ _ _ _ _ _ h1 VS.u32_zero)) ?_;rintro w12 ⟨hV12,hV12l⟩;have c12:=jc hV12l zT c11;clear hV12l;go_wp2;go_end0;exact ⟨rfl,hV12.done jk⟩
theorem Xj [AllF] (b:Nat) (t p s head q:Int) (w:World) (S:Nat->Prop) (st:VS) (h:RV w b S st) :
 Calls prog 165 #[.pointer (some ⟨b,0,none⟩),.agg #[.int .i64 t,.int .i64 p,.int .i64 s],.int .i64 head,.int .i64 q] w fun e w'=>e= .returned (.tuple #[])/\JQ w b S (qi t p s head q st) w':=by
 cases hq:j6 p q with
 | false=>
  have hF:qi t p s head q st=st:=by simp [qi,hq]
  rw [hF];exact rpull_no b t p s head q w S st h hq
 | true=>
  obtain ⟨v,s1,e1⟩:∃v s1,st.get (ofF t p s q 2)=(v,s1):=⟨_,_,rfl⟩
  obtain ⟨u,s2,e2⟩:∃u s2,s1.get (ofF t p s q 3)=(u,s2):=⟨_,_,rfl⟩
  by_cases h0:u=0 <;> by_cases h1:v=0
  ·have:=jch b t p s head q w S st s1 s2 v u h hq e1 e2 h0 h1;simpa [qi,hq,e1,e2,h0,h1] using this
  ·have:=jcg b t p s head q w S st s1 s2 v u h hq e1 e2 h0 h1;simpa [qi,hq,e1,e2,h0,h1] using this
  ·have:=jcf b t p s head q w S st s1 s2 v u h hq e1 e2 h0 h1;simpa [qi,hq,e1,e2,h0,h1] using this
  ·have:=jce b t p s head q w S st s1 s2 v u h hq e1 e2 h0 h1;simpa [qi,hq,e1,e2,h0,h1] using this

structure BSt (w wr:World) (b n:Nat) (kv vv iv tv:Value) (n1 n2 n3 n4:Nat) (x1 x2 x3 x4:List Value) (all:Bool):Prop where
 cells:wr.heap[b]? =some (.cells #[.int .i64 n,kv,vv,iv,tv,.slice none 0 0,.slice none 0 0,.int .i64 (-1),.bool all] 167)
 r1:wr.ownsRow 0 4 1 kv n1 x1
 r2:wr.ownsRow 0 44 1 vv n2 x2
 r3:wr.ownsRow 0 4 1 iv n3 x3
 r4:wr.ownsRow 0 44 1 tv n4 x4
 d1:∀k,kv.ownBlock=some k->iv.ownBlock≠some k
 d2:∀k,vv.ownBlock=some k->tv.ownBlock≠some k
 bel:Below w.heap.size w wr
 hb:w.heap.size<=b
 g1:∀k,kv.ownBlock=some k->w.heap.size<=k
 g2:∀k,vv.ownBlock=some k->w.heap.size<=k
 g3:∀k,iv.ownBlock=some k->w.heap.size<=k
 g4:∀k,tv.ownBlock=some k->w.heap.size<=k
theorem BSt.cell {w wr:World} {b n:Nat} {kv vv iv tv:Value} {n1 n2 n3 n4:Nat} {x1 x2 x3 x4:List Value} {all:Bool} (h:BSt w wr b n kv vv iv tv n1 n2 n3 n4 x1 x2 x3 x4 all) (o:Nat) :
 wr.cell? ⟨b,o,none⟩=(#[.int .i64 n,kv,vv,iv,tv,.slice none 0 0,.slice none 0 0,.int .i64 (-1),.bool all]:Array Value)[o]? :=jd h.cells
theorem BSt.blt {w wr:World} {b n:Nat} {kv vv iv tv:Value} {n1 n2 n3 n4:Nat} {x1 x2 x3 x4:List Value} {all:Bool} (h:BSt w wr b n kv vv iv tv n1 n2 n3 n4 x1 x2 x3 x4 all):b < wr.heap.size:=(Array.getElem?_eq_some_iff.1 h.cells).1
theorem BSt.old1 {w wr:World} {b n:Nat} {kv vv iv tv:Value} {n1 n2 n3 n4:Nat} {x1 x2 x3 x4:List Value} {all:Bool} (h:BSt w wr b n kv vv iv tv n1 n2 n3 n4 x1 x2 x3 x4 all) {w2:World} {X:Obj} (hg:(wr.alloc X).grownBy w2 kv.ownBlock):w2.heap[b]? =wr.heap[b]? :=by
 have hbl:=h.blt;rw [hg.block b (by simp;omega) (fun e=>jm h.r1 h.cells zd e.symm),Below.heap_alloc _ _ _ hbl]
theorem BSt.app1 {w wr:World} {b n:Nat} {kv vv iv tv:Value} {n1 n2 n3 n4:Nat} {x1 x2 x3 x4:List Value} {all:Bool} (h:BSt w wr b n kv vv iv tv n1 n2 n3 n4 x1 x2 x3 x4 all) {w2:World} {X:Obj} {v':Value} (hg:(wr.alloc X).grownBy w2 kv.ownBlock) (hown:w2.ownsRow 0 4 1 v' (n1+1) (x1++[.bool false]))
 (hnew:∀k,v'.ownBlock=some k->kv.ownBlock=some k\/(wr.alloc X).heap.size<=k) :
 BSt w (w2.setCell ⟨b,1,none⟩ v') b n v' vv iv tv (n1+1) n2 n3 n4 (x1++[.bool false]) x2 x3 x4 all:=by
 have bb:=h.old1 hg;have hbl:=h.blt;have vb:=jm h.r1 h.cells zd;have hne:∀k,v'.ownBlock=some k->k≠b:=by
  rintro k hk rfl;rcases hnew _ hk with x | x
  ·exact vb x
  ·simp at x;omega
 have hbk:∀k,k < wr.heap.size->kv.ownBlock≠some k->k≠b->(w2.setCell ⟨b,1,none⟩ v').heap[k]? =wr.heap[k]? :=fun k hk h1 h2=>by
  rw [Below.heap_setCell _ _ _ _ (by simpa using h2),hg.block k (by simp;omega) (fun e=>h1 e.symm),Below.heap_alloc _ _ _ hk]
 have hsz:=h.bel.size;refine ⟨?_,?_,?_,?_,?_,?_,?_,?_,h.hb,?_,?_,?_,?_⟩
 ·have:=Joins.block_setCell (i:=1) (bb.trans h.cells) v';rw [this];rfl
 ·exact je hown fun k hk=>Below.heap_setCell _ _ _ _ (by simpa using hne k hk)
 ·exact je h.r2 fun k hk=>hbk k (jn h.r2 hk) (fun e=>jy h.r2 h.r1 zd e hk) (fun e=>jm h.r2 h.cells zd (e ▸ hk))
 ·exact je h.r3 fun k hk=>hbk k (jn h.r3 hk) (fun e=>h.d1 k e hk) (fun e=>jm h.r3 h.cells zd (e ▸ hk))
 ·exact je h.r4 fun k hk=>hbk k (jn h.r4 hk) (fun e=>jy h.r4 h.r1 zd e hk) (fun e=>jm h.r4 h.cells zd (e ▸ hk))
 ·intro k hk hk2;rcases hnew k hk with x | x
  ·exact h.d1 k x hk2
  ·have:=jn h.r3 hk2;simp at x;omega
 ·exact h.d2
 ·exact ((((Fr.of_below (S:=fun k=>w.heap.size<=k) h.bel).alloc X).grown hg (fun k hk=>Or.inl (h.g1 k hk))).setCell _ _ (Or.inl h.hb)).below (Nat.le_refl _) (fun _ x=>x)
 ·intro k hk;rcases hnew k hk with x | x
  ·exact h.g1 k x
  ·simp at x;omega
 ·exact h.g2
 ·exact h.g3
 ·exact h.g4
theorem BSt.old2 {w wr:World} {b n:Nat} {kv vv iv tv:Value} {n1 n2 n3 n4:Nat} {x1 x2 x3 x4:List Value} {all:Bool} (h:BSt w wr b n kv vv iv tv n1 n2 n3 n4 x1 x2 x3 x4 all) {w2:World} {X:Obj} (hg:(wr.alloc X).grownBy w2 vv.ownBlock):w2.heap[b]? =wr.heap[b]? :=by
 have hbl:=h.blt;rw [hg.block b (by simp;omega) (fun e=>jm h.r2 h.cells zd e.symm),Below.heap_alloc _ _ _ hbl]
theorem BSt.app2 {w wr:World} {b n:Nat} {kv vv iv tv:Value} {n1 n2 n3 n4:Nat} {x1 x2 x3 x4:List Value} {all:Bool} (h:BSt w wr b n kv vv iv tv n1 n2 n3 n4 x1 x2 x3 x4 all) {w2:World} {X:Obj} {v':Value} (hg:(wr.alloc X).grownBy w2 vv.ownBlock) (hown:w2.ownsRow 0 44 1 v' (n2+1) (x2++[.int .u32 0]))
 (hnew:∀k,v'.ownBlock=some k->vv.ownBlock=some k\/(wr.alloc X).heap.size<=k) :
 BSt w (w2.setCell ⟨b,2,none⟩ v') b n kv v' iv tv n1 (n2+1) n3 n4 x1 (x2++[.int .u32 0]) x3 x4 all:=by
 have bb:=h.old2 hg;have hbl:=h.blt;have vb:=jm h.r2 h.cells zd;have hne:∀k,v'.ownBlock=some k->k≠b:=by
  rintro k hk rfl;rcases hnew _ hk with x | x
  ·exact vb x
  ·simp at x;omega
 have hbk:∀k,k < wr.heap.size->vv.ownBlock≠some k->k≠b->(w2.setCell ⟨b,2,none⟩ v').heap[k]? =wr.heap[k]? :=fun k hk h1 h2=>by
  rw [Below.heap_setCell _ _ _ _ (by simpa using h2),hg.block k (by simp;omega) (fun e=>h1 e.symm),Below.heap_alloc _ _ _ hk]
 have hsz:=h.bel.size;refine ⟨?_,?_,?_,?_,?_,?_,?_,?_,h.hb,?_,?_,?_,?_⟩
 ·have:=Joins.block_setCell (i:=2) (bb.trans h.cells) v';rw [this];rfl
 ·exact je h.r1 fun k hk=>hbk k (jn h.r1 hk) (fun e=>jy h.r1 h.r2 zd e hk) (fun e=>jm h.r1 h.cells zd (e ▸ hk))
 ·exact je hown fun k hk=>Below.heap_setCell _ _ _ _ (by simpa using hne k hk)
 ·exact je h.r3 fun k hk=>hbk k (jn h.r3 hk) (fun e=>jy h.r3 h.r2 zd e hk) (fun e=>jm h.r3 h.cells zd (e ▸ hk))
 ·exact je h.r4 fun k hk=>hbk k (jn h.r4 hk) (fun e=>h.d2 k e hk) (fun e=>jm h.r4 h.cells zd (e ▸ hk))
 ·exact h.d1
 ·intro k hk hk2;rcases hnew k hk with x | x
  ·exact h.d2 k x hk2
  ·have:=jn h.r4 hk2;simp at x;omega
 ·exact ((((Fr.of_below (S:=fun k=>w.heap.size<=k) h.bel).alloc X).grown hg (fun k hk=>Or.inl (h.g2 k hk))).setCell _ _ (Or.inl h.hb)).below (Nat.le_refl _) (fun _ x=>x)
 ·exact h.g1
 ·intro k hk;rcases hnew k hk with x | x
  ·exact h.g2 k x
  ·simp at x;omega
 ·exact h.g3
 ·exact h.g4
theorem BSt.old3 {w wr:World} {b n:Nat} {kv vv iv tv:Value} {n1 n2 n3 n4:Nat} {x1 x2 x3 x4:List Value} {all:Bool} (h:BSt w wr b n kv vv iv tv n1 n2 n3 n4 x1 x2 x3 x4 all) {w2:World} {X:Obj} (hg:(wr.alloc X).grownBy w2 iv.ownBlock):w2.heap[b]? =wr.heap[b]? :=by
 have hbl:=h.blt;rw [hg.block b (by simp;omega) (fun e=>jm h.r3 h.cells zd e.symm),Below.heap_alloc _ _ _ hbl]
theorem BSt.app3 {w wr:World} {b n:Nat} {kv vv iv tv:Value} {n1 n2 n3 n4:Nat} {x1 x2 x3 x4:List Value} {all:Bool} (h:BSt w wr b n kv vv iv tv n1 n2 n3 n4 x1 x2 x3 x4 all) {w2:World} {X:Obj} {v':Value} (hg:(wr.alloc X).grownBy w2 iv.ownBlock) (hown:w2.ownsRow 0 4 1 v' (n3+1) (x3++[.bool false]))
 (hnew:∀k,v'.ownBlock=some k->iv.ownBlock=some k\/(wr.alloc X).heap.size<=k) :
 BSt w (w2.setCell ⟨b,3,none⟩ v') b n kv vv v' tv n1 n2 (n3+1) n4 x1 x2 (x3++[.bool false]) x4 all:=by
 have bb:=h.old3 hg;have hbl:=h.blt;have vb:=jm h.r3 h.cells zd;have hne:∀k,v'.ownBlock=some k->k≠b:=by
  rintro k hk rfl;rcases hnew _ hk with x | x
  ·exact vb x
  ·simp at x;omega
 have hbk:∀k,k < wr.heap.size->iv.ownBlock≠some k->k≠b->(w2.setCell ⟨b,3,none⟩ v').heap[k]? =wr.heap[k]? :=fun k hk h1 h2=>by
  rw [Below.heap_setCell _ _ _ _ (by simpa using h2),hg.block k (by simp;omega) (fun e=>h1 e.symm),Below.heap_alloc _ _ _ hk]
 have hsz:=h.bel.size;refine ⟨?_,?_,?_,?_,?_,?_,?_,?_,h.hb,?_,?_,?_,?_⟩
 ·have:=Joins.block_setCell (i:=3) (bb.trans h.cells) v';rw [this];rfl
 ·exact je h.r1 fun k hk=>hbk k (jn h.r1 hk) (fun e=>h.d1 k hk e) (fun e=>jm h.r1 h.cells zd (e ▸ hk))
 ·exact je h.r2 fun k hk=>hbk k (jn h.r2 hk) (fun e=>jy h.r2 h.r3 zd e hk) (fun e=>jm h.r2 h.cells zd (e ▸ hk))
 ·exact je hown fun k hk=>Below.heap_setCell _ _ _ _ (by simpa using hne k hk)
 ·exact je h.r4 fun k hk=>hbk k (jn h.r4 hk) (fun e=>jy h.r4 h.r3 zd e hk) (fun e=>jm h.r4 h.cells zd (e ▸ hk))
 ·intro k hk hk2;rcases hnew k hk2 with x | x
  ·exact h.d1 k hk x
  ·have:=jn h.r1 hk;simp at x;omega
 ·exact h.d2
 ·exact ((((Fr.of_below (S:=fun k=>w.heap.size<=k) h.bel).alloc X).grown hg (fun k hk=>Or.inl (h.g3 k hk))).setCell _ _ (Or.inl h.hb)).below (Nat.le_refl _) (fun _ x=>x)
 ·exact h.g1
 ·exact h.g2
 ·intro k hk;rcases hnew k hk with x | x
  ·exact h.g3 k x
  ·simp at x;omega
 ·exact h.g4
theorem BSt.old4 {w wr:World} {b n:Nat} {kv vv iv tv:Value} {n1 n2 n3 n4:Nat} {x1 x2 x3 x4:List Value} {all:Bool} (h:BSt w wr b n kv vv iv tv n1 n2 n3 n4 x1 x2 x3 x4 all) {w2:World} {X:Obj} (hg:(wr.alloc X).grownBy w2 tv.ownBlock):w2.heap[b]? =wr.heap[b]? :=by
 have hbl:=h.blt;rw [hg.block b (by simp;omega) (fun e=>jm h.r4 h.cells zd e.symm),Below.heap_alloc _ _ _ hbl]
theorem BSt.app4 {w wr:World} {b n:Nat} {kv vv iv tv:Value} {n1 n2 n3 n4:Nat} {x1 x2 x3 x4:List Value} {all:Bool} (h:BSt w wr b n kv vv iv tv n1 n2 n3 n4 x1 x2 x3 x4 all) {w2:World} {X:Obj} {v':Value} (hg:(wr.alloc X).grownBy w2 tv.ownBlock) (hown:w2.ownsRow 0 44 1 v' (n4+1) (x4++[.int .u32 0]))
 (hnew:∀k,v'.ownBlock=some k->tv.ownBlock=some k\/(wr.alloc X).heap.size<=k) :
 BSt w (w2.setCell ⟨b,4,none⟩ v') b n kv vv iv v' n1 n2 n3 (n4+1) x1 x2 x3 (x4++[.int .u32 0]) all:=by
 have bb:=h.old4 hg;have hbl:=h.blt;have vb:=jm h.r4 h.cells zd;have hne:∀k,v'.ownBlock=some k->k≠b:=by
  rintro k hk rfl;rcases hnew _ hk with x | x
  ·exact vb x
  ·simp at x;omega
 have hbk:∀k,k < wr.heap.size->tv.ownBlock≠some k->k≠b->(w2.setCell ⟨b,4,none⟩ v').heap[k]? =wr.heap[k]? :=fun k hk h1 h2=>by
  rw [Below.heap_setCell _ _ _ _ (by simpa using h2),hg.block k (by simp;omega) (fun e=>h1 e.symm),Below.heap_alloc _ _ _ hk]
 have hsz:=h.bel.size;refine ⟨?_,?_,?_,?_,?_,?_,?_,?_,h.hb,?_,?_,?_,?_⟩
 ·have:=Joins.block_setCell (i:=4) (bb.trans h.cells) v';rw [this];rfl
 ·exact je h.r1 fun k hk=>hbk k (jn h.r1 hk) (fun e=>jy h.r1 h.r4 zd e hk) (fun e=>jm h.r1 h.cells zd (e ▸ hk))
 ·exact je h.r2 fun k hk=>hbk k (jn h.r2 hk) (fun e=>h.d2 k hk e) (fun e=>jm h.r2 h.cells zd (e ▸ hk))
 ·exact je h.r3 fun k hk=>hbk k (jn h.r3 hk) (fun e=>jy h.r3 h.r4 zd e hk) (fun e=>jm h.r3 h.cells zd (e ▸ hk))
 ·exact je hown fun k hk=>Below.heap_setCell _ _ _ _ (by simpa using hne k hk)
 ·exact h.d1
 ·intro k hk hk2;rcases hnew k hk2 with x | x
  ·exact h.d2 k hk x
  ·have:=jn h.r2 hk;simp at x;omega
 ·exact ((((Fr.of_below (S:=fun k=>w.heap.size<=k) h.bel).alloc X).grown hg (fun k hk=>Or.inl (h.g4 k hk))).setCell _ _ (Or.inl h.hb)).below (Nat.le_refl _) (fun _ x=>x)
 ·exact h.g1
 ·exact h.g2
 ·exact h.g3
 ·intro k hk;rcases hnew k hk with x | x
  ·exact h.g4 k x
  ·simp at x;omega
theorem JE (w:World) (u:Value) (T:TypeId) (k:Nat) (hk:k=w.heap.size):∀(j:Nat) (x:Value),[u][j]? =some x->(w.alloc (.cells #[u] T)).cell? ((⟨k,0,none⟩:Addr).add j)=some x:=by
 subst hk;exact cell_one_new _ _ _
def BRel (w:World) (b n:Nat) (v4:Value) (wr:World):Prop:=∃(k:Nat) (kv vv iv tv:Value),k<=n/\v4= .int .i64 k/\BSt w wr b n kv vv iv tv k k k k (List.replicate k (.bool false)) (List.replicate k (.int .u32 0)) (List.replicate k (.bool false)) (List.replicate k (.int .u32 0)) false
theorem infoBool:(prog.info? 4).map (fun i=>(i.zero,i.size,i.bytes))=some (some (.bool false),1,1):=by kernel_rfl
def BlankP (w:World) (n:Nat) (e:Ending) (w':World):Prop:=∃b,e= .returned (.pointer (some ⟨b,0,none⟩))/\∃kv vv iv tv,BSt w w' b n kv vv iv tv n n n n (List.replicate n (.bool false)) (List.replicate n (.int .u32 0)) (List.replicate n (.bool false)) (List.replicate n (.int .u32 0)) false
theorem jfB (n:Nat) (w:World) (hn:n<=1000000) :
 Calls prog 112 #[.int .i64 n] w (BlankP w n):=by
 obtain ⟨i0,hi0,hi1,hi2,hi3⟩:=info_parts ja6;have HI:=zh (And.intro hi0 (And.intro hi1 (And.intro hi2 hi3)));obtain ⟨ib,hb0,hb1,hb2,hb3⟩:=info_parts infoBool;have HB:=zh (And.intro hb0 (And.intro hb1 (And.intro hb2 hb3)));clear hi0 hi1 hi2 hi3 hb0 hb1 hb2 hb3;go_enter func112,ntmps112;go_wp2_with fail;generalize hbw:w.heap.size=b;go_loopw [4] (fun v4 wr=>BRel w b n v4 wr) (fun v4 _=>n - (intOf v4).toNat);case atStart=>
  subst hbw;refine ⟨0,_,_,_,_,Nat.zero_le _,rfl,yu _ _ _ rfl,World.ownsRow_nil _ _ _ _,World.ownsRow_nil _ _ _ _,World.ownsRow_nil _ _ _ _,World.ownsRow_nil _ _ _ _,?_,?_,?_,Nat.le_refl _,?_,?_,?_,?_⟩;all_goals first | (simp [Value.ownBlock];done) | exact (Below.refl _ _).alloc (Nat.le_refl _) _
 case round=>
  obtain ⟨k,kv,vv,iv,tv,hk,rfl,hB⟩:=hrel;by_cases hlt:k < n
  ·have H0:=zh hB;have c1:=hB.cell 1;have c2:=hB.cell 2;have c3:=hB.cell 3;have c4:=hB.cell 4;simp at c1 c2 c3 c4;clear hB hbw;go_wp2_with (first | (have tok:=H0;at_builtin;go_must (refine jR rfl _ _ rfl 4 ib (.bool false) 1 1 underlying60 HB.out.1 HB.out.2.1 HB.out.2.2.1 HB.out.2.2.2 rfl zd kv k (List.replicate k (.bool false)) rfl (H0.out.r1.alloc _) ⟨_,0,none⟩ 1 1 [.bool false] rfl rfl (JE _ _ _ _ zT) ?c1 ?c2 ?c3 ?_);go_must (case c1=>(simp [Value.oneCell']));go_must (case c2=>(unfold maxLen;omega));go_must (case c3=>(omega));go_must (intro v1' w1 hown hg hnew hnil);clear hnil;go_must (obtain ⟨g0,cap0,rfl⟩:=Joins.ownsRow_form hown zo);go_must (have bb:=H0.out.old1 hg);go_must (have e00:w1.cell? ⟨b,1,none⟩=some kv:=(World.cell?_of_block (a:=⟨b,1,none⟩) bb).trans ((H0.out.cell 1).trans rfl));go_must (have e01:w1.cell? ⟨b,2,none⟩=some vv:=(World.cell?_of_block (a:=⟨b,2,none⟩) bb).trans ((H0.out.cell 2).trans rfl));go_must (have e02:w1.cell? ⟨b,3,none⟩=some iv:=(World.cell?_of_block (a:=⟨b,3,none⟩) bb).trans ((H0.out.cell 3).trans rfl));go_must (have e03:w1.cell? ⟨b,4,none⟩=some tv:=(World.cell?_of_block (a:=⟨b,4,none⟩) bb).trans ((H0.out.cell 4).trans rfl));go_must (have f0:w1.frozen? ⟨b,1,none⟩=false:=jX _ _ _ (bb.trans H0.out.cells) _);go_must (have hN:=H0.out.app1 hg hown hnew);go_must (have H1:=zh hN);clear bb hN hown hg hnew tok H0) | (have tok:=H1;at_builtin;go_must (refine jR rfl _ _ rfl 44 i0 (.int .u32 0) 1 4 underlying25 HI.out.1 HI.out.2.1 HI.out.2.2.1 HI.out.2.2.2 rfl zd vv k (List.replicate k (.int .u32 0)) rfl (H1.out.r2.alloc _) ⟨_,0,none⟩ 1 1 [.int .u32 0] rfl rfl (JE _ _ _ _ zT) ?c1 ?c2 ?c3 ?_);go_must (case c1=>(simp [Value.oneCell']));go_must (case c2=>(unfold maxLen;omega));go_must (case c3=>(omega));go_must (intro v2' w2 hown hg hnew hnil);clear hnil;go_must (obtain ⟨g1,cap1,rfl⟩:=Joins.ownsRow_form hown zo);go_must (have bb:=H1.out.old2 hg);go_must (have e11:w2.cell? ⟨b,2,none⟩=some vv:=(World.cell?_of_block (a:=⟨b,2,none⟩) bb).trans ((H1.out.cell 2).trans rfl));go_must (have e12:w2.cell? ⟨b,3,none⟩=some iv:=(World.cell?_of_block (a:=⟨b,3,none⟩) bb).trans ((H1.out.cell 3).trans rfl));go_must (have e13:w2.cell? ⟨b,4,none⟩=some tv:=(World.cell?_of_block (a:=⟨b,4,none⟩) bb).trans ((H1.out.cell 4).trans rfl));go_must (have f1:w2.frozen? ⟨b,2,none⟩=false:=jX _ _ _ (bb.trans H1.out.cells) _);go_must (have hN:=H1.out.app2 hg hown hnew);go_must (have H2:=zh hN);clear bb hN hown hg hnew tok H1) | (have tok:=H2;at_builtin;go_must (refine jR rfl _ _ rfl 4 ib (.bool false) 1 1 underlying60 HB.out.1 HB.out.2.1 HB.out.2.2.1 HB.out.2.2.2 rfl zd iv k (List.replicate k (.bool false)) rfl (H2.out.r3.alloc _) ⟨_,0,none⟩ 1 1 [.bool false] rfl rfl (JE _ _ _ _ zT) ?c1 ?c2 ?c3 ?_);go_must (case c1=>(simp [Value.oneCell']));go_must (case c2=>(unfold maxLen;omega));go_must (case c3=>(omega));go_must (intro v3' w3 hown hg hnew hnil);clear hnil;go_must (obtain ⟨g2,cap2,rfl⟩:=Joins.ownsRow_form hown zo);go_must (have bb:=H2.out.old3 hg);go_must (have e22:w3.cell? ⟨b,3,none⟩=some iv:=(World.cell?_of_block (a:=⟨b,3,none⟩) bb).trans ((H2.out.cell 3).trans rfl));go_must (have e23:w3.cell? ⟨b,4,none⟩=some tv:=(World.cell?_of_block (a:=⟨b,4,none⟩) bb).trans ((H2.out.cell 4).trans rfl));go_must (have f2:w3.frozen? ⟨b,3,none⟩=false:=jX _ _ _ (bb.trans H2.out.cells) _);go_must (have hN:=H2.out.app3 hg hown hnew);go_must (have H3:=zh hN);clear bb hN hown hg hnew tok H2) | (have tok:=H3;at_builtin;go_must (refine jR rfl _ _ rfl 44 i0 (.int .u32 0) 1 4 underlying25 HI.out.1 HI.out.2.1 HI.out.2.2.1 HI.out.2.2.2 rfl zd tv k (List.replicate k (.int .u32 0)) rfl (H3.out.r4.alloc _) ⟨_,0,none⟩ 1 1 [.int .u32 0] rfl rfl (JE _ _ _ _ zT) ?c1 ?c2 ?c3 ?_);go_must (case c1=>(simp [Value.oneCell']));go_must (case c2=>(unfold maxLen;omega));go_must (case c3=>(omega));go_must (intro v4' w4 hown hg hnew hnil);clear hnil;go_must (obtain ⟨g3,cap3,rfl⟩:=Joins.ownsRow_form hown zo);go_must (have bb:=H3.out.old4 hg);go_must (have e33:w4.cell? ⟨b,4,none⟩=some tv:=(World.cell?_of_block (a:=⟨b,4,none⟩) bb).trans ((H3.out.cell 4).trans rfl));go_must (have f3:w4.frozen? ⟨b,4,none⟩=false:=jX _ _ _ (bb.trans H3.out.cells) _);go_must (have hN:=H3.out.app4 hg hown hnew);go_must (have H4:=zh hN);clear bb hN hown hg hnew tok H3));go_roundw;case rel=>exact ⟨k+1,_,_,_,_,zo,by go_num,by simpa only [List.replicate_succ'] using H4.out⟩
   case measure=>simp [intOf];omega
  ·have e:k=n:=zo;subst e;have H0:=zh hB;clear hB hbw;go_wp2;go_ret;exact ⟨b,rfl,kv,vv,iv,tv,H0.out⟩
theorem Yk {w:World} {e sz n m c:Nat} {ad:Option Addr} {xs:List Value} (h:w.ownsRow 0 e sz (.slice ad m c) n xs):m=n:=by
 rcases h.2 with ⟨h1,h2⟩ | ⟨g,cap,cur,h1,-⟩
 ·simp at h1;omega
 ·simp at h1;omega
theorem BSt.put1 {w wr:World} {b n g m c:Nat} {vv iv tv:Value} {n1 n2 n3 n4:Nat} {x1 x2 x3 x4:List Value} {all:Bool} (h:BSt w wr b n (.slice (some ⟨g,0,none⟩) m c) vv iv tv n1 n2 n3 n4 x1 x2 x3 x4 all) (j:Nat) (v:Value) :
 BSt w (wr.setCell ⟨g,j,none⟩ v) b n (.slice (some ⟨g,0,none⟩) m c) vv iv tv n1 n2 n3 n4 (x1.set j v) x2 x3 x4 all:=by
 have vb:b≠g:=fun e=>jm h.r1 h.cells zd (by rw [e];rfl);have hbk:∀k,k≠g->(wr.setCell ⟨g,j,none⟩ v).heap[k]? =wr.heap[k]? :=fun k hk=>Below.heap_setCell _ _ _ _ (by simpa using hk);refine ⟨(hbk b vb).trans h.cells,?_,?_,?_,?_,h.d1,h.d2,?_,h.hb,h.g1,h.g2,h.g3,h.g4⟩
 ·have hm:m=n1:=by have:=Yk h.r1;exact this
  subst hm;exact (h.r1.stored j v).1
 ·exact je h.r2 fun k hk=>hbk k (fun e=>jy h.r2 h.r1 zd (k:=g) rfl (e ▸ hk))
 ·exact je h.r3 fun k hk=>hbk k (fun e=>h.d1 g rfl (e ▸ hk))
 ·exact je h.r4 fun k hk=>hbk k (fun e=>jy h.r4 h.r1 zd (k:=g) rfl (e ▸ hk))
 ·exact ((Fr.of_below (S:=fun k=>w.heap.size<=k) h.bel).setCell _ _ (Or.inl (h.g1 g rfl))).below (Nat.le_refl _) (fun _ x=>x)
theorem BSt.put2 {w wr:World} {b n g m c:Nat} {kv iv tv:Value} {n1 n2 n3 n4:Nat} {x1 x2 x3 x4:List Value} {all:Bool} (h:BSt w wr b n kv (.slice (some ⟨g,0,none⟩) m c) iv tv n1 n2 n3 n4 x1 x2 x3 x4 all) (j:Nat) (v:Value) :
 BSt w (wr.setCell ⟨g,j,none⟩ v) b n kv (.slice (some ⟨g,0,none⟩) m c) iv tv n1 n2 n3 n4 x1 (x2.set j v) x3 x4 all:=by
 have vb:b≠g:=fun e=>jm h.r2 h.cells zd (by rw [e];rfl);have hbk:∀k,k≠g->(wr.setCell ⟨g,j,none⟩ v).heap[k]? =wr.heap[k]? :=fun k hk=>Below.heap_setCell _ _ _ _ (by simpa using hk);refine ⟨(hbk b vb).trans h.cells,?_,?_,?_,?_,h.d1,h.d2,?_,h.hb,h.g1,h.g2,h.g3,h.g4⟩
 ·exact je h.r1 fun k hk=>hbk k (fun e=>jy h.r1 h.r2 zd (k:=g) rfl (e ▸ hk))
 ·have hm:m=n2:=by have:=Yk h.r2;exact this
  subst hm;exact (h.r2.stored j v).1
 ·exact je h.r3 fun k hk=>hbk k (fun e=>jy h.r3 h.r2 zd (k:=g) rfl (e ▸ hk))
 ·exact je h.r4 fun k hk=>hbk k (fun e=>h.d2 g rfl (e ▸ hk))
 ·exact ((Fr.of_below (S:=fun k=>w.heap.size<=k) h.bel).setCell _ _ (Or.inl (h.g2 g rfl))).below (Nat.le_refl _) (fun _ x=>x)
theorem BSt.drew {w wr:World} {b n:Nat} {kv vv iv tv:Value} {n1 n2 n3 n4:Nat} {x1 x2 x3 x4:List Value} {all:Bool} (h:BSt w wr b n kv vv iv tv n1 n2 n3 n4 x1 x2 x3 x4 all):BSt w wr.drew b n kv vv iv tv n1 n2 n3 n4 x1 x2 x3 x4 all:=
 ⟨h.cells,je h.r1 fun _ _=>rfl,je h.r2 fun _ _=>rfl,je h.r3 fun _ _=>rfl,je h.r4 fun _ _=>rfl,h.d1,h.d2,h.bel.drew,h.hb,h.g1,h.g2,h.g3,h.g4⟩
theorem QJ (n:Nat) (u:Value) (f:Nat->Value) (h:∀i,i < n->f i=u):List.replicate n u=Js n f:=by
 apply List.ext_getElem?;intro i;by_cases hi:i < n
 ·rw [kB _ hi,h i hi];simp [hi]
 ·rw [List.getElem?_eq_none (by simp;omega),List.getElem?_eq_none (by rw [Jx];omega)]
def RNewV [AllF] (w:World) (s:VS) (e:Ending) (w':World):Prop:=
 ∃b,e= .returned (.pointer (some ⟨b,0,none⟩))/\RV w' b (fun k=>w.heap.size<=k/\k < w'.heap.size) s/\Below w.heap.size w w'

theorem VM (l:List (Int×Int)) (x:Int×Int) (i:Nat):knK (l++[x]) i=match knK l i with | some v=>some v | none=>if x.1=(i:Int) then some x.2 else none:=by
 unfold knK;rw [List.find?_append];cases h:l.find? (fun x=>x.1 == (i:Int)) with
 | some y=>rfl
 | none=>
  by_cases he:x.1=(i:Int)
  ·simp [he]
  ·simp [he]
theorem Vo {l:List (Int×Int)} {k:Nat} {x:Int×Int} (h:l[k]? =some x):l.take (k+1)=l.take k++[x]:=by
 rw [List.take_add_one,h];rfl
def knRel (w:World) (b N:Nat) (kn:List (Int×Int)) (v6:Value) (wr:World):Prop:=∃(k:Nat) (kv vv iv tv:Value),k<=kn.length/\v6= .int .i64 k/\
 BSt w wr b N kv vv iv tv N N N N (Js N (Jo (knV N (kn.take k)))) (Js N (V0 (knV N (kn.take k)))) (List.replicate N (.bool false)) (List.replicate N (.int .u32 0)) false
theorem ja3 {N k:Nat} {kn:List (Int×Int)} {x:Int×Int} (h:kn[k]? =some x) (hs:∀i:Nat,i < N->x.1=(i:Int)->(knK (kn.take k) i).isSome=true) :
 Js N (Jo (knV N (kn.take (k+1))))=Js N (Jo (knV N (kn.take k)))/\Js N (V0 (knV N (kn.take (k+1))))=Js N (V0 (knV N (kn.take k))):=by
 have he:∀i,i < N->knK (kn.take (k+1)) i=knK (kn.take k) i:=fun i hi=>by
  rw [Vo h,VM];cases hk:knK (kn.take k) i with
  | some v=>rfl
  | none=>
   dsimp only;rw [if_neg];intro e;have:=hs i hi e;rw [hk] at this;cases this
 refine ⟨?_,?_⟩;all_goals
  apply List.ext_getElem?;intro i;by_cases hi:i < N
  ·rw [kB _ hi,kB _ hi];simp only [Jo,V0,knV,he i hi]
  ·rw [List.getElem?_eq_none (by rw [Jx];omega),List.getElem?_eq_none (by rw [Jx];omega)]
theorem kn_set {N k j:Nat} {kn:List (Int×Int)} {v:Int} (h:kn[k]? =some ((j:Int),v)) (hn:knK (kn.take k) j=none) :
 (Js N (Jo (knV N (kn.take k)))).set j (.bool true)=Js N (Jo (knV N (kn.take (k+1))))/\(Js N (V0 (knV N (kn.take k)))).set j (.int .u32 v)=Js N (V0 (knV N (kn.take (k+1)))):=by
 have hj:knK (kn.take (k+1)) j=some v:=by rw [Vo h,VM,hn];simp
 have ho:∀i,i≠j->knK (kn.take (k+1)) i=knK (kn.take k) i:=fun i hi=>by
  rw [Vo h,VM];cases hk:knK (kn.take k) i with
  | some v=>rfl
  | none=>
   dsimp only;rw [if_neg zo]
 exact ⟨J8 _ _ _ (by simp [Jo,knV,hj]) (fun i hi=>by simp [Jo,knV,ho i hi]),J8 _ _ _ (by simp [V0,knV,hj]) (fun i hi=>by simp [V0,knV,ho i hi])⟩
theorem rkn_new [AllF] (hA:AllF.all=false) {w wr:World} {b N:Nat} {kn:List (Int×Int)} {kv vv iv tv:Value} (h:BSt w wr b N kv vv iv tv N N N N (Js N (Jo (knV N kn))) (Js N (V0 (knV N kn))) (List.replicate N (.bool false)) (List.replicate N (.int .u32 0)) false)
 (hn:N<=2147483648) (hu:∀x∈kn,VS.U32 x.2):RNewV w (knV N kn) (.returned (.pointer (some ⟨b,0,none⟩))) wr:=by
 have hbl:=h.blt;have q3:List.replicate N (Value.bool false)=Js N (isF (knV N kn)):=QJ _ _ _ (fun i _=>by simp [isF,knV,VS.wr,wix]);have q4:List.replicate N (Value.int .u32 0)=Js N (toF (knV N kn)):=QJ _ _ _ (fun i _=>by simp [toF,knV,VS.wr,wix]);have lt:∀{e sz n:Nat} {v:Value} {xs:List Value},wr.ownsRow 0 e sz v n xs->∀k,v.ownBlock=some k->k < wr.heap.size:=fun hr k hk=>jn hr hk;refine ⟨b,rfl,⟨kv,vv,iv,tv,.slice none 0 0,.slice none 0 0,false,h.cells,h.r1,h.r2,q3 ▸ h.r3,q4 ▸ h.r4,World.ownsRow_nil _ _ _ _,World.ownsRow_nil _ _ _ _,h.d1,h.d2,by simp [Value.ownBlock],⟨h.hb,hbl⟩,fun k hk=>⟨h.g1 k hk,lt h.r1 k hk⟩,fun k hk=>⟨h.g2 k hk,lt h.r2 k hk⟩,fun k hk=>⟨h.g3 k hk,lt h.r3 k hk⟩,fun k hk=>⟨h.g4 k hk,lt h.r4 k hk⟩,by simp [Value.ownBlock],by simp [Value.ownBlock],fun k hk=>hk.2,?_,zT,hA.symm⟩,h.bel⟩;refine ⟨hn,by simp [knV],by simp [knV],by simp [knV],by simp [knV],?_,by simp [knV]⟩;intro i v hv;unfold knV knK at hv;dsimp only at hv;obtain ⟨y,hy,rfl⟩:=Option.map_eq_some_iff.1 hv;exact hu y (List.mem_of_find?_eq_some hy)
theorem jck [AllF] (hA:AllF.all=false) (N:Nat) (a:Option Addr) (m c:Nat) (kn:List (Int×Int)) (w:World) (h:jbg w (.slice a m c) kn) (hn:N<=1000000) (hl:kn.length<=1000000) (hu:∀x∈kn,VS.U32 x.2) :
 Calls prog 204 #[.int .i64 N,.slice a m c] w (RNewV w (knV N kn)):=by
 have e:=h.len;subst e;have HP:=zh (fun (W:World) (hb:Below w.heap.size w W) (i:Nat) x (hx:kn[i]? =some x)=>(h.keep hb).at_ hx);have hlt0:∀(i:Nat) x,kn[i]? =some x->∃ad,a=some ad/\ad.block < w.heap.size:=fun i x hx=>by
  obtain ⟨ad,e,c1,-⟩:=h.at_ hx;have l0:=World.block_lt_of_cell? w _ c1;exact ⟨ad,e,(show (ad.add (i*2)).block=ad.block by unfold Addr.add;first | rfl | (split <;> rfl)) ▸ l0⟩
 have HL:=zh hlt0;have HU:=zh hu;clear h hu hlt0;go_enter func204,ntmps204;go_wp2_with fail;refine (jfB _ _ hn).mono ?_;rintro e w1 ⟨b,rfl,kv,vv,iv,tv,hB⟩;have HB:=zh hB;clear hB;go_wp2_with fail;go_loopw [6] (fun v6 wr=>knRel w b N kn v6 wr) (fun v6 _=>kn.length - (intOf v6).toNat);case atStart=>
  refine ⟨0,kv,vv,iv,tv,Nat.zero_le _,rfl,?_⟩;have h:=HB.out;have e1:=QJ N (.bool false) (Jo (knV N (kn.take 0))) (fun i _=>by simp [Jo,knV,knK]);have e2:=QJ N (.int .u32 0) (V0 (knV N (kn.take 0))) (fun i _=>by simp [V0,knV,knK]);exact ⟨h.cells,e1 ▸ h.r1,e2 ▸ h.r2,h.r3,h.r4,h.d1,h.d2,h.bel,h.hb,h.g1,h.g2,h.g3,h.g4⟩
 case round=>
  obtain ⟨k,kv,vv,iv,tv,hk,rfl,hB⟩:=hrel;by_cases hlt:k < kn.length
  ·obtain ⟨x,hx⟩:∃x,kn[k]? =some x:=⟨_,List.getElem?_eq_getElem hlt⟩
   obtain ⟨ad,rfl,c1,c2⟩:=HP.out wr hB.bel k x hx;obtain ⟨ad',e',had⟩:=HL.out k x hx;cases e';have HX:=zh hx;have H0:=zh hB;obtain ⟨xc,xv⟩:=x;dsimp only at c1 c2;have b1:=hB.cell 1;have b2:=hB.cell 2;simp at b1 b2;by_cases h0:0<=xc
   ·obtain ⟨j,rfl⟩:∃j:Nat,xc=(j:Int):=⟨xc.toNat,zo⟩
    by_cases hj:(j:Int) < (N:Int)
    ·have hjN:j < N:=zo;obtain ⟨gk,ck,rfl⟩:=Joins.ownsRow_form hB.r1 zo;obtain ⟨gv,cv,rfl⟩:=Joins.ownsRow_form hB.r2 zo;cases hkn:knK (kn.take k) j with
     | some v0=>
      have ck0:wr.cell? ⟨gk,j,none⟩=some (.bool true):=by rw [hB.r1.cellAt j zo,kB _ hjN];simp [Jo,knV,hkn]
      have HN:=zh hkn;clear hB hx hkn HP HL HU HB;go_wp2;go_roundw;case rel=>
       have hs:=ja3 (N:=N) HX.out (fun i hi e=>by
        have:i=j:=by have e2:(j:Int)=(i:Int):=e;omega
        subst this;rw [HN.out];rfl)
       have h:=H0.out;rw [<-hs.1,<-hs.2] at h;exact ⟨k+1,_,_,_,_,zo,by go_num,h⟩
      case measure=>simp [intOf];omega
     | none=>
      have ck0:wr.cell? ⟨gk,j,none⟩=some (.bool false):=by rw [hB.r1.cellAt j zo,kB _ hjN];simp [Jo,knV,hkn]
      have fk0:=hB.r1.frozenAt j;have hB1:=hB.put1 j (.bool true);have d2:=hB1.cell 2;simp at d2;have hgk:w.heap.size<=gk:=hB.g1 gk rfl;have hba:(ad.add (k*2)).block=ad.block:=by unfold Addr.add;first | rfl | (split <;> rfl)
      have dv:(wr.setCell ⟨gk,j,none⟩ (.bool true)).cell? ⟨(ad.add (k*2)).block,(ad.add (k*2)).off+1,none⟩=some (.int .u32 xv):=by
       rw [<-c2];exact World.cell?_of_block (Below.heap_setCell _ _ _ _ (by rw [hba];simp;omega))
      have dg:(wr.setCell ⟨gk,j,none⟩ (.bool true)).cell? ⟨gv,j,none⟩=some (.int .u32 0):=by rw [hB1.r2.cellAt j zo,kB _ hjN];simp [V0,knV,hkn]
      have df:=hB1.r2.frozenAt j;have H1:=zh hB1;have HN:=zh hkn;clear hB hB1 hx hkn HP HL HU HB hba;go_wp2;generalize hw1:wr.setCell ⟨gk,j,none⟩ (.bool true)=wr1 at*
      clear hw1;go_region;go_wp2;go_roundw;case rel=>
       have h:=(H1.out.put2 j (.int .u32 xv)).drew;have hs:=kn_set (N:=N) HX.out HN.out;rw [hs.1,hs.2] at h;exact ⟨k+1,_,_,_,_,zo,by go_num,h⟩
      case measure=>simp [intOf];omega
    ·clear hB hx HP HL HU HB;go_wp2;go_roundw;case rel=>
      have hs:=ja3 (N:=N) HX.out (fun i hi e=>by
       have e2:(j:Int)=(i:Int):=e;omega)
      have h:=H0.out;rw [<-hs.1,<-hs.2] at h;exact ⟨k+1,_,_,_,_,zo,by go_num,h⟩
     case measure=>simp [intOf];omega
   ·clear hB hx HP HL HU HB;go_wp2;go_roundw;case rel=>
     have hs:=ja3 (N:=N) HX.out (fun i hi e=>by
      have e2:xc=(i:Int):=e;omega)
     have h:=H0.out;rw [<-hs.1,<-hs.2] at h;exact ⟨k+1,_,_,_,_,zo,by go_num,h⟩
    case measure=>simp [intOf];omega
  ·have e:k=kn.length:=zo;subst e;have H0:=zh hB;clear hB HP HL HB;go_wp2;go_ret;have h:=H0.out;rw [List.take_length] at h;exact rkn_new hA h zo HU.out

theorem yr [AllF] {b:Nat} {st s1:VS} {i v:Int} (e:st.get i=(v,s1)) (w:World) (S:Nat->Prop) (h:RV w b S st) :
 Calls prog 162 #[.pointer (some ⟨b,0,none⟩),.int .i64 i] w fun e w'=>e= .returned (.int .u32 v)/\JQ w b S s1 w':=by
 have:=yg b i w S st h;rwa [e] at this
structure VR [AllF] (w0:World) (b:Nat) (S:Nat->Prop) (Ls:List Nat) (LA:Nat) (cs:Array Value) (T:TypeId) (st:VS) (w:World):Prop where
 vs:VSt RV w0 b S (LA :: Ls) st w
 box:w.heap[LA]? =some (.cells cs T)
 ne:∀L∈Ls,L≠LA
section
variable {w0 w w':World} {b:Nat} {S:Nat->Prop} {Ls:List Nat} {LA:Nat} {cs:Array Value} {T:TypeId} {st st':VS}
theorem VSt.allocr [AllF] (h:VSt RV w0 b S Ls st w) (cs:Array Value) (T:TypeId):VR w0 b S Ls w.heap.size cs T st (w.alloc (.cells cs T)):=
 ⟨h.alloc jk _,heap_alloc_new w _,fun L hL e=>by have:=(h.ls L hL).1;omega⟩
theorem VR.step [AllF] (h:VR w0 b S Ls LA cs T st w) (hV:VSt RV w0 b S (LA :: Ls) st' w') (hl:∀L∈LA :: Ls,w'.heap[L]? =w.heap[L]?):VR w0 b S Ls LA cs T st' w':=
 ⟨hV,(hl _ zT).trans h.box,h.ne⟩
theorem VR.set [AllF] (h:VR w0 b S Ls LA cs T st w) (o:Nat) (v:Value):VR w0 b S Ls LA (cs.setIfInBounds o v) T st (w.setCell ⟨LA,o,none⟩ v):=
 ⟨h.vs.setCell jk zT _ _,jH h.box,h.ne⟩
theorem VR.set3 [AllF] {y0 y1 y2:Value} (h:VR w0 b S Ls LA #[y0,y1,y2] T st w) (x0 x1 x2:Value):VR w0 b S Ls LA #[x0,x1,x2] T st (((w.setCell ⟨LA,0,none⟩ x0).setCell ⟨LA,1,none⟩ x1).setCell ⟨LA,2,none⟩ x2):=by
 have a0:VR w0 b S Ls LA #[x0,y1,y2] T st _:=h.set 0 x0;have a1:VR w0 b S Ls LA #[x0,x1,y2] T st _:=a0.set 1 x1;have a2:VR w0 b S Ls LA #[x0,x1,x2] T st _:=a1.set 2 x2;exact a2
theorem VR.alloc [AllF] (h:VR w0 b S Ls LA cs T st w) (o:Obj):VR w0 b S Ls LA cs T st (w.alloc o):=
 ⟨(h.vs.alloc jk o).sub _ (fun L hL=>List.mem_cons_of_mem _ hL),(heap_alloc_old _ _ (h.vs.ls _ zT).1).trans h.box,h.ne⟩
theorem VR.loc [AllF] (h:VR w0 b S Ls LA cs T st w) {L:Nat} {ds:Array Value} (hm:L∈Ls) (o:Nat) (v:Value) (hc:∀i:Nat,w.cell? ⟨L,i,none⟩=ds[i]?):∀i:Nat,(w.setCell ⟨LA,o,none⟩ v).cell? ⟨L,i,none⟩=ds[i]? :=
 fun i=>(World.cell?_of_block (a:=⟨L,i,none⟩) (ji (h.ne L hm))).trans (hc i)
end

theorem J4 [AllF] {b:Nat} {st s1:VS} {t p s q v:Int} (e:st.get (ofF t p s q 0)=(v,s1)) (w:World) (S:Nat->Prop) (h:RV w b S st) :
 Calls prog 161 #[.pointer (some ⟨b,0,none⟩),.agg #[.int .i64 t,.int .i64 p,.int .i64 s],.int .i64 q] w fun e w'=>e= .returned (.agg #[.int .i64 (iK v),.int .i64 (iL v),.int .i64 (iC v)])/\JQ w b S s1 w':=by
 have hA:=((VSt.start jk h).alloc jk (.cells #[.int .i64 t,.int .i64 p,.int .i64 s] 23)).allocr #[.int .i64 0,.int .i64 0,.int .i64 0] 130;have c0:=jC (.cells #[.int .i64 0,.int .i64 0,.int .i64 0] 130) zT (jp w #[.int .i64 t,.int .i64 p,.int .i64 s] 23);simp only [World.size_alloc] at hA c0;have hu:=VS.get_u32 (jk.inv h) (ofF t p s q 0);rw [e] at hu;have HI:=zh (fun w=>Yc v w hu.1 hu.2);have G:=zh (yr (b:=b) e);clear h hu e;generalize iK v=k at*
 generalize iL v=l at*
 generalize iC v=m at*
 generalize okI v=o at*
 go_enter func161,ntmps161;go_wp2_with fail;refine zM (jj jk hA.vs (qD _ _ _ _ _)) ?_;rintro w1 ⟨hY,hYl⟩;replace hA:=hA.step hY hYl;clear hY hYl;go_wp2_with fail;refine zM (jf hA.vs (G.out _)) ?_;rintro w2 ⟨hY,hYl⟩;replace hA:=hA.step hY hYl;clear hY hYl;go_wp2_with fail;refine zM (jj jk hA.vs (HI.out _)) ?_;rintro w3 ⟨hY,hYl⟩;replace hA:=hA.step hY hYl;clear hY hYl;replace hA:=hA.alloc (.cells #[.int .i64 k,.int .i64 l,.int .i64 m] 130);obtain ⟨⟨k0,k1,k2⟩,f0,f1,f2⟩:=cells3 hA.box;go_wp2;have hZ:=hA.set3 (.int .i64 k) (.int .i64 l) (.int .i64 m);obtain ⟨⟨j0,j1,j2⟩,-⟩:=cells3 hZ.box;refine bodyPost_ret (v:= .agg #[.int .i64 k,.int .i64 l,.int .i64 m]) (by simp [results,results161,go_sem,j0,j1,j2]) rfl ⟨rfl,hZ.vs.done jk⟩
theorem jbs (n:Nat) (w:World) (h1:1<=n) (h2:n<=1024) :
 Calls prog 131 #[.int .i64 (Kh n)] w (zW (.int .i64 (kD 2 (Kh n) 11)) w):=by
 have hb:=log_bd n zo h1;have hl:Kh n=((JP n - 1:Nat):Int):=by simp [Kh];omega
 have:=Vw (JP n - 1) w zo;have hf:kD 2 (Kh n) 11=((2+(JP n - 1):Nat):Int):=by unfold kD;rw [hl,if_neg zo];omega
 rw [hf,hl];exact this
theorem jeb [AllF] (b:Nat) (t p s q:Int) (w:World) (S:Nat->Prop) (st:VS) (h:RV w b S st) (hq:j6 p q=false) :
 Calls prog 210 #[.pointer (some ⟨b,0,none⟩),.agg #[.int .i64 t,.int .i64 p,.int .i64 s],.int .i64 q] w fun e w'=>e= .returned (.int .i64 (kJ t p s q st).1)/\JQ w b S (kJ t p s q st).2 w':=by
 have hF:kJ t p s q st=(0,st):=by unfold kJ;rw [hq];rfl
 rw [hF];have hV:=(VSt.start jk h).alloc jk (.cells #[.int .i64 t,.int .i64 p,.int .i64 s] 23);clear hF h;by_cases h0:0<=q
 ·have h1:¬q < p:=by simpa [j6,h0] using hq
  clear hq;go_enter func210,ntmps210;go_wp2;go_ret;exact ⟨rfl,hV.done jk⟩
 ·clear hq;go_enter func210,ntmps210;go_wp2;go_ret;exact ⟨rfl,hV.done jk⟩
theorem KQ [AllF] (b:Nat) (t p s q:Int) (w:World) (S:Nat->Prop) (st:VS) (h:RV w b S st) :
 Calls prog 210 #[.pointer (some ⟨b,0,none⟩),.agg #[.int .i64 t,.int .i64 p,.int .i64 s],.int .i64 q] w fun e w'=>e= .returned (.int .i64 (kJ t p s q st).1)/\JQ w b S (kJ t p s q st).2 w':=by
 cases hq:j6 p q with
 | false=>exact jeb b t p s q w S st h hq
 | true=>
  have hV:=(VSt.start jk h).alloc jk (.cells #[.int .i64 t,.int .i64 p,.int .i64 s] 23);have c0:=jp w #[.int .i64 t,.int .i64 p,.int .i64 s] 23;have hq2:0<=q/\q < p:=by simpa [j6] using hq
  obtain ⟨hq0,hq1⟩:=hq2;have hF:kJ t p s q st=(Jp (st.get (ofF t p s q 0)).1,if Jp (st.get (ofF t p s q 0)).1=0 then (st.get (ofF t p s q 0)).2 else qi t p s (kD 2 (Kh (Jp (st.get (ofF t p s q 0)).1)) 11) q (st.get (ofF t p s q 0)).2):=by unfold kJ jD;rw [if_pos hq]
  rw [hF];obtain ⟨v,s1,hg⟩:∃v s1,st.get (ofF t p s q 0)=(v,s1):=⟨_,_,rfl⟩
  have G:=zh (J4 (b:=b) hg);rw [hg];dsimp only;have hbd:=qj v;clear h hF hg hq;by_cases hk:iK v=1
  ·obtain ⟨b1,b2⟩:=hbd.2.2.1 hk;have b3:=hbd.2.1;rw [hk] at G;rw [b2] at b1 b3 ⊢;clear b2 hbd hk;generalize iL v=l at*
   generalize iC v=m at*
   obtain ⟨n,rfl⟩:∃n:Nat,l=n:=⟨l.toNat,zo⟩
   rw [if_neg zo];have HO:=zh (fun w=>Vv n w zo zo);have HB:=zh (fun w=>jbs n w zo zo);generalize Kh n=lg at*
   generalize kD 2 lg 11=hd at*
   go_enter func210,ntmps210;go_wp2_with fail;refine zM (jf hV (G.out _)) ?_;rintro w1 ⟨hV1,hV1l⟩;have c1:=jc hV1l zT c0;clear hV1l;go_wp2_with fail;have hV2:=(hV1.alloc jk (.cells #[.int .i64 1,.int .i64 n,.int .i64 m] 130)).drew jk;have d2:∀o:Nat,(w1.alloc (.cells #[.int .i64 1,.int .i64 n,.int .i64 m] 130)).drew.cell? ⟨w1.heap.size,o,none⟩=(#[.int .i64 1,.int .i64 n,.int .i64 m]:Array Value)[o]? :=jp w1 #[.int .i64 1,.int .i64 n,.int .i64 m] 130;have c2:∀o:Nat,(w1.alloc (.cells #[.int .i64 1,.int .i64 n,.int .i64 m] 130)).drew.cell? ⟨w.heap.size,o,none⟩=(#[.int .i64 t,.int .i64 p,.int .i64 s]:Array Value)[o]? :=jC (.cells #[.int .i64 1,.int .i64 n,.int .i64 m] 130) (hV1.ls _ zT).1 c1;refine jbZ (zP d2) (zP c2) fun hHeld=> ?_;refine wT 0 ?_;refine wY ?_;refine wR 4 fun K hK=> ?_;go_simp;refine zM (jj jk hV2 (HO.out _)) ?_;rintro w3 ⟨hV3,hV3l⟩;have d3:=jc hV3l zT hHeld.1;have c3:=jc hV3l zT hHeld.2;clear hV3l;dsimp only;refine wK hK (⟨d3,c3⟩) fun hHeld=> ?_;clear hK K;refine wR 5 fun K hK=> ?_;go_simp;refine zM (jj jk hV3 (HB.out _)) ?_;rintro w4 ⟨hV4,hV4l⟩;have d4:=jc hV4l zT d3;have c4:=jc hV4l zT c3;clear hV4l;dsimp only;refine wK hK (⟨d4,c4⟩) fun hHeld=> ?_;clear hK K;refine wR 7 fun K hK=> ?_;go_simp;refine zM (jf hV4 (fun S1 h1=>Xj b t p s _ q _ S1 _ h1)) ?_;rintro w5 ⟨hV5,hV5l⟩;have d5:=jc hV5l zT d4;have c5:=jc hV5l zT c4;clear hV5l;dsimp only;refine wK hK (⟨d5,c5⟩) fun hHeld=> ?_;clear hK K;refine wD ?_;go_wp2;go_ret;exact ⟨rfl,hV5.done jk⟩
  ·rw [hbd.2.2.2 hk,if_pos rfl];clear hbd;generalize iK v=k at*
   generalize iL v=l at*
   generalize iC v=m at*
   go_enter func210,ntmps210;go_wp2_with fail;refine zM (jf hV (G.out _)) ?_;rintro w1 ⟨hV1,hV1l⟩;have c1:=jc hV1l zT c0;clear hV1l;go_wp2;go_ret;exact ⟨rfl,(hV1.alloc jk _).done jk⟩
theorem radd_out [AllF] (b:Nat) (t p s q n:Int) (w:World) (S:Nat->Prop) (st:VS) (h:RV w b S st) (hp:p<=1024) (hc:¬(0<=q/\q < p/\1<=n/\n<=p - q)) :
 Calls prog 211 #[.pointer (some ⟨b,0,none⟩),.agg #[.int .i64 t,.int .i64 p,.int .i64 s],.int .i64 q,.int .i64 n] w fun e w'=>e= .returned (.tuple #[])/\JQ w b S st w':=by
 have hV:=(VSt.start jk h).alloc jk (.cells #[.int .i64 t,.int .i64 p,.int .i64 s] 23);clear h;by_cases h0:0<=q
 ·by_cases h1:q < p
  ·have hw1:IntKind.i64.wrap (p - q)=p - q:=jr _ zo;by_cases h2:1<=n
   ·have h3:p - q < n:=zo;clear hc;go_enter func211,ntmps211;go_wp2;refine bodyPost_ret (results_none rfl _ _ _) rfl ?_;exact ⟨rfl,hV.done jk⟩
   ·clear hc;go_enter func211,ntmps211;go_wp2;refine bodyPost_ret (results_none rfl _ _ _) rfl ?_;exact ⟨rfl,hV.done jk⟩
  ·clear hc;go_enter func211,ntmps211;go_wp2;refine bodyPost_ret (results_none rfl _ _ _) rfl ?_;exact ⟨rfl,hV.done jk⟩
 ·clear hc;go_enter func211,ntmps211;go_wp2;refine bodyPost_ret (results_none rfl _ _ _) rfl ?_;exact ⟨rfl,hV.done jk⟩
theorem radd_in [AllF] (b:Nat) (t p s:Int) (q n:Nat) (w:World) (S:Nat->Prop) (st:VS) (h:RV w b S st) (hp:p<=1024) (h0:(q:Int) < p) (h1:1<=n) (h2:(n:Int)<=p - q) :
 Calls prog 211 #[.pointer (some ⟨b,0,none⟩),.agg #[.int .i64 t,.int .i64 p,.int .i64 s],.int .i64 q,.int .i64 n] w fun e w'=>e= .returned (.tuple #[])/\JQ w b S (addF t p s q n st) w':=by
 have hV:=(VSt.start jk h).alloc jk (.cells #[.int .i64 t,.int .i64 p,.int .i64 s] 23);have c0:=jp w #[.int .i64 t,.int .i64 p,.int .i64 s] 23;have HV:=zh (fun w=>Q8 n w h1 zo);have HO:=zh (fun w=>Vv n w h1 zo);have HB:=zh (fun w=>jbs n w h1 zo);have U1:=zh (show VS.U32 (1+16*(n:Int)) from ⟨zo,zo⟩);have U2:=zh (show VS.U32 ((q:Int)+1) from ⟨zo,zo⟩);have hF:addF t p s q n st=qu t p s (kD 2 (Kh n) 11) q ((st.put (ofF t p s q 0) (1+16*n)).put (ofF t p s ((q:Int)+n - 1) 1) ((q:Int)+1)):=rfl;rw [hF];have hw1:IntKind.i64.wrap ((q:Int)+n - 1)=(q:Int)+n - 1:=jr _ zo;have hw2:IntKind.u32.wrap ((q:Int)+1)=(q:Int)+1:=IntWalk.u32_in _ zo;have hw3:IntKind.u32.wrap (q:Int)=(q:Int):=IntWalk.u32_in _ zo;clear h hF;generalize Kh n=lg at*
 generalize kD 2 lg 11=hd at*
 generalize hx:1+16*(n:Int)=iv at*
 clear hx;go_enter func211,ntmps211;go_wp2_with fail;refine zM (jj jk hV (qD _ _ _ _ _)) ?_;rintro w1 ⟨hV1,hV1l⟩;have c1:=jc hV1l zT c0;clear hV1l;go_wp2_with fail;refine zM (jj jk hV1 (HV.out _)) ?_;rintro w2 ⟨hV2,hV2l⟩;have c2:=jc hV2l zT c1;clear hV2l;go_wp2_with fail;refine zM (jf hV2 (fun S1 h1=>jI _ _ _ _ _ _ h1 U1.out)) ?_;rintro w4 ⟨hV4,hV4l⟩;have c4:=jc hV4l zT c2;clear hV4l;go_wp2_with fail;refine zM (jj jk hV4 (kR _ _ _ _ _)) ?_;rintro w5 ⟨hV5,hV5l⟩;have c5:=jc hV5l zT c4;clear hV5l;go_wp2_with fail;refine zM (jf hV5 (fun S1 h1=>jI _ _ _ _ _ _ h1 U2.out)) ?_;rintro w6 ⟨hV6,hV6l⟩;have c6:=jc hV6l zT c5;clear hV6l;go_wp2_with fail;have hV6d:=hV6.drew jk;refine Vj (zP c6) fun hHeld=> ?_;refine wT 0 ?_;refine wY ?_;refine wR 3 fun K hK=> ?_;go_simp;refine zM (jj jk hV6d (HO.out _)) ?_;rintro w7 ⟨hV7,hV7l⟩;have c7:=jc hV7l zT hHeld;clear hV7l;dsimp only;refine wK hK (c7) fun hHeld=> ?_;clear hK K;refine wR 4 fun K hK=> ?_;go_simp;refine zM (jj jk hV7 (HB.out _)) ?_;rintro w8 ⟨hV8,hV8l⟩;have c8:=jc hV8l zT c7;clear hV8l;dsimp only;refine wK hK (c8) fun hHeld=> ?_;clear hK K;refine wR 6 fun K hK=> ?_;go_simp;refine zM (jf hV8 (fun S1 h1=>Xi b t p s _ q _ S1 _ h1 hp)) ?_;rintro w9 ⟨hV9,hV9l⟩;have c9:=jc hV9l zT c8;clear hV9l;dsimp only;refine wK hK (c9) fun hHeld=> ?_;clear hK K;refine wD ?_;go_wp2;go_end0;exact ⟨rfl,hV9.done jk⟩
theorem yJ [AllF] (b:Nat) (t p s q n:Int) (w:World) (S:Nat->Prop) (st:VS) (h:RV w b S st) (hp:p<=1024) :
 Calls prog 211 #[.pointer (some ⟨b,0,none⟩),.agg #[.int .i64 t,.int .i64 p,.int .i64 s],.int .i64 q,.int .i64 n] w fun e w'=>e= .returned (.tuple #[])/\JQ w b S (yY t p s q n st) w':=by
 by_cases hc:0<=q/\q < p/\1<=n/\n<=p - q
 ·have:=radd_in b t p s q.toNat n.toNat w S st h hp zo zo zo;rw [show ((q.toNat:Nat):Int)=q by omega,show ((n.toNat:Nat):Int)=n by omega] at this;unfold yY;rw [if_pos hc];exact this
 ·have hF:yY t p s q n st=st:=if_neg hc;rw [hF];exact radd_out b t p s q n w S st h hp hc

theorem QO (t p s q:Int) (st:VS):0<=(kJ t p s q st).1/\(kJ t p s q st).1<=1024:=by
 have h:=qj (st.get (ofF t p s q 0)).1;unfold kJ jD;split <;> dsimp only <;> omega
theorem jfp (st:VS):st.get (-1)=(0,st):=by unfold VS.get VS.there;simp
theorem jeM (t p s q part:Int) (h:q < 0):ofF t p s q part= -1:=by unfold ofF;rw [if_neg zo]
theorem Qt [AllF] (b:Nat) (t p s q n:Int) (w:World) (S:Nat->Prop) (st:VS) (h:RV w b S st) (hp:p<=1024) (hq0:0<=q) (hq1:q<=1024) (hn0:0<=n) (hn1:n<=1024) :
 Calls prog 167 #[.pointer (some ⟨b,0,none⟩),.agg #[.int .i64 t,.int .i64 p,.int .i64 s],.int .i64 q,.int .i64 n] w fun e w'=>e= .returned (.tuple #[])/\JQ w b S (kw t p s q n st) w':=by
 have hV:=(VSt.start jk h).alloc jk (.cells #[.int .i64 t,.int .i64 p,.int .i64 s] 23);have c0:=jp w #[.int .i64 t,.int .i64 p,.int .i64 s] 23;have hbk:qR t p s q n st=(if (jW t p s q st).1 < 0 then ((q,n),(jW t p s q st).2) else if (jD t p s (jW t p s q st).1 (jW t p s q st).2).1=0 then ((q,n),(jD t p s (jW t p s q st).1 (jW t p s q st).2).2) else (((jW t p s q st).1,n+(qg t p s (jW t p s q st).1 q (jD t p s (jW t p s q st).1 (jW t p s q st).2).2).1),(qg t p s (jW t p s q st).1 q (jD t p s (jW t p s q st).1 (jW t p s q st).2).2).2)):=rfl;obtain ⟨bk,hb⟩:∃x,qR t p s q n st=x:=⟨_,rfl⟩
 rw [hb] at hbk;have hR:kw t p s q n st=kP n (yY t p s bk.1.1 (kX t p s (q+n) bk.1.2 bk.2).1 (kX t p s (q+n) bk.1.2 bk.2).2):=by unfold kw;rw [hb]
 rw [hR];have hinv:=jk.inv h;clear hR hb h;have hwr:IntKind.i64.wrap (q+n)=q+n:=jr _ zo;have hwq:IntKind.i64.wrap (q - 1)=q - 1:=jr _ zo;have hwn:IntKind.u32.wrap n=n:=IntWalk.u32_in _ zo;have hwz:IntKind.i64.wrap (q+n - 1)=q+n - 1:=jr _ zo;by_cases hz:q=0
 ·have e0:qR t p s q n st=((q,n),st):=by subst hz;rfl
  have e1:bk=((q,n),st):=hbk.trans e0;subst e1;dsimp only;have hz2:¬0 < q:=by omega
  clear hbk e0 hwq hinv hz;by_cases hr:q+n < p
  ·have hfo:kX t p s (q+n) (n) st=(if (jD t p s (q+n) st).1=0 then (n,(jD t p s (q+n) st).2) else (n+(qg t p s (q+n) (q+n) (jD t p s (q+n) st).2).1,(qg t p s (q+n) (q+n) (jD t p s (q+n) st).2).2)):=by unfold kX;rw [if_pos hr]
   rw [hfo];clear hfo;obtain ⟨v2,s4,hg2⟩:∃v s4,st.get (ofF t p s (q+n) 0)=(v,s4):=⟨_,_,rfl⟩
   have HI2:=zh (J4 (b:=b) hg2);have hbd2:=qj v2;rw [show jD t p s (q+n) st=(Jp v2,s4) by unfold jD;rw [hg2]];dsimp only;clear hg2;by_cases hk2:iK v2=1
   ·rw [if_neg (by have:=hbd2.2.2.1 hk2;omega)];rw [hk2] at HI2;clear hbd2 hk2;generalize iL v2=il2 at*
    generalize iC v2=ic2 at*
    have hj2:=QO t p s (q+n) s4;have HD:=fun (w:World) (S1:Nat->Prop) (h1:RV w b S1 s4)=>KQ b t p s (q+n) w S1 s4 h1;have hjo:qg t p s (q+n) (q+n) s4=((kJ t p s (q+n) s4).1,((kJ t p s (q+n) s4).2.put (ofF t p s (q+n) 0) 0).put (ofF t p s (q+n - 1) 1) 0):=rfl;obtain ⟨j2,s5,hj⟩:∃j s5,kJ t p s (q+n) s4=(j,s5):=⟨_,_,rfl⟩
    rw [hj] at hjo HD hj2;rw [hjo];dsimp only at HD hj2 ⊢;clear hjo hj;have HD2:=zh HD;clear HD;have hw5:IntKind.i64.wrap (n+j2)=n+j2:=jr _ zo;obtain ⟨s7,hs7⟩:∃x,(s5.put (ofF t p s (q+n) 0) 0).put (ofF t p s (q+n - 1) 1) 0=x:=⟨_,rfl⟩
    have HP7:=fun (w:World) (S1:Nat->Prop) (h1:RV w b S1 (s5.put (ofF t p s (q+n) 0) 0))=>jI b (ofF t p s (q+n - 1) 1) 0 w S1 _ h1 VS.u32_zero;rw [hs7] at HP7 ⊢;clear hs7;have HQ7:=zh HP7;clear HP7;have HAd:=zh (fun (w:World) (S1:Nat->Prop) (h1:RV w b S1 s7)=>yJ b t p s q (n+j2) w S1 s7 h1 hp);obtain ⟨s8,hs8⟩:∃x,yY t p s q (n+j2) s7=x:=⟨_,rfl⟩
    rw [hs8] at HAd ⊢;clear hs8;have hC:kP n s8=(s8.get 0).2.put 0 (IntKind.u32.wrap ((s8.get 0).1+n)):=rfl;obtain ⟨vc,sc,hc⟩:∃v s1,s8.get 0=(v,s1):=⟨_,_,rfl⟩
    have HGc:=zh (yr (b:=b) hc);rw [hC,hc];dsimp only;clear hC hc;have hU:=zh (show VS.U32 (IntKind.u32.wrap (vc+n)) by unfold VS.U32;rw [IntKind.wrap_u32];omega);obtain ⟨x,hx⟩:∃x,x=IntKind.u32.wrap (vc+n):=⟨_,rfl⟩
    rw [<-hx] at hU ⊢;have hx2:=hx.symm;clear hx;go_enter func167,ntmps167;go_wp2_with fail;refine zM (jf hV (HI2.out _)) ?_;rintro w11 ⟨hY,hYl⟩;replace c0:=jc hYl zT c0;replace hV:=hY;clear hY hYl;replace c0:=jC (.cells #[.int .i64 1,.int .i64 il2,.int .i64 ic2] 130) (hV.ls _ zT).1 c0;replace hV:=hV.alloc jk (.cells #[.int .i64 1,.int .i64 il2,.int .i64 ic2] 130);go_wp2_with fail;refine zM (jf hV (HD2.out _)) ?_;rintro w12 ⟨hY,hYl⟩;replace c0:=jc hYl zT c0;replace hV:=hY;clear hY hYl;go_wp2_with fail;refine zM (jj jk hV (qD _ _ _ _ _)) ?_;rintro w13 ⟨hY,hYl⟩;replace c0:=jc hYl zT c0;replace hV:=hY;clear hY hYl;go_wp2_with fail;refine zM (jf hV (fun S1 h1=>jI _ _ _ _ _ _ h1 VS.u32_zero)) ?_;rintro w14 ⟨hY,hYl⟩;replace c0:=jc hYl zT c0;replace hV:=hY;clear hY hYl;go_wp2_with fail;refine zM (jj jk hV (kR _ _ _ _ _)) ?_;rintro w15 ⟨hY,hYl⟩;replace c0:=jc hYl zT c0;replace hV:=hY;clear hY hYl;go_wp2_with fail;refine zM (jf hV (HQ7.out _)) ?_;rintro w16 ⟨hY,hYl⟩;replace c0:=jc hYl zT c0;replace hV:=hY;clear hY hYl;go_wp2_with fail;refine zM (jf hV (HAd.out _)) ?_;rintro w21 ⟨hY,hYl⟩;replace c0:=jc hYl zT c0;replace hV:=hY;clear hY hYl;go_wp2_with fail;refine zM (jf hV (HGc.out _)) ?_;rintro w22 ⟨hY,hYl⟩;replace c0:=jc hYl zT c0;replace hV:=hY;clear hY hYl;go_wp2_with fail;refine zM (jf hV (fun S1 h1=>jI _ _ _ _ _ _ h1 hU.out)) ?_;rintro w23 ⟨hY,hYl⟩;replace c0:=jc hYl zT c0;replace hV:=hY;clear hY hYl;go_wp2;go_end0;exact ⟨rfl,hV.done jk⟩
   ·rw [if_pos (hbd2.2.2.2 hk2)];dsimp only;clear hbd2;generalize iK v2=ik2 at*
    generalize iL v2=il2 at*
    generalize iC v2=ic2 at*
    have HAd:=zh (fun (w:World) (S1:Nat->Prop) (h1:RV w b S1 s4)=>yJ b t p s q (n) w S1 s4 h1 hp);obtain ⟨s8,hs8⟩:∃x,yY t p s q (n) s4=x:=⟨_,rfl⟩
    rw [hs8] at HAd ⊢;clear hs8;have hC:kP n s8=(s8.get 0).2.put 0 (IntKind.u32.wrap ((s8.get 0).1+n)):=rfl;obtain ⟨vc,sc,hc⟩:∃v s1,s8.get 0=(v,s1):=⟨_,_,rfl⟩
    have HGc:=zh (yr (b:=b) hc);rw [hC,hc];dsimp only;clear hC hc;have hU:=zh (show VS.U32 (IntKind.u32.wrap (vc+n)) by unfold VS.U32;rw [IntKind.wrap_u32];omega);obtain ⟨x,hx⟩:∃x,x=IntKind.u32.wrap (vc+n):=⟨_,rfl⟩
    rw [<-hx] at hU ⊢;have hx2:=hx.symm;clear hx;go_enter func167,ntmps167;go_wp2_with fail;refine zM (jf hV (HI2.out _)) ?_;rintro w11 ⟨hY,hYl⟩;replace c0:=jc hYl zT c0;replace hV:=hY;clear hY hYl;replace c0:=jC (.cells #[.int .i64 ik2,.int .i64 il2,.int .i64 ic2] 130) (hV.ls _ zT).1 c0;replace hV:=hV.alloc jk (.cells #[.int .i64 ik2,.int .i64 il2,.int .i64 ic2] 130);go_wp2_with fail;refine zM (jf hV (HAd.out _)) ?_;rintro w21 ⟨hY,hYl⟩;replace c0:=jc hYl zT c0;replace hV:=hY;clear hY hYl;go_wp2_with fail;refine zM (jf hV (HGc.out _)) ?_;rintro w22 ⟨hY,hYl⟩;replace c0:=jc hYl zT c0;replace hV:=hY;clear hY hYl;go_wp2_with fail;refine zM (jf hV (fun S1 h1=>jI _ _ _ _ _ _ h1 hU.out)) ?_;rintro w23 ⟨hY,hYl⟩;replace c0:=jc hYl zT c0;replace hV:=hY;clear hY hYl;go_wp2;go_end0;exact ⟨rfl,hV.done jk⟩
  ·have hfo:kX t p s (q+n) (n) st=(n,st):=by unfold kX;rw [if_neg hr]
   rw [hfo];clear hfo;dsimp only;have HAd:=zh (fun (w:World) (S1:Nat->Prop) (h1:RV w b S1 st)=>yJ b t p s q (n) w S1 st h1 hp);obtain ⟨s8,hs8⟩:∃x,yY t p s q (n) st=x:=⟨_,rfl⟩
   rw [hs8] at HAd ⊢;clear hs8;have hC:kP n s8=(s8.get 0).2.put 0 (IntKind.u32.wrap ((s8.get 0).1+n)):=rfl;obtain ⟨vc,sc,hc⟩:∃v s1,s8.get 0=(v,s1):=⟨_,_,rfl⟩
   have HGc:=zh (yr (b:=b) hc);rw [hC,hc];dsimp only;clear hC hc;have hU:=zh (show VS.U32 (IntKind.u32.wrap (vc+n)) by unfold VS.U32;rw [IntKind.wrap_u32];omega);obtain ⟨x,hx⟩:∃x,x=IntKind.u32.wrap (vc+n):=⟨_,rfl⟩
   rw [<-hx] at hU ⊢;have hx2:=hx.symm;clear hx;go_enter func167,ntmps167;go_wp2_with fail;refine zM (jf hV (HAd.out _)) ?_;rintro w21 ⟨hY,hYl⟩;replace c0:=jc hYl zT c0;replace hV:=hY;clear hY hYl;go_wp2_with fail;refine zM (jf hV (HGc.out _)) ?_;rintro w22 ⟨hY,hYl⟩;replace c0:=jc hYl zT c0;replace hV:=hY;clear hY hYl;go_wp2_with fail;refine zM (jf hV (fun S1 h1=>jI _ _ _ _ _ _ h1 hU.out)) ?_;rintro w23 ⟨hY,hYl⟩;replace c0:=jc hYl zT c0;replace hV:=hY;clear hY hYl;go_wp2;go_end0;exact ⟨rfl,hV.done jk⟩
 ·have hz2:0 < q:=zo;have e0:jW t p s q st=((st.get (ofF t p s (q - 1) 1)).1 - 1,(st.get (ofF t p s (q - 1) 1)).2):=if_neg hz;have hu:=VS.get_u32 hinv (ofF t p s (q - 1) 1);obtain ⟨v,s1,hg⟩:∃v s1,st.get (ofF t p s (q - 1) 1)=(v,s1):=⟨_,_,rfl⟩
  have HG:=zh (yr (b:=b) hg);rw [hg] at e0 hu;dsimp only at e0 hu;rw [e0] at hbk;dsimp only at hbk;obtain ⟨hu1,hu2⟩:=hu;have hwv:IntKind.i64.wrap v=v:=jr _ zo;have hwv1:IntKind.i64.wrap (v - 1)=v - 1:=jr _ zo;obtain ⟨vi,s2,hgi⟩:∃y s2,s1.get (ofF t p s (v - 1) 0)=(y,s2):=⟨_,_,rfl⟩
  have HI:=zh (J4 (b:=b) hgi);have hbd:=qj vi;have hfa:jD t p s (v - 1) s1=(Jp vi,s2):=by unfold jD;rw [hgi]
  rw [hfa] at hbk;dsimp only at hbk;clear hfa e0 hg hinv hz;by_cases hk:iK vi=1
  ·have hv0:¬v - 1 < 0:=by
    intro hx;rw [jeM _ _ _ _ _ hx,jfp] at hgi;obtain ⟨rfl,-⟩:=Prod.mk.inj hgi;exact absurd hk zd
   rw [if_neg hv0,if_neg (by have:=hbd.2.2.1 hk;omega)] at hbk;rw [hk] at HI;clear hbd hk hgi;generalize iL vi=il at*
   generalize iC vi=ic at*
   have hj1:=QO t p s (v - 1) s2;have HD:=fun (w:World) (S1:Nat->Prop) (h1:RV w b S1 s2)=>KQ b t p s (v - 1) w S1 s2 h1;have hjo:qg t p s (v - 1) q s2=((kJ t p s (v - 1) s2).1,((kJ t p s (v - 1) s2).2.put (ofF t p s q 0) 0).put (ofF t p s (q - 1) 1) 0):=rfl;obtain ⟨j1,s5,hj⟩:∃j s5,kJ t p s (v - 1) s2=(j,s5):=⟨_,_,rfl⟩
   rw [hj] at hjo HD hj1;rw [hjo] at hbk;dsimp only at HD hj1 hbk;clear hjo hj;have HD1:=zh HD;clear HD;have hw4:IntKind.i64.wrap (n+j1)=n+j1:=jr _ zo;obtain ⟨s3,hs3⟩:∃x,(s5.put (ofF t p s q 0) 0).put (ofF t p s (q - 1) 1) 0=x:=⟨_,rfl⟩
   have HP3:=fun (w:World) (S1:Nat->Prop) (h1:RV w b S1 (s5.put (ofF t p s q 0) 0))=>jI b (ofF t p s (q - 1) 1) 0 w S1 _ h1 VS.u32_zero;rw [hs3] at HP3 hbk;clear hs3;have HQ3:=zh HP3;clear HP3;subst hbk;dsimp only;by_cases hr:q+n < p
   ·have hfo:kX t p s (q+n) (n+j1) s3=(if (jD t p s (q+n) s3).1=0 then (n+j1,(jD t p s (q+n) s3).2) else (n+j1+(qg t p s (q+n) (q+n) (jD t p s (q+n) s3).2).1,(qg t p s (q+n) (q+n) (jD t p s (q+n) s3).2).2)):=by unfold kX;rw [if_pos hr]
    rw [hfo];clear hfo;obtain ⟨v2,s4,hg2⟩:∃v s4,s3.get (ofF t p s (q+n) 0)=(v,s4):=⟨_,_,rfl⟩
    have HI2:=zh (J4 (b:=b) hg2);have hbd2:=qj v2;rw [show jD t p s (q+n) s3=(Jp v2,s4) by unfold jD;rw [hg2]];dsimp only;clear hg2;by_cases hk2:iK v2=1
    ·rw [if_neg (by have:=hbd2.2.2.1 hk2;omega)];rw [hk2] at HI2;clear hbd2 hk2;generalize iL v2=il2 at*
     generalize iC v2=ic2 at*
     have hj2:=QO t p s (q+n) s4;have HD:=fun (w:World) (S1:Nat->Prop) (h1:RV w b S1 s4)=>KQ b t p s (q+n) w S1 s4 h1;have hjo:qg t p s (q+n) (q+n) s4=((kJ t p s (q+n) s4).1,((kJ t p s (q+n) s4).2.put (ofF t p s (q+n) 0) 0).put (ofF t p s (q+n - 1) 1) 0):=rfl;obtain ⟨j2,s5,hj⟩:∃j s5,kJ t p s (q+n) s4=(j,s5):=⟨_,_,rfl⟩
     rw [hj] at hjo HD hj2;rw [hjo];dsimp only at HD hj2 ⊢;clear hjo hj;have HD2:=zh HD;clear HD;have hw5:IntKind.i64.wrap (n+j1+j2)=n+j1+j2:=jr _ zo;obtain ⟨s7,hs7⟩:∃x,(s5.put (ofF t p s (q+n) 0) 0).put (ofF t p s (q+n - 1) 1) 0=x:=⟨_,rfl⟩
     have HP7:=fun (w:World) (S1:Nat->Prop) (h1:RV w b S1 (s5.put (ofF t p s (q+n) 0) 0))=>jI b (ofF t p s (q+n - 1) 1) 0 w S1 _ h1 VS.u32_zero;rw [hs7] at HP7 ⊢;clear hs7;have HQ7:=zh HP7;clear HP7;have HAd:=zh (fun (w:World) (S1:Nat->Prop) (h1:RV w b S1 s7)=>yJ b t p s (v - 1) (n+j1+j2) w S1 s7 h1 hp);obtain ⟨s8,hs8⟩:∃x,yY t p s (v - 1) (n+j1+j2) s7=x:=⟨_,rfl⟩
     rw [hs8] at HAd ⊢;clear hs8;have hC:kP n s8=(s8.get 0).2.put 0 (IntKind.u32.wrap ((s8.get 0).1+n)):=rfl;obtain ⟨vc,sc,hc⟩:∃v s1,s8.get 0=(v,s1):=⟨_,_,rfl⟩
     have HGc:=zh (yr (b:=b) hc);rw [hC,hc];dsimp only;clear hC hc;have hU:=zh (show VS.U32 (IntKind.u32.wrap (vc+n)) by unfold VS.U32;rw [IntKind.wrap_u32];omega);obtain ⟨x,hx⟩:∃x,x=IntKind.u32.wrap (vc+n):=⟨_,rfl⟩
     rw [<-hx] at hU ⊢;have hx2:=hx.symm;clear hx;go_enter func167,ntmps167;go_wp2_with fail;refine zM (jj jk hV (kR _ _ _ _ _)) ?_;rintro w1 ⟨hY,hYl⟩;replace c0:=jc hYl zT c0;replace hV:=hY;clear hY hYl;go_wp2_with fail;refine zM (jf hV (HG.out _)) ?_;rintro w2 ⟨hY,hYl⟩;replace c0:=jc hYl zT c0;replace hV:=hY;clear hY hYl;go_wp2_with fail;refine zM (jf hV (HI.out _)) ?_;rintro w3 ⟨hY,hYl⟩;replace c0:=jc hYl zT c0;replace hV:=hY;clear hY hYl;replace c0:=jC (.cells #[.int .i64 1,.int .i64 il,.int .i64 ic] 130) (hV.ls _ zT).1 c0;replace hV:=hV.alloc jk (.cells #[.int .i64 1,.int .i64 il,.int .i64 ic] 130);go_wp2_with fail;refine zM (jf hV (HD1.out _)) ?_;rintro w4 ⟨hY,hYl⟩;replace c0:=jc hYl zT c0;replace hV:=hY;clear hY hYl;go_wp2_with fail;refine zM (jj jk hV (qD _ _ _ _ _)) ?_;rintro w5 ⟨hY,hYl⟩;replace c0:=jc hYl zT c0;replace hV:=hY;clear hY hYl;go_wp2_with fail;refine zM (jf hV (fun S1 h1=>jI _ _ _ _ _ _ h1 VS.u32_zero)) ?_;rintro w6 ⟨hY,hYl⟩;replace c0:=jc hYl zT c0;replace hV:=hY;clear hY hYl;go_wp2_with fail;refine zM (jj jk hV (kR _ _ _ _ _)) ?_;rintro w7 ⟨hY,hYl⟩;replace c0:=jc hYl zT c0;replace hV:=hY;clear hY hYl;go_wp2_with fail;refine zM (jf hV (HQ3.out _)) ?_;rintro w8 ⟨hY,hYl⟩;replace c0:=jc hYl zT c0;replace hV:=hY;clear hY hYl;go_wp2_with fail;refine zM (jf hV (HI2.out _)) ?_;rintro w11 ⟨hY,hYl⟩;replace c0:=jc hYl zT c0;replace hV:=hY;clear hY hYl;replace c0:=jC (.cells #[.int .i64 1,.int .i64 il2,.int .i64 ic2] 130) (hV.ls _ zT).1 c0;replace hV:=hV.alloc jk (.cells #[.int .i64 1,.int .i64 il2,.int .i64 ic2] 130);go_wp2_with fail;refine zM (jf hV (HD2.out _)) ?_;rintro w12 ⟨hY,hYl⟩;replace c0:=jc hYl zT c0;replace hV:=hY;clear hY hYl;go_wp2_with fail;refine zM (jj jk hV (qD _ _ _ _ _)) ?_;rintro w13 ⟨hY,hYl⟩;replace c0:=jc hYl zT c0;replace hV:=hY;clear hY hYl;go_wp2_with fail;refine zM (jf hV (fun S1 h1=>jI _ _ _ _ _ _ h1 VS.u32_zero)) ?_;rintro w14 ⟨hY,hYl⟩;replace c0:=jc hYl zT c0;replace hV:=hY;clear hY hYl;go_wp2_with fail;refine zM (jj jk hV (kR _ _ _ _ _)) ?_;rintro w15 ⟨hY,hYl⟩;replace c0:=jc hYl zT c0;replace hV:=hY;clear hY hYl;go_wp2_with fail;refine zM (jf hV (HQ7.out _)) ?_;rintro w16 ⟨hY,hYl⟩;replace c0:=jc hYl zT c0;replace hV:=hY;clear hY hYl;go_wp2_with fail;refine zM (jf hV (HAd.out _)) ?_;rintro w21 ⟨hY,hYl⟩;replace c0:=jc hYl zT c0;replace hV:=hY;clear hY hYl;go_wp2_with fail;refine zM (jf hV (HGc.out _)) ?_;rintro w22 ⟨hY,hYl⟩;replace c0:=jc hYl zT c0;replace hV:=hY;clear hY hYl;go_wp2_with fail;refine zM (jf hV (fun S1 h1=>jI _ _ _ _ _ _ h1 hU.out)) ?_;rintro w23 ⟨hY,hYl⟩;replace c0:=jc hYl zT c0;replace hV:=hY;clear hY hYl;go_wp2;go_end0;exact ⟨rfl,hV.done jk⟩
    ·rw [if_pos (hbd2.2.2.2 hk2)];dsimp only;clear hbd2;generalize iK v2=ik2 at*
     generalize iL v2=il2 at*
     generalize iC v2=ic2 at*
     have HAd:=zh (fun (w:World) (S1:Nat->Prop) (h1:RV w b S1 s4)=>yJ b t p s (v - 1) (n+j1) w S1 s4 h1 hp);obtain ⟨s8,hs8⟩:∃x,yY t p s (v - 1) (n+j1) s4=x:=⟨_,rfl⟩
     rw [hs8] at HAd ⊢;clear hs8;have hC:kP n s8=(s8.get 0).2.put 0 (IntKind.u32.wrap ((s8.get 0).1+n)):=rfl;obtain ⟨vc,sc,hc⟩:∃v s1,s8.get 0=(v,s1):=⟨_,_,rfl⟩
     have HGc:=zh (yr (b:=b) hc);rw [hC,hc];dsimp only;clear hC hc;have hU:=zh (show VS.U32 (IntKind.u32.wrap (vc+n)) by unfold VS.U32;rw [IntKind.wrap_u32];omega);obtain ⟨x,hx⟩:∃x,x=IntKind.u32.wrap (vc+n):=⟨_,rfl⟩
     rw [<-hx] at hU ⊢;have hx2:=hx.symm;clear hx;go_enter func167,ntmps167;go_wp2_with fail;refine zM (jj jk hV (kR _ _ _ _ _)) ?_;rintro w1 ⟨hY,hYl⟩;replace c0:=jc hYl zT c0;replace hV:=hY;clear hY hYl;go_wp2_with fail;refine zM (jf hV (HG.out _)) ?_;rintro w2 ⟨hY,hYl⟩;replace c0:=jc hYl zT c0;replace hV:=hY;clear hY hYl;go_wp2_with fail;refine zM (jf hV (HI.out _)) ?_;rintro w3 ⟨hY,hYl⟩;replace c0:=jc hYl zT c0;replace hV:=hY;clear hY hYl;replace c0:=jC (.cells #[.int .i64 1,.int .i64 il,.int .i64 ic] 130) (hV.ls _ zT).1 c0;replace hV:=hV.alloc jk (.cells #[.int .i64 1,.int .i64 il,.int .i64 ic] 130);go_wp2_with fail;refine zM (jf hV (HD1.out _)) ?_;rintro w4 ⟨hY,hYl⟩;replace c0:=jc hYl zT c0;replace hV:=hY;clear hY hYl;go_wp2_with fail;refine zM (jj jk hV (qD _ _ _ _ _)) ?_;rintro w5 ⟨hY,hYl⟩;replace c0:=jc hYl zT c0;replace hV:=hY;clear hY hYl;go_wp2_with fail;refine zM (jf hV (fun S1 h1=>jI _ _ _ _ _ _ h1 VS.u32_zero)) ?_;rintro w6 ⟨hY,hYl⟩;replace c0:=jc hYl zT c0;replace hV:=hY;clear hY hYl;go_wp2_with fail;refine zM (jj jk hV (kR _ _ _ _ _)) ?_;rintro w7 ⟨hY,hYl⟩;replace c0:=jc hYl zT c0;replace hV:=hY;clear hY hYl;go_wp2_with fail;refine zM (jf hV (HQ3.out _)) ?_;rintro w8 ⟨hY,hYl⟩;replace c0:=jc hYl zT c0;replace hV:=hY;clear hY hYl;go_wp2_with fail;refine zM (jf hV (HI2.out _)) ?_;rintro w11 ⟨hY,hYl⟩;replace c0:=jc hYl zT c0;replace hV:=hY;clear hY hYl;replace c0:=jC (.cells #[.int .i64 ik2,.int .i64 il2,.int .i64 ic2] 130) (hV.ls _ zT).1 c0;replace hV:=hV.alloc jk (.cells #[.int .i64 ik2,.int .i64 il2,.int .i64 ic2] 130);go_wp2_with fail;refine zM (jf hV (HAd.out _)) ?_;rintro w21 ⟨hY,hYl⟩;replace c0:=jc hYl zT c0;replace hV:=hY;clear hY hYl;go_wp2_with fail;refine zM (jf hV (HGc.out _)) ?_;rintro w22 ⟨hY,hYl⟩;replace c0:=jc hYl zT c0;replace hV:=hY;clear hY hYl;go_wp2_with fail;refine zM (jf hV (fun S1 h1=>jI _ _ _ _ _ _ h1 hU.out)) ?_;rintro w23 ⟨hY,hYl⟩;replace c0:=jc hYl zT c0;replace hV:=hY;clear hY hYl;go_wp2;go_end0;exact ⟨rfl,hV.done jk⟩
   ·have hfo:kX t p s (q+n) (n+j1) s3=(n+j1,s3):=by unfold kX;rw [if_neg hr]
    rw [hfo];clear hfo;dsimp only;have HAd:=zh (fun (w:World) (S1:Nat->Prop) (h1:RV w b S1 s3)=>yJ b t p s (v - 1) (n+j1) w S1 s3 h1 hp);obtain ⟨s8,hs8⟩:∃x,yY t p s (v - 1) (n+j1) s3=x:=⟨_,rfl⟩
    rw [hs8] at HAd ⊢;clear hs8;have hC:kP n s8=(s8.get 0).2.put 0 (IntKind.u32.wrap ((s8.get 0).1+n)):=rfl;obtain ⟨vc,sc,hc⟩:∃v s1,s8.get 0=(v,s1):=⟨_,_,rfl⟩
    have HGc:=zh (yr (b:=b) hc);rw [hC,hc];dsimp only;clear hC hc;have hU:=zh (show VS.U32 (IntKind.u32.wrap (vc+n)) by unfold VS.U32;rw [IntKind.wrap_u32];omega);obtain ⟨x,hx⟩:∃x,x=IntKind.u32.wrap (vc+n):=⟨_,rfl⟩
    rw [<-hx] at hU ⊢;have hx2:=hx.symm;clear hx;go_enter func167,ntmps167;go_wp2_with fail;refine zM (jj jk hV (kR _ _ _ _ _)) ?_;rintro w1 ⟨hY,hYl⟩;replace c0:=jc hYl zT c0;replace hV:=hY;clear hY hYl;go_wp2_with fail;refine zM (jf hV (HG.out _)) ?_;rintro w2 ⟨hY,hYl⟩;replace c0:=jc hYl zT c0;replace hV:=hY;clear hY hYl;go_wp2_with fail;refine zM (jf hV (HI.out _)) ?_;rintro w3 ⟨hY,hYl⟩;replace c0:=jc hYl zT c0;replace hV:=hY;clear hY hYl;replace c0:=jC (.cells #[.int .i64 1,.int .i64 il,.int .i64 ic] 130) (hV.ls _ zT).1 c0;replace hV:=hV.alloc jk (.cells #[.int .i64 1,.int .i64 il,.int .i64 ic] 130);go_wp2_with fail;refine zM (jf hV (HD1.out _)) ?_;rintro w4 ⟨hY,hYl⟩;replace c0:=jc hYl zT c0;replace hV:=hY;clear hY hYl;go_wp2_with fail;refine zM (jj jk hV (qD _ _ _ _ _)) ?_;rintro w5 ⟨hY,hYl⟩;replace c0:=jc hYl zT c0;replace hV:=hY;clear hY hYl;go_wp2_with fail;refine zM (jf hV (fun S1 h1=>jI _ _ _ _ _ _ h1 VS.u32_zero)) ?_;rintro w6 ⟨hY,hYl⟩;replace c0:=jc hYl zT c0;replace hV:=hY;clear hY hYl;go_wp2_with fail;refine zM (jj jk hV (kR _ _ _ _ _)) ?_;rintro w7 ⟨hY,hYl⟩;replace c0:=jc hYl zT c0;replace hV:=hY;clear hY hYl;go_wp2_with fail;refine zM (jf hV (HQ3.out _)) ?_;rintro w8 ⟨hY,hYl⟩;replace c0:=jc hYl zT c0;replace hV:=hY;clear hY hYl;go_wp2_with fail;refine zM (jf hV (HAd.out _)) ?_;rintro w21 ⟨hY,hYl⟩;replace c0:=jc hYl zT c0;replace hV:=hY;clear hY hYl;go_wp2_with fail;refine zM (jf hV (HGc.out _)) ?_;rintro w22 ⟨hY,hYl⟩;replace c0:=jc hYl zT c0;replace hV:=hY;clear hY hYl;go_wp2_with fail;refine zM (jf hV (fun S1 h1=>jI _ _ _ _ _ _ h1 hU.out)) ?_;rintro w23 ⟨hY,hYl⟩;replace c0:=jc hYl zT c0;replace hV:=hY;clear hY hYl;go_wp2;go_end0;exact ⟨rfl,hV.done jk⟩
  ·have e2:bk=((q,n),s2):=by
    by_cases hx:v - 1 < 0
    ·rw [if_pos hx] at hbk;rw [jeM _ _ _ _ _ hx,jfp] at hgi;obtain ⟨-,rfl⟩:=Prod.mk.inj hgi;exact hbk
    ·rw [if_neg hx,if_pos (hbd.2.2.2 hk)] at hbk;exact hbk
   subst e2;dsimp only;clear hbk hbd hgi;generalize iK vi=ik at*
   generalize iL vi=il at*
   generalize iC vi=ic at*
   by_cases hr:q+n < p
   ·have hfo:kX t p s (q+n) (n) s2=(if (jD t p s (q+n) s2).1=0 then (n,(jD t p s (q+n) s2).2) else (n+(qg t p s (q+n) (q+n) (jD t p s (q+n) s2).2).1,(qg t p s (q+n) (q+n) (jD t p s (q+n) s2).2).2)):=by unfold kX;rw [if_pos hr]
    rw [hfo];clear hfo;obtain ⟨v2,s4,hg2⟩:∃v s4,s2.get (ofF t p s (q+n) 0)=(v,s4):=⟨_,_,rfl⟩
    have HI2:=zh (J4 (b:=b) hg2);have hbd2:=qj v2;rw [show jD t p s (q+n) s2=(Jp v2,s4) by unfold jD;rw [hg2]];dsimp only;clear hg2;by_cases hk2:iK v2=1
    ·rw [if_neg (by have:=hbd2.2.2.1 hk2;omega)];rw [hk2] at HI2;clear hbd2 hk2;generalize iL v2=il2 at*
     generalize iC v2=ic2 at*
     have hj2:=QO t p s (q+n) s4;have HD:=fun (w:World) (S1:Nat->Prop) (h1:RV w b S1 s4)=>KQ b t p s (q+n) w S1 s4 h1;have hjo:qg t p s (q+n) (q+n) s4=((kJ t p s (q+n) s4).1,((kJ t p s (q+n) s4).2.put (ofF t p s (q+n) 0) 0).put (ofF t p s (q+n - 1) 1) 0):=rfl;obtain ⟨j2,s5,hj⟩:∃j s5,kJ t p s (q+n) s4=(j,s5):=⟨_,_,rfl⟩
     rw [hj] at hjo HD hj2;rw [hjo];dsimp only at HD hj2 ⊢;clear hjo hj;have HD2:=zh HD;clear HD;have hw5:IntKind.i64.wrap (n+j2)=n+j2:=jr _ zo;obtain ⟨s7,hs7⟩:∃x,(s5.put (ofF t p s (q+n) 0) 0).put (ofF t p s (q+n - 1) 1) 0=x:=⟨_,rfl⟩
     have HP7:=fun (w:World) (S1:Nat->Prop) (h1:RV w b S1 (s5.put (ofF t p s (q+n) 0) 0))=>jI b (ofF t p s (q+n - 1) 1) 0 w S1 _ h1 VS.u32_zero;rw [hs7] at HP7 ⊢;clear hs7;have HQ7:=zh HP7;clear HP7;have HAd:=zh (fun (w:World) (S1:Nat->Prop) (h1:RV w b S1 s7)=>yJ b t p s q (n+j2) w S1 s7 h1 hp);obtain ⟨s8,hs8⟩:∃x,yY t p s q (n+j2) s7=x:=⟨_,rfl⟩
     rw [hs8] at HAd ⊢;clear hs8;have hC:kP n s8=(s8.get 0).2.put 0 (IntKind.u32.wrap ((s8.get 0).1+n)):=rfl;obtain ⟨vc,sc,hc⟩:∃v s1,s8.get 0=(v,s1):=⟨_,_,rfl⟩
     have HGc:=zh (yr (b:=b) hc);rw [hC,hc];dsimp only;clear hC hc;have hU:=zh (show VS.U32 (IntKind.u32.wrap (vc+n)) by unfold VS.U32;rw [IntKind.wrap_u32];omega);obtain ⟨x,hx⟩:∃x,x=IntKind.u32.wrap (vc+n):=⟨_,rfl⟩
     rw [<-hx] at hU ⊢;have hx2:=hx.symm;clear hx;go_enter func167,ntmps167;go_wp2_with fail;refine zM (jj jk hV (kR _ _ _ _ _)) ?_;rintro w1 ⟨hY,hYl⟩;replace c0:=jc hYl zT c0;replace hV:=hY;clear hY hYl;go_wp2_with fail;refine zM (jf hV (HG.out _)) ?_;rintro w2 ⟨hY,hYl⟩;replace c0:=jc hYl zT c0;replace hV:=hY;clear hY hYl;go_wp2_with fail;refine zM (jf hV (HI.out _)) ?_;rintro w3 ⟨hY,hYl⟩;replace c0:=jc hYl zT c0;replace hV:=hY;clear hY hYl;replace c0:=jC (.cells #[.int .i64 ik,.int .i64 il,.int .i64 ic] 130) (hV.ls _ zT).1 c0;replace hV:=hV.alloc jk (.cells #[.int .i64 ik,.int .i64 il,.int .i64 ic] 130);go_wp2_with fail;refine zM (jf hV (HI2.out _)) ?_;rintro w11 ⟨hY,hYl⟩;replace c0:=jc hYl zT c0;replace hV:=hY;clear hY hYl;replace c0:=jC (.cells #[.int .i64 1,.int .i64 il2,.int .i64 ic2] 130) (hV.ls _ zT).1 c0;replace hV:=hV.alloc jk (.cells #[.int .i64 1,.int .i64 il2,.int .i64 ic2] 130);go_wp2_with fail;refine zM (jf hV (HD2.out _)) ?_;rintro w12 ⟨hY,hYl⟩;replace c0:=jc hYl zT c0;replace hV:=hY;clear hY hYl;go_wp2_with fail;refine zM (jj jk hV (qD _ _ _ _ _)) ?_;rintro w13 ⟨hY,hYl⟩;replace c0:=jc hYl zT c0;replace hV:=hY;clear hY hYl;go_wp2_with fail;refine zM (jf hV (fun S1 h1=>jI _ _ _ _ _ _ h1 VS.u32_zero)) ?_;rintro w14 ⟨hY,hYl⟩;replace c0:=jc hYl zT c0;replace hV:=hY;clear hY hYl;go_wp2_with fail;refine zM (jj jk hV (kR _ _ _ _ _)) ?_;rintro w15 ⟨hY,hYl⟩;replace c0:=jc hYl zT c0;replace hV:=hY;clear hY hYl;go_wp2_with fail;refine zM (jf hV (HQ7.out _)) ?_;rintro w16 ⟨hY,hYl⟩;replace c0:=jc hYl zT c0;replace hV:=hY;clear hY hYl;go_wp2_with fail;refine zM (jf hV (HAd.out _)) ?_;rintro w21 ⟨hY,hYl⟩;replace c0:=jc hYl zT c0;replace hV:=hY;clear hY hYl;go_wp2_with fail;refine zM (jf hV (HGc.out _)) ?_;rintro w22 ⟨hY,hYl⟩;replace c0:=jc hYl zT c0;replace hV:=hY;clear hY hYl;go_wp2_with fail;refine zM (jf hV (fun S1 h1=>jI _ _ _ _ _ _ h1 hU.out)) ?_;rintro w23 ⟨hY,hYl⟩;replace c0:=jc hYl zT c0;replace hV:=hY;clear hY hYl;go_wp2;go_end0;exact ⟨rfl,hV.done jk⟩
    ·rw [if_pos (hbd2.2.2.2 hk2)];dsimp only;clear hbd2;generalize iK v2=ik2 at*
     generalize iL v2=il2 at*
     generalize iC v2=ic2 at*
     have HAd:=zh (fun (w:World) (S1:Nat->Prop) (h1:RV w b S1 s4)=>yJ b t p s q (n) w S1 s4 h1 hp);obtain ⟨s8,hs8⟩:∃x,yY t p s q (n) s4=x:=⟨_,rfl⟩
     rw [hs8] at HAd ⊢;clear hs8;have hC:kP n s8=(s8.get 0).2.put 0 (IntKind.u32.wrap ((s8.get 0).1+n)):=rfl;obtain ⟨vc,sc,hc⟩:∃v s1,s8.get 0=(v,s1):=⟨_,_,rfl⟩
     have HGc:=zh (yr (b:=b) hc);rw [hC,hc];dsimp only;clear hC hc;have hU:=zh (show VS.U32 (IntKind.u32.wrap (vc+n)) by unfold VS.U32;rw [IntKind.wrap_u32];omega);obtain ⟨x,hx⟩:∃x,x=IntKind.u32.wrap (vc+n):=⟨_,rfl⟩
     rw [<-hx] at hU ⊢;have hx2:=hx.symm;clear hx;go_enter func167,ntmps167;go_wp2_with fail;refine zM (jj jk hV (kR _ _ _ _ _)) ?_;rintro w1 ⟨hY,hYl⟩;replace c0:=jc hYl zT c0;replace hV:=hY;clear hY hYl;go_wp2_with fail;refine zM (jf hV (HG.out _)) ?_;rintro w2 ⟨hY,hYl⟩;replace c0:=jc hYl zT c0;replace hV:=hY;clear hY hYl;go_wp2_with fail;refine zM (jf hV (HI.out _)) ?_;rintro w3 ⟨hY,hYl⟩;replace c0:=jc hYl zT c0;replace hV:=hY;clear hY hYl;replace c0:=jC (.cells #[.int .i64 ik,.int .i64 il,.int .i64 ic] 130) (hV.ls _ zT).1 c0;replace hV:=hV.alloc jk (.cells #[.int .i64 ik,.int .i64 il,.int .i64 ic] 130);go_wp2_with fail;refine zM (jf hV (HI2.out _)) ?_;rintro w11 ⟨hY,hYl⟩;replace c0:=jc hYl zT c0;replace hV:=hY;clear hY hYl;replace c0:=jC (.cells #[.int .i64 ik2,.int .i64 il2,.int .i64 ic2] 130) (hV.ls _ zT).1 c0;replace hV:=hV.alloc jk (.cells #[.int .i64 ik2,.int .i64 il2,.int .i64 ic2] 130);go_wp2_with fail;refine zM (jf hV (HAd.out _)) ?_;rintro w21 ⟨hY,hYl⟩;replace c0:=jc hYl zT c0;replace hV:=hY;clear hY hYl;go_wp2_with fail;refine zM (jf hV (HGc.out _)) ?_;rintro w22 ⟨hY,hYl⟩;replace c0:=jc hYl zT c0;replace hV:=hY;clear hY hYl;go_wp2_with fail;refine zM (jf hV (fun S1 h1=>jI _ _ _ _ _ _ h1 hU.out)) ?_;rintro w23 ⟨hY,hYl⟩;replace c0:=jc hYl zT c0;replace hV:=hY;clear hY hYl;go_wp2;go_end0;exact ⟨rfl,hV.done jk⟩
   ·have hfo:kX t p s (q+n) (n) s2=(n,s2):=by unfold kX;rw [if_neg hr]
    rw [hfo];clear hfo;dsimp only;have HAd:=zh (fun (w:World) (S1:Nat->Prop) (h1:RV w b S1 s2)=>yJ b t p s q (n) w S1 s2 h1 hp);obtain ⟨s8,hs8⟩:∃x,yY t p s q (n) s2=x:=⟨_,rfl⟩
    rw [hs8] at HAd ⊢;clear hs8;have hC:kP n s8=(s8.get 0).2.put 0 (IntKind.u32.wrap ((s8.get 0).1+n)):=rfl;obtain ⟨vc,sc,hc⟩:∃v s1,s8.get 0=(v,s1):=⟨_,_,rfl⟩
    have HGc:=zh (yr (b:=b) hc);rw [hC,hc];dsimp only;clear hC hc;have hU:=zh (show VS.U32 (IntKind.u32.wrap (vc+n)) by unfold VS.U32;rw [IntKind.wrap_u32];omega);obtain ⟨x,hx⟩:∃x,x=IntKind.u32.wrap (vc+n):=⟨_,rfl⟩
    rw [<-hx] at hU ⊢;have hx2:=hx.symm;clear hx;go_enter func167,ntmps167;go_wp2_with fail;refine zM (jj jk hV (kR _ _ _ _ _)) ?_;rintro w1 ⟨hY,hYl⟩;replace c0:=jc hYl zT c0;replace hV:=hY;clear hY hYl;go_wp2_with fail;refine zM (jf hV (HG.out _)) ?_;rintro w2 ⟨hY,hYl⟩;replace c0:=jc hYl zT c0;replace hV:=hY;clear hY hYl;go_wp2_with fail;refine zM (jf hV (HI.out _)) ?_;rintro w3 ⟨hY,hYl⟩;replace c0:=jc hYl zT c0;replace hV:=hY;clear hY hYl;replace c0:=jC (.cells #[.int .i64 ik,.int .i64 il,.int .i64 ic] 130) (hV.ls _ zT).1 c0;replace hV:=hV.alloc jk (.cells #[.int .i64 ik,.int .i64 il,.int .i64 ic] 130);go_wp2_with fail;refine zM (jf hV (HAd.out _)) ?_;rintro w21 ⟨hY,hYl⟩;replace c0:=jc hYl zT c0;replace hV:=hY;clear hY hYl;go_wp2_with fail;refine zM (jf hV (HGc.out _)) ?_;rintro w22 ⟨hY,hYl⟩;replace c0:=jc hYl zT c0;replace hV:=hY;clear hY hYl;go_wp2_with fail;refine zM (jf hV (fun S1 h1=>jI _ _ _ _ _ _ h1 hU.out)) ?_;rintro w23 ⟨hY,hYl⟩;replace c0:=jc hYl zT c0;replace hV:=hY;clear hY hYl;go_wp2;go_end0;exact ⟨rfl,hV.done jk⟩
end Go.Proofs.YtcnininelndjoaaGreat

