/- parts of the proof, merged by a program. -/
import Derived.Test.YtcnininelndjoaaGreatMmt13
import Derived.Test.YtcnininelndjoaaGreatMmt14
set_option linter.unusedSimpArgs false
set_option linter.unusedVariables false
set_option maxRecDepth 100000
set_option maxHeartbeats 4000000
namespace Go.Proofs.YtcnininelndjoaaGreat
open Go.Proofs.Tryz
open Go.RowKit

section
variable {t z:Int} {vs C:List Int} {P K:Nat} {x:TS} {m:NM} {s0:Int} {k:Nat}
theorem SH.weak (h:SH t z P vs C K):SH t z P vs C 0:=⟨h.right,h.num,h.len,h.u32,h.chk,h.blocks,h.roots,fun x _ _ hx=>by omega⟩
theorem SH.hall (h:SH t z P C C P):∀q,q < P->wrP t P z q (SP t P z C q)=[]:=by
 intro q hq;have hs:=(h.same (q:=q) hq hq).1;rw [h.same_all (Nat.le_refl _) q zo];unfold wrP;rw [hs];rfl
structure CL (x:TS):Prop where
 ph:x.ph=0\/x.ph=1\/x.ph=10\/x.ph=19
 made:x.made=0
theorem jca (hsh:SH t z P vs vs 0) (hall:∀q,q < P->wrP t P z q (SP t P z vs q)=[]):∀(k:Nat) (y:TS),y.page+k=P->KnC (SP t P z vs y.page) y.known->y.made=0->CL (kH t P z k y)
 | 0,y,_,_,hm=>⟨.inr (.inr (.inr rfl)),hm⟩
 | k+1,y,hk,hc,hm=>by
  have hP:=jn hsh.right;have hSP:=hsh.all zo y.page;unfold kH;by_cases h0:0<=(thF t P z y.page y.known).1
  ·rw [if_pos h0];exact ⟨.inr (.inr (.inl rfl)),hm⟩
  ·rw [if_neg h0];have hw:=jbF (p:=P) (q:=y.page) hSP.cells hc h0;rw [hall y.page zo] at hw;rw [if_pos hw];exact jca hsh hall k _ (by dsimp only;omega) (KnC.nil _) hm
theorem cl_go (hsh:SH t z P vs vs 0) (hall:∀q,q < P->wrP t P z q (SP t P z vs q)=[]) (y:TS) (hk:y.page<=P) (hc:KnC (SP t P z vs y.page) y.known) (hm:y.made=0):CL (jL t P z y):=
 jca hsh hall _ y (by simp;omega) hc hm
theorem jfs (hall:∀q,q < P->wrP t P z q (SP t P z vs q)=[]) (g:GI t z P vs s0 k x m) (h:CL x) {s u:Int} {D:List Int} (hno:kQ t P z m.W s u none D) {d a v:Int} (hn:jp t P x=some (d,a,v)):d=1/\CL (nxt t P z (x,m)).1/\(nxt t P z (x,m)).2=m:=by
 rw [VR hn];have hpg:=g.inv.page;have hPn:(P:Int).toNat=P:=zT;obtain ⟨hr,hlen⟩:=hno.right;have hmb:=jI hr;have hrb:=jn hr;rcases h.ph with hp | hp | hp | hp
 ·have e:jp t P x=some (1,8,0):=by unfold jp;rw [hp];rfl
  rw [e] at hn;cases hn;obtain ⟨s',u',ht,-⟩:=(g.vok e).tip hp;refine ⟨rfl,?_,by rw [qe]⟩;dsimp only;rw [Xk hp ht];exact ⟨.inr (.inl rfl),h.made⟩
 ·have e:jp t P x=some (1,qX t P x.u,0):=by unfold jp;rw [hp];rfl
  rw [e] at hn;cases hn;refine ⟨rfl,?_,by rw [qe]⟩;have hc:=g.ci;rcases hc with ⟨s,u,o,hx,hk,hs⟩ | ⟨o,hp1,h0,hk,hs⟩ | ⟨L,hp1,-⟩ | ⟨A,j,ho,hs,hnt,hW,hM,hp1⟩ | ⟨hp1,-⟩ | ⟨A,ho,hs,hnt,ht,hW,hM,hp1⟩ | ⟨u,hp1,-⟩ | ⟨A,u,hs,hw,hM,hp1⟩ | ⟨u,hp1,-⟩ | ⟨A,u,hs,hw,hl,hx,hs0,hW,hM,hp1⟩ | ⟨u,hp1,-⟩
  ·rw [hx] at hp;exact absurd hp zd
  ·have ho:o=none:=by
    have h1:=hs.last;rw [hno.last] at h1;simp only [Option.some.injEq,Prod.mk.injEq] at h1;exact h1.2.2.symm
   subst ho;obtain ⟨-,hu,-,-⟩:=hs.tip;have ly:=kV hr hu.1 hu.2;have ea:qX t P x.u=(((jo t P x.u).toNat:Nat):Int):=by unfold qX;rw [if_pos hu];omega
   rw [qe,Jd (k:=(jo t P x.u).toNat) ea zo];dsimp only;rw [jaK g.inv hp hs.shut];exact cl_go g.sh hall x zo (by rw [h0.2.2.1];exact KnC.nil _) h.made
  ·omega
  ·rcases hp1 with h | h | h | h <;> omega
  ·omega
  ·rcases hp1 with h | h <;> omega
  ·omega
  ·rcases hp1 with h | h | h | ⟨h | h,-⟩ <;> omega
  ·omega
  ·rcases hp1 with h | h <;> omega
  ·omega
 ·have e:jp t P x=some (1,Je t P x.need,0):=by unfold jp;rw [hp];rfl
  rw [e] at hn;cases hn;refine ⟨rfl,?_,by rw [qe]⟩;have hc:=g.ci;rcases hc with ⟨s,u,o,hx,hk,hs⟩ | ⟨o,hp1,h0,hk,hs⟩ | ⟨L,hp1,-⟩ | ⟨A,j,ho,hs,hnt,hW,hM,hp1⟩ | ⟨hp1,-⟩ | ⟨A,ho,hs,hnt,ht,hW,hM,hp1⟩ | ⟨u,hp1,hk,hpg1,hs,hcn⟩ | ⟨A,u,hs,hw,hM,hp1⟩ | ⟨u,hp1,-⟩ | ⟨A,u,hs,hw,hl,hx,hs0,hW,hM,hp1⟩ | ⟨u,hp1,-⟩
  ·rw [hx] at hp;exact absurd hp zd
  ·omega
  ·omega
  ·rcases hp1 with h | h | h | h <;> omega
  ·omega
  ·rcases hp1 with h | h <;> omega
  ·have hC:=hs.vals;have hki:=(g.inv.h10 hp).2.2 (x.need,0) zT;dsimp only at hki;have ea:Je t P x.need=((16+x.need.toNat:Nat):Int):=by
    unfold Je;rw [if_pos ⟨hki.1,zo⟩];omega
   rw [qe,Jd ea zo,jaL g.inv hp];dsimp only;refine cl_go g.sh hall _ (by dsimp only;omega) ?_ h.made;show KnC (SP t P z vs x.page) (x.known++[(x.need,loW (m.W.getD (16+x.need.toNat) 0))]);have hne:(x.need:Int)=(x.need.toNat:Int):=zo;have hv:(SP t P z vs x.page)[x.need.toNat]? =some (loW (m.W.getD (16+x.need.toNat) 0)):=by
    rw [hC];unfold qY yn;rw [List.getElem?_map,List.getElem?_range hki.2];rfl
   generalize loW (m.W.getD (16+x.need.toNat) 0)=q at*
   rw [hne];exact hcn.snoc hv
  ·rcases hp1 with h | h | h | ⟨h | h,-⟩ <;> omega
  ·omega
  ·rcases hp1 with h | h <;> omega
  ·omega
 ·have e:jp t P x=none:=by unfold jp;rw [hp];rfl
  rw [e] at hn;cases hn
theorem cl_run (hall:∀q,q < P->wrP t P z q (SP t P z vs q)=[]) {s u:Int} {D:List Int} (hno:kQ t P z m.W s u none D) (hg:∀k,(∀j,j < k->(Jf t P z (TS.begin,m) j).1.ph≠19)->GI t z P vs s0 k (Jf t P z (TS.begin,m) k).1 (Jf t P z (TS.begin,m) k).2) :
 ∀k,(∀j,j < k->(Jf t P z (TS.begin,m) j).1.ph≠19)->CL (Jf t P z (TS.begin,m) k).1/\(Jf t P z (TS.begin,m) k).2=m
 | 0,_=>⟨⟨.inl rfl,rfl⟩,rfl⟩
 | k+1,h=>by
  obtain ⟨h1,h2⟩:=cl_run hall hno hg k (fun j hj=>h j zo);have g:=hg k (fun j hj=>h j zo);obtain ⟨d,a,v,hn⟩:=g.next (h k zo);rw [<-h2] at hno;obtain ⟨-,h3,h4⟩:=jfs hall g h1 hno hn;exact ⟨h3,h4.trans h2⟩
end

def MtRel1 (w:World) (t p s:Int) (bx bm:Nat) (q0:TS×NM) (vi:Value) (wr:World):Prop:=∃k:Nat,vi= .int .i64 k/\(∀j,j < k->(Jf t p s q0 j).1.ph≠19)/\N2 (RXM t p s bm) RU w bx 0 [w.heap.size] (Jf t p s q0 k) () wr/\wr.heap[w.heap.size]? =some (.cells #[.int .i64 t,.int .i64 p,.int .i64 s] 23)
def MtRel2 (w:World) (t p s:Int) (by_ bm:Nat) (m:NM) (nv kv:Value) (vi:Value) (wr:World):Prop:=∃k:Nat,vi= .int .i64 k/\(∀j,j < k->(Jf t p s (TS.begin,m) j).1.ph≠19)/\N2 (RXM t p s bm) RU w by_ 0 (w.heap.size :: (nv.ownBlock.toList++kv.ownBlock.toList)) (Jf t p s (TS.begin,m) k) () wr/\wr.heap[w.heap.size]? =some (.cells #[.int .i64 t,.int .i64 p,.int .i64 s] 23)/\
 wr.ownsRow 0 38 1 nv m.W.length (yG m.W)/\wr.ownsRow 0 38 1 kv m.K.length (yG m.K)
section
variable {t s:Int} {P:Nat} {vs xs:List Int} {w w':World}
theorem jbN {s0:Int} {q0:TS×NM} (h:GI t s P vs s0 0 q0.1 q0.2) {k:Nat} (hk:∀j,j < k->(Jf t P s q0 j).1.ph≠19) (hp:(Jf t P s q0 k).1.ph=19):∃u,(Jf t P s q0 k).2.K=(Jf t P s q0 k).2.W/\(Jf t P s q0 k).1.page=P/\kQ t P s (Jf t P s q0 k).2.W (Jf t P s q0 k).1.s u none (SP t P s vs P):=
 ci_over (Xy h k hk).ci hp
theorem YV {wv:Value} (hW:Rd w wv 1 xs.length (yG xs)) (hu:∀v∈xs,U64 v) (hf:jfn t P s xs=some vs) :
 Calls prog 4 #[.agg #[.int .i64 t,.int .i64 P,.int .i64 s],wv] w (zW (.bool true) w):=by
 obtain ⟨hsh,⟨st,u,o,hset,hst0,hst1⟩,h0,h8,h65,hnum⟩:=fit_some hf hu;have hr:=hsh.right;have hrb:=jn hr;have HF:=zh (fun (W:World) (hb:Below w.heap.size w W)=>jbP (t:=t) (p:=P) (s:=s) (Rd.keepBy hW hb (Nat.le_refl _)) hu);rw [hf] at HF;have hm0:(⟨xs,xs,[]⟩:NM).Inv:=NM.new_inv h0 h8 h65 hu;have hg0:=GI.start hsh hm0 rfl hset zo;have HG:=zh (Xy (q0:=(TS.begin,⟨xs,xs,[]⟩)) hg0);have HE:=zh (fun k hk hp=>jbN (q0:=(TS.begin,⟨xs,xs,[]⟩)) hg0 (k:=k) hk hp);have HSH:=zh hsh;obtain ⟨hwl,⟨-,hwn⟩ | ⟨ad,c,rfl,hwc⟩⟩:=hW
 ·exact absurd hwn h0
 have hcells:∀W,Below w.heap.size w W->∀j,j < xs.length->W.cell? (ad.add j)=some (.int .u64 (xs.getD j 0)):=fun W hb j hj=>by
  have:=hwc j _ (yW hj);exact (hb.cell (World.block_lt_of_cell? w _ this)).trans this
 have H1:=zh (fun W hb=>jb1 ad xs.length c xs W rfl h0 h8 h65 hu (hcells W hb));have HR:=zh hr;have HS1:=zh hst1;have B0:=zh ((Below.refl w.heap.size w).alloc (Nat.le_refl _) (.cells #[.int .i64 t,.int .i64 P,.int .i64 s] 23));clear hcells hwc hwl h0 h8 h65 hnum hset hst0 hst1 hsh hm0 hf hu hrb hr hg0;generalize hq0:(TS.begin,(⟨xs,xs,[]⟩:NM))=q0 at*
 generalize hxn:xs.length=n at*
 go_enter func4,ntmps4;go_wp2_with fail;refine (HF.out _ B0.out).mono ?_;rintro e w1 ⟨v,rfl,o1,-,b1⟩;have B1:=zh (B0.out.trans (b1.mono B0.out.size));have HC1:=zh ((b1.block w.heap.size zT).trans (heap_alloc_new w (.cells #[.int .i64 t,.int .i64 P,.int .i64 s] 23)));have zc1:w.heap.size < w1.heap.size:=zL b1;clear o1 b1 HF;go_wp2_with fail;refine (H1.out _ B1.out).mono ?_;rintro e w2 ⟨bm,rfl,-,⟨T1,pT,gT⟩,b2⟩;have B2:=zh (B1.out.trans (b2.mono B1.out.size));have zc2:w.heap.size < w2.heap.size:=Nat.lt_of_lt_of_le zc1 b2.size;have HC2:=zh ((b2.block w.heap.size zc1).trans HC1.out);have P2:=zh pT;have GT:=zh gT;have z12:=b2.size;clear pT gT b2 H1;have c0:=jd (o:=0) HC2.out;have c1:=jd (o:=1) HC2.out;have c2:=jd (o:=2) HC2.out;simp at c0 c1 c2;go_wp2_with fail;refine (Yq _ HR.out).mono ?_;rintro e w3 ⟨⟨bx,rfl,S1,mS,gS⟩,b3⟩;have hN:N2 (RXM t P s bm) RU w bx 0 [w.heap.size] q0 () w3/\w3.heap[w.heap.size]? =some (.cells #[.int .i64 t,.int .i64 P,.int .i64 s] 23):=by
  have z1:=B1.out.size;have P3:=qT.keep (T:=fun _=>False) P2.out (Fr.of_below b3) (fun _ _ x=>x);have lT:=qT.lt P2.out;have e1:=VH (P:=P) mS P3 (fun k hs ht=>by have:=gS k hs;have:=lT k ht;omega);rw [hq0] at e1;refine ⟨⟨⟨_,fun _=>False,e1,fun _ hf=>hf.elim,fun k hk=> ?_,fun _ hf=>hf.elim,fun _ _ hf=>hf.elim,fun L hL=>⟨fun hk=> ?_,fun hf=>hf.elim⟩⟩,B2.out.trans (b3.mono B2.out.size),fun L hL=> ?_⟩,(b3.block w.heap.size zc2).trans HC2.out⟩
  ·rcases hk with hk | hk
   ·have:=gS k hk;omega
   ·have:=GT.out k hk;omega
  ·simp at hL;subst hL;rcases hk with hk | hk
   ·have:=gS _ hk;omega
   ·have:=GT.out _ hk;omega
  ·simp at hL;subst hL;exact ⟨Nat.lt_of_lt_of_le zc2 b3.size,Nat.le_refl _⟩
 have HN:=zh hN;clear hN mS gS b3 P2 GT B0 B1 B2 HC1 HC2 zc1 zc2 z12 c0 c1 c2;go_wp2_with fail;go_loopw [9] (fun vi wr=>MtRel1 w t P s bx bm q0 vi wr) (fun vi _=>Yr t P+1 - (intOf vi).toNat);case atStart=>exact ⟨0,rfl,fun j hj=>absurd hj (Nat.not_lt_zero _),HN.out.1,HN.out.2⟩
 case round=>
  clear HN;obtain ⟨k,rfl,hph,hn,hcb⟩:=hrel;have hgi:=HG.out k hph;have hmost:=hgi.mu;have HGk:=zh hgi;have HN:=zh hn;have HCB:=zh hcb;have HPh:=zh hph;have hkm:(k:Int)<=(Yr t P:Int):=zo;have hbd:=jbj HR.out;have HEk:=zh (HE.out k hph);clear hn hcb hgi hph;have hzr:=(HN.out.ls w.heap.size zT).1;have c0:=jd (o:=0) HCB.out;have c1:=jd (o:=1) HCB.out;have c2:=jd (o:=2) HCB.out;simp at c0 c1 c2;go_wp2_with fail;refine zM (jb0 HR.out _) fun w6 b6=> ?_;have N6:=zh (HN.out.below qJ Yu b6);have C6:=zh ((b6.block w.heap.size hzr).trans HCB.out);clear b6 c0 c1 c2 HN HCB;by_cases hp:(Jf t P s q0 k).1.ph=19
  ·obtain ⟨u2,hkw,hpg,hst2⟩:=HEk.out hp;obtain ⟨S1,S2,x1,-,g1,-,-,hl1⟩:=N6.out.ex;have HOv:=zh (jbK x1 HR.out hp);have hs1:=HGk.out.s zo;have hmi:=HGk.out.mi;have HWd:=zh (fun (W:World) (hb:Below w6.heap.size w6 W)=>Yg (qJ.keep (T:=fun _=>False) x1 (Fr.of_below hb) (fun _ _ x=>x)));have HKd:=zh (fun (W:World) (hb:Below w6.heap.size w6 W)=>jbM (qJ.keep (T:=fun _=>False) x1 (Fr.of_below hb) (fun _ _ x=>x)));obtain ⟨⟨Sx,Tx,tm,hx,hxt⟩,hlt⟩:=x1;have PM6:=zh (And.intro tm.pm (And.intro hxt (And.intro g1 hl1)));have hst:(Jf t P s q0 k).1.s < 2180000000:=by have:=HS1.out;omega
   generalize (Jf t P s q0 k).1.s=st2 at*
   generalize (Jf t P s q0 k).2=mm at*
   -- the second mending's law
   have hshC:=(HSH.out.all (by have:=jn HR.out;omega) P)
   have hsh2:=hshC.again;have hg2:=GI.start hsh2.weak hmi hkw hst2 hst;have HG2:=zh (Xy (q0:=(TS.begin,mm)) hg2);have HE2:=zh (fun k hk hp=>jbN (q0:=(TS.begin,mm)) hg2 (k:=k) hk hp);have HAll:=zh hsh2.hall;have HCL:=zh (cl_run (P:=P) hsh2.hall hst2 (Xy (q0:=(TS.begin,mm)) hg2));have HM:=zh (And.intro hst2 (And.intro hkw (And.intro hmi.small hmi.kl)));have HBw:=zh N6.out.bel;clear hshC hsh2 hg2 hst2 hkw hmi hst hs1 tm hx hxt hlt g1 hl1 HGk HEk HG HE HPh N6;go_wp2_with fail;refine zM HOv.out fun w7 b7=> ?_;have D7:=zh b7;clear b7 HOv;go_wp2_with fail;refine (HWd.out _ D7.out).mono ?_;rintro e w8 ⟨nv,rfl,o8,-,b8⟩;have D8:=zh (D7.out.trans (b8.mono D7.out.size));have O8:=zh (Joins.ownsRow_le o8 (Nat.zero_le _));have F8:=zh (fun k hk=>(o8.lt k hk).1);have z78:=b8.size;clear b8 o8;go_wp2_with fail;refine (HKd.out _ D8.out).mono ?_;rintro e w9 ⟨kv,rfl,o9,-,b9⟩;have D9:=zh (D8.out.trans (b9.mono D8.out.size));have O9:=zh (Joins.ownsRow_le o9 (Nat.zero_le _));have F9:=zh (fun k hk=>(o9.lt k hk).1);have O89:=zh (jh (w':=w9) O8.out (fun k hk=>b9.block k (jt O8.out hk)));have z89:=b9.size;clear b9 o9;have C9:=zh ((D9.out.block w.heap.size (by have:=C6.out;exact (Array.getElem?_eq_some_iff.1 this).1)).trans C6.out);have d0:=jd (o:=0) C9.out;have d1:=jd (o:=1) C9.out;have d2:=jd (o:=2) C9.out;simp at d0 d1 d2;go_wp2_with fail;refine (Yq _ HR.out).mono ?_;rintro e w10 ⟨⟨by_,rfl,S4,mS,gS⟩,b10⟩;have hN:N2 (RXM t P s bm) RU w by_ 0 (w.heap.size :: (nv.ownBlock.toList++kv.ownBlock.toList)) (TS.begin,mm) () w10/\w10.heap[w.heap.size]? =some (.cells #[.int .i64 t,.int .i64 P,.int .i64 s] 23)/\w10.ownsRow 0 38 1 nv mm.W.length (yG mm.W)/\w10.ownsRow 0 38 1 kv mm.K.length (yG mm.K):=by
    obtain ⟨pm,hxt,g1,hl1⟩:=PM6.out;have z0:=HBw.out.size;have z6:=D9.out.size;have z7:=D7.out.size;have hzw:w.heap.size < w6.heap.size:=(Array.getElem?_eq_some_iff.1 C6.out).1;have P10:=qT.keep (T:=fun _=>False) pm (Fr.of_below (D9.out.trans (b10.mono D9.out.size))) (fun _ _ x=>x);have lT:=qT.lt pm;have hkl:=HM.out.2.2.2;have e1:=VH (P:=P) mS P10 (fun k hs ht=>by have:=gS k hs;have:=lT k ht;omega);have hL:∀L,L∈w.heap.size :: (nv.ownBlock.toList++kv.ownBlock.toList)->L=w.heap.size\/(w7.heap.size<=L/\L < w9.heap.size):=fun L hL=>by
     simp only [List.mem_cons,List.mem_append,Option.mem_toList] at hL;rcases hL with h | h | h
     ·exact .inl h
     ·exact .inr ⟨F8.out L h,by have:=jt O89.out h;exact this⟩
     ·exact .inr ⟨by have:=F9.out L h;omega,jt O9.out h⟩
    refine ⟨⟨⟨_,fun _=>False,e1,fun _ hf=>hf.elim,fun k hk=> ?_,fun _ hf=>hf.elim,fun _ _ hf=>hf.elim,fun L hLL=>⟨fun hk=> ?_,fun hf=>hf.elim⟩⟩,(HBw.out.trans (D9.out.mono z0)).trans (b10.mono (by have:=(HBw.out.trans (D9.out.mono z0)).size;exact this)),fun L hLL=> ?_⟩,(b10.block w.heap.size zo).trans C9.out,jh O89.out (fun k hk=>b10.block k (jt O89.out hk)),?_⟩
    ·rcases hk with hk | hk
     ·have:=gS k hk;omega
     ·exact g1 k (hxt k hk)
    ·rcases hL L hLL with h | h
     ·subst h;rcases hk with hk | hk
      ·have:=gS _ hk;omega
      ·exact (hl1 w.heap.size zT).1 (hxt _ hk)
     ·rcases hk with hk | hk
      ·have:=gS _ hk;omega
      ·have:=lT _ hk;omega
    ·have:=b10.size;rcases hL L hLL with h | h
     ·subst h;exact ⟨zo,Nat.le_refl _⟩
     ·exact ⟨zo,zo⟩
    ·rw [hkl];exact jh O9.out (fun k hk=>b10.block k (jt O9.out hk))
   have HN:=zh hN;clear hN mS gS b10 d0 d1 d2 PM6 C6 C9 D7 D8 D9 O8 O9 O89 F8 F9 z78 z89 HBw HWd HKd;go_wp2_with fail;go_loopw [13] (fun vi wr=>MtRel2 w t P s by_ bm mm nv kv vi wr) (fun vi _=>Yr t P+1 - (intOf vi).toNat);case atStart=>exact ⟨0,rfl,fun j hj=>absurd hj (Nat.not_lt_zero _),HN.out.1,HN.out.2.1,HN.out.2.2.1,HN.out.2.2.2⟩
   case round=>
    clear HN;obtain ⟨k2,rfl,hph,hn,hcb,hr1,hr2⟩:=hrel;have hgi:=HG2.out k2 hph;have hcl:=HCL.out k2 hph;have hmost:=hgi.mu;have hkm:(k2:Int)<=(Yr t P:Int):=zo;have hsw:=HE2.out k2 hph;have hd1:=fun (d a v:Int) hn=>(jfs (P:=P) HAll.out hgi hcl.1 (by rw [hcl.2];exact HM.out.1) (d:=d) (a:=a) (v:=v) hn).1;have HD1:=zh hd1;have HGk:=zh hgi;have HN:=zh hn;have HCB:=zh hcb;have HPh:=zh hph;have HSwp:=zh hsw;have HCl:=zh hcl;have HR1:=zh hr1;have HR2:=zh hr2;clear hn hcb hgi hph hcl hsw hd1 hr1 hr2;have hzr:=(HN.out.ls w.heap.size zT).1;have c0:=jd (o:=0) HCB.out;have c1:=jd (o:=1) HCB.out;have c2:=jd (o:=2) HCB.out;simp at c0 c1 c2;go_wp2_with fail;refine zM (jb0 HR.out _) fun w11 b11=> ?_;have D11:=zh b11;clear b11 c0 c1 c2;obtain ⟨S1,S2,x1,-⟩:=HN.out.ex;have HNx:=zh (fun (W:World) (hb:Below wr.heap.size wr W)=>rxm_next (qJ.keep (T:=fun _=>False) x1 (Fr.of_below hb) (fun _ _ x=>x)) HR.out);by_cases hp:(Jf t P s (TS.begin,mm) k2).1.ph=19
    ·have e19:=(Jp HGk.out.inv).2 hp;have ev:jcZ t P (Jf t P s (TS.begin,mm) k2).1= .tuple #[Xa 0 0 0 0,.bool false]:=by unfold jcZ;rw [e19]
     rw [ev] at HNx;obtain ⟨u3,-,hpg3,-⟩:=HSwp.out hp;have HSw:=zh (fun (W:World) (hb:Below wr.heap.size wr W)=>show Calls prog 16 #[.pointer (some ⟨by_,0,none⟩)] W fun e w'=>e= .returned (.int .i64 P)/\Below W.heap.size W w' by
      have h1:=Xx (qJ.keep (T:=fun _=>False) x1 (Fr.of_below hb) (fun _ _ x=>x));rw [hpg3] at h1;exact h1)
     have HMd:=zh (fun (W:World) (hb:Below wr.heap.size wr W)=>show Calls prog 17 #[.pointer (some ⟨by_,0,none⟩)] W fun e w'=>e= .returned (.int .u32 0)/\Below W.heap.size W w' by
      have h1:=jbL (qJ.keep (T:=fun _=>False) x1 (Fr.of_below hb) (fun _ _ x=>x));rw [HCl.out.1.made] at h1;exact h1)
     have HWd:=zh (fun (W:World) (hb:Below wr.heap.size wr W)=>show Calls prog 20 #[.pointer (some ⟨bm,0,none⟩)] W (RowW W mm.W.length mm.W) by
      have h1:=Yg (qJ.keep (T:=fun _=>False) x1 (Fr.of_below hb) (fun _ _ x=>x));rw [HCl.out.2] at h1;exact h1)
     have HKd:=zh (fun (W:World) (hb:Below wr.heap.size wr W)=>show Calls prog 21 #[.pointer (some ⟨bm,0,none⟩)] W (RowW W mm.K.length mm.K) by
      have h1:=jbM (qJ.keep (T:=fun _=>False) x1 (Fr.of_below hb) (fun _ _ x=>x));rw [HCl.out.2] at h1;rw [HM.out.2.2.2];exact h1)
     have HRow1:=zh (fun (W:World) (hb:Below wr.heap.size wr W)=>jh (w':=W) HR1.out (fun k hk=>hb.block k (jt HR1.out hk)));have HRow2:=zh (fun (W:World) (hb:Below wr.heap.size wr W)=>jh (w':=W) HR2.out (fun k hk=>hb.block k (jt HR2.out hk)));have HP1:=zh (fun (W:World) (hb:Below wr.heap.size wr W)=>show W.cell? ⟨w.heap.size,1,none⟩=some (.int .i64 P) from jd (o:=1) ((hb.block w.heap.size hzr).trans HCB.out));have hsm:=HM.out.2.2.1;have hkl:=HM.out.2.2.2;have HBw:=zh HN.out.bel;clear x1 HN HD1 HGk HPh HSwp HCl HR1 HR2 HCB;generalize mm.W=WW at*
     generalize mm.K=KK at*
     go_wp2_with fail;refine zM (HNx.out _ D11.out) fun w12 b12=> ?_;have D12:=zh (D11.out.trans (b12.mono D11.out.size));have D12a:=zh (D12.out.alloc D12.out.size (.cells #[.int .i64 0,.int .i64 0,.int .i64 0,.int .i64 0,.int .u64 0,.int .u64 0] 40));have G0:=zh D12a.out.drew;clear b12;unfold Xa;go_wp2_with fail;refine wH (S:=fun w'=>w'.cell? ⟨w.heap.size,1,none⟩=some (.int .i64 P)) (HP1.out _ G0.out) fun hHeld=> ?_;refine wT 0 ?_;refine wY ?_;refine wR 1 fun K hK=> ?_;go_simp;refine (HWd.out _ G0.out).mono ?_;rintro e w13 ⟨v13,rfl,o13,-,b13⟩;have G13:=zh (G0.out.trans (b13.mono G0.out.size));have O13:=zh (Joins.ownsRow_le o13 (Nat.zero_le _));refine wK hK (HP1.out _ G13.out) fun hHeld=> ?_;clear hK K;refine wR 3 fun K hK=> ?_;go_simp;refine zM (Ks WW v13 nv _ O13.out (HRow1.out _ G13.out) zo) fun w14 b14=> ?_;have G14:=zh (G13.out.trans (b14.mono G13.out.size));refine wK hK (HP1.out _ G14.out) fun hHeld=> ?_;clear hK K;refine wY ?_;refine wR 6 fun K hK=> ?_;go_simp;refine (HKd.out _ G14.out).mono ?_;rintro e w15 ⟨v15,rfl,o15,-,b15⟩;have G15:=zh (G14.out.trans (b15.mono G14.out.size));have O15:=zh (Joins.ownsRow_le o15 (Nat.zero_le _));refine wK hK (HP1.out _ G15.out) fun hHeld=> ?_;clear hK K;refine wR 8 fun K hK=> ?_;go_simp;refine zM (Ks KK v15 kv _ O15.out (HRow2.out _ G15.out) zo) fun w16 b16=> ?_;have G16:=zh (G15.out.trans (b16.mono G15.out.size));refine wK hK (HP1.out _ G16.out) fun hHeld=> ?_;clear hK K;refine wY ?_;refine wR 12 fun K hK=> ?_;go_simp;refine zM (HMd.out _ G16.out) fun w17 b17=> ?_;have G17:=zh (G16.out.trans (b17.mono G16.out.size));refine wK hK (HP1.out _ G17.out) fun hHeld=> ?_;clear hK K;refine wY ?_;refine wR 17 fun K hK=> ?_;go_simp;refine zM (HSw.out _ G17.out) fun w18 b18=> ?_;have G18:=zh (G17.out.trans (b18.mono G17.out.size));refine wK hK (HP1.out _ G18.out) fun hHeld=> ?_;clear hK K;refine wY ?_;refine wR 23 fun K hK=> ?_;go_simp;refine zM (Vr _) fun w19 b19=> ?_;have G19:=zh (G18.out.trans (b19.mono G18.out.size));refine wK hK (HP1.out _ G19.out) fun hHeld=> ?_;clear hK K;refine wY ?_;refine wD ?_;clear hHeld;go_wp2;go_ret;exact ⟨rfl,HBw.out.trans (G19.out.mono HBw.out.size)⟩
    ·obtain ⟨d,a,av,hnx⟩:=HGk.out.next hp;have hd:=HD1.out d a av hnx;subst hd;rw [jcY hnx] at HNx;have HN2:=zh (fun (W:World) (hb:Below wr.heap.size wr W)=>HN.out.below qJ Yu hb);have HSx:=zh (fun (W:World) S1 (h1:RXM t P s bm W by_ S1 (Jf t P s (TS.begin,mm) k2))=>jbJ h1 HGk.out hp);clear x1;go_wp2_with fail;refine zM (HNx.out _ D11.out) fun w12 b12=> ?_;have D12:=zh (D11.out.trans (b12.mono D11.out.size));have D12a:=zh (D12.out.alloc D12.out.size (.cells #[.int .i64 1,.int .i64 t,.int .i64 a,.int .i64 0,.int .u64 0,.int .u64 av] 40));have NA:=zh (HN2.out _ D12a.out);clear b12 HNx;unfold Xa;go_wp2_with fail;refine zM (NA.out.fst qJ Yu (HSx.out _)) ?_;rintro w13 ⟨n13,l13⟩;have N13:=zh n13;have L13:=zh ((l13 w.heap.size zT).trans ((D12a.out.block w.heap.size hzr).trans HCB.out));have R1:=zh (jh (w':=w13) (jh (w':=w12.alloc _) HR1.out (fun k hk=>D12a.out.block k (jt HR1.out hk))) (fun k hk=>l13 k (by simp [hk])));have R2:=zh (jh (w':=w13) (jh (w':=w12.alloc _) HR2.out (fun k hk=>D12a.out.block k (jt HR2.out hk))) (fun k hk=>l13 k (by simp [hk])));clear n13 l13 NA HSx;go_wp2;go_roundw;case rel=>
      refine ⟨k2+1,by go_num,fun j hj=> ?_,N13.out,L13.out,R1.out,R2.out⟩;by_cases hjk:j < k2
      ·exact HPh.out j hjk
      ·have:j=k2:=zo;rw [this];exact hp
     case measure=>simp [intOf];omega
  ·have HSx:=zh (fun S1 (h1:RXM t P s bm w6 bx S1 (Jf t P s q0 k))=>jbJ h1 HGk.out hp);go_wp2_with fail;refine zM (N6.out.fst qJ Yu HSx.out) ?_;rintro w11 ⟨n11,l11⟩;have N11:=zh n11;have L11:=zh ((l11 w.heap.size zT).trans C6.out);clear n11 l11 HSx;go_wp2;go_roundw;case rel=>
    refine ⟨k+1,by go_num,fun j hj=> ?_,N11.out,L11.out⟩;by_cases hjk:j < k
    ·exact HPh.out j hjk
    ·have:j=k:=zo;rw [this];exact hp
   case measure=>simp [intOf];omega
end

section
variable {t s:Int} {P:Nat} {vs xs:List Int} {w w':World}
theorem YW {p:Int} {wv:Value} (hW:Rd w wv 1 xs.length (yG xs)) (hu:∀v∈xs,U64 v) (hf:jfn t p s xs=none) :
 Calls prog 4 #[.agg #[.int .i64 t,.int .i64 p,.int .i64 s],wv] w (zW (.bool true) w):=by
 have HF:=zh (fun (W:World) (hb:Below w.heap.size w W)=>jbP (t:=t) (p:=p) (s:=s) (Rd.keepBy hW hb (Nat.le_refl _)) hu);rw [hf] at HF;have B0:=zh ((Below.refl w.heap.size w).alloc (Nat.le_refl _) (.cells #[.int .i64 t,.int .i64 p,.int .i64 s] 23));obtain ⟨a,c,rfl⟩:=hW.len;clear hW hu hf;generalize xs.length=n at*
 go_enter func4,ntmps4;go_wp2_with fail;refine (HF.out _ B0.out).mono ?_;rintro e w1 ⟨⟨v,rfl⟩,b1⟩;have B1:=zh (B0.out.trans (b1.mono B0.out.size));clear b1;go_wp2_with fail;refine zM (Vr _) fun w2 b2=> ?_;have B2:=zh (B1.out.trans (b2.mono B1.out.size));clear b2;go_wp2;go_ret;exact ⟨rfl,B2.out⟩
end
theorem VX (t p s:Int) (wv:Value) (xs:List Int) (w:World) (hW:Rd w wv 1 xs.length (yG xs)) (hu:∀v∈xs,NM.U64 v) :
 Calls prog 4 #[.agg #[.int .i64 t,.int .i64 p,.int .i64 s],wv] w (zW (.bool true) w):=by
 cases hf:jfn t p s xs with
 | none=>exact YW hW hu hf
 | some vs=>
  obtain ⟨P,rfl⟩:∃P:Nat,p=P:=by
   have hr:jq t p s=true:=by
    unfold jfn at hf;split at hf
    ·rename_i vs' hs;exact (Qm hs).1
    ·cases hf
   have:=jn hr;exact ⟨p.toNat,zo⟩
  exact YV hW hu hf
end Go.Proofs.YtcnininelndjoaaGreat

