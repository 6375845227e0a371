/- parts of the proof, merged by a program. -/
import Derived.Test.YtcnininelndjoaaGreatMml2
import Derived.Test.YtcnininelndjoaaGreatMml8
import Derived.Test.YtcnininelndjoaaGreatMml9
import Derived.Test.YtcnininelndjoaaGreatMml13
import Derived.Test.YtcnininelndjoaaGreatMml14
import Derived.Test.YtcnininelndjoaaGreatMml15
import Derived.ChangeKeysEq
set_option linter.unusedSimpArgs false
set_option linter.unusedVariables false
set_option maxRecDepth 100000
set_option maxHeartbeats 4000000
namespace Go.Proofs.YtcnininelndjoaaGreat
open Go.Proofs.Tryz
open Go.RowKit

structure BSt (w wr:World) (b n:Nat) (kv vv iv tv:Value) (n1 n2 n3 n4:Nat) (x1 x2 x3 x4:List Value) (all:Bool):Prop where
 cells:wr.heap[b]? =some (.cells #[.int .i64 n,kv,vv,iv,tv,.slice none 0 0,.slice none 0 0,.int .i64 (-1),.bool all] 167)
 r1:wr.ownsRow 0 4 1 kv n1 x1
 r2:wr.ownsRow 0 44 1 vv n2 x2
 r3:wr.ownsRow 0 4 1 iv n3 x3
 r4:wr.ownsRow 0 44 1 tv n4 x4
 d1:∀k,kv.ownBlock=some k->iv.ownBlock≠some k
 d2:∀k,vv.ownBlock=some k->tv.ownBlock≠some k
 bel:Below w.heap.size w wr
 hb:w.heap.size<=b
 g1:∀k,kv.ownBlock=some k->w.heap.size<=k
 g2:∀k,vv.ownBlock=some k->w.heap.size<=k
 g3:∀k,iv.ownBlock=some k->w.heap.size<=k
 g4:∀k,tv.ownBlock=some k->w.heap.size<=k
theorem BSt.cell {w wr:World} {b n:Nat} {kv vv iv tv:Value} {n1 n2 n3 n4:Nat} {x1 x2 x3 x4:List Value} {all:Bool} (h:BSt w wr b n kv vv iv tv n1 n2 n3 n4 x1 x2 x3 x4 all) (o:Nat) :
 wr.cell? ⟨b,o,none⟩=(#[.int .i64 n,kv,vv,iv,tv,.slice none 0 0,.slice none 0 0,.int .i64 (-1),.bool all]:Array Value)[o]? :=jd h.cells
theorem BSt.blt {w wr:World} {b n:Nat} {kv vv iv tv:Value} {n1 n2 n3 n4:Nat} {x1 x2 x3 x4:List Value} {all:Bool} (h:BSt w wr b n kv vv iv tv n1 n2 n3 n4 x1 x2 x3 x4 all):b < wr.heap.size:=(Array.getElem?_eq_some_iff.1 h.cells).1
theorem BSt.old1 {w wr:World} {b n:Nat} {kv vv iv tv:Value} {n1 n2 n3 n4:Nat} {x1 x2 x3 x4:List Value} {all:Bool} (h:BSt w wr b n kv vv iv tv n1 n2 n3 n4 x1 x2 x3 x4 all) {w2:World} {X:Obj} (hg:(wr.alloc X).grownBy w2 kv.ownBlock):w2.heap[b]? =wr.heap[b]? :=by
 have hbl:=h.blt;rw [hg.block b (by simp;omega) (fun e=>jm h.r1 h.cells zd e.symm),Below.heap_alloc _ _ _ hbl]
theorem BSt.app1 {w wr:World} {b n:Nat} {kv vv iv tv:Value} {n1 n2 n3 n4:Nat} {x1 x2 x3 x4:List Value} {all:Bool} (h:BSt w wr b n kv vv iv tv n1 n2 n3 n4 x1 x2 x3 x4 all) {w2:World} {X:Obj} {v':Value} (hg:(wr.alloc X).grownBy w2 kv.ownBlock) (hown:w2.ownsRow 0 4 1 v' (n1+1) (x1++[.bool false]))
 (hnew:∀k,v'.ownBlock=some k->kv.ownBlock=some k\/(wr.alloc X).heap.size<=k) :
 BSt w (w2.setCell ⟨b,1,none⟩ v') b n v' vv iv tv (n1+1) n2 n3 n4 (x1++[.bool false]) x2 x3 x4 all:=by
 have bb:=h.old1 hg;have hbl:=h.blt;have vb:=jm h.r1 h.cells zd;have hne:∀k,v'.ownBlock=some k->k≠b:=by
  rintro k hk rfl;rcases hnew _ hk with x | x
  ·exact vb x
  ·simp at x;omega
 have hbk:∀k,k < wr.heap.size->kv.ownBlock≠some k->k≠b->(w2.setCell ⟨b,1,none⟩ v').heap[k]? =wr.heap[k]? :=fun k hk h1 h2=>by
  rw [Below.heap_setCell _ _ _ _ (by simpa using h2),hg.block k (by simp;omega) (fun e=>h1 e.symm),Below.heap_alloc _ _ _ hk]
 have hsz:=h.bel.size;refine ⟨?_,?_,?_,?_,?_,?_,?_,?_,h.hb,?_,?_,?_,?_⟩
 ·have:=Joins.block_setCell (i:=1) (bb.trans h.cells) v';rw [this];rfl
 ·exact jf hown fun k hk=>Below.heap_setCell _ _ _ _ (by simpa using hne k hk)
 ·exact jf h.r2 fun k hk=>hbk k (ju h.r2 hk) (fun e=>jA h.r2 h.r1 zd e hk) (fun e=>jm h.r2 h.cells zd (e ▸ hk))
 ·exact jf h.r3 fun k hk=>hbk k (ju h.r3 hk) (fun e=>h.d1 k e hk) (fun e=>jm h.r3 h.cells zd (e ▸ hk))
 ·exact jf h.r4 fun k hk=>hbk k (ju h.r4 hk) (fun e=>jA h.r4 h.r1 zd e hk) (fun e=>jm h.r4 h.cells zd (e ▸ hk))
 ·intro k hk hk2;rcases hnew k hk with x | x
  ·exact h.d1 k x hk2
  ·have:=ju h.r3 hk2;simp at x;omega
 ·exact h.d2
 ·exact ((((Fr.of_below (S:=fun k=>w.heap.size<=k) h.bel).alloc X).grown hg (fun k hk=>Or.inl (h.g1 k hk))).setCell _ _ (Or.inl h.hb)).below (Nat.le_refl _) (fun _ x=>x)
 ·intro k hk;rcases hnew k hk with x | x
  ·exact h.g1 k x
  ·simp at x;omega
 ·exact h.g2
 ·exact h.g3
 ·exact h.g4
theorem BSt.old2 {w wr:World} {b n:Nat} {kv vv iv tv:Value} {n1 n2 n3 n4:Nat} {x1 x2 x3 x4:List Value} {all:Bool} (h:BSt w wr b n kv vv iv tv n1 n2 n3 n4 x1 x2 x3 x4 all) {w2:World} {X:Obj} (hg:(wr.alloc X).grownBy w2 vv.ownBlock):w2.heap[b]? =wr.heap[b]? :=by
 have hbl:=h.blt;rw [hg.block b (by simp;omega) (fun e=>jm h.r2 h.cells zd e.symm),Below.heap_alloc _ _ _ hbl]
theorem BSt.app2 {w wr:World} {b n:Nat} {kv vv iv tv:Value} {n1 n2 n3 n4:Nat} {x1 x2 x3 x4:List Value} {all:Bool} (h:BSt w wr b n kv vv iv tv n1 n2 n3 n4 x1 x2 x3 x4 all) {w2:World} {X:Obj} {v':Value} (hg:(wr.alloc X).grownBy w2 vv.ownBlock) (hown:w2.ownsRow 0 44 1 v' (n2+1) (x2++[.int .u32 0]))
 (hnew:∀k,v'.ownBlock=some k->vv.ownBlock=some k\/(wr.alloc X).heap.size<=k) :
 BSt w (w2.setCell ⟨b,2,none⟩ v') b n kv v' iv tv n1 (n2+1) n3 n4 x1 (x2++[.int .u32 0]) x3 x4 all:=by
 have bb:=h.old2 hg;have hbl:=h.blt;have vb:=jm h.r2 h.cells zd;have hne:∀k,v'.ownBlock=some k->k≠b:=by
  rintro k hk rfl;rcases hnew _ hk with x | x
  ·exact vb x
  ·simp at x;omega
 have hbk:∀k,k < wr.heap.size->vv.ownBlock≠some k->k≠b->(w2.setCell ⟨b,2,none⟩ v').heap[k]? =wr.heap[k]? :=fun k hk h1 h2=>by
  rw [Below.heap_setCell _ _ _ _ (by simpa using h2),hg.block k (by simp;omega) (fun e=>h1 e.symm),Below.heap_alloc _ _ _ hk]
 have hsz:=h.bel.size;refine ⟨?_,?_,?_,?_,?_,?_,?_,?_,h.hb,?_,?_,?_,?_⟩
 ·have:=Joins.block_setCell (i:=2) (bb.trans h.cells) v';rw [this];rfl
 ·exact jf h.r1 fun k hk=>hbk k (ju h.r1 hk) (fun e=>jA h.r1 h.r2 zd e hk) (fun e=>jm h.r1 h.cells zd (e ▸ hk))
 ·exact jf hown fun k hk=>Below.heap_setCell _ _ _ _ (by simpa using hne k hk)
 ·exact jf h.r3 fun k hk=>hbk k (ju h.r3 hk) (fun e=>jA h.r3 h.r2 zd e hk) (fun e=>jm h.r3 h.cells zd (e ▸ hk))
 ·exact jf h.r4 fun k hk=>hbk k (ju h.r4 hk) (fun e=>h.d2 k e hk) (fun e=>jm h.r4 h.cells zd (e ▸ hk))
 ·exact h.d1
 ·intro k hk hk2;rcases hnew k hk with x | x
  ·exact h.d2 k x hk2
  ·have:=ju h.r4 hk2;simp at x;omega
 ·exact ((((Fr.of_below (S:=fun k=>w.heap.size<=k) h.bel).alloc X).grown hg (fun k hk=>Or.inl (h.g2 k hk))).setCell _ _ (Or.inl h.hb)).below (Nat.le_refl _) (fun _ x=>x)
 ·exact h.g1
 ·intro k hk;rcases hnew k hk with x | x
  ·exact h.g2 k x
  ·simp at x;omega
 ·exact h.g3
 ·exact h.g4
theorem BSt.old3 {w wr:World} {b n:Nat} {kv vv iv tv:Value} {n1 n2 n3 n4:Nat} {x1 x2 x3 x4:List Value} {all:Bool} (h:BSt w wr b n kv vv iv tv n1 n2 n3 n4 x1 x2 x3 x4 all) {w2:World} {X:Obj} (hg:(wr.alloc X).grownBy w2 iv.ownBlock):w2.heap[b]? =wr.heap[b]? :=by
 have hbl:=h.blt;rw [hg.block b (by simp;omega) (fun e=>jm h.r3 h.cells zd e.symm),Below.heap_alloc _ _ _ hbl]
theorem BSt.app3 {w wr:World} {b n:Nat} {kv vv iv tv:Value} {n1 n2 n3 n4:Nat} {x1 x2 x3 x4:List Value} {all:Bool} (h:BSt w wr b n kv vv iv tv n1 n2 n3 n4 x1 x2 x3 x4 all) {w2:World} {X:Obj} {v':Value} (hg:(wr.alloc X).grownBy w2 iv.ownBlock) (hown:w2.ownsRow 0 4 1 v' (n3+1) (x3++[.bool false]))
 (hnew:∀k,v'.ownBlock=some k->iv.ownBlock=some k\/(wr.alloc X).heap.size<=k) :
 BSt w (w2.setCell ⟨b,3,none⟩ v') b n kv vv v' tv n1 n2 (n3+1) n4 x1 x2 (x3++[.bool false]) x4 all:=by
 have bb:=h.old3 hg;have hbl:=h.blt;have vb:=jm h.r3 h.cells zd;have hne:∀k,v'.ownBlock=some k->k≠b:=by
  rintro k hk rfl;rcases hnew _ hk with x | x
  ·exact vb x
  ·simp at x;omega
 have hbk:∀k,k < wr.heap.size->iv.ownBlock≠some k->k≠b->(w2.setCell ⟨b,3,none⟩ v').heap[k]? =wr.heap[k]? :=fun k hk h1 h2=>by
  rw [Below.heap_setCell _ _ _ _ (by simpa using h2),hg.block k (by simp;omega) (fun e=>h1 e.symm),Below.heap_alloc _ _ _ hk]
 have hsz:=h.bel.size;refine ⟨?_,?_,?_,?_,?_,?_,?_,?_,h.hb,?_,?_,?_,?_⟩
 ·have:=Joins.block_setCell (i:=3) (bb.trans h.cells) v';rw [this];rfl
 ·exact jf h.r1 fun k hk=>hbk k (ju h.r1 hk) (fun e=>h.d1 k hk e) (fun e=>jm h.r1 h.cells zd (e ▸ hk))
 ·exact jf h.r2 fun k hk=>hbk k (ju h.r2 hk) (fun e=>jA h.r2 h.r3 zd e hk) (fun e=>jm h.r2 h.cells zd (e ▸ hk))
 ·exact jf hown fun k hk=>Below.heap_setCell _ _ _ _ (by simpa using hne k hk)
 ·exact jf h.r4 fun k hk=>hbk k (ju h.r4 hk) (fun e=>jA h.r4 h.r3 zd e hk) (fun e=>jm h.r4 h.cells zd (e ▸ hk))
 ·intro k hk hk2;rcases hnew k hk2 with x | x
  ·exact h.d1 k hk x
  ·have:=ju h.r1 hk;simp at x;omega
 ·exact h.d2
 ·exact ((((Fr.of_below (S:=fun k=>w.heap.size<=k) h.bel).alloc X).grown hg (fun k hk=>Or.inl (h.g3 k hk))).setCell _ _ (Or.inl h.hb)).below (Nat.le_refl _) (fun _ x=>x)
 ·exact h.g1
 ·exact h.g2
 ·intro k hk;rcases hnew k hk with x | x
  ·exact h.g3 k x
  ·simp at x;omega
 ·exact h.g4
theorem BSt.old4 {w wr:World} {b n:Nat} {kv vv iv tv:Value} {n1 n2 n3 n4:Nat} {x1 x2 x3 x4:List Value} {all:Bool} (h:BSt w wr b n kv vv iv tv n1 n2 n3 n4 x1 x2 x3 x4 all) {w2:World} {X:Obj} (hg:(wr.alloc X).grownBy w2 tv.ownBlock):w2.heap[b]? =wr.heap[b]? :=by
 have hbl:=h.blt;rw [hg.block b (by simp;omega) (fun e=>jm h.r4 h.cells zd e.symm),Below.heap_alloc _ _ _ hbl]
theorem BSt.app4 {w wr:World} {b n:Nat} {kv vv iv tv:Value} {n1 n2 n3 n4:Nat} {x1 x2 x3 x4:List Value} {all:Bool} (h:BSt w wr b n kv vv iv tv n1 n2 n3 n4 x1 x2 x3 x4 all) {w2:World} {X:Obj} {v':Value} (hg:(wr.alloc X).grownBy w2 tv.ownBlock) (hown:w2.ownsRow 0 44 1 v' (n4+1) (x4++[.int .u32 0]))
 (hnew:∀k,v'.ownBlock=some k->tv.ownBlock=some k\/(wr.alloc X).heap.size<=k) :
 BSt w (w2.setCell ⟨b,4,none⟩ v') b n kv vv iv v' n1 n2 n3 (n4+1) x1 x2 x3 (x4++[.int .u32 0]) all:=by
 have bb:=h.old4 hg;have hbl:=h.blt;have vb:=jm h.r4 h.cells zd;have hne:∀k,v'.ownBlock=some k->k≠b:=by
  rintro k hk rfl;rcases hnew _ hk with x | x
  ·exact vb x
  ·simp at x;omega
 have hbk:∀k,k < wr.heap.size->tv.ownBlock≠some k->k≠b->(w2.setCell ⟨b,4,none⟩ v').heap[k]? =wr.heap[k]? :=fun k hk h1 h2=>by
  rw [Below.heap_setCell _ _ _ _ (by simpa using h2),hg.block k (by simp;omega) (fun e=>h1 e.symm),Below.heap_alloc _ _ _ hk]
 have hsz:=h.bel.size;refine ⟨?_,?_,?_,?_,?_,?_,?_,?_,h.hb,?_,?_,?_,?_⟩
 ·have:=Joins.block_setCell (i:=4) (bb.trans h.cells) v';rw [this];rfl
 ·exact jf h.r1 fun k hk=>hbk k (ju h.r1 hk) (fun e=>jA h.r1 h.r4 zd e hk) (fun e=>jm h.r1 h.cells zd (e ▸ hk))
 ·exact jf h.r2 fun k hk=>hbk k (ju h.r2 hk) (fun e=>h.d2 k hk e) (fun e=>jm h.r2 h.cells zd (e ▸ hk))
 ·exact jf h.r3 fun k hk=>hbk k (ju h.r3 hk) (fun e=>jA h.r3 h.r4 zd e hk) (fun e=>jm h.r3 h.cells zd (e ▸ hk))
 ·exact jf hown fun k hk=>Below.heap_setCell _ _ _ _ (by simpa using hne k hk)
 ·exact h.d1
 ·intro k hk hk2;rcases hnew k hk2 with x | x
  ·exact h.d2 k hk x
  ·have:=ju h.r2 hk;simp at x;omega
 ·exact ((((Fr.of_below (S:=fun k=>w.heap.size<=k) h.bel).alloc X).grown hg (fun k hk=>Or.inl (h.g4 k hk))).setCell _ _ (Or.inl h.hb)).below (Nat.le_refl _) (fun _ x=>x)
 ·exact h.g1
 ·exact h.g2
 ·exact h.g3
 ·intro k hk;rcases hnew k hk with x | x
  ·exact h.g4 k x
  ·simp at x;omega
theorem Kf (w:World) (u:Value) (T:TypeId) (k:Nat) (hk:k=w.heap.size):∀(j:Nat) (x:Value),[u][j]? =some x->(w.alloc (.cells #[u] T)).cell? ((⟨k,0,none⟩:Addr).add j)=some x:=by
 subst hk;exact cell_one_new _ _ _
def BRel (w:World) (b n:Nat) (v4:Value) (wr:World):Prop:=∃(k:Nat) (kv vv iv tv:Value),k<=n/\v4= .int .i64 k/\BSt w wr b n kv vv iv tv k k k k (List.replicate k (.bool false)) (List.replicate k (.int .u32 0)) (List.replicate k (.bool false)) (List.replicate k (.int .u32 0)) false
theorem infoBool:(prog.info? 4).map (fun i=>(i.zero,i.size,i.bytes))=some (some (.bool false),1,1):=by kernel_rfl
def BlankP (w:World) (n:Nat) (e:Ending) (w':World):Prop:=∃b,e= .returned (.pointer (some ⟨b,0,none⟩))/\∃kv vv iv tv,BSt w w' b n kv vv iv tv n n n n (List.replicate n (.bool false)) (List.replicate n (.int .u32 0)) (List.replicate n (.bool false)) (List.replicate n (.int .u32 0)) false
theorem jhj (n:Nat) (w:World) (hn:n<=1000000) :
 Calls prog 112 #[.int .i64 n] w (BlankP w n):=by
 obtain ⟨i0,hi0,hi1,hi2,hi3⟩:=info_parts jaq;have HI:=zh (And.intro hi0 (And.intro hi1 (And.intro hi2 hi3)));obtain ⟨ib,hb0,hb1,hb2,hb3⟩:=info_parts infoBool;have HB:=zh (And.intro hb0 (And.intro hb1 (And.intro hb2 hb3)));clear hi0 hi1 hi2 hi3 hb0 hb1 hb2 hb3;go_enter func112,ntmps112;go_wp2_with fail;generalize hbw:w.heap.size=b;go_loopw [4] (fun v4 wr=>BRel w b n v4 wr) (fun v4 _=>n - (intOf v4).toNat);case atStart=>
  subst hbw;refine ⟨0,_,_,_,_,Nat.zero_le _,rfl,yR _ _ _ rfl,World.ownsRow_nil _ _ _ _,World.ownsRow_nil _ _ _ _,World.ownsRow_nil _ _ _ _,World.ownsRow_nil _ _ _ _,?_,?_,?_,Nat.le_refl _,?_,?_,?_,?_⟩;all_goals first | (simp [Value.ownBlock];done) | exact (Below.refl _ _).alloc (Nat.le_refl _) _
 case round=>
  obtain ⟨k,kv,vv,iv,tv,hk,rfl,hB⟩:=hrel;by_cases hlt:k < n
  ·have H0:=zh hB;have c1:=hB.cell 1;have c2:=hB.cell 2;have c3:=hB.cell 3;have c4:=hB.cell 4;simp at c1 c2 c3 c4;clear hB hbw;go_wp2_with (first | (have tok:=H0;at_builtin;go_must (refine jX rfl _ _ rfl 4 ib (.bool false) 1 1 underlying60 HB.out.1 HB.out.2.1 HB.out.2.2.1 HB.out.2.2.2 rfl zd kv k (List.replicate k (.bool false)) rfl (H0.out.r1.alloc _) ⟨_,0,none⟩ 1 1 [.bool false] rfl rfl (Kf _ _ _ _ zT) ?c1 ?c2 ?c3 ?_);go_must (case c1=>(simp [Value.oneCell']));go_must (case c2=>(unfold maxLen;omega));go_must (case c3=>(omega));go_must (intro v1' w1 hown hg hnew hnil);clear hnil;go_must (obtain ⟨g0,cap0,rfl⟩:=Joins.ownsRow_form hown zo);go_must (have bb:=H0.out.old1 hg);go_must (have e00:w1.cell? ⟨b,1,none⟩=some kv:=(World.cell?_of_block (a:=⟨b,1,none⟩) bb).trans ((H0.out.cell 1).trans rfl));go_must (have e01:w1.cell? ⟨b,2,none⟩=some vv:=(World.cell?_of_block (a:=⟨b,2,none⟩) bb).trans ((H0.out.cell 2).trans rfl));go_must (have e02:w1.cell? ⟨b,3,none⟩=some iv:=(World.cell?_of_block (a:=⟨b,3,none⟩) bb).trans ((H0.out.cell 3).trans rfl));go_must (have e03:w1.cell? ⟨b,4,none⟩=some tv:=(World.cell?_of_block (a:=⟨b,4,none⟩) bb).trans ((H0.out.cell 4).trans rfl));go_must (have f0:w1.frozen? ⟨b,1,none⟩=false:=jU _ _ _ (bb.trans H0.out.cells) _);go_must (have hN:=H0.out.app1 hg hown hnew);go_must (have H1:=zh hN);clear bb hN hown hg hnew tok H0) | (have tok:=H1;at_builtin;go_must (refine jX rfl _ _ rfl 44 i0 (.int .u32 0) 1 4 underlying25 HI.out.1 HI.out.2.1 HI.out.2.2.1 HI.out.2.2.2 rfl zd vv k (List.replicate k (.int .u32 0)) rfl (H1.out.r2.alloc _) ⟨_,0,none⟩ 1 1 [.int .u32 0] rfl rfl (Kf _ _ _ _ zT) ?c1 ?c2 ?c3 ?_);go_must (case c1=>(simp [Value.oneCell']));go_must (case c2=>(unfold maxLen;omega));go_must (case c3=>(omega));go_must (intro v2' w2 hown hg hnew hnil);clear hnil;go_must (obtain ⟨g1,cap1,rfl⟩:=Joins.ownsRow_form hown zo);go_must (have bb:=H1.out.old2 hg);go_must (have e11:w2.cell? ⟨b,2,none⟩=some vv:=(World.cell?_of_block (a:=⟨b,2,none⟩) bb).trans ((H1.out.cell 2).trans rfl));go_must (have e12:w2.cell? ⟨b,3,none⟩=some iv:=(World.cell?_of_block (a:=⟨b,3,none⟩) bb).trans ((H1.out.cell 3).trans rfl));go_must (have e13:w2.cell? ⟨b,4,none⟩=some tv:=(World.cell?_of_block (a:=⟨b,4,none⟩) bb).trans ((H1.out.cell 4).trans rfl));go_must (have f1:w2.frozen? ⟨b,2,none⟩=false:=jU _ _ _ (bb.trans H1.out.cells) _);go_must (have hN:=H1.out.app2 hg hown hnew);go_must (have H2:=zh hN);clear bb hN hown hg hnew tok H1) | (have tok:=H2;at_builtin;go_must (refine jX rfl _ _ rfl 4 ib (.bool false) 1 1 underlying60 HB.out.1 HB.out.2.1 HB.out.2.2.1 HB.out.2.2.2 rfl zd iv k (List.replicate k (.bool false)) rfl (H2.out.r3.alloc _) ⟨_,0,none⟩ 1 1 [.bool false] rfl rfl (Kf _ _ _ _ zT) ?c1 ?c2 ?c3 ?_);go_must (case c1=>(simp [Value.oneCell']));go_must (case c2=>(unfold maxLen;omega));go_must (case c3=>(omega));go_must (intro v3' w3 hown hg hnew hnil);clear hnil;go_must (obtain ⟨g2,cap2,rfl⟩:=Joins.ownsRow_form hown zo);go_must (have bb:=H2.out.old3 hg);go_must (have e22:w3.cell? ⟨b,3,none⟩=some iv:=(World.cell?_of_block (a:=⟨b,3,none⟩) bb).trans ((H2.out.cell 3).trans rfl));go_must (have e23:w3.cell? ⟨b,4,none⟩=some tv:=(World.cell?_of_block (a:=⟨b,4,none⟩) bb).trans ((H2.out.cell 4).trans rfl));go_must (have f2:w3.frozen? ⟨b,3,none⟩=false:=jU _ _ _ (bb.trans H2.out.cells) _);go_must (have hN:=H2.out.app3 hg hown hnew);go_must (have H3:=zh hN);clear bb hN hown hg hnew tok H2) | (have tok:=H3;at_builtin;go_must (refine jX rfl _ _ rfl 44 i0 (.int .u32 0) 1 4 underlying25 HI.out.1 HI.out.2.1 HI.out.2.2.1 HI.out.2.2.2 rfl zd tv k (List.replicate k (.int .u32 0)) rfl (H3.out.r4.alloc _) ⟨_,0,none⟩ 1 1 [.int .u32 0] rfl rfl (Kf _ _ _ _ zT) ?c1 ?c2 ?c3 ?_);go_must (case c1=>(simp [Value.oneCell']));go_must (case c2=>(unfold maxLen;omega));go_must (case c3=>(omega));go_must (intro v4' w4 hown hg hnew hnil);clear hnil;go_must (obtain ⟨g3,cap3,rfl⟩:=Joins.ownsRow_form hown zo);go_must (have bb:=H3.out.old4 hg);go_must (have e33:w4.cell? ⟨b,4,none⟩=some tv:=(World.cell?_of_block (a:=⟨b,4,none⟩) bb).trans ((H3.out.cell 4).trans rfl));go_must (have f3:w4.frozen? ⟨b,4,none⟩=false:=jU _ _ _ (bb.trans H3.out.cells) _);go_must (have hN:=H3.out.app4 hg hown hnew);go_must (have H4:=zh hN);clear bb hN hown hg hnew tok H3));go_roundw;case rel=>exact ⟨k+1,_,_,_,_,zo,by go_num,by simpa only [List.replicate_succ'] using H4.out⟩
   case measure=>simp [intOf];omega
  ·have e:k=n:=zo;subst e;have H0:=zh hB;clear hB hbw;go_wp2;go_ret;exact ⟨b,rfl,kv,vv,iv,tv,H0.out⟩
theorem Vy {w:World} {e sz n m c:Nat} {ad:Option Addr} {xs:List Value} (h:w.ownsRow 0 e sz (.slice ad m c) n xs):m=n:=by
 rcases h.2 with ⟨h1,h2⟩ | ⟨g,cap,cur,h1,-⟩
 ·simp at h1;omega
 ·simp at h1;omega
theorem BSt.put1 {w wr:World} {b n g m c:Nat} {vv iv tv:Value} {n1 n2 n3 n4:Nat} {x1 x2 x3 x4:List Value} {all:Bool} (h:BSt w wr b n (.slice (some ⟨g,0,none⟩) m c) vv iv tv n1 n2 n3 n4 x1 x2 x3 x4 all) (j:Nat) (v:Value) :
 BSt w (wr.setCell ⟨g,j,none⟩ v) b n (.slice (some ⟨g,0,none⟩) m c) vv iv tv n1 n2 n3 n4 (x1.set j v) x2 x3 x4 all:=by
 have vb:b≠g:=fun e=>jm h.r1 h.cells zd (by rw [e];rfl);have hbk:∀k,k≠g->(wr.setCell ⟨g,j,none⟩ v).heap[k]? =wr.heap[k]? :=fun k hk=>Below.heap_setCell _ _ _ _ (by simpa using hk);refine ⟨(hbk b vb).trans h.cells,?_,?_,?_,?_,h.d1,h.d2,?_,h.hb,h.g1,h.g2,h.g3,h.g4⟩
 ·have hm:m=n1:=by have:=Vy h.r1;exact this
  subst hm;exact (h.r1.stored j v).1
 ·exact jf h.r2 fun k hk=>hbk k (fun e=>jA h.r2 h.r1 zd (k:=g) rfl (e ▸ hk))
 ·exact jf h.r3 fun k hk=>hbk k (fun e=>h.d1 g rfl (e ▸ hk))
 ·exact jf h.r4 fun k hk=>hbk k (fun e=>jA h.r4 h.r1 zd (k:=g) rfl (e ▸ hk))
 ·exact ((Fr.of_below (S:=fun k=>w.heap.size<=k) h.bel).setCell _ _ (Or.inl (h.g1 g rfl))).below (Nat.le_refl _) (fun _ x=>x)
theorem BSt.put2 {w wr:World} {b n g m c:Nat} {kv iv tv:Value} {n1 n2 n3 n4:Nat} {x1 x2 x3 x4:List Value} {all:Bool} (h:BSt w wr b n kv (.slice (some ⟨g,0,none⟩) m c) iv tv n1 n2 n3 n4 x1 x2 x3 x4 all) (j:Nat) (v:Value) :
 BSt w (wr.setCell ⟨g,j,none⟩ v) b n kv (.slice (some ⟨g,0,none⟩) m c) iv tv n1 n2 n3 n4 x1 (x2.set j v) x3 x4 all:=by
 have vb:b≠g:=fun e=>jm h.r2 h.cells zd (by rw [e];rfl);have hbk:∀k,k≠g->(wr.setCell ⟨g,j,none⟩ v).heap[k]? =wr.heap[k]? :=fun k hk=>Below.heap_setCell _ _ _ _ (by simpa using hk);refine ⟨(hbk b vb).trans h.cells,?_,?_,?_,?_,h.d1,h.d2,?_,h.hb,h.g1,h.g2,h.g3,h.g4⟩
 ·exact jf h.r1 fun k hk=>hbk k (fun e=>jA h.r1 h.r2 zd (k:=g) rfl (e ▸ hk))
 ·have hm:m=n2:=by have:=Vy h.r2;exact this
  subst hm;exact (h.r2.stored j v).1
 ·exact jf h.r3 fun k hk=>hbk k (fun e=>jA h.r3 h.r2 zd (k:=g) rfl (e ▸ hk))
 ·exact jf h.r4 fun k hk=>hbk k (fun e=>h.d2 g rfl (e ▸ hk))
 ·exact ((Fr.of_below (S:=fun k=>w.heap.size<=k) h.bel).setCell _ _ (Or.inl (h.g2 g rfl))).below (Nat.le_refl _) (fun _ x=>x)
theorem BSt.drew {w wr:World} {b n:Nat} {kv vv iv tv:Value} {n1 n2 n3 n4:Nat} {x1 x2 x3 x4:List Value} {all:Bool} (h:BSt w wr b n kv vv iv tv n1 n2 n3 n4 x1 x2 x3 x4 all):BSt w wr.drew b n kv vv iv tv n1 n2 n3 n4 x1 x2 x3 x4 all:=
 ⟨h.cells,jf h.r1 fun _ _=>rfl,jf h.r2 fun _ _=>rfl,jf h.r3 fun _ _=>rfl,jf h.r4 fun _ _=>rfl,h.d1,h.d2,h.bel.drew,h.hb,h.g1,h.g2,h.g3,h.g4⟩
def kF (k:Nat) (i:Nat):Value:= .bool (decide (i < k))
def vF (vals:List Int) (k:Nat) (i:Nat):Value:= .int .u32 (if i < k then vals.getD i 0 else 0)
theorem YN (n:Nat) (u:Value) (f:Nat->Value) (h:∀i,i < n->f i=u):List.replicate n u=J1 n f:=by
 apply List.ext_getElem?;intro i;by_cases hi:i < n
 ·rw [kH _ hi,h i hi];simp [hi]
 ·rw [List.getElem?_eq_none (by simp;omega),List.getElem?_eq_none (by rw [yJ];omega)]
def WRelR (w:World) (b:Nat) (vals:List Int) (v4:Value) (wr:World):Prop:=∃(k:Nat) (kv vv iv tv:Value),k<=vals.length/\v4= .int .i64 k/\
 BSt w wr b vals.length kv vv iv tv vals.length vals.length vals.length vals.length (J1 vals.length (kF k)) (J1 vals.length (vF vals k)) (List.replicate vals.length (.bool false)) (List.replicate vals.length (.int .u32 0)) false
def RNewV [AllF] (w:World) (s:VS) (e:Ending) (w':World):Prop:=
 ∃b,e= .returned (.pointer (some ⟨b,0,none⟩))/\RV w' b (fun k=>w.heap.size<=k/\k < w'.heap.size) s/\Below w.heap.size w w'
theorem rnew [AllF] (hA:AllF.all=true) {w wr:World} {b:Nat} {vals:List Int} {kv vv iv tv:Value} (h:BSt w wr b vals.length kv vv iv tv vals.length vals.length vals.length vals.length (J1 vals.length (kF vals.length)) (J1 vals.length (vF vals vals.length)) (List.replicate vals.length (.bool false)) (List.replicate vals.length (.int .u32 0)) false)
 (hn:vals.length<=2147483648) (hu:∀v∈vals,VS.U32 v):RNewV w (jI vals) (.returned (.pointer (some ⟨b,0,none⟩))) (wr.setCell ⟨b,8,none⟩ (.bool true)):=by
 have hbl:=h.blt;have nb:∀{e sz n:Nat} {v:Value} {xs:List Value},wr.ownsRow 0 e sz v n xs->(∀k,v.ownBlock=some k->k≠b)->(wr.setCell ⟨b,8,none⟩ (.bool true)).ownsRow 0 e sz v n xs:=
  fun hr hne=>jf hr fun k hk=>Below.heap_setCell _ _ _ _ (by simpa using hne k hk)
 have ne1:∀k,kv.ownBlock=some k->k≠b:=fun k hk e=>jm h.r1 h.cells zd (e ▸ hk);have ne2:∀k,vv.ownBlock=some k->k≠b:=fun k hk e=>jm h.r2 h.cells zd (e ▸ hk);have ne3:∀k,iv.ownBlock=some k->k≠b:=fun k hk e=>jm h.r3 h.cells zd (e ▸ hk);have ne4:∀k,tv.ownBlock=some k->k≠b:=fun k hk e=>jm h.r4 h.cells zd (e ▸ hk);have q1:J1 vals.length (kF vals.length)=J1 (jI vals).n (jao (jI vals)):=by
  apply List.ext_getElem?;intro i;by_cases hi:i < vals.length
  ·rw [kH _ hi,kH _ (show i < (jI vals).n from hi)];simp [kF,jao,jI,hi]
  ·rw [List.getElem?_eq_none (by rw [yJ];omega),List.getElem?_eq_none (by rw [yJ];show vals.length<=i;omega)]
 have q2:J1 vals.length (vF vals vals.length)=J1 (jI vals).n (valF (jI vals)):=by
  apply List.ext_getElem?;intro i;by_cases hi:i < vals.length
  ·rw [kH _ hi,kH _ (show i < (jI vals).n from hi)];simp [vF,valF,jI,hi]
  ·rw [List.getElem?_eq_none (by rw [yJ];omega),List.getElem?_eq_none (by rw [yJ];show vals.length<=i;omega)]
 have q3:List.replicate vals.length (Value.bool false)=J1 (jI vals).n (isF (jI vals)):=YN _ _ _ (fun i _=>by simp [isF,jI,VS.wr,wix]);have q4:List.replicate vals.length (Value.int .u32 0)=J1 (jI vals).n (toF (jI vals)):=YN _ _ _ (fun i _=>by simp [toF,jI,VS.wr,wix]);have lt:∀{e sz n:Nat} {v:Value} {xs:List Value},wr.ownsRow 0 e sz v n xs->∀k,v.ownBlock=some k->k < (wr.setCell ⟨b,8,none⟩ (.bool true)).heap.size:=fun hr k hk=>by have:=ju hr hk;simpa using this
 refine ⟨b,rfl,⟨kv,vv,iv,tv,.slice none 0 0,.slice none 0 0,true,?_,q1 ▸ nb h.r1 ne1,q2 ▸ nb h.r2 ne2,q3 ▸ nb h.r3 ne3,q4 ▸ nb h.r4 ne4,World.ownsRow_nil _ _ _ _,World.ownsRow_nil _ _ _ _,h.d1,h.d2,by simp [Value.ownBlock],⟨h.hb,by simpa using hbl⟩,fun k hk=>⟨h.g1 k hk,lt h.r1 k hk⟩,fun k hk=>⟨h.g2 k hk,lt h.r2 k hk⟩,fun k hk=>⟨h.g3 k hk,lt h.r3 k hk⟩,fun k hk=>⟨h.g4 k hk,lt h.r4 k hk⟩,by simp [Value.ownBlock],by simp [Value.ownBlock],fun k hk=>hk.2,?_,?_,hA.symm⟩,?_⟩
 ·have:=Joins.block_setCell (i:=8) h.cells (.bool true);rw [this];rfl
 ·refine ⟨hn,by simp [jI],by simp [jI],by simp [jI],by simp [jI],?_,by simp [jI]⟩;intro i v hv;exact hu v (List.mem_of_getElem? hv)
 ·intro _ i hi;exact ⟨_,List.getElem?_eq_getElem (show i < vals.length from hi)⟩
 ·exact ((Fr.of_below (S:=fun k=>w.heap.size<=k) h.bel).setCell _ _ (Or.inl h.hb)).below (Nat.le_refl _) (fun _ x=>x)
theorem jdL [AllF] (hA:AllF.all=true) (v:Value) (vals:List Int) (w:World) (h:Rd w v 1 vals.length (kW vals)) (hn:vals.length<=1000000) (hu:∀v∈vals,VS.U32 v) :
 Calls prog 64 #[v] w (RNewV w (jI vals)):=by
 have hc:∀wr,Below w.heap.size w wr->∀k,k < vals.length->∃ad c,v= .slice (some ad) vals.length c/\wr.cell? (ad.add k)=some (.int .u32 (vals.getD k 0))/\ad.block < w.heap.size:=by
  intro wr hb k hk;obtain ⟨hl,⟨rfl,h0⟩ | ⟨ad,c,rfl,hcc⟩⟩:=h
  ·omega
  ·have e0:w.cell? (ad.add k)=some (.int .u32 (vals.getD k 0)):=hcc k _ (by simp [kW,hk]);have l0:=World.block_lt_of_cell? w _ e0;exact ⟨ad,c,rfl,(hb.cell l0).trans e0,(show (ad.add k).block=ad.block by unfold Addr.add;first | rfl | (split <;> rfl)) ▸ l0⟩
 have hv:∃a c,v= .slice a vals.length c:=by
  obtain ⟨hl,⟨rfl,h0⟩ | ⟨ad,c,rfl,hcc⟩⟩:=h
  ·exact ⟨_,_,by rw [h0]⟩
  ·exact ⟨_,_,rfl⟩
 obtain ⟨pa,pc,rfl⟩:=hv;have HU:=zh hu;clear h hu;go_enter func64,ntmps64;go_wp2_with fail;refine (jhj _ _ hn).mono ?_;rintro e w1 ⟨b,rfl,kv,vv,iv,tv,hB⟩;have HB:=zh hB;clear hB;go_wp2_with fail;go_loopw [4] (fun v4 wr=>WRelR w b vals v4 wr) (fun v4 _=>vals.length - (intOf v4).toNat);case atStart=>
  refine ⟨0,kv,vv,iv,tv,Nat.zero_le _,rfl,?_⟩;have h:=HB.out;have e1:=YN vals.length (.bool false) (kF 0) (fun i _=>by simp [kF]);have e2:=YN vals.length (.int .u32 0) (vF vals 0) (fun i _=>by simp [vF]);exact ⟨h.cells,e1 ▸ h.r1,e2 ▸ h.r2,h.r3,h.r4,h.d1,h.d2,h.bel,h.hb,h.g1,h.g2,h.g3,h.g4⟩
 case round=>
  obtain ⟨k,kv,vv,iv,tv,hk,rfl,hB⟩:=hrel;by_cases hlt:k < vals.length
  ·obtain ⟨ad,c',hv',hcv,had⟩:=hc wr hB.bel k hlt;simp only [Value.slice.injEq,true_and] at hv';obtain ⟨rfl,rfl⟩:=hv';clear hc;obtain ⟨gk,ck,rfl⟩:=Joins.ownsRow_form hB.r1 zo;obtain ⟨gv,cv,rfl⟩:=Joins.ownsRow_form hB.r2 zo;have H0:=zh hB;have c1:=hB.cell 1;have c2:=hB.cell 2;simp at c1 c2;have ck0:wr.cell? ⟨gk,k,none⟩=some (.bool false):=by rw [hB.r1.cellAt k zo,kH _ hlt];simp [kF]
   have fk0:=hB.r1.frozenAt k;have hB1:=hB.put1 k (.bool true);have d2:=hB1.cell 2;simp at d2;have hgk:w.heap.size<=gk:=hB.g1 gk rfl;have dv:(wr.setCell ⟨gk,k,none⟩ (.bool true)).cell? (ad.add k)=some (.int .u32 (vals.getD k 0)):=by
    rw [<-hcv];exact World.cell?_of_block (Below.heap_setCell _ _ _ _ (by rw [show (ad.add k).block=ad.block by unfold Addr.add;first | rfl | (split <;> rfl)];simp;omega))
   have dg:(wr.setCell ⟨gk,k,none⟩ (.bool true)).cell? ⟨gv,k,none⟩=some (vF vals k k):=by rw [hB1.r2.cellAt k zo,kH _ hlt]
   have df:=hB1.r2.frozenAt k;simp only [vF] at dg;have H1:=zh hB1;obtain ⟨y,hy⟩:∃y,vals.getD k 0=y:=⟨_,rfl⟩
   rw [hy] at hcv dv;have HY:=zh hy;clear hB hB1 hy;go_wp2;generalize hw1:wr.setCell ⟨gk,k,none⟩ (.bool true)=wr1 at*
   clear hw1;go_region;go_wp2;go_roundw;case rel=>
    have h:=(H1.out.put2 k (.int .u32 y)).drew;have e1:(J1 vals.length (kF k)).set k (.bool true)=J1 vals.length (kF (k+1)):=YM _ _ _ (by simp [kF]) (fun j hj=>by simp only [kF];congr 1;rw [Bool.eq_iff_iff];simp;omega);have e2:(J1 vals.length (vF vals k)).set k (.int .u32 y)=J1 vals.length (vF vals (k+1)):=YM _ _ _ (by rw [<-HY.out];simp [vF]) (fun j hj=>by
     simp only [vF];by_cases h1:j < k
     ·rw [if_pos h1,if_pos zo]
     ·rw [if_neg h1,if_neg zo])
    rw [e1,e2] at h;exact ⟨k+1,_,_,_,_,zo,by go_num,h⟩
   case measure=>simp [intOf];omega
  ·have e:k=vals.length:=zo;subst e;have H0:=zh hB;have c8:=hB.cell 8;have f8:wr.frozen? ⟨b,8,none⟩=false:=jU _ _ _ hB.cells _;simp at c8;clear hB hc HB;go_wp2;go_ret;exact rnew hA H0.out zo HU.out

section
variable {t s:Int} {P:Nat} {vs:List Int} {w:World} {v:Value}
theorem jaF (t p z:Int) (C:List Int) (j:Nat):Qt (qp t p z j (jI C)).2=SP t p z C j:=by
 rw [(SP_one t p z C j).2];have wi:=YY (KT C) t p z j;generalize (qp t p z j (jI C)).2=st at*
 obtain ⟨h1,h2,h3,h4⟩:=wi;apply List.ext_getElem?;intro i;by_cases hi:i < C.length
 ·rw [jcR h3 hi];unfold Qt;rw [List.getElem?_map,List.getElem?_range zo];have e:st.wr i=wl st.writes i:=rfl;rw [h2];simp only [Option.map_some,e];cases wl st.writes i with
  | some v=>rfl
  | none=>simp [hi]
 ·rw [List.getElem?_eq_none (by simp [Qt];omega),List.getElem?_eq_none (by rw [XL];omega)]
theorem jdP (hr:jy t P s=true) (R:w.ownsRow 0 44 1 v vs.length (kW vs)) (hn:vs.length<=1000000) (hu:∀x∈vs,VS.U32 x) :
 Calls prog 28 #[.agg #[.int .i64 t,.int .i64 P,.int .i64 s],v] w (VlQ w (SP t P s vs P)):=by
 letI A0:AllF:=⟨true⟩
 have hrb:=jr hr;have hP:(P:Int).toNat=P:=zT;have HWh:=zh (fun (W:World) (hb:Below w.heap.size w W)=>jdL rfl v vs W (Rd.of_row (jf (w':=W) R (fun k hk=>hb.block k (ju R hk)))) hn hu);have HAl:=zh (fun b W S (h:RV W b S (jI vs))=>xall_any b t P s W S (jI vs) h zo zo);rw [hP] at HAl;have HVl:=zh (fun W b S (h:RV W b S (qp t P s P (jI vs)).2)=>jch rfl h);rw [jaF] at HVl;have B0:=zh ((Below.refl w.heap.size w).alloc (Nat.le_refl _) (.cells #[.int .i64 t,.int .i64 P,.int .i64 s] 23));have k0:=heap_alloc_new w (.cells #[.int .i64 t,.int .i64 P,.int .i64 s] 23);have HK0:=zh k0;generalize SP t P s vs P=C at*
 generalize (qp t P s P (jI vs)).1=n1 at*
 generalize (qp t P s P (jI vs)).2=st at*
 clear R hn hu hr hrb hP k0;go_enter func28,ntmps28;go_wp2_with fail;refine (HWh.out _ B0.out).mono ?_;rintro e w1 ⟨b,rfl,hv,b1⟩;have hc1:=(b1.block w.heap.size zT).trans HK0.out;have B1:=zh (B0.out.trans (b1.mono B0.out.size));have HV1:=zh hv;have c0:=jd (o:=0) hc1;have c1:=jd (o:=1) hc1;have c2:=jd (o:=2) hc1;simp at c0 c1 c2;have hz:=b1.size;clear hv b1 HWh;go_wp2_with fail;refine zM (HAl.out _ _ _ HV1.out) ?_;rintro w2 ⟨hn2,hf2⟩;have B2:=zh (B1.out.trans (hf2.below (B:=w.heap.size) B1.out.size (fun k hk=>by have:=hk.1;simp at this;omega)));have HV2:=zh hn2;clear hn2 hf2 c0 c1 c2 hc1;go_wp2_with fail;refine (HVl.out _ _ _ HV2.out).mono ?_;rintro e w3 ⟨v3,rfl,o3,f3,b3⟩;have R3:=zh (And.intro o3 (And.intro (fun k hk=>Nat.le_trans B2.out.size (f3 k hk)) (B2.out.trans (b3.mono B2.out.size))));clear o3 f3 b3;go_wp2;go_ret;exact ⟨v3,rfl,R3.out.1,R3.out.2.1,R3.out.2.2⟩
end

section
variable {t s:Int} {P:Nat} {C:List Int} {w:World} {v:Value} {m:NM} {bm:Nat} {T:Nat->Prop} {st u:Int}
theorem QC {w w':World} {e n:Nat} {v:Value} {xs:List Value} (h:w.ownsRow 0 e 1 v n xs) (hb:Below w.heap.size w w'):w'.ownsRow 0 e 1 v n xs:=jf (w':=w') h (fun k hk=>hb.block k (ju h hk))
theorem jdI {xs:List Int} {W:World} {x:Value} (R:W.ownsRow 0 38 1 x xs.length (Jd xs)) (hu:∀v∈xs,U64 v) (hs:kT t P s xs=some C):Calls prog 25 #[.agg #[.int .i64 t,.int .i64 P,.int .i64 s],x] W (SetQ W (some C)):=by
 rw [<-hs];exact Vn (Rd.of_row R) hu
theorem vals_row {xs:List Int} {W:World} {x:Value} (R:W.ownsRow 0 38 1 x xs.length (Jd xs)) (hu:∀v∈xs,U64 v) (hr:jy t P s=true) (hn:(xs.length:Int)=qC t P) (hs:yt (jp t P).toNat xs=C):Calls prog 62 #[.agg #[.int .i64 t,.int .i64 P,.int .i64 s],x] W (VlQ W C):=by
 rw [<-hs];have hmb:=jL hr;have hrb:=jr hr;obtain ⟨hl,⟨-,hz⟩ | ⟨ad,c,rfl,hc⟩⟩:=Rd.of_row R
 ·omega
 ·exact Vm ⟨hr,rfl,hn,hu,fun k hk=>hc k _ (by simp [Jd,hk])⟩ c
theorem jeB {W:World} {a b:Value} {C:List Int} (ha:W.ownsRow 0 44 1 a C.length (kW C)) (hb:W.ownsRow 0 44 1 b C.length (kW C)) (hn:C.length<=1000000):Calls prog 63 #[a,b] W fun e w'=>e= .returned (.bool true)/\Below W.heap.size W w':=by
 have:=jgV C C a b W ha hb zo zo;simpa using this
theorem jaV (hp:PM w bm T m) (hk:m.K=m.W) (hs:qo t P s m.W st u none C) (R:w.ownsRow 0 44 1 v C.length (kW C)) :
 Calls prog 27 #[.agg #[.int .i64 t,.int .i64 P,.int .i64 s],.pointer (some ⟨bm,0,none⟩),v] w (zW (.bool true) w):=by
 obtain ⟨hr,hn⟩:=hs.right;have hmb:=jL hr;have hC:=hs.vals;have hCl:C.length<=1000000:=by rw [hC,Kq];omega
 have hkl:m.K.length=m.W.length:=by rw [hk]
 have HWd:=zh (fun (W:World) (hb:Below w.heap.size w W)=>Xs bm W T m (jS.keep (T:=fun _=>False) hp (Fr.of_below hb) (fun _ _ x=>x)));have HKd:=zh (fun (W:World) (hb:Below w.heap.size w W)=>jgw bm W T m (jS.keep (T:=fun _=>False) hp (Fr.of_below hb) (fun _ _ x=>x)));rw [hk] at HKd;have HSt:=zh (fun (W:World) (x:Value) (o:W.ownsRow 0 38 1 x m.W.length (Jd m.W))=>jdI (s:=s) o hs.u64 hs.sett);have HVl:=zh (fun (W:World) (x:Value) (o:W.ownsRow 0 38 1 x m.W.length (Jd m.W))=>vals_row (s:=s) o hs.u64 hr hn hC.symm);have HVs:=zh (fun (W:World) (a b:Value) (ha:W.ownsRow 0 44 1 a C.length (kW C)) hb=>jeB (W:=W) (a:=a) (b:=b) ha hb hCl);have HRv:=zh (fun (W:World) (hb:Below w.heap.size w W)=>QC R hb);generalize m.W=WW at*
 generalize hcfg:(Obj.cells #[.int .i64 t,.int .i64 P,.int .i64 s] 23)=cfg at*
 have HCfg:=zh hcfg;have E0:=zh (Below.refl (w.alloc cfg).heap.size (w.alloc cfg));have HB:=zh (fun (W:World) (E:Below (w.alloc cfg).heap.size (w.alloc cfg) W)=>((Below.refl w.heap.size w).alloc (Nat.le_refl _) cfg).trans (E.mono zT));have HKC:=zh (fun (W:World) (E:Below (w.alloc cfg).heap.size (w.alloc cfg) W)=>show W.cell? ⟨w.heap.size,0,none⟩=some (.int .i64 t)/\W.cell? ⟨w.heap.size,1,none⟩=some (.int .i64 P)/\W.cell? ⟨w.heap.size,2,none⟩=some (.int .i64 s) by
  have hc:=(E.block w.heap.size zT).trans (heap_alloc_new w cfg);rw [<-hcfg] at hc;exact ⟨jd (o:=0) hc,jd (o:=1) hc,jd (o:=2) hc⟩)
 clear hp hk hs R hr hn hmb hC hCl hkl;subst hcfg;go_enter func27,ntmps27;go_wp2_with fail;have E0d:=zh E0.out.drew;refine wH (S:=fun w'=>w'.cell? ⟨w.heap.size,0,none⟩=some (.int .i64 t)/\w'.cell? ⟨w.heap.size,1,none⟩=some (.int .i64 P)/\w'.cell? ⟨w.heap.size,2,none⟩=some (.int .i64 s)) (HKC.out _ E0d.out) fun hHeld=> ?_;refine wT 0 ?_;refine wY ?_;refine wR 2 fun K hK=> ?_;go_simp;refine (HWd.out _ (HB.out _ E0d.out)).mono ?_;rintro e w1 ⟨v1,rfl,o1,-,b1⟩;have E1:=zh (E0d.out.trans (b1.mono E0d.out.size));have O1:=zh (Joins.ownsRow_le o1 (Nat.zero_le _));refine wK hK (HKC.out _ E1.out) fun hHeld=> ?_;clear hK K;refine wR 3 fun K hK=> ?_;go_simp;refine (HSt.out _ _ O1.out).mono ?_;rintro e w2 ⟨va,rfl,oa,-,b2⟩;have E2:=zh (E1.out.trans (b2.mono E1.out.size));have OA:=zh oa;refine wK hK (HKC.out _ E2.out) fun hHeld=> ?_;clear hK K;refine wY ?_;refine wD ?_;clear hHeld;obtain ⟨c0,c1,c2⟩:=HKC.out _ E2.out;go_wp2_with fail;have E2d:=zh E2.out.drew;have OAd:=zh (fun (W:World) (E:Below w2.heap.size w2 W)=>QC OA.out E);refine wH (S:=fun w'=>w'.cell? ⟨w.heap.size,0,none⟩=some (.int .i64 t)/\w'.cell? ⟨w.heap.size,1,none⟩=some (.int .i64 P)/\w'.cell? ⟨w.heap.size,2,none⟩=some (.int .i64 s)) (HKC.out _ E2d.out) fun hHeld=> ?_;refine wT 0 ?_;refine wY ?_;refine wR 2 fun K hK=> ?_;go_simp;refine (HKd.out _ (HB.out _ E2d.out)).mono ?_;rintro e w3 ⟨v3,rfl,o3,-,b3⟩;have E3:=zh (E2d.out.trans (b3.mono E2d.out.size));have G3:=zh ((Below.refl w2.heap.size w2).drew.trans b3);have O3:=zh (Joins.ownsRow_le o3 (Nat.zero_le _));refine wK hK (HKC.out _ E3.out) fun hHeld=> ?_;clear hK K;refine wR 3 fun K hK=> ?_;go_simp;refine (HSt.out _ _ O3.out).mono ?_;rintro e w4 ⟨vb,rfl,ob,-,b4⟩;have E4:=zh (E3.out.trans (b4.mono E3.out.size));have G4:=zh (G3.out.trans (b4.mono G3.out.size));have OB:=zh ob;refine wK hK (HKC.out _ E4.out) fun hHeld=> ?_;clear hK K;refine wY ?_;refine wD ?_;clear hHeld c0 c1 c2;obtain ⟨c0,c1,c2⟩:=HKC.out _ E4.out;go_wp2_with fail;have E4d:=zh E4.out.drew;have G4d:=zh G4.out.drew;have OBd:=zh (fun (W:World) (E:Below w4.heap.size w4 W)=>QC OB.out E);have K4d:=zh (Below.refl w4.heap.size w4).drew;refine wH (S:=fun w'=>w'.cell? ⟨w.heap.size,0,none⟩=some (.int .i64 t)/\w'.cell? ⟨w.heap.size,1,none⟩=some (.int .i64 P)/\w'.cell? ⟨w.heap.size,2,none⟩=some (.int .i64 s)) (HKC.out _ E4d.out) fun hHeld=> ?_;refine wT 0 ?_;refine wY ?_;refine wR 7 fun K hK=> ?_;go_simp;refine zM (HVs.out _ _ _ (OAd.out _ G4d.out) (HRv.out _ (HB.out _ E4d.out))) fun w5 b5=> ?_;have E5:=zh (E4d.out.trans (b5.mono E4d.out.size));have K5:=zh (K4d.out.trans (b5.mono K4d.out.size));refine wK hK (HKC.out _ E5.out) fun hHeld=> ?_;clear hK K;refine wY ?_;refine wR 12 fun K hK=> ?_;go_simp;refine zM (HVs.out _ _ _ (OBd.out _ K5.out) (HRv.out _ (HB.out _ E5.out))) fun w6 b6=> ?_;have E6:=zh (E5.out.trans (b6.mono E5.out.size));refine wK hK (HKC.out _ E6.out) fun hHeld=> ?_;clear hK K;refine wY ?_;refine wR 17 fun K hK=> ?_;go_simp;refine (HKd.out _ (HB.out _ E6.out)).mono ?_;rintro e w7 ⟨v7,rfl,o7,-,b7⟩;have E7:=zh (E6.out.trans (b7.mono E6.out.size));have O7:=zh (Joins.ownsRow_le o7 (Nat.zero_le _));refine wK hK (HKC.out _ E7.out) fun hHeld=> ?_;clear hK K;refine wR 18 fun K hK=> ?_;go_simp;refine (HVl.out _ _ O7.out).mono ?_;rintro e w8 ⟨v8,rfl,o8,-,b8⟩;have E8:=zh (E7.out.trans (b8.mono E7.out.size));have O8:=zh o8;refine wK hK (HKC.out _ E8.out) fun hHeld=> ?_;clear hK K;refine wR 20 fun K hK=> ?_;go_simp;refine zM (HVs.out _ _ _ O8.out (HRv.out _ (HB.out _ E8.out))) fun w9 b9=> ?_;have E9:=zh (E8.out.trans (b9.mono E8.out.size));refine wK hK (HKC.out _ E9.out) fun hHeld=> ?_;clear hK K;refine wY ?_;refine wD ?_;clear hHeld;go_wp2;go_ret;exact ⟨rfl,HB.out _ E9.out⟩
end

section
variable {t s:Int} {P:Nat} {vs xs:List Int} {w w':World}
theorem jc0 {s0:Int} {q0:TS×NM} (h:GI t s P vs s0 0 q0.1 q0.2):∀k,(∀j,j < k->(Jm t P s q0 j).1.ph≠19)->GI t s P vs s0 k (Jm t P s q0 k).1 (Jm t P s q0 k).2
 | 0,_=>h
 | k+1,hk=>(jc0 h k (fun j hj=>hk j zo)).step (hk k zo)
theorem fit_some (h:jg6 t P s xs=some vs) (hu:∀v∈xs,U64 v):SH t s P vs vs 0/\(∃st u o,qo t P s xs st u o vs/\0<=st/\st < 2147483648)/\xs.length≠0/\xs.length % 8=0/\xs.length<=65536/\(xs.length:Int)=qC t P:=by
 unfold jg6 at h;split at h
 ·rename_i vs' hs;split at h
  ·rename_i hc;cases h;obtain ⟨hr,hn,hvn,hvu,st,u,o,hla⟩:=Yc hs;have hb:=jr hr;have hm:=jL hr;have h8:jO t P % 8=0:=by unfold jO;omega
   have hset:qo t P s xs st u o vs:=⟨hu,hla,hs⟩
   obtain ⟨htip,-,hst0,-⟩:=hset.tip;have hst:st=hiW (xs.getD 8 0):=by
    unfold Qs at htip;split at htip
    ·simp only [Option.some.injEq,Prod.mk.injEq] at htip;exact htip.1.symm
    ·cases htip
   exact ⟨SH.start hr (by rw [hvn];rfl) hvu hc.2.1,⟨st,u,o,hset,hst0.1,by rw [hst];exact hc.2.2⟩,zo,zo,zo,hn⟩
  ·cases h
 ·cases h
end
end Go.Proofs.YtcnininelndjoaaGreat
namespace Go.Proofs.YtcnininelndjoaaGreat
open Go.Proofs.Tryz
open Go.ChangeShapes Go.RowKit
def stV (v:Value) (f:Nat->Int):Value:= .agg #[v,.int .i64 (f 0),.int .i64 (f 1),.int .i64 (f 2),.int .i64 (f 3),.int .i64 (f 4),.int .i64 (f 5),.int .i64 (f 6),.int .i64 (f 7)]
def ji (vs:List Int):Nat->Int:=fun i=>vs.getD (22+i) 0
def eq8 (f g:Nat->Int):Bool:=f 0 == g 0 && (f 1 == g 1 && (f 2 == g 2 && (f 3 == g 3 && (f 4 == g 4 && (f 5 == g 5 && (f 6 == g 6 && f 7 == g 7))))))
theorem infoI64b:(prog.info? 2).map (fun i=>(i.zero,i.size,i.bytes))=some (some (.int .i64 0),1,8):=by kernel_rfl
theorem yU (P:Program) (d e c:Nat) (xs ys:Array Value) (W:World) (a b:Int) (k:IntKind) (i:Nat) (is:List Nat) (he:P.underlying e=some (.int k)) (hx:(part e xs (i*c)).run P W= .ok (.int k a) W) (hy:(part e ys (i*c)).run P W= .ok (.int k b) W) (r:Bool) (hr:(Op.eqItems (d+1) e c xs ys is).run P W= .ok r W) :
 (Op.eqItems (d+1) e c xs ys (i :: is)).run P W= .ok (a == b && r) W:=by
 simp only [Op.eqItems,Sem.run_bind,hx,hy,Result.andThen_ok,run_equalIn_int W d e k k a b he];cases hab:a == b
 ·simp
 ·simp [hr]
theorem run_eq8 (f g:Nat->Int) (W:World):(Op.equalIn 10000 71 (.agg #[.int .i64 (f 0),.int .i64 (f 1),.int .i64 (f 2),.int .i64 (f 3),.int .i64 (f 4),.int .i64 (f 5),.int .i64 (f 6),.int .i64 (f 7)]) (.agg #[.int .i64 (g 0),.int .i64 (g 1),.int .i64 (g 2),.int .i64 (g 3),.int .i64 (g 4),.int .i64 (g 5),.int .i64 (g 6),.int .i64 (g 7)])).run prog W= .ok (eq8 f g) W:=by
 obtain ⟨i0,hi0,-,-,-⟩:=info_parts infoI64b;have hc:prog.cellsOf 2=1:=zk;rw [show (10000:Nat)=9999+1 from rfl,run_equalIn_array W 9999 _ _ underlying71 hi0,hc];rw [show eq8 f g=(f 0 == g 0 && (f 1 == g 1 && (f 2 == g 2 && (f 3 == g 3 && (f 4 == g 4 && (f 5 == g 5 && (f 6 == g 6 && (f 7 == g 7 && true)))))))) by unfold eq8;simp];have hp:∀(h:Nat->Int) (i:Nat),i < 8->(part 2 #[.int .i64 (h 0),.int .i64 (h 1),.int .i64 (h 2),.int .i64 (h 3),.int .i64 (h 4),.int .i64 (h 5),.int .i64 (h 6),.int .i64 (h 7)] (i*1)).run prog W= .ok (.int .i64 (h i)) W:=by
  intro h i hi;rcases (by omega:i=0\/i=1\/i=2\/i=3\/i=4\/i=5\/i=6\/i=7) with rfl | rfl | rfl | rfl | rfl | rfl | rfl | rfl <;> simp [go_sem,Tryz.isAgg2]
 show (Op.eqItems 9999 2 1 _ _ [0,1,2,3,4,5,6,7]).run prog W=_;refine yU _ 9998 _ _ _ _ _ _ _ .i64 _ _ underlying2 (hp f 0 zo) (hp g 0 zo) _ ?_;refine yU _ 9998 _ _ _ _ _ _ _ .i64 _ _ underlying2 (hp f 1 zo) (hp g 1 zo) _ ?_;refine yU _ 9998 _ _ _ _ _ _ _ .i64 _ _ underlying2 (hp f 2 zo) (hp g 2 zo) _ ?_;refine yU _ 9998 _ _ _ _ _ _ _ .i64 _ _ underlying2 (hp f 3 zo) (hp g 3 zo) _ ?_;refine yU _ 9998 _ _ _ _ _ _ _ .i64 _ _ underlying2 (hp f 4 zo) (hp g 4 zo) _ ?_;refine yU _ 9998 _ _ _ _ _ _ _ .i64 _ _ underlying2 (hp f 5 zo) (hp g 5 zo) _ ?_;refine yU _ 9998 _ _ _ _ _ _ _ .i64 _ _ underlying2 (hp f 6 zo) (hp g 6 zo) _ ?_;refine yU _ 9998 _ _ _ _ _ _ _ .i64 _ _ underlying2 (hp f 7 zo) (hp g 7 zo) _ ?_;simp [Op.eqItems]
def EqTo (l1 l2:List (Int×Int)) (k:Nat):Prop:=∀j,j < k->l1[j]? =l2[j]?
theorem eqL_no {l1 l2:List (Int×Int)} {k:Nat} {x y:Int×Int} (hx:l1[k]? =some x) (hy:l2[k]? =some y) (h:x≠y):decide (l1=l2)=false:=by
 rw [decide_eq_false_iff_not];intro e;rw [e,hy] at hx;exact h (Option.some.inj hx).symm
theorem eqL_step {l1 l2:List (Int×Int)} {k:Nat} (h:EqTo l1 l2 k) (hk:l1[k]? =l2[k]?):EqTo l1 l2 (k+1):=fun j hj=>by
 by_cases e:j=k
 ·rw [e];exact hk
 ·exact h j zo
theorem eqL_yes {l1 l2:List (Int×Int)} (hl:l1.length=l2.length) (h:EqTo l1 l2 l1.length):decide (l1=l2)=true:=by
 rw [decide_eq_true_iff];apply List.ext_getElem?;intro j;by_cases hj:j < l1.length
 ·exact h j hj
 ·rw [List.getElem?_eq_none zo,List.getElem?_eq_none zo]
theorem eqL_len {l1 l2:List (Int×Int)} (hl:l1.length≠l2.length):decide (l1=l2)=false:=by
 rw [decide_eq_false_iff_not];exact fun e=>hl (by rw [e])
def EqRel (l1 l2:List (Int×Int)) (w:World) (i:Value) (wr:World):Prop:=∃k:Nat,k<=l1.length/\i= .int .i64 k/\EqTo l1 l2 k/\Below w.heap.size w wr
section
variable (l1 l2:List (Int×Int)) (va vb:Value) (f g:Nat->Int) (w:World)
theorem jfy (ha:w.ownsRow 0 121 2 va l1.length (ko l1)) (hb:w.ownsRow 0 121 2 vb l2.length (ko l2)) (h1:l1.length<=4294967296) (h2:l2.length<=4294967296) :
 Calls prog 26 #[stV va f,stV vb g] w (zW (.bool (decide (l1=l2) && eq8 f g)) w):=by
 have hca:=Qh l1;have hcb:=Qh l2;obtain ⟨pa,ca,rfl⟩:=kh ha;obtain ⟨pb,cb,rfl⟩:=kh hb;have S2:=((BS.start w).alloc (.cells #[.slice pa l1.length ca,.int .i64 (f 0),.int .i64 (f 1),.int .i64 (f 2),.int .i64 (f 3),.int .i64 (f 4),.int .i64 (f 5),.int .i64 (f 6),.int .i64 (f 7)] 73)).alloc (.cells #[.slice pb l2.length cb,.int .i64 (g 0),.int .i64 (g 1),.int .i64 (g 2),.int .i64 (g 3),.int .i64 (g 4),.int .i64 (g 5),.int .i64 (g 6),.int .i64 (g 7)] 73);have c1:=jB (.cells #[.slice pb l2.length cb,.int .i64 (g 0),.int .i64 (g 1),.int .i64 (g 2),.int .i64 (g 3),.int .i64 (g 4),.int .i64 (g 5),.int .i64 (g 6),.int .i64 (g 7)] 73) zT (jq w #[.slice pa l1.length ca,.int .i64 (f 0),.int .i64 (f 1),.int .i64 (f 2),.int .i64 (f 3),.int .i64 (f 4),.int .i64 (f 5),.int .i64 (f 6),.int .i64 (f 7)] 73);have c2:=jq (w.alloc (.cells #[.slice pa l1.length ca,.int .i64 (f 0),.int .i64 (f 1),.int .i64 (f 2),.int .i64 (f 3),.int .i64 (f 4),.int .i64 (f 5),.int .i64 (f 6),.int .i64 (f 7)] 73)) #[.slice pb l2.length cb,.int .i64 (g 0),.int .i64 (g 1),.int .i64 (g 2),.int .i64 (g 3),.int .i64 (g 4),.int .i64 (g 5),.int .i64 (g 6),.int .i64 (g 7)] 73;have ha2:=S2.row ha;have hb2:=S2.row hb;have hE:=run_eq8 f g;unfold stV;generalize eq8 f g=y at*
 generalize f 0=f0 at*
 generalize f 1=f1 at*
 generalize f 2=f2 at*
 generalize f 3=f3 at*
 generalize f 4=f4 at*
 generalize f 5=f5 at*
 generalize f 6=f6 at*
 generalize f 7=f7 at*
 generalize g 0=g0 at*
 generalize g 1=g1 at*
 generalize g 2=g2 at*
 generalize g 3=g3 at*
 generalize g 4=g4 at*
 generalize g 5=g5 at*
 generalize g 6=g6 at*
 generalize g 7=g7 at*
 simp only [World.size_alloc] at c2;have HA:=zh (fun _:Unit=>ha2);have HB:=zh (fun _:Unit=>hb2);have HS2:=zh S2.bel;have HC:=zh (fun _:Unit=>And.intro c1 c2);clear ha hb ha2 hb2 S2;by_cases hll:l1.length=l2.length
 ·have hlb:((l1.length:Int) != l2.length)=false:=by simp [hll]
  have HLL:=zh hll;clear hll;cases y
  ·skip;go_enter func26,ntmps26;go_wp2;go_ret;exact ⟨kj zT,HS2.out⟩
  ·skip;go_enter func26,ntmps26;go_wp2_with fail;clear hE;go_loopw [5] (fun i wr=>EqRel l1 l2 ((w.alloc (.cells #[.slice pa l1.length ca,.int .i64 f0,.int .i64 f1,.int .i64 f2,.int .i64 f3,.int .i64 f4,.int .i64 f5,.int .i64 f6,.int .i64 f7] 73)).alloc (.cells #[.slice pb l2.length cb,.int .i64 g0,.int .i64 g1,.int .i64 g2,.int .i64 g3,.int .i64 g4,.int .i64 g5,.int .i64 g6,.int .i64 g7] 73)) i wr) (fun i _=>l1.length - (intOf i).toNat);case atStart=>exact ⟨0,zo,rfl,fun j hj=>by omega,Below.refl _ _⟩
   case round=>
    clear c1 c2;obtain ⟨k,hk,rfl,hno,hbe⟩:=hrel;have s0:wr.cell? ⟨w.heap.size,0,none⟩=some (.slice pa l1.length ca):=((BS.start _).below hbe).oldbox (HC.out ()).1 (by simp;omega) 0;have s1:wr.cell? ⟨w.heap.size+1,0,none⟩=some (.slice pb l2.length cb):=((BS.start _).below hbe).oldbox (HC.out ()).2 zT 0;have HBe:=zh (HS2.out.trans (hbe.mono HS2.out.size));have HB2:=zh (fun _:Unit=>hbe);by_cases hlt:k < l1.length
    ·have hkl:(k:Int) < l1.length:=zo;obtain ⟨⟨a1,a2⟩,hx⟩:∃x,l1[k]? =some x:=⟨_,List.getElem?_eq_getElem hlt⟩
     obtain ⟨⟨b1,b2⟩,hy⟩:∃x,l2[k]? =some x:=⟨_,List.getElem?_eq_getElem (by have:=HLL.out;omega)⟩
     have hra:=((BS.start _).below hbe).row (HA.out ());have hrb:=((BS.start _).below hbe).row (HB.out ());obtain ⟨ga,cap,hg⟩:=Joins.ownsRow_form hra zo;simp only [Value.slice.injEq,true_and] at hg;obtain ⟨rfl,rfl⟩:=hg;obtain ⟨gb,cap,hg⟩:=Joins.ownsRow_form hrb (by have:=HLL.out;omega);simp only [Value.slice.injEq,true_and] at hg;obtain ⟨rfl,rfl⟩:=hg;obtain ⟨p0,p1⟩:=Yn hx;obtain ⟨r0,r1⟩:=Yn hy;have q0:=(hra.cellAt (k*2) zo).trans p0;have q1:=(hra.cellAt (k*2+1) zo).trans p1;have u0:=(hrb.cellAt (k*2) (by have:=HLL.out;omega)).trans r0;have u1:=(hrb.cellAt (k*2+1) (by have:=HLL.out;omega)).trans r1;have HNo:=zh (fun h:(a1,a2)≠(b1,b2)=>eqL_no hx hy h);have HYes:=zh (fun h:(a1,a2)=(b1,b2)=>eqL_step hno (hx.trans (h ▸ hy.symm)));clear p0 p1 r0 r1 hx hy hra hrb hno hbe HA HB HC HS2;have hkl2:(k:Int) < l2.length:=by have:=HLL.out;omega
     dsimp only at q0 q1 u0 u1;by_cases e1:a1=b1
     ·by_cases e2:a2=b2
      ·have HS:=zh (HYes.out (by rw [e1,e2]));subst e1 e2;clear HNo HYes;go_wp2_with fail;refine wH (S:=fun w'=>(w'.cell? ⟨w.heap.size,0,none⟩=some (.slice (some ⟨ga,0,none⟩) l1.length ca)/\w'.cell? ⟨w.heap.size+1,0,none⟩=some (.slice (some ⟨gb,0,none⟩) l2.length cb))/\(w'.cell? ⟨ga,k*2,none⟩=some (.int .i64 a1)/\w'.cell? ⟨ga,k*2+1,none⟩=some (.int .i64 a2))/\w'.cell? ⟨gb,k*2,none⟩=some (.int .i64 a1)/\w'.cell? ⟨gb,k*2+1,none⟩=some (.int .i64 a2)) (⟨⟨s0,s1⟩,⟨q0,q1⟩,u0,u1⟩) fun hHeld=> ?_;refine wT 0 ?_;refine wY ?_;refine wD ?_;go_wp2_with fail;go_roundw;case rel=>exact ⟨k+1,zo,by go_num,HS.out,(HB2.out ()).drew⟩
       case measure=>simp [intOf];omega
      ·have hb2:(a2 == b2)=false:=by simpa using e2
       have HN:=zh (HNo.out (by simp [e2]));subst e1;clear HNo HYes e2;go_wp2_with fail;refine wH (S:=fun w'=>(w'.cell? ⟨w.heap.size,0,none⟩=some (.slice (some ⟨ga,0,none⟩) l1.length ca)/\w'.cell? ⟨w.heap.size+1,0,none⟩=some (.slice (some ⟨gb,0,none⟩) l2.length cb))/\(w'.cell? ⟨ga,k*2,none⟩=some (.int .i64 a1)/\w'.cell? ⟨ga,k*2+1,none⟩=some (.int .i64 a2))/\w'.cell? ⟨gb,k*2,none⟩=some (.int .i64 a1)/\w'.cell? ⟨gb,k*2+1,none⟩=some (.int .i64 b2)) (⟨⟨s0,s1⟩,⟨q0,q1⟩,u0,u1⟩) fun hHeld=> ?_;refine wT 0 ?_;refine wY ?_;refine wD ?_;go_wp2;go_ret;exact ⟨kj (by simp [HN.out]),HBe.out.drew⟩
     ·have hb1:(a1 == b1)=false:=by simpa using e1
      have HN:=zh (HNo.out (by simp [e1]));clear HNo HYes e1;go_wp2_with fail;refine wH (S:=fun w'=>(w'.cell? ⟨w.heap.size,0,none⟩=some (.slice (some ⟨ga,0,none⟩) l1.length ca)/\w'.cell? ⟨w.heap.size+1,0,none⟩=some (.slice (some ⟨gb,0,none⟩) l2.length cb))/\(w'.cell? ⟨ga,k*2,none⟩=some (.int .i64 a1)/\w'.cell? ⟨ga,k*2+1,none⟩=some (.int .i64 a2))/\w'.cell? ⟨gb,k*2,none⟩=some (.int .i64 b1)/\w'.cell? ⟨gb,k*2+1,none⟩=some (.int .i64 b2)) (⟨⟨s0,s1⟩,⟨q0,q1⟩,u0,u1⟩) fun hHeld=> ?_;refine wT 0 ?_;refine wY ?_;refine wD ?_;go_wp2;go_ret;exact ⟨kj (by simp [HN.out]),HBe.out.drew⟩
    ·have hkl:¬(k:Int) < l1.length:=zo;have hke:k=l1.length:=zo;rw [hke] at hno;have HY:=zh (eqL_yes HLL.out hno);clear hno hke hbe HA HB HC HS2;go_wp2;go_ret;exact ⟨kj (by simp [HY.out]),HBe.out⟩
 ·have hlb:((l1.length:Int) != l2.length)=true:=by simp;omega
  have HN:=zh (eqL_len hll);clear hll;go_enter func26,ntmps26;go_wp2;go_ret;exact ⟨kj (by simp [HN.out]),HS2.out⟩
end
end Go.Proofs.YtcnininelndjoaaGreat
namespace Go.Proofs.YtcnininelndjoaaGreat
open Go.Proofs.Tryz
open Go.RowKit

section
variable {t z:Int} {vs C:List Int} {P K:Nat} {x:TS} {m:NM} {s0:Int} {k:Nat}
theorem SH.hall (h:SH t z P C C P):∀q,q < P->wrP t P z q (SP t P z C q)=[]:=by
 intro q hq;have hs:=(h.same (q:=q) hq hq).1;rw [h.same_all (Nat.le_refl _) q zo];unfold wrP;rw [hs];rfl
end

section
variable {w w':World} {t s:Int} {P:Nat} {vs:List Int} {bm:Nat} {m:NM} {j0 j:Nat}
theorem jaT (hsh:SH t s P vs vs 0) (j:Nat) {v:Value} (R:w.ownsRow 0 44 1 v (SP t P s vs j).length (kW (SP t P s vs j))) :
 Calls prog 23 #[.agg #[.int .i64 t,.int .i64 P,.int .i64 s],v] w fun e w'=>∃v',e= .returned (.tuple #[stV v' (ji (SP t P s vs j)),.bool true])/\RowB w (kX vs t P s) v' w':=by
 have hb:=jr hsh.right;have hj:=hsh.all zo j;have hn:((SP t P s vs j).length:Int)=jp t P:=by rw [hj.len,hj.num];rfl
 obtain ⟨ad,c,rfl,hx⟩:=(Rd.of_row R).xv hj.u32 hsh.right zo hn;refine (jdQ c w hx hj.chk).mono ?_;rintro e w' ⟨v',he,hr⟩;rw [hj.blocks] at hr;exact ⟨v',he,hr⟩
theorem jcm (hsh:SH t s P vs vs 0) (j:Nat):eq8 (ji vs) (ji (SP t P s vs j))=true:=by
 have hb:=jr hsh.right;have hr:=(hsh.all zo j).roots;unfold eq8 ji;rw [hr 0 zo,hr 1 zo,hr 2 zo,hr 3 zo,hr 4 zo,hr 5 zo,hr 6 zo,hr 7 zo];simp
end

def FsB (w:World) (t p s:Int) (sv:Value) (W:World):Prop:=
 W.heap[w.heap.size]? =some (.cells #[.int .i64 t,.int .i64 p,.int .i64 s] 23)/\W.heap[w.heap.size+1]? =some (.cells #[.int .i64 t,.int .i64 p,.int .i64 s,sv] 128)
theorem FsB.on {w W W':World} {t p s:Int} {sv:Value} (h:FsB w t p s sv W) (hl:∀k∈[w.heap.size,w.heap.size+1],W'.heap[k]? =W.heap[k]?):FsB w t p s sv W':=
 ⟨(hl _ zT).trans h.1,(hl _ zT).trans h.2⟩
def FsRel (w:World) (t p s:Int) (sv:Value) (P:Nat) (vi:Value) (wr:World):Prop:=
 ∃i:Nat,vi= .int .i64 i/\i<=P/\Below w.heap.size w wr/\w.heap.size+1 < wr.heap.size/\FsB w t p s sv wr
section
variable {t s:Int} {P:Nat} {vs C:List Int} {w:World} {v:Value}
theorem ja6 (h:SH t s P vs C P) (R:w.ownsRow 0 44 1 v C.length (kW C)) :
 Calls prog 29 #[.agg #[.int .i64 t,.int .i64 P,.int .i64 s],v] w (zW (.int .i64 (-1)) w):=by
 have hb:=jr h.right;have hn:(C.length:Int)=jp t P:=by rw [h.len,h.num];rfl
 have HXV:=zh (fun (W:World) (hb:Below w.heap.size w W)=>(Rd.of_row (QC R hb)).xv h.u32 h.right zo hn);have HCL:=zh (fun (q:Nat) (hq:q < P) (hk:iK (gv C t q 0)=3)=>(show gv C t q 4=gv C t q 5 from h.cl q zo zo zo hk));obtain ⟨ad,c,rfl,-⟩:=HXV.out w (Below.refl _ _);have HX:=zh (fun (W:World) (hb:Below w.heap.size w W)=>show XV W t P s ad C.length C by
  obtain ⟨ad2,c2,e,hx⟩:=HXV.out W hb;simp only [Value.slice.injEq,Option.some.injEq,true_and] at e;obtain ⟨rfl,rfl⟩:=e;exact hx)
 have B0:=zh (((Below.refl w.heap.size w).alloc (Nat.le_refl _) (.cells #[.int .i64 t,.int .i64 P,.int .i64 s] 23)).alloc zT (.cells #[.int .i64 t,.int .i64 P,.int .i64 s,.slice (some ad) C.length c] 128));have hF:FsB w t P s (.slice (some ad) C.length c) ((w.alloc (.cells #[.int .i64 t,.int .i64 P,.int .i64 s] 23)).alloc (.cells #[.int .i64 t,.int .i64 P,.int .i64 s,.slice (some ad) C.length c] 128)):=by
  refine ⟨(heap_alloc_old _ _ zT).trans (heap_alloc_new w _),?_⟩;have e2:=heap_alloc_new (w.alloc (.cells #[.int .i64 t,.int .i64 P,.int .i64 s] 23)) (.cells #[.int .i64 t,.int .i64 P,.int .i64 s,.slice (some ad) C.length c] 128);simp only [World.size_alloc] at e2;exact e2
 have HF:=zh hF;clear h R HXV hn hF;go_enter func29,ntmps29;go_wp2_with fail;have hzz:w.heap.size+1 < ((w.alloc (.cells #[.int .i64 t,.int .i64 P,.int .i64 s] 23)).alloc (.cells #[.int .i64 t,.int .i64 P,.int .i64 s,.slice (some ad) C.length c] 128)).heap.size:=zT;have HZ:=zh hzz;clear hzz;go_loopw [6] (fun vi wr=>FsRel w t P s (.slice (some ad) C.length c) P vi wr) (fun vi _=>P+1 - (intOf vi).toNat);case atStart=>exact ⟨0,rfl,Nat.zero_le _,B0.out,HZ.out,HF.out⟩
 case round=>
  clear B0 HF HZ;obtain ⟨i,rfl,hi,hbel,hz,hf⟩:=hrel;have HB:=zh hbel;have E0:=zh (Below.refl wr.heap.size wr).drew;have HK:=zh (fun (W:World) (E:Below wr.heap.size wr W)=>hf.on (W':=W) (fun k hk=>E.block k (by simp at hk;omega)));have c1:=jd (o:=1) hf.1;simp at c1;clear hf hbel;by_cases hlt:i < P
  ·have hltI:(i:Int) < P:=zo;have HI:=zh (fun (W:World) (E:Below wr.heap.size wr W)=>yr i c W (HX.out W (HB.out.trans (E.mono HB.out.size))) zo hltI);have HS:=zh (fun (W:World) (E:Below wr.heap.size wr W)=>KP i c W (HX.out W (HB.out.trans (E.mono HB.out.size))) zo hltI);have HT:=zh (fun (W:World) (E:Below wr.heap.size wr W)=>JL i c W (HX.out W (HB.out.trans (E.mono HB.out.size))) zo hltI);have hcl:=HCL.out i hlt;have HKc:=zh (fun (W:World) (E:Below wr.heap.size wr W)=>show W.cell? ⟨w.heap.size+1,0,none⟩=some (.int .i64 t)/\W.cell? ⟨w.heap.size+1,1,none⟩=some (.int .i64 P)/\W.cell? ⟨w.heap.size+1,2,none⟩=some (.int .i64 s)/\W.cell? ⟨w.heap.size+1,3,none⟩=some (.slice (some ad) C.length c) from ⟨jd (o:=0) (HK.out W E).2,jd (o:=1) (HK.out W E).2,jd (o:=2) (HK.out W E).2,jd (o:=3) (HK.out W E).2⟩);clear HX HCL;generalize C.length=n at*
   by_cases hk:iK (gv C t i 0)=3
   ·have e45:=hcl hk;rw [e45] at HS;rw [hk] at HI;clear hcl hk e45;generalize gv C t i 5=g5 at*
    generalize iL (gv C t i 0)=gl at*
    generalize iC (gv C t i 0)=gc at*
    have hf0:=K9 (.int .i64 3) (.int .i64 gl) (.int .i64 gc);go_wp2_with fail;refine wH (S:=fun w'=>w'.cell? ⟨w.heap.size+1,0,none⟩=some (.int .i64 t)/\w'.cell? ⟨w.heap.size+1,1,none⟩=some (.int .i64 P)/\w'.cell? ⟨w.heap.size+1,2,none⟩=some (.int .i64 s)/\w'.cell? ⟨w.heap.size+1,3,none⟩=some (.slice (some ad) n c)) (HKc.out _ E0.out) fun hHeld=> ?_;refine wT 0 ?_;refine wY ?_;refine wR 2 fun K hK=> ?_;go_simp;refine zM (HI.out _ E0.out) fun w1 b1=> ?_;have E1:=zh (E0.out.trans (b1.mono E0.out.size));refine wK hK (HKc.out _ E1.out) fun hHeld=> ?_;clear hK K;refine wY ?_;refine wR 8 fun K hK=> ?_;go_simp;refine zM (HS.out _ E1.out) fun w2 b2=> ?_;have E2:=zh (E1.out.trans (b2.mono E1.out.size));refine wK hK (HKc.out _ E2.out) fun hHeld=> ?_;clear hK K;refine wR 11 fun K hK=> ?_;go_simp;refine zM (HT.out _ E2.out) fun w3 b3=> ?_;have E3:=zh (E2.out.trans (b3.mono E2.out.size));refine wK hK (HKc.out _ E3.out) fun hHeld=> ?_;clear hK K;refine wY ?_;refine wD ?_;clear hHeld c1;go_wp2;go_roundw;case rel=>exact ⟨i+1,by go_num,zo,HB.out.trans (E3.out.mono HB.out.size),Nat.lt_of_lt_of_le hz E3.out.size,HK.out _ E3.out⟩
    case measure=>simp [intOf];omega
   ·clear hcl;generalize iK (gv C t i 0)=gk at*
    generalize iL (gv C t i 0)=gl at*
    generalize iC (gv C t i 0)=gc at*
    have hkb:(gk == 3)=false:=by simp [hk]
    have hf0:=K9 (.int .i64 gk) (.int .i64 gl) (.int .i64 gc);go_wp2_with fail;refine wH (S:=fun w'=>w'.cell? ⟨w.heap.size+1,0,none⟩=some (.int .i64 t)/\w'.cell? ⟨w.heap.size+1,1,none⟩=some (.int .i64 P)/\w'.cell? ⟨w.heap.size+1,2,none⟩=some (.int .i64 s)/\w'.cell? ⟨w.heap.size+1,3,none⟩=some (.slice (some ad) n c)) (HKc.out _ E0.out) fun hHeld=> ?_;refine wT 0 ?_;refine wY ?_;refine wR 2 fun K hK=> ?_;go_simp;refine zM (HI.out _ E0.out) fun w1 b1=> ?_;have E1:=zh (E0.out.trans (b1.mono E0.out.size));refine wK hK (HKc.out _ E1.out) fun hHeld=> ?_;clear hK K;refine wY ?_;refine wD ?_;clear hHeld c1;go_wp2;go_roundw;case rel=>exact ⟨i+1,by go_num,zo,HB.out.trans (E1.out.mono HB.out.size),Nat.lt_of_lt_of_le hz E1.out.size,HK.out _ E1.out⟩
    case measure=>simp [intOf];omega
  ·have hltI:¬(i:Int) < P:=zo;go_wp2;go_ret;exact ⟨rfl,HB.out⟩
end

section
variable {w w0 w':World} {S T:Nat->Prop} {b bm:Nat} {t p s z v d a u:Int} {x:TS} {m:NM} {ok:Bool} {P:Nat}
theorem jht (hd:d=1\/d=2\/d=4\/d=5):(m.act ⟨d,t,a,0,0,v⟩).2=(doM t m d a v).2/\(if d=1 then (m.act ⟨d,t,a,0,0,v⟩).1.1 else 0)=(doM t m d a v).1:=by
 rcases hd with rfl | rfl | rfl | rfl <;> simp [NM.act,doM]
theorem rxm_act (h:RXM t p z bm w b S (x,m)) (hn:jz t p x=some (d,a,v)) (hvu:U64 v) :
 Calls prog 70 #[.pointer (some ⟨bm,0,none⟩),XJ d t a v] w fun e w'=>e= .returned (.tuple #[.int .u64 (m.act ⟨d,t,a,0,0,v⟩).1.1,.bool (m.act ⟨d,t,a,0,0,v⟩).1.2])/\(RXM t p z bm w' b (upd S w w') (x,(doM t m d a v).2)/\Fr S w w'):=by
 obtain ⟨⟨S1,T1,h,h1,h2⟩,h3⟩:=h;refine zM (mdo_any bm ⟨d,t,a,0,0,v⟩ w T1 m h.pm hvu) ?_;rintro w' ⟨hp,hf⟩;rw [(jht (YP hn)).1] at hp;have h':=XN h hp hf;have hF:Fr S w w':=hf.mono (fun k hk=>h2 k hk);have hlt2:=jS.lt hp;refine ⟨rfl,⟨⟨S1,_,h',fun k hk=> .inl (h1 k hk),fun k hk=> ?_⟩,fun k hk=> ?_⟩,hF⟩
 ·rcases hk with hk2 | hk2
  ·exact .inl (h2 k hk2)
  ·exact .inr hk2
 ·rcases hk with hk | hk
  ·exact Nat.lt_of_lt_of_le (h3 k hk) hF.size
  ·exact hk.2
theorem rxm_told (h:RXM t p z bm w b S (x,m)) (hr:jy t p z=true) (hp:x.ph≠19) (hv:VOK t p x v) :
 Calls prog 54 #[.pointer (some ⟨b,0,none⟩),.int .u64 v,.bool ok] w fun e w'=>e= .returned (.tuple #[])/\(RXM t p z bm w' b (upd S w w') (jF t p z v x,m)/\Fr S w w'):=by
 obtain ⟨⟨S1,T1,h,h1,h2⟩,h3⟩:=h;refine zM (jcU h hr hp hv) ?_;rintro w' ⟨⟨S',h',hs⟩,F⟩;have hF:Fr S w w':=F.mono (fun k hk=>h1 k hk);have hlt:=h'.ms.2;refine ⟨rfl,⟨⟨S',T1,h',fun k hk=> ?_,fun k hk=> .inl (h2 k hk)⟩,fun k hk=> ?_⟩,hF⟩
 ·rcases hs k hk with hk2 | hk2
  ·exact .inl (h1 k hk2)
  ·exact .inr ⟨hk2,hlt k hk⟩
 ·rcases hk with hk | hk
  ·exact Nat.lt_of_lt_of_le (h3 k hk) hF.size
  ·exact hk.2
theorem jd6 {Ls:List (Nat×Obj)} {rest:Value} {st md pg:Int} (h:QW w0 S b t p s Ls rest st md pg [] w):Calls prog 54 #[.pointer (some ⟨b,0,none⟩),.int .u64 v,.bool ok] w fun e w'=>e= .returned (.tuple #[])/\w=w':=by
 obtain ⟨a,c,c3⟩:=h.left;have hb:=h.lt;simp only [List.length_nil] at c3;clear h;go_enter func54,ntmps54;go_wp2;first | (go_ret;exact ⟨rfl,rfl⟩) | refine bodyPost_ret (v:= .tuple #[]) (by simp [results,results54,go_sem]) rfl ⟨rfl,rfl⟩
theorem rxm_past {q:TS×NM} (h:RXM t p z bm w b S q) (hp:q.1.ph=19) :
 Calls prog 54 #[.pointer (some ⟨b,0,none⟩),.int .u64 v,.bool ok] w (zW (.tuple #[]) w):=by
 obtain ⟨⟨S1,T1,h,-,-⟩,-⟩:=h;obtain ⟨Ls,hq⟩:=h.ms.1.over hp;exact (jd6 hq).mono fun e w' hh=>⟨hh.1,by rw [<-hh.2];exact Below.refl _ _⟩
end

def HdRel (w:World) (t p s:Int) (bx bm:Nat) (q0:TS×NM) (K:Nat) (vi:Value) (wr:World):Prop:=
 ∃i:Nat,vi= .int .i64 i/\i<=K/\N2 (RXM t p s bm) RU w bx 0 [w.heap.size] (Jm t p s q0 i) () wr/\wr.heap[w.heap.size]? =some (.cells #[.int .i64 t,.int .i64 p,.int .i64 s] 23)
section
variable {t s:Int} {P:Nat} {vs xs:List Int} {w w':World}
theorem jeK {wv:Value} {K:Nat} {s0:Int} (hW:Rd w wv 1 xs.length (Jd xs)) (hu:∀v∈xs,U64 v) (hr:jy t P s=true) (h0:xs.length≠0) (h8:xs.length % 8=0) (h65:xs.length<=65536) (hg:∀k,(∀j,j < k->(Jm t P s (TS.begin,(⟨xs,xs,[]⟩:NM)) j).1.ph≠19)->GI t s P vs s0 k (Jm t P s (TS.begin,⟨xs,xs,[]⟩) k).1 (Jm t P s (TS.begin,⟨xs,xs,[]⟩) k).2)
 (hK:∀j,j < K->(Jm t P s (TS.begin,(⟨xs,xs,[]⟩:NM)) j).1.ph≠19) (h19:(Jm t P s (TS.begin,(⟨xs,xs,[]⟩:NM)) K).1.ph=19) (hpg:(Jm t P s (TS.begin,(⟨xs,xs,[]⟩:NM)) K).1.page=P) :
 Calls prog 30 #[.agg #[.int .i64 t,.int .i64 P,.int .i64 s],wv,.int .i64 K] w (zW (.bool true) w):=by
 have HG:=zh hg;obtain ⟨hwl,⟨-,hwn⟩ | ⟨ad,c,rfl,hwc⟩⟩:=hW
 ·exact absurd hwn h0
 have hcells:∀W,Below w.heap.size w W->∀j,j < xs.length->W.cell? (ad.add j)=some (.int .u64 (xs.getD j 0)):=fun W hb j hj=>by
  have:=hwc j _ (yQ hj);exact (hb.cell (World.block_lt_of_cell? w _ this)).trans this
 have H1:=zh (fun W hb=>jai ad xs.length c xs W rfl h0 h8 h65 hu (hcells W hb));have HR:=zh hr;have HKK:=zh hK;have H19:=zh h19;have HPg:=zh hpg;have B0:=zh ((Below.refl w.heap.size w).alloc (Nat.le_refl _) (.cells #[.int .i64 t,.int .i64 P,.int .i64 s] 23));clear hcells hwc hwl h0 h8 h65 hu hr hg hK h19 hpg;generalize hq0:(TS.begin,(⟨xs,xs,[]⟩:NM))=q0 at*
 generalize hxn:xs.length=n at*
 go_enter func30,ntmps30;go_wp2_with fail;refine (H1.out _ B0.out).mono ?_;rintro e w2 ⟨bm,rfl,-,⟨T1,pT,gT⟩,b2⟩;have B2:=zh (B0.out.trans (b2.mono B0.out.size));have zc2:w.heap.size < w2.heap.size:=zL b2;have HC2:=zh ((b2.block w.heap.size zT).trans (heap_alloc_new w (.cells #[.int .i64 t,.int .i64 P,.int .i64 s] 23)));have P2:=zh pT;have GT:=zh (fun k hk=>show w.heap.size+1<=k from by have:=gT k hk;simp at this;omega);clear pT gT b2 H1;have c0:=jd (o:=0) HC2.out;have c1:=jd (o:=1) HC2.out;have c2:=jd (o:=2) HC2.out;simp at c0 c1 c2;go_wp2_with fail;refine (VC _ HR.out).mono ?_;rintro e w3 ⟨⟨bx,rfl,S1,mS,gS⟩,b3⟩;have hN:N2 (RXM t P s bm) RU w bx 0 [w.heap.size] q0 () w3/\w3.heap[w.heap.size]? =some (.cells #[.int .i64 t,.int .i64 P,.int .i64 s] 23):=by
  have P3:=jS.keep (T:=fun _=>False) P2.out (Fr.of_below b3) (fun _ _ x=>x);have lT:=jS.lt P2.out;have e1:=XS (P:=P) mS P3 (fun k hs ht=>by have:=gS k hs;have:=lT k ht;omega);rw [hq0] at e1;refine ⟨⟨⟨_,fun _=>False,e1,fun _ hf=>hf.elim,fun k hk=> ?_,fun _ hf=>hf.elim,fun _ _ hf=>hf.elim,fun L hL=>⟨fun hk=> ?_,fun hf=>hf.elim⟩⟩,B2.out.trans (b3.mono B2.out.size),fun L hL=> ?_⟩,(b3.block w.heap.size zc2).trans HC2.out⟩
  ·rcases hk with hk | hk
   ·have:=gS k hk;omega
   ·have:=GT.out k hk;omega
  ·simp at hL;subst hL;rcases hk with hk | hk
   ·have:=gS _ hk;omega
   ·have:=GT.out _ hk;omega
  ·simp at hL;subst hL;exact ⟨Nat.lt_of_lt_of_le zc2 b3.size,Nat.le_refl _⟩
 have HN:=zh hN;clear hN mS gS b3 P2 GT B0 B2 HC2 zc2 c0 c1 c2;go_wp2_with fail;go_loopw [9] (fun vi wr=>HdRel w t P s bx bm q0 K vi wr) (fun vi _=>K+1 - (intOf vi).toNat);case atStart=>exact ⟨0,rfl,Nat.zero_le _,HN.out.1,HN.out.2⟩
 case round=>
  clear HN;obtain ⟨i,rfl,hi,hn,hcb⟩:=hrel;have hgi:=HG.out i (fun j hj=>HKK.out j zo);have HGk:=zh hgi;have hmost:=hgi.mu;have hbd:=jag HR.out;have hkm:(i:Int)<=1000000000:=zo;clear hmost hbd;have HN:=zh hn;have HCB:=zh hcb;have hzr:=(hn.ls w.heap.size zT).1;clear hgi hn hcb;obtain ⟨S1,S2,x1,-⟩:=HN.out.ex;have HNx:=zh (rxm_next x1 HR.out);by_cases hlt:i < K
  ·have hltI:(i:Int) < K:=zo;have hp:=HKK.out i hlt;obtain ⟨d,a,av,hnx⟩:=HGk.out.next hp;rw [jel hnx] at HNx;have hdm:=jht (m:=(Jm t P s q0 i).2) (t:=t) (a:=a) (v:=av) (YP hnx);have HVk:=zh (HGk.out.vok hnx);have HA:=zh (fun (W:World) S1 (h1:RXM t P s bm W bx S1 ((Jm t P s q0 i).1,(Jm t P s q0 i).2))=>rxm_act h1 hnx (HGk.out.u64 hnx));have HT:=zh (fun (W:World) S1 (ok:Bool) (u:Int) m' (hu:u=(doM t (Jm t P s q0 i).2 d a av).1) (h1:RXM t P s bm W bx S1 ((Jm t P s q0 i).1,m'))=>show Calls prog 54 #[.pointer (some ⟨bx,0,none⟩),.int .u64 u,.bool ok] W fun e w'=>e= .returned (.tuple #[])/\(RXM t P s bm w' bx (upd S1 W w') (jF t P s (doM t (Jm t P s q0 i).2 d a av).1 (Jm t P s q0 i).1,m')/\Fr S1 W w') from by
    subst hu;exact rxm_told (ok:=ok) h1 HR.out hp HVk.out)
   have hnxt:Jm t P s q0 (i+1)=(jF t P s (doM t (Jm t P s q0 i).2 d a av).1 (Jm t P s q0 i).1,(doM t (Jm t P s q0 i).2 d a av).2):=jad hnx;have HX:=zh hnxt;have HBl:=zh (fun (W:World) (hb:Below wr.heap.size wr W)=>HN.out.below yd KI hb);clear x1 hnxt HVk HG;have hdo:=YP hnx;clear hnx;go_wp2_with fail;refine zM HNx.out fun w4 b4=> ?_;have N4:=zh ((HBl.out _ b4).alloc yd KI (.cells #[.int .i64 d,.int .i64 t,.int .i64 a,.int .i64 0,.int .u64 0,.int .u64 av] 40));have C4:=zh (((b4.alloc b4.size (.cells #[.int .i64 d,.int .i64 t,.int .i64 a,.int .i64 0,.int .u64 0,.int .u64 av] 40)).block w.heap.size hzr).trans HCB.out);have A4:=zh (heap_alloc_new w4 (.cells #[.int .i64 d,.int .i64 t,.int .i64 a,.int .i64 0,.int .u64 0,.int .u64 av] 40));clear b4 HNx HBl HN HCB;unfold XJ;go_wp2_with fail;refine zM (N4.out.fst yd KI (HA.out _)) ?_;rintro w5 ⟨n5,l5⟩;have N5:=zh n5;have C5:=zh ((l5 w.heap.size zT).trans C4.out);have a0:=jd (o:=0) ((l5 w4.heap.size zT).trans A4.out);simp at a0;clear n5 l5 N4 C4 A4 HA;generalize (Jm t P s q0 i).2.act ⟨d,t,a,0,0,av⟩=r at*
   obtain ⟨⟨r1,r2⟩,r3⟩:=r;dsimp only at hdm;have hdm2:=zh hdm.2;clear hdm;by_cases hd1:d=1
   ·subst hd1;have hv:=hdm2.out;simp only [if_true] at hv;have HVv:=zh hv;clear hv hdo;go_wp2_with fail;refine zM (N5.out.fst yd KI (fun S1 h1=>HT.out _ S1 _ r1 _ HVv.out h1)) ?_;rintro w6 ⟨n6,l6⟩;have C6:=zh ((l6 w.heap.size zT).trans C5.out);rw [<-HX.out] at n6;have N6:=zh (n6.sub [w.heap.size] zT);clear n6 l6;go_wp2;go_roundw;case rel=>exact ⟨i+1,by go_num,zo,N6.out,C6.out⟩
    case measure=>simp [intOf];omega
   ·have hv:=hdm2.out;simp only [hd1,if_false] at hv;have HVv:=zh hv;have hdb:(d == 1)=false:=by simp [hd1]
    clear hv hdo;go_wp2_with fail;refine zM (N5.out.fst yd KI (fun S1 h1=>HT.out _ S1 _ 0 _ HVv.out h1)) ?_;rintro w6 ⟨n6,l6⟩;have C6:=zh ((l6 w.heap.size zT).trans C5.out);rw [<-HX.out] at n6;have N6:=zh (n6.sub [w.heap.size] zT);clear n6 l6;go_wp2;go_roundw;case rel=>exact ⟨i+1,by go_num,zo,N6.out,C6.out⟩
    case measure=>simp [intOf];omega
  ·have hiK:i=K:=zo;subst hiK;have e19:=(JW HGk.out.inv).2 H19.out;have ev:jem t P (Jm t P s q0 i).1= .tuple #[XJ 0 0 0 0,.bool false]:=by unfold jem;rw [e19]
   rw [ev] at HNx;have HPs:=zh (fun (W:World) (hb:Below wr.heap.size wr W) (u:Int) (ok:Bool)=>rxm_past (v:=u) (ok:=ok) (yd.keep (T:=fun _=>False) x1 (Fr.of_below hb) (fun _ _ x=>x)) H19.out);have HOv:=zh (fun (W:World) (hb:Below wr.heap.size wr W)=>XR (yd.keep (T:=fun _=>False) x1 (Fr.of_below hb) (fun _ _ x=>x)) HR.out H19.out);have HSp:=zh (fun (W:World) (hb:Below wr.heap.size wr W)=>show Calls prog 16 #[.pointer (some ⟨bx,0,none⟩)] W fun e w'=>e= .returned (.int .i64 P)/\Below W.heap.size W w' by
    have h1:=Vk (yd.keep (T:=fun _=>False) x1 (Fr.of_below hb) (fun _ _ x=>x));rw [HPg.out] at h1;exact h1)
   have HP1:=zh (fun (W:World) (hb:Below wr.heap.size wr W)=>show W.cell? ⟨w.heap.size,1,none⟩=some (.int .i64 P) from jd (o:=1) ((hb.block w.heap.size hzr).trans HCB.out));have HBw:=zh HN.out.bel;clear x1 HG HGk H19 HPg HKK HN HCB e19 ev;go_wp2_with fail;refine zM HNx.out fun w4 b4=> ?_;have D4:=zh b4;clear b4 HNx;have D5:=zh (D4.out.alloc D4.out.size (.cells #[.int .i64 0,.int .i64 0,.int .i64 0,.int .i64 0,.int .u64 0,.int .u64 0] 40));unfold XJ;go_wp2_with fail;refine zM (HPs.out _ D5.out _ _) fun w6 b6=> ?_;have D6:=zh (D5.out.trans (b6.mono D5.out.size));have G0:=zh D6.out.drew;clear b6 HPs;go_wp2_with fail;refine wH (S:=fun w'=>w'.cell? ⟨w.heap.size,1,none⟩=some (.int .i64 P)) (HP1.out _ G0.out) fun hHeld=> ?_;refine wT 0 ?_;refine wY ?_;refine wR 4 fun K hK=> ?_;go_simp;refine zM (HSp.out _ G0.out) fun w7 b7=> ?_;have G7:=zh (G0.out.trans (b7.mono G0.out.size));refine wK hK (HP1.out _ G7.out) fun hHeld=> ?_;clear hK K;refine wY ?_;refine wR 12 fun K hK=> ?_;go_simp;refine zM (HOv.out _ G7.out) fun w8 b8=> ?_;have G8:=zh (G7.out.trans (b8.mono G7.out.size));refine wK hK (HP1.out _ G8.out) fun hHeld=> ?_;clear hK K;refine wY ?_;refine wD ?_;clear hHeld;go_wp2;go_ret;exact ⟨rfl,HBw.out.trans (G8.out.mono HBw.out.size)⟩
end
end Go.Proofs.YtcnininelndjoaaGreat

