/- parts of the proof, merged by a program. -/
import Derived.Test.YtcnininelndjoaaGreatMmo2
import Derived.Test.YtcnininelndjoaaGreatMmo8
import Derived.Test.YtcnininelndjoaaGreatMmo9
import Derived.Test.YtcnininelndjoaaGreatMmo13
import Derived.Test.YtcnininelndjoaaGreatMmo14
import Derived.Test.YtcnininelndjoaaGreatMmo15
import Derived.ChangeKeysEq
set_option linter.unusedSimpArgs false
set_option linter.unusedVariables false
set_option maxRecDepth 100000
set_option maxHeartbeats 4000000
namespace Go.Proofs.YtcnininelndjoaaGreat
open Go.Proofs.Tryz
open Go.RowKit

structure BSt (w wr:World) (b n:Nat) (kv vv iv tv:Value) (n1 n2 n3 n4:Nat) (x1 x2 x3 x4:List Value) (all:Bool):Prop where
 cells:wr.heap[b]? =some (.cells #[.int .i64 n,kv,vv,iv,tv,.slice none 0 0,.slice none 0 0,.int .i64 (-1),.bool all] 167)
 r1:wr.ownsRow 0 4 1 kv n1 x1
 r2:wr.ownsRow 0 44 1 vv n2 x2
 r3:wr.ownsRow 0 4 1 iv n3 x3
 r4:wr.ownsRow 0 44 1 tv n4 x4
 d1:∀k,kv.ownBlock=some k->iv.ownBlock≠some k
 d2:∀k,vv.ownBlock=some k->tv.ownBlock≠some k
 bel:Below w.heap.size w wr
 hb:w.heap.size<=b
 g1:∀k,kv.ownBlock=some k->w.heap.size<=k
 g2:∀k,vv.ownBlock=some k->w.heap.size<=k
 g3:∀k,iv.ownBlock=some k->w.heap.size<=k
 g4:∀k,tv.ownBlock=some k->w.heap.size<=k
theorem BSt.cell {w wr:World} {b n:Nat} {kv vv iv tv:Value} {n1 n2 n3 n4:Nat} {x1 x2 x3 x4:List Value} {all:Bool} (h:BSt w wr b n kv vv iv tv n1 n2 n3 n4 x1 x2 x3 x4 all) (o:Nat) :
 wr.cell? ⟨b,o,none⟩=(#[.int .i64 n,kv,vv,iv,tv,.slice none 0 0,.slice none 0 0,.int .i64 (-1),.bool all]:Array Value)[o]? :=jd h.cells
theorem BSt.blt {w wr:World} {b n:Nat} {kv vv iv tv:Value} {n1 n2 n3 n4:Nat} {x1 x2 x3 x4:List Value} {all:Bool} (h:BSt w wr b n kv vv iv tv n1 n2 n3 n4 x1 x2 x3 x4 all):b < wr.heap.size:=(Array.getElem?_eq_some_iff.1 h.cells).1
theorem BSt.old1 {w wr:World} {b n:Nat} {kv vv iv tv:Value} {n1 n2 n3 n4:Nat} {x1 x2 x3 x4:List Value} {all:Bool} (h:BSt w wr b n kv vv iv tv n1 n2 n3 n4 x1 x2 x3 x4 all) {w2:World} {X:Obj} (hg:(wr.alloc X).grownBy w2 kv.ownBlock):w2.heap[b]? =wr.heap[b]? :=by
 have hbl:=h.blt;rw [hg.block b (by simp;omega) (fun e=>jk h.r1 h.cells zd e.symm),Below.heap_alloc _ _ _ hbl]
theorem BSt.app1 {w wr:World} {b n:Nat} {kv vv iv tv:Value} {n1 n2 n3 n4:Nat} {x1 x2 x3 x4:List Value} {all:Bool} (h:BSt w wr b n kv vv iv tv n1 n2 n3 n4 x1 x2 x3 x4 all) {w2:World} {X:Obj} {v':Value} (hg:(wr.alloc X).grownBy w2 kv.ownBlock) (hown:w2.ownsRow 0 4 1 v' (n1+1) (x1++[.bool false]))
 (hnew:∀k,v'.ownBlock=some k->kv.ownBlock=some k\/(wr.alloc X).heap.size<=k) :
 BSt w (w2.setCell ⟨b,1,none⟩ v') b n v' vv iv tv (n1+1) n2 n3 n4 (x1++[.bool false]) x2 x3 x4 all:=by
 have bb:=h.old1 hg;have hbl:=h.blt;have vb:=jk h.r1 h.cells zd;have hne:∀k,v'.ownBlock=some k->k≠b:=by
  rintro k hk rfl;rcases hnew _ hk with x | x
  ·exact vb x
  ·simp at x;omega
 have hbk:∀k,k < wr.heap.size->kv.ownBlock≠some k->k≠b->(w2.setCell ⟨b,1,none⟩ v').heap[k]? =wr.heap[k]? :=fun k hk h1 h2=>by
  rw [Below.heap_setCell _ _ _ _ (by simpa using h2),hg.block k (by simp;omega) (fun e=>h1 e.symm),Below.heap_alloc _ _ _ hk]
 have hsz:=h.bel.size;refine ⟨?_,?_,?_,?_,?_,?_,?_,?_,h.hb,?_,?_,?_,?_⟩
 ·have:=Joins.block_setCell (i:=1) (bb.trans h.cells) v';rw [this];rfl
 ·exact jf hown fun k hk=>Below.heap_setCell _ _ _ _ (by simpa using hne k hk)
 ·exact jf h.r2 fun k hk=>hbk k (jq h.r2 hk) (fun e=>jy h.r2 h.r1 zd e hk) (fun e=>jk h.r2 h.cells zd (e ▸ hk))
 ·exact jf h.r3 fun k hk=>hbk k (jq h.r3 hk) (fun e=>h.d1 k e hk) (fun e=>jk h.r3 h.cells zd (e ▸ hk))
 ·exact jf h.r4 fun k hk=>hbk k (jq h.r4 hk) (fun e=>jy h.r4 h.r1 zd e hk) (fun e=>jk h.r4 h.cells zd (e ▸ hk))
 ·intro k hk hk2;rcases hnew k hk with x | x
  ·exact h.d1 k x hk2
  ·have:=jq h.r3 hk2;simp at x;omega
 ·exact h.d2
 ·exact ((((Fr.of_below (S:=fun k=>w.heap.size<=k) h.bel).alloc X).grown hg (fun k hk=>Or.inl (h.g1 k hk))).setCell _ _ (Or.inl h.hb)).below (Nat.le_refl _) (fun _ x=>x)
 ·intro k hk;rcases hnew k hk with x | x
  ·exact h.g1 k x
  ·simp at x;omega
 ·exact h.g2
 ·exact h.g3
 ·exact h.g4
theorem BSt.old2 {w wr:World} {b n:Nat} {kv vv iv tv:Value} {n1 n2 n3 n4:Nat} {x1 x2 x3 x4:List Value} {all:Bool} (h:BSt w wr b n kv vv iv tv n1 n2 n3 n4 x1 x2 x3 x4 all) {w2:World} {X:Obj} (hg:(wr.alloc X).grownBy w2 vv.ownBlock):w2.heap[b]? =wr.heap[b]? :=by
 have hbl:=h.blt;rw [hg.block b (by simp;omega) (fun e=>jk h.r2 h.cells zd e.symm),Below.heap_alloc _ _ _ hbl]
theorem BSt.app2 {w wr:World} {b n:Nat} {kv vv iv tv:Value} {n1 n2 n3 n4:Nat} {x1 x2 x3 x4:List Value} {all:Bool} (h:BSt w wr b n kv vv iv tv n1 n2 n3 n4 x1 x2 x3 x4 all) {w2:World} {X:Obj} {v':Value} (hg:(wr.alloc X).grownBy w2 vv.ownBlock) (hown:w2.ownsRow 0 44 1 v' (n2+1) (x2++[.int .u32 0]))
 (hnew:∀k,v'.ownBlock=some k->vv.ownBlock=some k\/(wr.alloc X).heap.size<=k) :
 BSt w (w2.setCell ⟨b,2,none⟩ v') b n kv v' iv tv n1 (n2+1) n3 n4 x1 (x2++[.int .u32 0]) x3 x4 all:=by
 have bb:=h.old2 hg;have hbl:=h.blt;have vb:=jk h.r2 h.cells zd;have hne:∀k,v'.ownBlock=some k->k≠b:=by
  rintro k hk rfl;rcases hnew _ hk with x | x
  ·exact vb x
  ·simp at x;omega
 have hbk:∀k,k < wr.heap.size->vv.ownBlock≠some k->k≠b->(w2.setCell ⟨b,2,none⟩ v').heap[k]? =wr.heap[k]? :=fun k hk h1 h2=>by
  rw [Below.heap_setCell _ _ _ _ (by simpa using h2),hg.block k (by simp;omega) (fun e=>h1 e.symm),Below.heap_alloc _ _ _ hk]
 have hsz:=h.bel.size;refine ⟨?_,?_,?_,?_,?_,?_,?_,?_,h.hb,?_,?_,?_,?_⟩
 ·have:=Joins.block_setCell (i:=2) (bb.trans h.cells) v';rw [this];rfl
 ·exact jf h.r1 fun k hk=>hbk k (jq h.r1 hk) (fun e=>jy h.r1 h.r2 zd e hk) (fun e=>jk h.r1 h.cells zd (e ▸ hk))
 ·exact jf hown fun k hk=>Below.heap_setCell _ _ _ _ (by simpa using hne k hk)
 ·exact jf h.r3 fun k hk=>hbk k (jq h.r3 hk) (fun e=>jy h.r3 h.r2 zd e hk) (fun e=>jk h.r3 h.cells zd (e ▸ hk))
 ·exact jf h.r4 fun k hk=>hbk k (jq h.r4 hk) (fun e=>h.d2 k e hk) (fun e=>jk h.r4 h.cells zd (e ▸ hk))
 ·exact h.d1
 ·intro k hk hk2;rcases hnew k hk with x | x
  ·exact h.d2 k x hk2
  ·have:=jq h.r4 hk2;simp at x;omega
 ·exact ((((Fr.of_below (S:=fun k=>w.heap.size<=k) h.bel).alloc X).grown hg (fun k hk=>Or.inl (h.g2 k hk))).setCell _ _ (Or.inl h.hb)).below (Nat.le_refl _) (fun _ x=>x)
 ·exact h.g1
 ·intro k hk;rcases hnew k hk with x | x
  ·exact h.g2 k x
  ·simp at x;omega
 ·exact h.g3
 ·exact h.g4
theorem BSt.old3 {w wr:World} {b n:Nat} {kv vv iv tv:Value} {n1 n2 n3 n4:Nat} {x1 x2 x3 x4:List Value} {all:Bool} (h:BSt w wr b n kv vv iv tv n1 n2 n3 n4 x1 x2 x3 x4 all) {w2:World} {X:Obj} (hg:(wr.alloc X).grownBy w2 iv.ownBlock):w2.heap[b]? =wr.heap[b]? :=by
 have hbl:=h.blt;rw [hg.block b (by simp;omega) (fun e=>jk h.r3 h.cells zd e.symm),Below.heap_alloc _ _ _ hbl]
theorem BSt.app3 {w wr:World} {b n:Nat} {kv vv iv tv:Value} {n1 n2 n3 n4:Nat} {x1 x2 x3 x4:List Value} {all:Bool} (h:BSt w wr b n kv vv iv tv n1 n2 n3 n4 x1 x2 x3 x4 all) {w2:World} {X:Obj} {v':Value} (hg:(wr.alloc X).grownBy w2 iv.ownBlock) (hown:w2.ownsRow 0 4 1 v' (n3+1) (x3++[.bool false]))
 (hnew:∀k,v'.ownBlock=some k->iv.ownBlock=some k\/(wr.alloc X).heap.size<=k) :
 BSt w (w2.setCell ⟨b,3,none⟩ v') b n kv vv v' tv n1 n2 (n3+1) n4 x1 x2 (x3++[.bool false]) x4 all:=by
 have bb:=h.old3 hg;have hbl:=h.blt;have vb:=jk h.r3 h.cells zd;have hne:∀k,v'.ownBlock=some k->k≠b:=by
  rintro k hk rfl;rcases hnew _ hk with x | x
  ·exact vb x
  ·simp at x;omega
 have hbk:∀k,k < wr.heap.size->iv.ownBlock≠some k->k≠b->(w2.setCell ⟨b,3,none⟩ v').heap[k]? =wr.heap[k]? :=fun k hk h1 h2=>by
  rw [Below.heap_setCell _ _ _ _ (by simpa using h2),hg.block k (by simp;omega) (fun e=>h1 e.symm),Below.heap_alloc _ _ _ hk]
 have hsz:=h.bel.size;refine ⟨?_,?_,?_,?_,?_,?_,?_,?_,h.hb,?_,?_,?_,?_⟩
 ·have:=Joins.block_setCell (i:=3) (bb.trans h.cells) v';rw [this];rfl
 ·exact jf h.r1 fun k hk=>hbk k (jq h.r1 hk) (fun e=>h.d1 k hk e) (fun e=>jk h.r1 h.cells zd (e ▸ hk))
 ·exact jf h.r2 fun k hk=>hbk k (jq h.r2 hk) (fun e=>jy h.r2 h.r3 zd e hk) (fun e=>jk h.r2 h.cells zd (e ▸ hk))
 ·exact jf hown fun k hk=>Below.heap_setCell _ _ _ _ (by simpa using hne k hk)
 ·exact jf h.r4 fun k hk=>hbk k (jq h.r4 hk) (fun e=>jy h.r4 h.r3 zd e hk) (fun e=>jk h.r4 h.cells zd (e ▸ hk))
 ·intro k hk hk2;rcases hnew k hk2 with x | x
  ·exact h.d1 k hk x
  ·have:=jq h.r1 hk;simp at x;omega
 ·exact h.d2
 ·exact ((((Fr.of_below (S:=fun k=>w.heap.size<=k) h.bel).alloc X).grown hg (fun k hk=>Or.inl (h.g3 k hk))).setCell _ _ (Or.inl h.hb)).below (Nat.le_refl _) (fun _ x=>x)
 ·exact h.g1
 ·exact h.g2
 ·intro k hk;rcases hnew k hk with x | x
  ·exact h.g3 k x
  ·simp at x;omega
 ·exact h.g4
theorem BSt.old4 {w wr:World} {b n:Nat} {kv vv iv tv:Value} {n1 n2 n3 n4:Nat} {x1 x2 x3 x4:List Value} {all:Bool} (h:BSt w wr b n kv vv iv tv n1 n2 n3 n4 x1 x2 x3 x4 all) {w2:World} {X:Obj} (hg:(wr.alloc X).grownBy w2 tv.ownBlock):w2.heap[b]? =wr.heap[b]? :=by
 have hbl:=h.blt;rw [hg.block b (by simp;omega) (fun e=>jk h.r4 h.cells zd e.symm),Below.heap_alloc _ _ _ hbl]
theorem BSt.app4 {w wr:World} {b n:Nat} {kv vv iv tv:Value} {n1 n2 n3 n4:Nat} {x1 x2 x3 x4:List Value} {all:Bool} (h:BSt w wr b n kv vv iv tv n1 n2 n3 n4 x1 x2 x3 x4 all) {w2:World} {X:Obj} {v':Value} (hg:(wr.alloc X).grownBy w2 tv.ownBlock) (hown:w2.ownsRow 0 44 1 v' (n4+1) (x4++[.int .u32 0]))
 (hnew:∀k,v'.ownBlock=some k->tv.ownBlock=some k\/(wr.alloc X).heap.size<=k) :
 BSt w (w2.setCell ⟨b,4,none⟩ v') b n kv vv iv v' n1 n2 n3 (n4+1) x1 x2 x3 (x4++[.int .u32 0]) all:=by
 have bb:=h.old4 hg;have hbl:=h.blt;have vb:=jk h.r4 h.cells zd;have hne:∀k,v'.ownBlock=some k->k≠b:=by
  rintro k hk rfl;rcases hnew _ hk with x | x
  ·exact vb x
  ·simp at x;omega
 have hbk:∀k,k < wr.heap.size->tv.ownBlock≠some k->k≠b->(w2.setCell ⟨b,4,none⟩ v').heap[k]? =wr.heap[k]? :=fun k hk h1 h2=>by
  rw [Below.heap_setCell _ _ _ _ (by simpa using h2),hg.block k (by simp;omega) (fun e=>h1 e.symm),Below.heap_alloc _ _ _ hk]
 have hsz:=h.bel.size;refine ⟨?_,?_,?_,?_,?_,?_,?_,?_,h.hb,?_,?_,?_,?_⟩
 ·have:=Joins.block_setCell (i:=4) (bb.trans h.cells) v';rw [this];rfl
 ·exact jf h.r1 fun k hk=>hbk k (jq h.r1 hk) (fun e=>jy h.r1 h.r4 zd e hk) (fun e=>jk h.r1 h.cells zd (e ▸ hk))
 ·exact jf h.r2 fun k hk=>hbk k (jq h.r2 hk) (fun e=>h.d2 k hk e) (fun e=>jk h.r2 h.cells zd (e ▸ hk))
 ·exact jf h.r3 fun k hk=>hbk k (jq h.r3 hk) (fun e=>jy h.r3 h.r4 zd e hk) (fun e=>jk h.r3 h.cells zd (e ▸ hk))
 ·exact jf hown fun k hk=>Below.heap_setCell _ _ _ _ (by simpa using hne k hk)
 ·exact h.d1
 ·intro k hk hk2;rcases hnew k hk2 with x | x
  ·exact h.d2 k hk x
  ·have:=jq h.r2 hk;simp at x;omega
 ·exact ((((Fr.of_below (S:=fun k=>w.heap.size<=k) h.bel).alloc X).grown hg (fun k hk=>Or.inl (h.g4 k hk))).setCell _ _ (Or.inl h.hb)).below (Nat.le_refl _) (fun _ x=>x)
 ·exact h.g1
 ·exact h.g2
 ·exact h.g3
 ·intro k hk;rcases hnew k hk with x | x
  ·exact h.g4 k x
  ·simp at x;omega
theorem Ke (w:World) (u:Value) (T:TypeId) (k:Nat) (hk:k=w.heap.size):∀(j:Nat) (x:Value),[u][j]? =some x->(w.alloc (.cells #[u] T)).cell? ((⟨k,0,none⟩:Addr).add j)=some x:=by
 subst hk;exact cell_one_new _ _ _
def BRel (w:World) (b n:Nat) (v4:Value) (wr:World):Prop:=∃(k:Nat) (kv vv iv tv:Value),k<=n/\v4= .int .i64 k/\BSt w wr b n kv vv iv tv k k k k (List.replicate k (.bool false)) (List.replicate k (.int .u32 0)) (List.replicate k (.bool false)) (List.replicate k (.int .u32 0)) false
theorem infoBool:(prog.info? 4).map (fun i=>(i.zero,i.size,i.bytes))=some (some (.bool false),1,1):=by kernel_rfl
def BlankP (w:World) (n:Nat) (e:Ending) (w':World):Prop:=∃b,e= .returned (.pointer (some ⟨b,0,none⟩))/\∃kv vv iv tv,BSt w w' b n kv vv iv tv n n n n (List.replicate n (.bool false)) (List.replicate n (.int .u32 0)) (List.replicate n (.bool false)) (List.replicate n (.int .u32 0)) false
theorem jhc (n:Nat) (w:World) (hn:n<=1000000) :
 Calls prog 112 #[.int .i64 n] w (BlankP w n):=by
 obtain ⟨i0,hi0,hi1,hi2,hi3⟩:=info_parts jak;have HI:=zh (And.intro hi0 (And.intro hi1 (And.intro hi2 hi3)));obtain ⟨ib,hb0,hb1,hb2,hb3⟩:=info_parts infoBool;have HB:=zh (And.intro hb0 (And.intro hb1 (And.intro hb2 hb3)));clear hi0 hi1 hi2 hi3 hb0 hb1 hb2 hb3;go_enter func112,ntmps112;go_wp2_with fail;generalize hbw:w.heap.size=b;go_loopw [4] (fun v4 wr=>BRel w b n v4 wr) (fun v4 _=>n - (intOf v4).toNat);case atStart=>
  subst hbw;refine ⟨0,_,_,_,_,Nat.zero_le _,rfl,yP _ _ _ rfl,World.ownsRow_nil _ _ _ _,World.ownsRow_nil _ _ _ _,World.ownsRow_nil _ _ _ _,World.ownsRow_nil _ _ _ _,?_,?_,?_,Nat.le_refl _,?_,?_,?_,?_⟩;all_goals first | (simp [Value.ownBlock];done) | exact (Below.refl _ _).alloc (Nat.le_refl _) _
 case round=>
  obtain ⟨k,kv,vv,iv,tv,hk,rfl,hB⟩:=hrel;by_cases hlt:k < n
  ·have H0:=zh hB;have c1:=hB.cell 1;have c2:=hB.cell 2;have c3:=hB.cell 3;have c4:=hB.cell 4;simp at c1 c2 c3 c4;clear hB hbw;go_wp2_with (first | (have tok:=H0;at_builtin;go_must (refine jV rfl _ _ rfl 4 ib (.bool false) 1 1 underlying60 HB.out.1 HB.out.2.1 HB.out.2.2.1 HB.out.2.2.2 rfl zd kv k (List.replicate k (.bool false)) rfl (H0.out.r1.alloc _) ⟨_,0,none⟩ 1 1 [.bool false] rfl rfl (Ke _ _ _ _ zT) ?c1 ?c2 ?c3 ?_);go_must (case c1=>(simp [Value.oneCell']));go_must (case c2=>(unfold maxLen;omega));go_must (case c3=>(omega));go_must (intro v1' w1 hown hg hnew hnil);clear hnil;go_must (obtain ⟨g0,cap0,rfl⟩:=Joins.ownsRow_form hown zo);go_must (have bb:=H0.out.old1 hg);go_must (have e00:w1.cell? ⟨b,1,none⟩=some kv:=(World.cell?_of_block (a:=⟨b,1,none⟩) bb).trans ((H0.out.cell 1).trans rfl));go_must (have e01:w1.cell? ⟨b,2,none⟩=some vv:=(World.cell?_of_block (a:=⟨b,2,none⟩) bb).trans ((H0.out.cell 2).trans rfl));go_must (have e02:w1.cell? ⟨b,3,none⟩=some iv:=(World.cell?_of_block (a:=⟨b,3,none⟩) bb).trans ((H0.out.cell 3).trans rfl));go_must (have e03:w1.cell? ⟨b,4,none⟩=some tv:=(World.cell?_of_block (a:=⟨b,4,none⟩) bb).trans ((H0.out.cell 4).trans rfl));go_must (have f0:w1.frozen? ⟨b,1,none⟩=false:=jS _ _ _ (bb.trans H0.out.cells) _);go_must (have hN:=H0.out.app1 hg hown hnew);go_must (have H1:=zh hN);clear bb hN hown hg hnew tok H0) | (have tok:=H1;at_builtin;go_must (refine jV rfl _ _ rfl 44 i0 (.int .u32 0) 1 4 underlying25 HI.out.1 HI.out.2.1 HI.out.2.2.1 HI.out.2.2.2 rfl zd vv k (List.replicate k (.int .u32 0)) rfl (H1.out.r2.alloc _) ⟨_,0,none⟩ 1 1 [.int .u32 0] rfl rfl (Ke _ _ _ _ zT) ?c1 ?c2 ?c3 ?_);go_must (case c1=>(simp [Value.oneCell']));go_must (case c2=>(unfold maxLen;omega));go_must (case c3=>(omega));go_must (intro v2' w2 hown hg hnew hnil);clear hnil;go_must (obtain ⟨g1,cap1,rfl⟩:=Joins.ownsRow_form hown zo);go_must (have bb:=H1.out.old2 hg);go_must (have e11:w2.cell? ⟨b,2,none⟩=some vv:=(World.cell?_of_block (a:=⟨b,2,none⟩) bb).trans ((H1.out.cell 2).trans rfl));go_must (have e12:w2.cell? ⟨b,3,none⟩=some iv:=(World.cell?_of_block (a:=⟨b,3,none⟩) bb).trans ((H1.out.cell 3).trans rfl));go_must (have e13:w2.cell? ⟨b,4,none⟩=some tv:=(World.cell?_of_block (a:=⟨b,4,none⟩) bb).trans ((H1.out.cell 4).trans rfl));go_must (have f1:w2.frozen? ⟨b,2,none⟩=false:=jS _ _ _ (bb.trans H1.out.cells) _);go_must (have hN:=H1.out.app2 hg hown hnew);go_must (have H2:=zh hN);clear bb hN hown hg hnew tok H1) | (have tok:=H2;at_builtin;go_must (refine jV rfl _ _ rfl 4 ib (.bool false) 1 1 underlying60 HB.out.1 HB.out.2.1 HB.out.2.2.1 HB.out.2.2.2 rfl zd iv k (List.replicate k (.bool false)) rfl (H2.out.r3.alloc _) ⟨_,0,none⟩ 1 1 [.bool false] rfl rfl (Ke _ _ _ _ zT) ?c1 ?c2 ?c3 ?_);go_must (case c1=>(simp [Value.oneCell']));go_must (case c2=>(unfold maxLen;omega));go_must (case c3=>(omega));go_must (intro v3' w3 hown hg hnew hnil);clear hnil;go_must (obtain ⟨g2,cap2,rfl⟩:=Joins.ownsRow_form hown zo);go_must (have bb:=H2.out.old3 hg);go_must (have e22:w3.cell? ⟨b,3,none⟩=some iv:=(World.cell?_of_block (a:=⟨b,3,none⟩) bb).trans ((H2.out.cell 3).trans rfl));go_must (have e23:w3.cell? ⟨b,4,none⟩=some tv:=(World.cell?_of_block (a:=⟨b,4,none⟩) bb).trans ((H2.out.cell 4).trans rfl));go_must (have f2:w3.frozen? ⟨b,3,none⟩=false:=jS _ _ _ (bb.trans H2.out.cells) _);go_must (have hN:=H2.out.app3 hg hown hnew);go_must (have H3:=zh hN);clear bb hN hown hg hnew tok H2) | (have tok:=H3;at_builtin;go_must (refine jV rfl _ _ rfl 44 i0 (.int .u32 0) 1 4 underlying25 HI.out.1 HI.out.2.1 HI.out.2.2.1 HI.out.2.2.2 rfl zd tv k (List.replicate k (.int .u32 0)) rfl (H3.out.r4.alloc _) ⟨_,0,none⟩ 1 1 [.int .u32 0] rfl rfl (Ke _ _ _ _ zT) ?c1 ?c2 ?c3 ?_);go_must (case c1=>(simp [Value.oneCell']));go_must (case c2=>(unfold maxLen;omega));go_must (case c3=>(omega));go_must (intro v4' w4 hown hg hnew hnil);clear hnil;go_must (obtain ⟨g3,cap3,rfl⟩:=Joins.ownsRow_form hown zo);go_must (have bb:=H3.out.old4 hg);go_must (have e33:w4.cell? ⟨b,4,none⟩=some tv:=(World.cell?_of_block (a:=⟨b,4,none⟩) bb).trans ((H3.out.cell 4).trans rfl));go_must (have f3:w4.frozen? ⟨b,4,none⟩=false:=jS _ _ _ (bb.trans H3.out.cells) _);go_must (have hN:=H3.out.app4 hg hown hnew);go_must (have H4:=zh hN);clear bb hN hown hg hnew tok H3));go_roundw;case rel=>exact ⟨k+1,_,_,_,_,zo,by go_num,by simpa only [List.replicate_succ'] using H4.out⟩
   case measure=>simp [intOf];omega
  ·have e:k=n:=zo;subst e;have H0:=zh hB;clear hB hbw;go_wp2;go_ret;exact ⟨b,rfl,kv,vv,iv,tv,H0.out⟩
theorem Vz {w:World} {e sz n m c:Nat} {ad:Option Addr} {xs:List Value} (h:w.ownsRow 0 e sz (.slice ad m c) n xs):m=n:=by
 rcases h.2 with ⟨h1,h2⟩ | ⟨g,cap,cur,h1,-⟩
 ·simp at h1;omega
 ·simp at h1;omega
theorem BSt.put1 {w wr:World} {b n g m c:Nat} {vv iv tv:Value} {n1 n2 n3 n4:Nat} {x1 x2 x3 x4:List Value} {all:Bool} (h:BSt w wr b n (.slice (some ⟨g,0,none⟩) m c) vv iv tv n1 n2 n3 n4 x1 x2 x3 x4 all) (j:Nat) (v:Value) :
 BSt w (wr.setCell ⟨g,j,none⟩ v) b n (.slice (some ⟨g,0,none⟩) m c) vv iv tv n1 n2 n3 n4 (x1.set j v) x2 x3 x4 all:=by
 have vb:b≠g:=fun e=>jk h.r1 h.cells zd (by rw [e];rfl);have hbk:∀k,k≠g->(wr.setCell ⟨g,j,none⟩ v).heap[k]? =wr.heap[k]? :=fun k hk=>Below.heap_setCell _ _ _ _ (by simpa using hk);refine ⟨(hbk b vb).trans h.cells,?_,?_,?_,?_,h.d1,h.d2,?_,h.hb,h.g1,h.g2,h.g3,h.g4⟩
 ·have hm:m=n1:=by have:=Vz h.r1;exact this
  subst hm;exact (h.r1.stored j v).1
 ·exact jf h.r2 fun k hk=>hbk k (fun e=>jy h.r2 h.r1 zd (k:=g) rfl (e ▸ hk))
 ·exact jf h.r3 fun k hk=>hbk k (fun e=>h.d1 g rfl (e ▸ hk))
 ·exact jf h.r4 fun k hk=>hbk k (fun e=>jy h.r4 h.r1 zd (k:=g) rfl (e ▸ hk))
 ·exact ((Fr.of_below (S:=fun k=>w.heap.size<=k) h.bel).setCell _ _ (Or.inl (h.g1 g rfl))).below (Nat.le_refl _) (fun _ x=>x)
theorem BSt.put2 {w wr:World} {b n g m c:Nat} {kv iv tv:Value} {n1 n2 n3 n4:Nat} {x1 x2 x3 x4:List Value} {all:Bool} (h:BSt w wr b n kv (.slice (some ⟨g,0,none⟩) m c) iv tv n1 n2 n3 n4 x1 x2 x3 x4 all) (j:Nat) (v:Value) :
 BSt w (wr.setCell ⟨g,j,none⟩ v) b n kv (.slice (some ⟨g,0,none⟩) m c) iv tv n1 n2 n3 n4 x1 (x2.set j v) x3 x4 all:=by
 have vb:b≠g:=fun e=>jk h.r2 h.cells zd (by rw [e];rfl);have hbk:∀k,k≠g->(wr.setCell ⟨g,j,none⟩ v).heap[k]? =wr.heap[k]? :=fun k hk=>Below.heap_setCell _ _ _ _ (by simpa using hk);refine ⟨(hbk b vb).trans h.cells,?_,?_,?_,?_,h.d1,h.d2,?_,h.hb,h.g1,h.g2,h.g3,h.g4⟩
 ·exact jf h.r1 fun k hk=>hbk k (fun e=>jy h.r1 h.r2 zd (k:=g) rfl (e ▸ hk))
 ·have hm:m=n2:=by have:=Vz h.r2;exact this
  subst hm;exact (h.r2.stored j v).1
 ·exact jf h.r3 fun k hk=>hbk k (fun e=>jy h.r3 h.r2 zd (k:=g) rfl (e ▸ hk))
 ·exact jf h.r4 fun k hk=>hbk k (fun e=>h.d2 g rfl (e ▸ hk))
 ·exact ((Fr.of_below (S:=fun k=>w.heap.size<=k) h.bel).setCell _ _ (Or.inl (h.g2 g rfl))).below (Nat.le_refl _) (fun _ x=>x)
theorem BSt.drew {w wr:World} {b n:Nat} {kv vv iv tv:Value} {n1 n2 n3 n4:Nat} {x1 x2 x3 x4:List Value} {all:Bool} (h:BSt w wr b n kv vv iv tv n1 n2 n3 n4 x1 x2 x3 x4 all):BSt w wr.drew b n kv vv iv tv n1 n2 n3 n4 x1 x2 x3 x4 all:=
 ⟨h.cells,jf h.r1 fun _ _=>rfl,jf h.r2 fun _ _=>rfl,jf h.r3 fun _ _=>rfl,jf h.r4 fun _ _=>rfl,h.d1,h.d2,h.bel.drew,h.hb,h.g1,h.g2,h.g3,h.g4⟩
def kF (k:Nat) (i:Nat):Value:= .bool (decide (i < k))
def vF (vals:List Int) (k:Nat) (i:Nat):Value:= .int .u32 (if i < k then vals.getD i 0 else 0)
theorem YQ (n:Nat) (u:Value) (f:Nat->Value) (h:∀i,i < n->f i=u):List.replicate n u=JY n f:=by
 apply List.ext_getElem?;intro i;by_cases hi:i < n
 ·rw [kE _ hi,h i hi];simp [hi]
 ·rw [List.getElem?_eq_none (by simp;omega),List.getElem?_eq_none (by rw [yI];omega)]
def WRelR (w:World) (b:Nat) (vals:List Int) (v4:Value) (wr:World):Prop:=∃(k:Nat) (kv vv iv tv:Value),k<=vals.length/\v4= .int .i64 k/\
 BSt w wr b vals.length kv vv iv tv vals.length vals.length vals.length vals.length (JY vals.length (kF k)) (JY vals.length (vF vals k)) (List.replicate vals.length (.bool false)) (List.replicate vals.length (.int .u32 0)) false
def RNewV [AllF] (w:World) (s:VS) (e:Ending) (w':World):Prop:=
 ∃b,e= .returned (.pointer (some ⟨b,0,none⟩))/\RV w' b (fun k=>w.heap.size<=k/\k < w'.heap.size) s/\Below w.heap.size w w'
theorem rnew [AllF] (hA:AllF.all=true) {w wr:World} {b:Nat} {vals:List Int} {kv vv iv tv:Value} (h:BSt w wr b vals.length kv vv iv tv vals.length vals.length vals.length vals.length (JY vals.length (kF vals.length)) (JY vals.length (vF vals vals.length)) (List.replicate vals.length (.bool false)) (List.replicate vals.length (.int .u32 0)) false)
 (hn:vals.length<=2147483648) (hu:∀v∈vals,VS.U32 v):RNewV w (jH vals) (.returned (.pointer (some ⟨b,0,none⟩))) (wr.setCell ⟨b,8,none⟩ (.bool true)):=by
 have hbl:=h.blt;have nb:∀{e sz n:Nat} {v:Value} {xs:List Value},wr.ownsRow 0 e sz v n xs->(∀k,v.ownBlock=some k->k≠b)->(wr.setCell ⟨b,8,none⟩ (.bool true)).ownsRow 0 e sz v n xs:=
  fun hr hne=>jf hr fun k hk=>Below.heap_setCell _ _ _ _ (by simpa using hne k hk)
 have ne1:∀k,kv.ownBlock=some k->k≠b:=fun k hk e=>jk h.r1 h.cells zd (e ▸ hk);have ne2:∀k,vv.ownBlock=some k->k≠b:=fun k hk e=>jk h.r2 h.cells zd (e ▸ hk);have ne3:∀k,iv.ownBlock=some k->k≠b:=fun k hk e=>jk h.r3 h.cells zd (e ▸ hk);have ne4:∀k,tv.ownBlock=some k->k≠b:=fun k hk e=>jk h.r4 h.cells zd (e ▸ hk);have q1:JY vals.length (kF vals.length)=JY (jH vals).n (jai (jH vals)):=by
  apply List.ext_getElem?;intro i;by_cases hi:i < vals.length
  ·rw [kE _ hi,kE _ (show i < (jH vals).n from hi)];simp [kF,jai,jH,hi]
  ·rw [List.getElem?_eq_none (by rw [yI];omega),List.getElem?_eq_none (by rw [yI];show vals.length<=i;omega)]
 have q2:JY vals.length (vF vals vals.length)=JY (jH vals).n (valF (jH vals)):=by
  apply List.ext_getElem?;intro i;by_cases hi:i < vals.length
  ·rw [kE _ hi,kE _ (show i < (jH vals).n from hi)];simp [vF,valF,jH,hi]
  ·rw [List.getElem?_eq_none (by rw [yI];omega),List.getElem?_eq_none (by rw [yI];show vals.length<=i;omega)]
 have q3:List.replicate vals.length (Value.bool false)=JY (jH vals).n (isF (jH vals)):=YQ _ _ _ (fun i _=>by simp [isF,jH,VS.wr,wix]);have q4:List.replicate vals.length (Value.int .u32 0)=JY (jH vals).n (toF (jH vals)):=YQ _ _ _ (fun i _=>by simp [toF,jH,VS.wr,wix]);have lt:∀{e sz n:Nat} {v:Value} {xs:List Value},wr.ownsRow 0 e sz v n xs->∀k,v.ownBlock=some k->k < (wr.setCell ⟨b,8,none⟩ (.bool true)).heap.size:=fun hr k hk=>by have:=jq hr hk;simpa using this
 refine ⟨b,rfl,⟨kv,vv,iv,tv,.slice none 0 0,.slice none 0 0,true,?_,q1 ▸ nb h.r1 ne1,q2 ▸ nb h.r2 ne2,q3 ▸ nb h.r3 ne3,q4 ▸ nb h.r4 ne4,World.ownsRow_nil _ _ _ _,World.ownsRow_nil _ _ _ _,h.d1,h.d2,by simp [Value.ownBlock],⟨h.hb,by simpa using hbl⟩,fun k hk=>⟨h.g1 k hk,lt h.r1 k hk⟩,fun k hk=>⟨h.g2 k hk,lt h.r2 k hk⟩,fun k hk=>⟨h.g3 k hk,lt h.r3 k hk⟩,fun k hk=>⟨h.g4 k hk,lt h.r4 k hk⟩,by simp [Value.ownBlock],by simp [Value.ownBlock],fun k hk=>hk.2,?_,?_,hA.symm⟩,?_⟩
 ·have:=Joins.block_setCell (i:=8) h.cells (.bool true);rw [this];rfl
 ·refine ⟨hn,by simp [jH],by simp [jH],by simp [jH],by simp [jH],?_,by simp [jH]⟩;intro i v hv;exact hu v (List.mem_of_getElem? hv)
 ·intro _ i hi;exact ⟨_,List.getElem?_eq_getElem (show i < vals.length from hi)⟩
 ·exact ((Fr.of_below (S:=fun k=>w.heap.size<=k) h.bel).setCell _ _ (Or.inl h.hb)).below (Nat.le_refl _) (fun _ x=>x)
theorem jdE [AllF] (hA:AllF.all=true) (v:Value) (vals:List Int) (w:World) (h:Rd w v 1 vals.length (kV vals)) (hn:vals.length<=1000000) (hu:∀v∈vals,VS.U32 v) :
 Calls prog 64 #[v] w (RNewV w (jH vals)):=by
 have hc:∀wr,Below w.heap.size w wr->∀k,k < vals.length->∃ad c,v= .slice (some ad) vals.length c/\wr.cell? (ad.add k)=some (.int .u32 (vals.getD k 0))/\ad.block < w.heap.size:=by
  intro wr hb k hk;obtain ⟨hl,⟨rfl,h0⟩ | ⟨ad,c,rfl,hcc⟩⟩:=h
  ·omega
  ·have e0:w.cell? (ad.add k)=some (.int .u32 (vals.getD k 0)):=hcc k _ (by simp [kV,hk]);have l0:=World.block_lt_of_cell? w _ e0;exact ⟨ad,c,rfl,(hb.cell l0).trans e0,(show (ad.add k).block=ad.block by unfold Addr.add;first | rfl | (split <;> rfl)) ▸ l0⟩
 have hv:∃a c,v= .slice a vals.length c:=by
  obtain ⟨hl,⟨rfl,h0⟩ | ⟨ad,c,rfl,hcc⟩⟩:=h
  ·exact ⟨_,_,by rw [h0]⟩
  ·exact ⟨_,_,rfl⟩
 obtain ⟨pa,pc,rfl⟩:=hv;have HU:=zh hu;clear h hu;go_enter func64,ntmps64;go_wp2_with fail;refine (jhc _ _ hn).mono ?_;rintro e w1 ⟨b,rfl,kv,vv,iv,tv,hB⟩;have HB:=zh hB;clear hB;go_wp2_with fail;go_loopw [4] (fun v4 wr=>WRelR w b vals v4 wr) (fun v4 _=>vals.length - (intOf v4).toNat);case atStart=>
  refine ⟨0,kv,vv,iv,tv,Nat.zero_le _,rfl,?_⟩;have h:=HB.out;have e1:=YQ vals.length (.bool false) (kF 0) (fun i _=>by simp [kF]);have e2:=YQ vals.length (.int .u32 0) (vF vals 0) (fun i _=>by simp [vF]);exact ⟨h.cells,e1 ▸ h.r1,e2 ▸ h.r2,h.r3,h.r4,h.d1,h.d2,h.bel,h.hb,h.g1,h.g2,h.g3,h.g4⟩
 case round=>
  obtain ⟨k,kv,vv,iv,tv,hk,rfl,hB⟩:=hrel;by_cases hlt:k < vals.length
  ·obtain ⟨ad,c',hv',hcv,had⟩:=hc wr hB.bel k hlt;simp only [Value.slice.injEq,true_and] at hv';obtain ⟨rfl,rfl⟩:=hv';clear hc;obtain ⟨gk,ck,rfl⟩:=Joins.ownsRow_form hB.r1 zo;obtain ⟨gv,cv,rfl⟩:=Joins.ownsRow_form hB.r2 zo;have H0:=zh hB;have c1:=hB.cell 1;have c2:=hB.cell 2;simp at c1 c2;have ck0:wr.cell? ⟨gk,k,none⟩=some (.bool false):=by rw [hB.r1.cellAt k zo,kE _ hlt];simp [kF]
   have fk0:=hB.r1.frozenAt k;have hB1:=hB.put1 k (.bool true);have d2:=hB1.cell 2;simp at d2;have hgk:w.heap.size<=gk:=hB.g1 gk rfl;have dv:(wr.setCell ⟨gk,k,none⟩ (.bool true)).cell? (ad.add k)=some (.int .u32 (vals.getD k 0)):=by
    rw [<-hcv];exact World.cell?_of_block (Below.heap_setCell _ _ _ _ (by rw [show (ad.add k).block=ad.block by unfold Addr.add;first | rfl | (split <;> rfl)];simp;omega))
   have dg:(wr.setCell ⟨gk,k,none⟩ (.bool true)).cell? ⟨gv,k,none⟩=some (vF vals k k):=by rw [hB1.r2.cellAt k zo,kE _ hlt]
   have df:=hB1.r2.frozenAt k;simp only [vF] at dg;have H1:=zh hB1;obtain ⟨y,hy⟩:∃y,vals.getD k 0=y:=⟨_,rfl⟩
   rw [hy] at hcv dv;have HY:=zh hy;clear hB hB1 hy;go_wp2;generalize hw1:wr.setCell ⟨gk,k,none⟩ (.bool true)=wr1 at*
   clear hw1;go_region;go_wp2;go_roundw;case rel=>
    have h:=(H1.out.put2 k (.int .u32 y)).drew;have e1:(JY vals.length (kF k)).set k (.bool true)=JY vals.length (kF (k+1)):=YP _ _ _ (by simp [kF]) (fun j hj=>by simp only [kF];congr 1;rw [Bool.eq_iff_iff];simp;omega);have e2:(JY vals.length (vF vals k)).set k (.int .u32 y)=JY vals.length (vF vals (k+1)):=YP _ _ _ (by rw [<-HY.out];simp [vF]) (fun j hj=>by
     simp only [vF];by_cases h1:j < k
     ·rw [if_pos h1,if_pos zo]
     ·rw [if_neg h1,if_neg zo])
    rw [e1,e2] at h;exact ⟨k+1,_,_,_,_,zo,by go_num,h⟩
   case measure=>simp [intOf];omega
  ·have e:k=vals.length:=zo;subst e;have H0:=zh hB;have c8:=hB.cell 8;have f8:wr.frozen? ⟨b,8,none⟩=false:=jS _ _ _ hB.cells _;simp at c8;clear hB hc HB;go_wp2;go_ret;exact rnew hA H0.out zo HU.out

section
variable {t s:Int} {P:Nat} {vs:List Int} {w:World} {v:Value}
theorem jaz (t p z:Int) (C:List Int) (j:Nat):Qr (qq t p z j (jH C)).2=SP t p z C j:=by
 rw [(SP_one t p z C j).2];have wi:=Y9 (KP C) t p z j;generalize (qq t p z j (jH C)).2=st at*
 obtain ⟨h1,h2,h3,h4⟩:=wi;apply List.ext_getElem?;intro i;by_cases hi:i < C.length
 ·rw [jcJ h3 hi];unfold Qr;rw [List.getElem?_map,List.getElem?_range zo];have e:st.wr i=wl st.writes i:=rfl;rw [h2];simp only [Option.map_some,e];cases wl st.writes i with
  | some v=>rfl
  | none=>simp [hi]
 ·rw [List.getElem?_eq_none (by simp [Qr];omega),List.getElem?_eq_none (by rw [XJ];omega)]
theorem jdI (hr:jv t P s=true) (R:w.ownsRow 0 44 1 v vs.length (kV vs)) (hn:vs.length<=1000000) (hu:∀x∈vs,VS.U32 x) :
 Calls prog 28 #[.agg #[.int .i64 t,.int .i64 P,.int .i64 s],v] w (VlQ w (SP t P s vs P)):=by
 letI A0:AllF:=⟨true⟩
 have hrb:=jp hr;have hP:(P:Int).toNat=P:=zT;have HWh:=zh (fun (W:World) (hb:Below w.heap.size w W)=>jdE rfl v vs W (Rd.of_row (jf (w':=W) R (fun k hk=>hb.block k (jq R hk)))) hn hu);have HAl:=zh (fun b W S (h:RV W b S (jH vs))=>xall_any b t P s W S (jH vs) h zo zo);rw [hP] at HAl;have HVl:=zh (fun W b S (h:RV W b S (qq t P s P (jH vs)).2)=>jb9 rfl h);rw [jaz] at HVl;have B0:=zh ((Below.refl w.heap.size w).alloc (Nat.le_refl _) (.cells #[.int .i64 t,.int .i64 P,.int .i64 s] 23));have k0:=heap_alloc_new w (.cells #[.int .i64 t,.int .i64 P,.int .i64 s] 23);have HK0:=zh k0;generalize SP t P s vs P=C at*
 generalize (qq t P s P (jH vs)).1=n1 at*
 generalize (qq t P s P (jH vs)).2=st at*
 clear R hn hu hr hrb hP k0;go_enter func28,ntmps28;go_wp2_with fail;refine (HWh.out _ B0.out).mono ?_;rintro e w1 ⟨b,rfl,hv,b1⟩;have hc1:=(b1.block w.heap.size zT).trans HK0.out;have B1:=zh (B0.out.trans (b1.mono B0.out.size));have HV1:=zh hv;have c0:=jd (o:=0) hc1;have c1:=jd (o:=1) hc1;have c2:=jd (o:=2) hc1;simp at c0 c1 c2;have hz:=b1.size;clear hv b1 HWh;go_wp2_with fail;refine zM (HAl.out _ _ _ HV1.out) ?_;rintro w2 ⟨hn2,hf2⟩;have B2:=zh (B1.out.trans (hf2.below (B:=w.heap.size) B1.out.size (fun k hk=>by have:=hk.1;simp at this;omega)));have HV2:=zh hn2;clear hn2 hf2 c0 c1 c2 hc1;go_wp2_with fail;refine (HVl.out _ _ _ HV2.out).mono ?_;rintro e w3 ⟨v3,rfl,o3,f3,b3⟩;have R3:=zh (And.intro o3 (And.intro (fun k hk=>Nat.le_trans B2.out.size (f3 k hk)) (B2.out.trans (b3.mono B2.out.size))));clear o3 f3 b3;go_wp2;go_ret;exact ⟨v3,rfl,R3.out.1,R3.out.2.1,R3.out.2.2⟩
end

section
variable {t s:Int} {P:Nat} {C:List Int} {w:World} {v:Value} {m:NM} {bm:Nat} {T:Nat->Prop} {st u:Int}
theorem jfx {w w':World} {e n:Nat} {v:Value} {xs:List Value} (h:w.ownsRow 0 e 1 v n xs) (hb:Below w.heap.size w w'):w'.ownsRow 0 e 1 v n xs:=jf (w':=w') h (fun k hk=>hb.block k (jq h hk))
theorem Xh {xs:List Int} {W:World} {x:Value} (R:W.ownsRow 0 38 1 x xs.length (Jc xs)) (hu:∀v∈xs,U64 v) (hs:kS t P s xs=some C):Calls prog 25 #[.agg #[.int .i64 t,.int .i64 P,.int .i64 s],x] W (SetQ W (some C)):=by
 rw [<-hs];exact Vp (Rd.of_row R) hu
theorem vals_row {xs:List Int} {W:World} {x:Value} (R:W.ownsRow 0 38 1 x xs.length (Jc xs)) (hu:∀v∈xs,U64 v) (hr:jv t P s=true) (hn:(xs.length:Int)=qD t P) (hs:yr (jo t P).toNat xs=C):Calls prog 62 #[.agg #[.int .i64 t,.int .i64 P,.int .i64 s],x] W (VlQ W C):=by
 rw [<-hs];have hmb:=jK hr;have hrb:=jp hr;obtain ⟨hl,⟨-,hz⟩ | ⟨ad,c,rfl,hc⟩⟩:=Rd.of_row R
 ·omega
 ·exact Vo ⟨hr,rfl,hn,hu,fun k hk=>hc k _ (by simp [Jc,hk])⟩ c
theorem jeu {W:World} {a b:Value} {C:List Int} (ha:W.ownsRow 0 44 1 a C.length (kV C)) (hb:W.ownsRow 0 44 1 b C.length (kV C)) (hn:C.length<=1000000):Calls prog 63 #[a,b] W fun e w'=>e= .returned (.bool true)/\Below W.heap.size W w':=by
 have:=jgP C C a b W ha hb zo zo;simpa using this
theorem jaQ (hp:PM w bm T m) (hk:m.K=m.W) (hs:qm t P s m.W st u none C) (R:w.ownsRow 0 44 1 v C.length (kV C)) :
 Calls prog 27 #[.agg #[.int .i64 t,.int .i64 P,.int .i64 s],.pointer (some ⟨bm,0,none⟩),v] w (zW (.bool true) w):=by
 obtain ⟨hr,hn⟩:=hs.right;have hmb:=jK hr;have hC:=hs.vals;have hCl:C.length<=1000000:=by rw [hC,Ko];omega
 have hkl:m.K.length=m.W.length:=by rw [hk]
 have HWd:=zh (fun (W:World) (hb:Below w.heap.size w W)=>Yi bm W T m (qg.keep (T:=fun _=>False) hp (Fr.of_below hb) (fun _ _ x=>x)));have HKd:=zh (fun (W:World) (hb:Below w.heap.size w W)=>jgv bm W T m (qg.keep (T:=fun _=>False) hp (Fr.of_below hb) (fun _ _ x=>x)));rw [hk] at HKd;have HSt:=zh (fun (W:World) (x:Value) (o:W.ownsRow 0 38 1 x m.W.length (Jc m.W))=>Xh (s:=s) o hs.u64 hs.sett);have HVl:=zh (fun (W:World) (x:Value) (o:W.ownsRow 0 38 1 x m.W.length (Jc m.W))=>vals_row (s:=s) o hs.u64 hr hn hC.symm);have HVs:=zh (fun (W:World) (a b:Value) (ha:W.ownsRow 0 44 1 a C.length (kV C)) hb=>jeu (W:=W) (a:=a) (b:=b) ha hb hCl);have HRv:=zh (fun (W:World) (hb:Below w.heap.size w W)=>jfx R hb);generalize m.W=WW at*
 generalize hcfg:(Obj.cells #[.int .i64 t,.int .i64 P,.int .i64 s] 23)=cfg at*
 have HCfg:=zh hcfg;have E0:=zh (Below.refl (w.alloc cfg).heap.size (w.alloc cfg));have HB:=zh (fun (W:World) (E:Below (w.alloc cfg).heap.size (w.alloc cfg) W)=>((Below.refl w.heap.size w).alloc (Nat.le_refl _) cfg).trans (E.mono zT));have HKC:=zh (fun (W:World) (E:Below (w.alloc cfg).heap.size (w.alloc cfg) W)=>show W.cell? ⟨w.heap.size,0,none⟩=some (.int .i64 t)/\W.cell? ⟨w.heap.size,1,none⟩=some (.int .i64 P)/\W.cell? ⟨w.heap.size,2,none⟩=some (.int .i64 s) by
  have hc:=(E.block w.heap.size zT).trans (heap_alloc_new w cfg);rw [<-hcfg] at hc;exact ⟨jd (o:=0) hc,jd (o:=1) hc,jd (o:=2) hc⟩)
 clear hp hk hs R hr hn hmb hC hCl hkl;subst hcfg;go_enter func27,ntmps27;go_wp2_with fail;have E0d:=zh E0.out.drew;refine wH (S:=fun w'=>w'.cell? ⟨w.heap.size,0,none⟩=some (.int .i64 t)/\w'.cell? ⟨w.heap.size,1,none⟩=some (.int .i64 P)/\w'.cell? ⟨w.heap.size,2,none⟩=some (.int .i64 s)) (HKC.out _ E0d.out) fun hHeld=> ?_;refine wT 0 ?_;refine wY ?_;refine wR 2 fun K hK=> ?_;go_simp;refine (HWd.out _ (HB.out _ E0d.out)).mono ?_;rintro e w1 ⟨v1,rfl,o1,-,b1⟩;have E1:=zh (E0d.out.trans (b1.mono E0d.out.size));have O1:=zh (Joins.ownsRow_le o1 (Nat.zero_le _));refine wK hK (HKC.out _ E1.out) fun hHeld=> ?_;clear hK K;refine wR 3 fun K hK=> ?_;go_simp;refine (HSt.out _ _ O1.out).mono ?_;rintro e w2 ⟨va,rfl,oa,-,b2⟩;have E2:=zh (E1.out.trans (b2.mono E1.out.size));have OA:=zh oa;refine wK hK (HKC.out _ E2.out) fun hHeld=> ?_;clear hK K;refine wY ?_;refine wD ?_;clear hHeld;obtain ⟨c0,c1,c2⟩:=HKC.out _ E2.out;go_wp2_with fail;have E2d:=zh E2.out.drew;have OAd:=zh (fun (W:World) (E:Below w2.heap.size w2 W)=>jfx OA.out E);refine wH (S:=fun w'=>w'.cell? ⟨w.heap.size,0,none⟩=some (.int .i64 t)/\w'.cell? ⟨w.heap.size,1,none⟩=some (.int .i64 P)/\w'.cell? ⟨w.heap.size,2,none⟩=some (.int .i64 s)) (HKC.out _ E2d.out) fun hHeld=> ?_;refine wT 0 ?_;refine wY ?_;refine wR 2 fun K hK=> ?_;go_simp;refine (HKd.out _ (HB.out _ E2d.out)).mono ?_;rintro e w3 ⟨v3,rfl,o3,-,b3⟩;have E3:=zh (E2d.out.trans (b3.mono E2d.out.size));have G3:=zh ((Below.refl w2.heap.size w2).drew.trans b3);have O3:=zh (Joins.ownsRow_le o3 (Nat.zero_le _));refine wK hK (HKC.out _ E3.out) fun hHeld=> ?_;clear hK K;refine wR 3 fun K hK=> ?_;go_simp;refine (HSt.out _ _ O3.out).mono ?_;rintro e w4 ⟨vb,rfl,ob,-,b4⟩;have E4:=zh (E3.out.trans (b4.mono E3.out.size));have G4:=zh (G3.out.trans (b4.mono G3.out.size));have OB:=zh ob;refine wK hK (HKC.out _ E4.out) fun hHeld=> ?_;clear hK K;refine wY ?_;refine wD ?_;clear hHeld c0 c1 c2;obtain ⟨c0,c1,c2⟩:=HKC.out _ E4.out;go_wp2_with fail;have E4d:=zh E4.out.drew;have G4d:=zh G4.out.drew;have OBd:=zh (fun (W:World) (E:Below w4.heap.size w4 W)=>jfx OB.out E);have K4d:=zh (Below.refl w4.heap.size w4).drew;refine wH (S:=fun w'=>w'.cell? ⟨w.heap.size,0,none⟩=some (.int .i64 t)/\w'.cell? ⟨w.heap.size,1,none⟩=some (.int .i64 P)/\w'.cell? ⟨w.heap.size,2,none⟩=some (.int .i64 s)) (HKC.out _ E4d.out) fun hHeld=> ?_;refine wT 0 ?_;refine wY ?_;refine wR 7 fun K hK=> ?_;go_simp;refine zM (HVs.out _ _ _ (OAd.out _ G4d.out) (HRv.out _ (HB.out _ E4d.out))) fun w5 b5=> ?_;have E5:=zh (E4d.out.trans (b5.mono E4d.out.size));have K5:=zh (K4d.out.trans (b5.mono K4d.out.size));refine wK hK (HKC.out _ E5.out) fun hHeld=> ?_;clear hK K;refine wY ?_;refine wR 12 fun K hK=> ?_;go_simp;refine zM (HVs.out _ _ _ (OBd.out _ K5.out) (HRv.out _ (HB.out _ E5.out))) fun w6 b6=> ?_;have E6:=zh (E5.out.trans (b6.mono E5.out.size));refine wK hK (HKC.out _ E6.out) fun hHeld=> ?_;clear hK K;refine wY ?_;refine wR 17 fun K hK=> ?_;go_simp;refine (HKd.out _ (HB.out _ E6.out)).mono ?_;rintro e w7 ⟨v7,rfl,o7,-,b7⟩;have E7:=zh (E6.out.trans (b7.mono E6.out.size));have O7:=zh (Joins.ownsRow_le o7 (Nat.zero_le _));refine wK hK (HKC.out _ E7.out) fun hHeld=> ?_;clear hK K;refine wR 18 fun K hK=> ?_;go_simp;refine (HVl.out _ _ O7.out).mono ?_;rintro e w8 ⟨v8,rfl,o8,-,b8⟩;have E8:=zh (E7.out.trans (b8.mono E7.out.size));have O8:=zh o8;refine wK hK (HKC.out _ E8.out) fun hHeld=> ?_;clear hK K;refine wR 20 fun K hK=> ?_;go_simp;refine zM (HVs.out _ _ _ O8.out (HRv.out _ (HB.out _ E8.out))) fun w9 b9=> ?_;have E9:=zh (E8.out.trans (b9.mono E8.out.size));refine wK hK (HKC.out _ E9.out) fun hHeld=> ?_;clear hK K;refine wY ?_;refine wD ?_;clear hHeld;go_wp2;go_ret;exact ⟨rfl,HB.out _ E9.out⟩
end

section
variable {t s:Int} {P:Nat} {vs xs:List Int} {w w':World}
theorem jft {s0:Int} {q0:TS×NM} (h:GI t s P vs s0 0 q0.1 q0.2):∀k,(∀j,j < k->(QZ t P s q0 j).1.ph≠19)->GI t s P vs s0 k (QZ t P s q0 k).1 (QZ t P s q0 k).2
 | 0,_=>h
 | k+1,hk=>(jft h k (fun j hj=>hk j zo)).step (hk k zo)
theorem fit_some (h:jeK t P s xs=some vs) (hu:∀v∈xs,U64 v):SH t s P vs vs 0/\(∃st u o,qm t P s xs st u o vs/\0<=st/\st < 2147483648)/\xs.length≠0/\xs.length % 8=0/\xs.length<=65536/\(xs.length:Int)=qD t P:=by
 unfold jeK at h;split at h
 ·rename_i vs' hs;split at h
  ·rename_i hc;cases h;obtain ⟨hr,hn,hvn,hvu,st,u,o,hla⟩:=Yd hs;have hb:=jp hr;have hm:=jK hr;have h8:jN t P % 8=0:=by unfold jN;omega
   have hset:qm t P s xs st u o vs:=⟨hu,hla,hs⟩
   obtain ⟨htip,-,hst0,-⟩:=hset.tip;have hst:st=hiW (xs.getD 8 0):=by
    unfold Qq at htip;split at htip
    ·simp only [Option.some.injEq,Prod.mk.injEq] at htip;exact htip.1.symm
    ·cases htip
   exact ⟨SH.start hr (by rw [hvn];rfl) hvu hc.2.1,⟨st,u,o,hset,hst0.1,by rw [hst];exact hc.2.2⟩,zo,zo,zo,hn⟩
  ·cases h
 ·cases h
end
end Go.Proofs.YtcnininelndjoaaGreat
namespace Go.Proofs.YtcnininelndjoaaGreat
open Go.Proofs.Tryz
open Go.ChangeShapes Go.RowKit
def stV (v:Value) (f:Nat->Int):Value:= .agg #[v,.int .i64 (f 0),.int .i64 (f 1),.int .i64 (f 2),.int .i64 (f 3),.int .i64 (f 4),.int .i64 (f 5),.int .i64 (f 6),.int .i64 (f 7)]
def kI (vs:List Int):Nat->Int:=fun i=>vs.getD (22+i) 0
def eq8 (f g:Nat->Int):Bool:=f 0 == g 0 && (f 1 == g 1 && (f 2 == g 2 && (f 3 == g 3 && (f 4 == g 4 && (f 5 == g 5 && (f 6 == g 6 && f 7 == g 7))))))
theorem infoI64b:(prog.info? 2).map (fun i=>(i.zero,i.size,i.bytes))=some (some (.int .i64 0),1,8):=by kernel_rfl
theorem yT (P:Program) (d e c:Nat) (xs ys:Array Value) (W:World) (a b:Int) (k:IntKind) (i:Nat) (is:List Nat) (he:P.underlying e=some (.int k)) (hx:(part e xs (i*c)).run P W= .ok (.int k a) W) (hy:(part e ys (i*c)).run P W= .ok (.int k b) W) (r:Bool) (hr:(Op.eqItems (d+1) e c xs ys is).run P W= .ok r W) :
 (Op.eqItems (d+1) e c xs ys (i :: is)).run P W= .ok (a == b && r) W:=by
 simp only [Op.eqItems,Sem.run_bind,hx,hy,Result.andThen_ok,run_equalIn_int W d e k k a b he];cases hab:a == b
 ·simp
 ·simp [hr]
theorem run_eq8 (f g:Nat->Int) (W:World):(Op.equalIn 10000 71 (.agg #[.int .i64 (f 0),.int .i64 (f 1),.int .i64 (f 2),.int .i64 (f 3),.int .i64 (f 4),.int .i64 (f 5),.int .i64 (f 6),.int .i64 (f 7)]) (.agg #[.int .i64 (g 0),.int .i64 (g 1),.int .i64 (g 2),.int .i64 (g 3),.int .i64 (g 4),.int .i64 (g 5),.int .i64 (g 6),.int .i64 (g 7)])).run prog W= .ok (eq8 f g) W:=by
 obtain ⟨i0,hi0,-,-,-⟩:=info_parts infoI64b;have hc:prog.cellsOf 2=1:=zk;rw [show (10000:Nat)=9999+1 from rfl,run_equalIn_array W 9999 _ _ underlying71 hi0,hc];rw [show eq8 f g=(f 0 == g 0 && (f 1 == g 1 && (f 2 == g 2 && (f 3 == g 3 && (f 4 == g 4 && (f 5 == g 5 && (f 6 == g 6 && (f 7 == g 7 && true)))))))) by unfold eq8;simp];have hp:∀(h:Nat->Int) (i:Nat),i < 8->(part 2 #[.int .i64 (h 0),.int .i64 (h 1),.int .i64 (h 2),.int .i64 (h 3),.int .i64 (h 4),.int .i64 (h 5),.int .i64 (h 6),.int .i64 (h 7)] (i*1)).run prog W= .ok (.int .i64 (h i)) W:=by
  intro h i hi;rcases (by omega:i=0\/i=1\/i=2\/i=3\/i=4\/i=5\/i=6\/i=7) with rfl | rfl | rfl | rfl | rfl | rfl | rfl | rfl <;> simp [go_sem,Tryz.isAgg2]
 show (Op.eqItems 9999 2 1 _ _ [0,1,2,3,4,5,6,7]).run prog W=_;refine yT _ 9998 _ _ _ _ _ _ _ .i64 _ _ underlying2 (hp f 0 zo) (hp g 0 zo) _ ?_;refine yT _ 9998 _ _ _ _ _ _ _ .i64 _ _ underlying2 (hp f 1 zo) (hp g 1 zo) _ ?_;refine yT _ 9998 _ _ _ _ _ _ _ .i64 _ _ underlying2 (hp f 2 zo) (hp g 2 zo) _ ?_;refine yT _ 9998 _ _ _ _ _ _ _ .i64 _ _ underlying2 (hp f 3 zo) (hp g 3 zo) _ ?_;refine yT _ 9998 _ _ _ _ _ _ _ .i64 _ _ underlying2 (hp f 4 zo) (hp g 4 zo) _ ?_;refine yT _ 9998 _ _ _ _ _ _ _ .i64 _ _ underlying2 (hp f 5 zo) (hp g 5 zo) _ ?_;refine yT _ 9998 _ _ _ _ _ _ _ .i64 _ _ underlying2 (hp f 6 zo) (hp g 6 zo) _ ?_;refine yT _ 9998 _ _ _ _ _ _ _ .i64 _ _ underlying2 (hp f 7 zo) (hp g 7 zo) _ ?_;simp [Op.eqItems]
def EqTo (l1 l2:List (Int×Int)) (k:Nat):Prop:=∀j,j < k->l1[j]? =l2[j]?
theorem eqL_no {l1 l2:List (Int×Int)} {k:Nat} {x y:Int×Int} (hx:l1[k]? =some x) (hy:l2[k]? =some y) (h:x≠y):decide (l1=l2)=false:=by
 rw [decide_eq_false_iff_not];intro e;rw [e,hy] at hx;exact h (Option.some.inj hx).symm
theorem eqL_step {l1 l2:List (Int×Int)} {k:Nat} (h:EqTo l1 l2 k) (hk:l1[k]? =l2[k]?):EqTo l1 l2 (k+1):=fun j hj=>by
 by_cases e:j=k
 ·rw [e];exact hk
 ·exact h j zo
theorem eqL_yes {l1 l2:List (Int×Int)} (hl:l1.length=l2.length) (h:EqTo l1 l2 l1.length):decide (l1=l2)=true:=by
 rw [decide_eq_true_iff];apply List.ext_getElem?;intro j;by_cases hj:j < l1.length
 ·exact h j hj
 ·rw [List.getElem?_eq_none zo,List.getElem?_eq_none zo]
theorem eqL_len {l1 l2:List (Int×Int)} (hl:l1.length≠l2.length):decide (l1=l2)=false:=by
 rw [decide_eq_false_iff_not];exact fun e=>hl (by rw [e])
def EqRel (l1 l2:List (Int×Int)) (w:World) (i:Value) (wr:World):Prop:=∃k:Nat,k<=l1.length/\i= .int .i64 k/\EqTo l1 l2 k/\Below w.heap.size w wr
section
variable (l1 l2:List (Int×Int)) (va vb:Value) (f g:Nat->Int) (w:World)
theorem jfw (ha:w.ownsRow 0 121 2 va l1.length (j9 l1)) (hb:w.ownsRow 0 121 2 vb l2.length (j9 l2)) (h1:l1.length<=4294967296) (h2:l2.length<=4294967296) :
 Calls prog 26 #[stV va f,stV vb g] w (zW (.bool (decide (l1=l2) && eq8 f g)) w):=by
 have hca:=Qf l1;have hcb:=Qf l2;obtain ⟨pa,ca,rfl⟩:=kg ha;obtain ⟨pb,cb,rfl⟩:=kg hb;have S2:=((BS.start w).alloc (.cells #[.slice pa l1.length ca,.int .i64 (f 0),.int .i64 (f 1),.int .i64 (f 2),.int .i64 (f 3),.int .i64 (f 4),.int .i64 (f 5),.int .i64 (f 6),.int .i64 (f 7)] 73)).alloc (.cells #[.slice pb l2.length cb,.int .i64 (g 0),.int .i64 (g 1),.int .i64 (g 2),.int .i64 (g 3),.int .i64 (g 4),.int .i64 (g 5),.int .i64 (g 6),.int .i64 (g 7)] 73);have c1:=jA (.cells #[.slice pb l2.length cb,.int .i64 (g 0),.int .i64 (g 1),.int .i64 (g 2),.int .i64 (g 3),.int .i64 (g 4),.int .i64 (g 5),.int .i64 (g 6),.int .i64 (g 7)] 73) zT (jr w #[.slice pa l1.length ca,.int .i64 (f 0),.int .i64 (f 1),.int .i64 (f 2),.int .i64 (f 3),.int .i64 (f 4),.int .i64 (f 5),.int .i64 (f 6),.int .i64 (f 7)] 73);have c2:=jr (w.alloc (.cells #[.slice pa l1.length ca,.int .i64 (f 0),.int .i64 (f 1),.int .i64 (f 2),.int .i64 (f 3),.int .i64 (f 4),.int .i64 (f 5),.int .i64 (f 6),.int .i64 (f 7)] 73)) #[.slice pb l2.length cb,.int .i64 (g 0),.int .i64 (g 1),.int .i64 (g 2),.int .i64 (g 3),.int .i64 (g 4),.int .i64 (g 5),.int .i64 (g 6),.int .i64 (g 7)] 73;have ha2:=S2.row ha;have hb2:=S2.row hb;have hE:=run_eq8 f g;unfold stV;generalize eq8 f g=y at*
 generalize f 0=f0 at*
 generalize f 1=f1 at*
 generalize f 2=f2 at*
 generalize f 3=f3 at*
 generalize f 4=f4 at*
 generalize f 5=f5 at*
 generalize f 6=f6 at*
 generalize f 7=f7 at*
 generalize g 0=g0 at*
 generalize g 1=g1 at*
 generalize g 2=g2 at*
 generalize g 3=g3 at*
 generalize g 4=g4 at*
 generalize g 5=g5 at*
 generalize g 6=g6 at*
 generalize g 7=g7 at*
 simp only [World.size_alloc] at c2;have HA:=zh (fun _:Unit=>ha2);have HB:=zh (fun _:Unit=>hb2);have HS2:=zh S2.bel;have HC:=zh (fun _:Unit=>And.intro c1 c2);clear ha hb ha2 hb2 S2;by_cases hll:l1.length=l2.length
 ·have hlb:((l1.length:Int) != l2.length)=false:=by simp [hll]
  have HLL:=zh hll;clear hll;cases y
  ·skip;go_enter func26,ntmps26;go_wp2;go_ret;exact ⟨kh zT,HS2.out⟩
  ·skip;go_enter func26,ntmps26;go_wp2_with fail;clear hE;go_loopw [5] (fun i wr=>EqRel l1 l2 ((w.alloc (.cells #[.slice pa l1.length ca,.int .i64 f0,.int .i64 f1,.int .i64 f2,.int .i64 f3,.int .i64 f4,.int .i64 f5,.int .i64 f6,.int .i64 f7] 73)).alloc (.cells #[.slice pb l2.length cb,.int .i64 g0,.int .i64 g1,.int .i64 g2,.int .i64 g3,.int .i64 g4,.int .i64 g5,.int .i64 g6,.int .i64 g7] 73)) i wr) (fun i _=>l1.length - (intOf i).toNat);case atStart=>exact ⟨0,zo,rfl,fun j hj=>by omega,Below.refl _ _⟩
   case round=>
    clear c1 c2;obtain ⟨k,hk,rfl,hno,hbe⟩:=hrel;have s0:wr.cell? ⟨w.heap.size,0,none⟩=some (.slice pa l1.length ca):=((BS.start _).below hbe).oldbox (HC.out ()).1 (by simp;omega) 0;have s1:wr.cell? ⟨w.heap.size+1,0,none⟩=some (.slice pb l2.length cb):=((BS.start _).below hbe).oldbox (HC.out ()).2 zT 0;have HBe:=zh (HS2.out.trans (hbe.mono HS2.out.size));have HB2:=zh (fun _:Unit=>hbe);by_cases hlt:k < l1.length
    ·have hkl:(k:Int) < l1.length:=zo;obtain ⟨⟨a1,a2⟩,hx⟩:∃x,l1[k]? =some x:=⟨_,List.getElem?_eq_getElem hlt⟩
     obtain ⟨⟨b1,b2⟩,hy⟩:∃x,l2[k]? =some x:=⟨_,List.getElem?_eq_getElem (by have:=HLL.out;omega)⟩
     have hra:=((BS.start _).below hbe).row (HA.out ());have hrb:=((BS.start _).below hbe).row (HB.out ());obtain ⟨ga,cap,hg⟩:=Joins.ownsRow_form hra zo;simp only [Value.slice.injEq,true_and] at hg;obtain ⟨rfl,rfl⟩:=hg;obtain ⟨gb,cap,hg⟩:=Joins.ownsRow_form hrb (by have:=HLL.out;omega);simp only [Value.slice.injEq,true_and] at hg;obtain ⟨rfl,rfl⟩:=hg;obtain ⟨p0,p1⟩:=Yq hx;obtain ⟨r0,r1⟩:=Yq hy;have q0:=(hra.cellAt (k*2) zo).trans p0;have q1:=(hra.cellAt (k*2+1) zo).trans p1;have u0:=(hrb.cellAt (k*2) (by have:=HLL.out;omega)).trans r0;have u1:=(hrb.cellAt (k*2+1) (by have:=HLL.out;omega)).trans r1;have HNo:=zh (fun h:(a1,a2)≠(b1,b2)=>eqL_no hx hy h);have HYes:=zh (fun h:(a1,a2)=(b1,b2)=>eqL_step hno (hx.trans (h ▸ hy.symm)));clear p0 p1 r0 r1 hx hy hra hrb hno hbe HA HB HC HS2;have hkl2:(k:Int) < l2.length:=by have:=HLL.out;omega
     dsimp only at q0 q1 u0 u1;by_cases e1:a1=b1
     ·by_cases e2:a2=b2
      ·have HS:=zh (HYes.out (by rw [e1,e2]));subst e1 e2;clear HNo HYes;go_wp2_with fail;refine wH (S:=fun w'=>(w'.cell? ⟨w.heap.size,0,none⟩=some (.slice (some ⟨ga,0,none⟩) l1.length ca)/\w'.cell? ⟨w.heap.size+1,0,none⟩=some (.slice (some ⟨gb,0,none⟩) l2.length cb))/\(w'.cell? ⟨ga,k*2,none⟩=some (.int .i64 a1)/\w'.cell? ⟨ga,k*2+1,none⟩=some (.int .i64 a2))/\w'.cell? ⟨gb,k*2,none⟩=some (.int .i64 a1)/\w'.cell? ⟨gb,k*2+1,none⟩=some (.int .i64 a2)) (⟨⟨s0,s1⟩,⟨q0,q1⟩,u0,u1⟩) fun hHeld=> ?_;refine wT 0 ?_;refine wY ?_;refine wD ?_;go_wp2_with fail;go_roundw;case rel=>exact ⟨k+1,zo,by go_num,HS.out,(HB2.out ()).drew⟩
       case measure=>simp [intOf];omega
      ·have hb2:(a2 == b2)=false:=by simpa using e2
       have HN:=zh (HNo.out (by simp [e2]));subst e1;clear HNo HYes e2;go_wp2_with fail;refine wH (S:=fun w'=>(w'.cell? ⟨w.heap.size,0,none⟩=some (.slice (some ⟨ga,0,none⟩) l1.length ca)/\w'.cell? ⟨w.heap.size+1,0,none⟩=some (.slice (some ⟨gb,0,none⟩) l2.length cb))/\(w'.cell? ⟨ga,k*2,none⟩=some (.int .i64 a1)/\w'.cell? ⟨ga,k*2+1,none⟩=some (.int .i64 a2))/\w'.cell? ⟨gb,k*2,none⟩=some (.int .i64 a1)/\w'.cell? ⟨gb,k*2+1,none⟩=some (.int .i64 b2)) (⟨⟨s0,s1⟩,⟨q0,q1⟩,u0,u1⟩) fun hHeld=> ?_;refine wT 0 ?_;refine wY ?_;refine wD ?_;go_wp2;go_ret;exact ⟨kh (by simp [HN.out]),HBe.out.drew⟩
     ·have hb1:(a1 == b1)=false:=by simpa using e1
      have HN:=zh (HNo.out (by simp [e1]));clear HNo HYes e1;go_wp2_with fail;refine wH (S:=fun w'=>(w'.cell? ⟨w.heap.size,0,none⟩=some (.slice (some ⟨ga,0,none⟩) l1.length ca)/\w'.cell? ⟨w.heap.size+1,0,none⟩=some (.slice (some ⟨gb,0,none⟩) l2.length cb))/\(w'.cell? ⟨ga,k*2,none⟩=some (.int .i64 a1)/\w'.cell? ⟨ga,k*2+1,none⟩=some (.int .i64 a2))/\w'.cell? ⟨gb,k*2,none⟩=some (.int .i64 b1)/\w'.cell? ⟨gb,k*2+1,none⟩=some (.int .i64 b2)) (⟨⟨s0,s1⟩,⟨q0,q1⟩,u0,u1⟩) fun hHeld=> ?_;refine wT 0 ?_;refine wY ?_;refine wD ?_;go_wp2;go_ret;exact ⟨kh (by simp [HN.out]),HBe.out.drew⟩
    ·have hkl:¬(k:Int) < l1.length:=zo;have hke:k=l1.length:=zo;rw [hke] at hno;have HY:=zh (eqL_yes HLL.out hno);clear hno hke hbe HA HB HC HS2;go_wp2;go_ret;exact ⟨kh (by simp [HY.out]),HBe.out⟩
 ·have hlb:((l1.length:Int) != l2.length)=true:=by simp;omega
  have HN:=zh (eqL_len hll);clear hll;go_enter func26,ntmps26;go_wp2;go_ret;exact ⟨kh (by simp [HN.out]),HS2.out⟩
end
end Go.Proofs.YtcnininelndjoaaGreat
namespace Go.Proofs.YtcnininelndjoaaGreat
open Go.Proofs.Tryz
open Go.RowKit

section
variable {t z:Int} {vs C:List Int} {P K:Nat} {x:TS} {m:NM} {s0:Int} {k:Nat}
theorem SH.weak (h:SH t z P vs C K):SH t z P vs C 0:=⟨h.right,h.num,h.len,h.u32,h.chk,h.blocks,h.roots,fun x _ _ hx=>by omega⟩
theorem SH.hall (h:SH t z P C C P):∀q,q < P->wrP t P z q (SP t P z C q)=[]:=by
 intro q hq;have hs:=(h.same (q:=q) hq hq).1;rw [h.same_all (Nat.le_refl _) q zo];unfold wrP;rw [hs];rfl
end

section
variable {w w':World} {t s:Int} {P:Nat} {vs:List Int} {bm:Nat} {m:NM} {j0 j:Nat}
theorem sp_comp (hsh:SH t s P vs vs 0) (h0:j0<=P) (h1:j<=P):∃j',j'<=P/\SP t P s (SP t P s vs j0) j=SP t P s vs j':=by
 have hb:=jp hsh.right;by_cases h:j0<=j
 ·exact ⟨j,h1,jdp hsh zo h0 j h⟩
 ·exact ⟨j0,h0,((hsh.all zo j0).again).same_all h0 j zo⟩
theorem sp_last (hsh:SH t s P vs vs 0) (h0:j0<=P):SP t P s (SP t P s vs j0) P=SP t P s vs P:=by
 have hb:=jp hsh.right;exact jdp hsh zo h0 P h0
theorem jaO (hsh:SH t s P vs vs 0) (j:Nat) {v:Value} (R:w.ownsRow 0 44 1 v (SP t P s vs j).length (kV (SP t P s vs j))) :
 Calls prog 23 #[.agg #[.int .i64 t,.int .i64 P,.int .i64 s],v] w fun e w'=>∃v',e= .returned (.tuple #[stV v' (kI (SP t P s vs j)),.bool true])/\RowB w (kW vs t P s) v' w':=by
 have hb:=jp hsh.right;have hj:=hsh.all zo j;have hn:((SP t P s vs j).length:Int)=jo t P:=by rw [hj.len,hj.num];rfl
 obtain ⟨ad,c,rfl,hx⟩:=(Rd.of_row R).xv hj.u32 hsh.right zo hn;refine (jdJ c w hx hj.chk).mono ?_;rintro e w' ⟨v',he,hr⟩;rw [hj.blocks] at hr;exact ⟨v',he,hr⟩
theorem jce (hsh:SH t s P vs vs 0) (j:Nat):eq8 (kI vs) (kI (SP t P s vs j))=true:=by
 have hb:=jp hsh.right;have hr:=(hsh.all zo j).roots;unfold eq8 kI;rw [hr 0 zo,hr 1 zo,hr 2 zo,hr 3 zo,hr 4 zo,hr 5 zo,hr 6 zo,hr 7 zo];simp
structure TM (t s:Int) (P:Nat) (vs:List Int) (b0:Int) (m:NM):Prop where
 mi:m.Inv
 kw:m.K=m.W
 ex:∃st u o j,j<=P/\qm t P s m.W st u o (SP t P s vs j)/\0<=st/\st<=b0
theorem TM.gi {b0:Int} (hsh:SH t s P vs vs 0) (h:TM t s P vs b0 m) (hb:b0 < 2180000000):∃st j,j<=P/\0<=st/\st<=b0/\GI t s P (SP t P s vs j) st 0 TS.begin m:=by
 obtain ⟨st,u,o,j,hj,hs,h0,h1⟩:=h.ex;have hrb:=jp hsh.right;exact ⟨st,j,hj,h0,h1,GI.start ((hsh.all zo j).again.weak) h.mi h.kw hs zo⟩
theorem n2_cut {Ls:List Nat} {b0 n:Int} {aN aE:Option Addr} {nN cN cE:Nat} {acts:List NM.A} {W:World} (hsh:SH t s P vs vs 0) (h:N2 PM RU w bm 0 Ls m () W) (hm:TM t s P vs b0 m) (hb:b0 < 2180000000) (hE:∀W',Below w.heap.size w W'->Rd W' (.slice aE acts.length cE) 6 acts.length (acts.flatMap jeL)) (hl:acts.length<=60) :
 Calls prog 24 #[.agg #[.int .i64 t,.int .i64 P,.int .i64 s],.pointer (some ⟨bm,0,none⟩),.int .i64 n,.agg #[.slice aN nN cN,.slice aE acts.length cE]] W fun e w'=>e= .returned (.tuple #[])/\∃m',N2 PM RU w bm 0 Ls m' () w'/\(∀L∈Ls,w'.heap[L]? =W.heap[L]?)/\TM t s P vs (b0+3000) m':=by
 obtain ⟨st,j,hj,hst0,hst,g⟩:=hm.gi hsh hb;obtain ⟨S1,S2,p1,-,g1,-,-,hl1⟩:=h.ex;have hz:=h.bel.size;refine zM (cut_any p1 g (fun W' F=>hE W' (h.bel.trans (F.below hz g1))) hl) ?_;rintro w' ⟨⟨m',p2,mi,kw,st2,u2,o2,j2,hj2,hs2,hle⟩,F⟩;obtain ⟨j3,hj3,e3⟩:=sp_comp hsh hj hj2;rw [e3] at hs2;refine ⟨rfl,m',⟨⟨_,fun _=>False,p2,fun _ hf=>hf.elim,fun k hk=> ?_,fun _ hf=>hf.elim,fun _ _ hf=>hf.elim,fun L hL=>⟨fun hk=> ?_,fun hf=>hf.elim⟩⟩,h.bel.trans (F.below hz g1),fun L hL=>⟨Nat.lt_of_lt_of_le (h.ls L hL).1 F.size,(h.ls L hL).2⟩⟩,fun L hL=>F.block L (h.ls L hL).1 (hl1 L hL).1,⟨mi,kw,st2,u2,o2,j3,hj3,hs2,hs2.tip.2.2.1.1,zo⟩⟩
 ·rcases hk with hk | hk
  ·exact g1 k hk
  ·omega
 ·rcases hk with hk | hk
  ·exact (hl1 L hL).1 hk
  ·have:=(h.ls L hL).1;omega
end

def TrB (w:World) (t p s:Int) (nv ev:Value) (L:Nat) (vs:List Int) (gv cv':Nat) (wl:Value) (bl:List (Int×Int)) (W:World):Prop:=
 CuB w t p s nv ev W/\W.heap[L]? =some (.cells #[wl,.int .i64 (kI vs 0),.int .i64 (kI vs 1),.int .i64 (kI vs 2),.int .i64 (kI vs 3),.int .i64 (kI vs 4),.int .i64 (kI vs 5),.int .i64 (kI vs 6),.int .i64 (kI vs 7)] 73)/\W.ownsRow 0 44 1 (.slice (some ⟨gv,0,none⟩) vs.length cv') vs.length (kV vs)/\W.ownsRow 0 121 2 wl bl.length (j9 bl)
def trL (w:World) (L gv:Nat) (wl:Value):List Nat:=w.heap.size :: (w.heap.size+1) :: L :: gv :: wl.ownBlock.toList
theorem row_onB {W W':World} {e n b:Nat} {v:Value} {xs:List Value} (h:W.ownsRow 0 e b v n xs) (hb:Below W.heap.size W W'):W'.ownsRow 0 e b v n xs:=jf (w':=W') h (fun k hk=>hb.block k (jq h hk))
theorem TrB.on {w W W':World} {t p s:Int} {nv ev:Value} {L:Nat} {vs:List Int} {gv cv':Nat} {wl:Value} {bl:List (Int×Int)} (h:TrB w t p s nv ev L vs gv cv' wl bl W) (hl:∀k∈trL w L gv wl,W'.heap[k]? =W.heap[k]?):TrB w t p s nv ev L vs gv cv' wl bl W':=
 ⟨h.1.on (fun k hk=>hl k (by unfold trL;simp at hk;rcases hk with rfl | rfl <;> simp)),(hl L (by simp [trL])).trans h.2.1,jf h.2.2.1 (fun k hk=>hl k (by simp [Value.ownBlock] at hk;subst hk;simp [trL])),jf h.2.2.2 (fun k hk=>hl k (by simp [trL,hk]))⟩
def TrRel (w:World) (t:Int) (P:Nat) (s:Int) (nv ev:Value) (L:Nat) (vs:List Int) (gv cv':Nat) (wl:Value) (bl:List (Int×Int)) (bm l:Nat) (vi:Value) (wr:World):Prop:=
 ∃(i:Nat) (m:NM),vi= .int .i64 i/\i<=l/\TM t s P vs (2147483648+3000*i) m/\N2 PM RU w bm 0 (trL w L gv wl) m () wr/\TrB w t P s nv ev L vs gv cv' wl bl wr
def TrRel2 (w:World) (t:Int) (P:Nat) (s:Int) (nv ev:Value) (L:Nat) (vs:List Int) (gv cv':Nat) (wl:Value) (bl:List (Int×Int)) (bx bm:Nat) (q0:TS×NM) (vi:Value) (wr:World):Prop:=
 ∃k:Nat,vi= .int .i64 k/\(∀j,j < k->(QZ t P s q0 j).1.ph≠19)/\N2 (RXM t P s bm) RU w bx 0 (trL w L gv wl) (QZ t P s q0 k) () wr/\TrB w t P s nv ev L vs gv cv' wl bl wr
section
variable {t s:Int} {P:Nat} {vs xs ns:List Int} {w w':World}
theorem jfs {s0:Int} {q0:TS×NM} (h:GI t s P vs s0 0 q0.1 q0.2) {k:Nat} (hk:∀j,j < k->(QZ t P s q0 j).1.ph≠19) (hp:(QZ t P s q0 k).1.ph=19):∃u,(QZ t P s q0 k).2.K=(QZ t P s q0 k).2.W/\(QZ t P s q0 k).1.page=P/\qm t P s (QZ t P s q0 k).2.W (QZ t P s q0 k).1.s u none (SP t P s vs P):=
 ci_over (jft h k hk).ci hp
theorem jae {wv nv ev:Value} {acts:List NM.A} (hW:Rd w wv 1 xs.length (Jc xs)) (hu:∀v∈xs,U64 v) (hN:Rd w nv 1 ns.length (Q0 ns)) (hE:Rd w ev 6 acts.length (acts.flatMap jeL)) (h6:ns.length<=6) (h60:acts.length<=60) (hf:jeK t P s xs=some vs) :
 Calls prog 5 #[.agg #[.int .i64 t,.int .i64 P,.int .i64 s],wv,.agg #[nv,ev]] w (zW (.bool true) w):=by
 obtain ⟨hsh,⟨st,u,o,hset,hst0,hst1⟩,h0,h8,h65,hnum⟩:=fit_some hf hu;have hr:=hsh.right;have hrb:=jp hr;have HF:=zh (fun (W:World) (hb:Below w.heap.size w W)=>jcT (t:=t) (p:=P) (s:=s) (Rd.keepBy hW hb (Nat.le_refl _)) hu);rw [hf] at HF;have hm0:(⟨xs,xs,[]⟩:NM).Inv:=NM.new_inv h0 h8 h65 hu;have HTM:Hid (TM t s P vs 2147483648 ⟨xs,xs,[]⟩):=zh ⟨hm0,rfl,st,u,o,0,Nat.zero_le _,hset,hst0,zo⟩;have HSH:=zh hsh;have hvl:vs.length<=1000000:=by have:=hsh.num;omega
 have hvp:0 < vs.length:=by have:=hsh.num;omega
 have HSw:=zh (fun (W:World) (v:Value) (R:W.ownsRow 0 44 1 v vs.length (kV vs))=>jdI hr R hvl hsh.u32);obtain ⟨hwl,⟨-,hwn⟩ | ⟨ad,c,rfl,hwc⟩⟩:=hW
 ·exact absurd hwn h0
 have hcells:∀W,Below w.heap.size w W->∀j,j < xs.length->W.cell? (ad.add j)=some (.int .u64 (xs.getD j 0)):=fun W hb j hj=>by
  have:=hwc j _ (Jz hj);exact (hb.cell (World.block_lt_of_cell? w _ this)).trans this
 have H1:=zh (fun W hb=>jc7 ad xs.length c xs W rfl h0 h8 h65 hu (hcells W hb));have HR:=zh hr;obtain ⟨aN,cN,rfl⟩:=hN.len;obtain ⟨aE,cE,rfl⟩:=hE.len;have HNr:=zh (fun (W:World) (hb:Below w.heap.size w W)=>Rd.keepBy hN hb (Nat.le_refl _));have HEr:=zh (fun (W:World) (hb:Below w.heap.size w W)=>Rd.keepBy hE hb (Nat.le_refl _));have hn6:¬(6:Int) < ns.length:=zo;have hn60:¬(60:Int) < acts.length:=zo;have HSt0:=zh (fun (W:World) (v:Value) (R:W.ownsRow 0 44 1 v vs.length (kV vs))=>show Calls prog 23 #[.agg #[.int .i64 t,.int .i64 P,.int .i64 s],v] W fun e w'=>∃v',e= .returned (.tuple #[stV v' (kI vs),.bool true])/\RowB W (kW vs t P s) v' w' from jaO (w:=W) hsh 0 R);have HSt:=zh (fun (W:World) (j:Nat) (v:Value) (R:W.ownsRow 0 44 1 v (SP t P s vs j).length (kV (SP t P s vs j)))=>jaO (w:=W) hsh j R);clear hcells hwc hwl h0 h8 h65 hnum hset hst0 hst1 hm0 hf hu hrb hr hN hE;generalize hxn:xs.length=n at*
 go_enter func5,ntmps5;have hB0:=((Below.refl w.heap.size w).alloc (Nat.le_refl _) (.cells #[.int .i64 t,.int .i64 P,.int .i64 s] 23)).alloc zT (.cells #[.slice aN ns.length cN,.slice aE acts.length cE] 69);have B0:=zh hB0;have hKC:=fun (W:World) (E:Below ((w.alloc (.cells #[.int .i64 t,.int .i64 P,.int .i64 s] 23)).alloc (.cells #[.slice aN ns.length cN,.slice aE acts.length cE] 69)).heap.size ((w.alloc (.cells #[.int .i64 t,.int .i64 P,.int .i64 s] 23)).alloc (.cells #[.slice aN ns.length cN,.slice aE acts.length cE] 69)) W)=>show CuB w t P s (.slice aN ns.length cN) (.slice aE acts.length cE) W from by
  refine ⟨(E.block w.heap.size (by simp;omega)).trans ((heap_alloc_old _ _ zT).trans (heap_alloc_new w _)),?_⟩;have e2:=heap_alloc_new (w.alloc (.cells #[.int .i64 t,.int .i64 P,.int .i64 s] 23)) (.cells #[.slice aN ns.length cN,.slice aE acts.length cE] 69);simp only [World.size_alloc] at e2;exact (E.block (w.heap.size+1) zT).trans e2
 have HKC:=zh hKC;clear hB0 hKC;go_wp2_with fail;refine (HF.out _ B0.out).mono ?_;rintro e w1 ⟨v,rfl,o1,f1,b1⟩;have E1:=zh b1;have B1:=zh (B0.out.trans (b1.mono B0.out.size));have O1:=zh o1;have F1:=zh f1;obtain ⟨gv,cv',rfl⟩:=Joins.ownsRow_form o1 hvp;have hC1:=HKC.out _ b1;have c0:=jd (o:=0) hC1.1;have c1:=jd (o:=1) hC1.1;have c2:=jd (o:=2) hC1.1;have d0:=jd (o:=0) hC1.2;have d1:=jd (o:=1) hC1.2;simp at c0 c1 c2 d0 d1;have HC1:=zh hC1;have z01:=b1.size;clear o1 f1 b1 HF hC1 HKC;go_wp2_with fail;refine (HSt0.out _ _ O1.out).mono ?_;rintro e w2 ⟨wl,rfl,rB⟩;obtain ⟨aw,cw,rfl⟩:=kg rB.1;have E2:=zh (E1.out.trans (rB.2.2.mono E1.out.size));have HC2:=zh (HC1.out.on (W':=w2) (fun L hL=>rB.2.2.block L (by simp at hL z01;omega)));have O2:=zh (jf (w':=w2) O1.out (fun k hk=>rB.2.2.block k (jq O1.out hk)));have RB:=zh (And.intro rB.1 rB.2.1);have z12:=rB.2.2.size;clear rB O1 HC1 c0 c1 c2 d0 d1;have HBl:=zh (VX vs t P s (by have:=jp HR.out;omega));generalize hbl:kW vs t P s=bl at*
 unfold stV;go_wp2_with fail;have B2:=zh (B0.out.trans (E2.out.mono B0.out.size));have B2a:=zh (B2.out.alloc B2.out.size (.cells #[.slice aw bl.length cw,.int .i64 (kI vs 0),.int .i64 (kI vs 1),.int .i64 (kI vs 2),.int .i64 (kI vs 3),.int .i64 (kI vs 4),.int .i64 (kI vs 5),.int .i64 (kI vs 6),.int .i64 (kI vs 7)] 73));refine (H1.out _ B2a.out).mono ?_;rintro e w3 ⟨bm,rfl,-,⟨T,pT,gT⟩,b3⟩;have hT:TrB w t P s (.slice aN ns.length cN) (.slice aE acts.length cE) w2.heap.size vs gv cv' (.slice aw bl.length cw) bl w3/\N2 PM RU w bm 0 (trL w w2.heap.size gv (.slice aw bl.length cw)) ⟨xs,xs,[]⟩ () w3:=by
  have hz0:=B2.out.size;have e1:=E1.out.size;have e2:=E2.out.size;simp at e1 e2;have hgv:=F1.out gv (by simp [Value.ownBlock]);simp at hgv;have hgv2:=jq O2.out (k:=gv) (by simp [Value.ownBlock]);have hwl:∀L,(Value.slice aw bl.length cw).ownBlock=some L->w1.heap.size<=L/\L < w2.heap.size:=fun L hL=>⟨RB.out.2 L hL,jq RB.out.1 hL⟩
  have hL:∀L∈trL w w2.heap.size gv (.slice aw bl.length cw),w.heap.size<=L/\L<=w2.heap.size:=fun L hL=>by
   unfold trL at hL;simp only [List.mem_cons,Option.mem_toList] at hL;rcases hL with h | h | h | h | h
   ·omega
   ·omega
   ·omega
   ·subst h;omega
   ·have:=hwl L h;omega
  have hb3:=(((Below.refl w2.heap.size w2).alloc (Nat.le_refl _) _).trans (b3.mono zT))
  have z3:=b3.size;simp at z3;refine ⟨⟨HC2.out.on (fun L hL2=>hb3.block L (by simp at hL2;omega)),⟨?_,jf O2.out (fun k hk=>hb3.block k (jq O2.out hk)),jf RB.out.1 (fun k hk=>hb3.block k (jq RB.out.1 hk))⟩⟩,⟨T,fun _=>False,pT,fun _ hf=>hf.elim,fun k hk=>by have:=gT k hk;simp at this;omega,fun _ hf=>hf.elim,fun _ _ hf=>hf.elim,fun L hLL=>⟨fun hk=> ?_,fun hf=>hf.elim⟩⟩,B2a.out.trans (b3.mono B2a.out.size),fun L hLL=> ?_⟩
  ·exact (b3.block w2.heap.size zT).trans (heap_alloc_new w2 _)
  ·have:=gT L hk;have:=hL L hLL;simp at*
   omega
  ·have:=hL L hLL;omega
 have HT:=zh hT;clear hT pT gT b3 B0 B1 B2 B2a E1 E2 HC2 O2 RB F1 z01 z12 H1 HSt0;go_wp2_with fail;go_loopw [12] (fun vi wr=>TrRel w t P s (.slice aN ns.length cN) (.slice aE acts.length cE) w2.heap.size vs gv cv' (.slice aw bl.length cw) bl bm ns.length vi wr) (fun vi _=>ns.length+1 - (intOf vi).toNat);case atStart=>exact ⟨0,_,rfl,Nat.zero_le _,HTM.out,HT.out.2,HT.out.1⟩
 case round=>
  clear HT HTM;obtain ⟨i,m,rfl,hi,htm,hn,htb⟩:=hrel;have HTm:=zh htm;have HN:=zh hn;have HTb:=zh htb;have hbel:=zh hn.bel;obtain ⟨⟨k1,k2⟩,k3,k4,k5⟩:=htb;have c0:=jd (o:=0) k1;have c1:=jd (o:=1) k1;have c2:=jd (o:=2) k1;have d0:=jd (o:=0) k2;have d1:=jd (o:=1) k2;simp at c0 c1 c2 d0 d1;clear k1 k2 k3 k4 k5 htm hn;by_cases hlt:i < ns.length
  ·have hltI:(i:Int) < ns.length:=zo;obtain ⟨adN,cN2,heN,hcN⟩:∃adN c,Value.slice aN ns.length cN= .slice (some adN) ns.length c/\∀j u,(Q0 ns)[j]? =some u->wr.cell? (adN.add j)=some u:=by
    rcases (HNr.out wr hbel.out).2 with ⟨-,hz⟩ | ⟨adN,c,e,h⟩
    ·omega
    ·exact ⟨adN,c,e,h⟩
   simp only [Value.slice.injEq,true_and] at heN;obtain ⟨rfl,rfl⟩:=heN;obtain ⟨nn,hnn⟩:∃nn,ns[i]? =some nn:=⟨_,List.getElem?_eq_getElem hlt⟩
   have qn:wr.cell? (adN.add i)=some (.int .i64 nn):=hcN i _ (by simp [Q0,hnn]);have hcut:=zh (fun (W:World) (h:N2 PM RU w bm 0 (trL w w2.heap.size gv (.slice aw bl.length cw)) m () W)=>n2_cut (n:=nn) (aN:=some adN) (nN:=ns.length) (cN:=cN) HSH.out h HTm.out zo HEr.out h60);have hqn:=fun (W:World) (hb:Below w.heap.size w W)=>show W.cell? (adN.add i)=some (.int .i64 nn) from by
    rcases (HNr.out W hb).2 with ⟨-,hz⟩ | ⟨ad',c',e,h⟩
    ·omega
    ·simp only [Value.slice.injEq,Option.some.injEq,true_and] at e;obtain ⟨rfl,rfl⟩:=e;exact h i _ (by simp [Q0,hnn])
   have hk9:=fun (W:World) (hb:Below w.heap.size w W) (T:TrB w t P s (.slice (some adN) ns.length cN) (.slice aE acts.length cE) w2.heap.size vs gv cv' (.slice aw bl.length cw) bl W)=>show W.cell? ⟨w.heap.size,0,none⟩=some (.int .i64 t)/\W.cell? ⟨w.heap.size,1,none⟩=some (.int .i64 P)/\W.cell? ⟨w.heap.size,2,none⟩=some (.int .i64 s)/\W.cell? ⟨w.heap.size+1,0,none⟩=some (.slice (some adN) ns.length cN)/\W.cell? ⟨w.heap.size+1,1,none⟩=some (.slice aE acts.length cE)/\W.cell? (adN.add i)=some (.int .i64 nn) from
    ⟨jd (o:=0) T.1.1,jd (o:=1) T.1.1,jd (o:=2) T.1.1,jd (o:=0) T.1.2,jd (o:=1) T.1.2,hqn W hb⟩
   have K9:=zh hk9;clear hcN hnn hqn hk9;have Nd:=zh (HN.out.drew qg VH);have Td:=zh (HTb.out.on (W':=wr.drew) (fun _ _=>rfl));go_wp2_with fail;refine wH (S:=fun w'=>w'.cell? ⟨w.heap.size,0,none⟩=some (.int .i64 t)/\w'.cell? ⟨w.heap.size,1,none⟩=some (.int .i64 P)/\w'.cell? ⟨w.heap.size,2,none⟩=some (.int .i64 s)/\w'.cell? ⟨w.heap.size+1,0,none⟩=some (.slice (some adN) ns.length cN)/\w'.cell? ⟨w.heap.size+1,1,none⟩=some (.slice aE acts.length cE)/\w'.cell? (adN.add i)=some (.int .i64 nn)) (K9.out _ Nd.out.bel Td.out) fun hHeld=> ?_;refine wT 0 ?_;refine wY ?_;refine wR 8 fun K hK=> ?_;go_simp;refine zM (hcut.out _ Nd.out) ?_;rintro w4 ⟨m4,n4,l4,tm4⟩;have N4:=zh n4;have T4:=zh (Td.out.on l4);have TM4:=zh tm4;clear n4 l4 tm4;refine wK hK (K9.out _ N4.out.bel T4.out) fun hHeld=> ?_;clear hK K;refine wD ?_;clear hHeld hcut K9 Nd Td HN HTb HTm hbel c0 c1 c2 d0 d1 qn;have hmi:=TM4.out.mi;obtain ⟨st4,u4,o4,j4,hj4,hs4,-⟩:=TM4.out.ex;obtain ⟨S4,-,p4,-⟩:=N4.out.ex;have HWd:=zh (fun (W:World) (hb:Below w4.heap.size w4 W)=>Yi bm W S4 m4 (qg.keep (T:=fun _=>False) p4 (Fr.of_below hb) (fun _ _ x=>x)));have HSe:=zh (fun (W:World) (x:Value) (R:W.ownsRow 0 38 1 x m4.W.length (Jc m4.W))=>Xh (t:=t) (P:=P) (s:=s) R hmi.wu hs4.sett);have HN4:=zh (fun (W:World) (hb:Below w4.heap.size w4 W)=>N4.out.below qg VH hb);have HT4:=zh (fun (W:World) (hb:Below w4.heap.size w4 W)=>T4.out.on (W':=W) (fun L hL=>hb.block L (N4.out.ls L hL).1));have HS4:=zh (HSt.out);have hrt:=jce HSH.out j4;have HRt:=zh hrt;have hlc:=((HSH.out.all (by have:=jp HR.out;omega) j4).len.trans rfl)
   have hlp:0 < (SP t P s vs j4).length:=zo;have hS4:=fun (W:World) (v:Value) (R:W.ownsRow 0 44 1 v (SP t P s vs j4).length (kV (SP t P s vs j4)))=>HSt.out W j4 v R;have HS5:=zh hS4;clear hS4 HS4;generalize (SP t P s vs j4)=C4 at*
   clear hmi hs4 p4 hrt hlc;have HK4:=zh (fun (W:World) (E:Below w4.heap.size w4 W)=>show W.cell? ⟨w.heap.size,0,none⟩=some (.int .i64 t)/\W.cell? ⟨w.heap.size,1,none⟩=some (.int .i64 P)/\W.cell? ⟨w.heap.size,2,none⟩=some (.int .i64 s) from
    have T:=(HT4.out W E).1.1;⟨jd (o:=0) T,jd (o:=1) T,jd (o:=2) T⟩)
   obtain ⟨c0,c1,c2⟩:=HK4.out _ (Below.refl _ _);go_wp2_with fail;have E4d:=zh (Below.refl w4.heap.size w4).drew;refine wH (S:=fun w'=>w'.cell? ⟨w.heap.size,0,none⟩=some (.int .i64 t)/\w'.cell? ⟨w.heap.size,1,none⟩=some (.int .i64 P)/\w'.cell? ⟨w.heap.size,2,none⟩=some (.int .i64 s)) (HK4.out _ E4d.out) fun hHeld=> ?_;refine wT 0 ?_;refine wY ?_;refine wR 2 fun K hK=> ?_;go_simp;refine (HWd.out _ E4d.out).mono ?_;rintro e w5 ⟨v5,rfl,o5,-,b5⟩;have E5:=zh (E4d.out.trans (b5.mono E4d.out.size));have O5:=zh (Joins.ownsRow_le o5 (Nat.zero_le _));refine wK hK (HK4.out _ E5.out) fun hHeld=> ?_;clear hK K;refine wR 3 fun K hK=> ?_;go_simp;refine (HSe.out _ _ O5.out).mono ?_;rintro e w6 ⟨v6,rfl,o6,-,b6⟩;have E6:=zh (E5.out.trans (b6.mono E5.out.size));have O6:=zh o6;refine wK hK (HK4.out _ E6.out) fun hHeld=> ?_;clear hK K;refine wY ?_;refine wD ?_;clear hHeld c0 c1 c2;obtain ⟨c0,c1,c2⟩:=HK4.out _ E6.out;go_wp2_with fail;refine (HS5.out _ _ O6.out).mono ?_;rintro e w7 ⟨v7,rfl,r7⟩;have E7:=zh (E6.out.trans (r7.2.2.mono E6.out.size));have R7:=zh r7.1;clear r7 c0 c1 c2;obtain ⟨a7,k7,rfl⟩:=kg R7.out;have A7:=zh (E7.out.alloc E7.out.size (.cells #[.slice a7 bl.length k7,.int .i64 (kI C4 0),.int .i64 (kI C4 1),.int .i64 (kI C4 2),.int .i64 (kI C4 3),.int .i64 (kI C4 4),.int .i64 (kI C4 5),.int .i64 (kI C4 6),.int .i64 (kI C4 7)] 73));have b7:=(HT4.out _ A7.out).2.1;have q0:=jd (o:=0) b7;have q1:=jd (o:=1) b7;have q2:=jd (o:=2) b7;have q3:=jd (o:=3) b7;have q4:=jd (o:=4) b7;have q5:=jd (o:=5) b7;have q6:=jd (o:=6) b7;have q7:=jd (o:=7) b7;have q8:=jd (o:=8) b7;simp at q0 q1 q2 q3 q4 q5 q6 q7 q8;clear b7;unfold stV;go_wp2_with fail;have hsm:=jfw bl bl _ _ (kI vs) (kI C4) _ (HT4.out _ A7.out).2.2.2 (row_onB (W':=w7.alloc (.cells #[.slice a7 bl.length k7,.int .i64 (kI C4 0),.int .i64 (kI C4 1),.int .i64 (kI C4 2),.int .i64 (kI C4 3),.int .i64 (kI C4 4),.int .i64 (kI C4 5),.int .i64 (kI C4 6),.int .i64 (kI C4 7)] 73)) R7.out ((Below.refl w7.heap.size w7).alloc (Nat.le_refl _) _)) (by have:=HBl.out;omega) (by have:=HBl.out;omega);rw [HRt.out,decide_eq_true rfl] at hsm;refine zM hsm fun w8 b8=> ?_;have E8:=zh (A7.out.trans (b8.mono A7.out.size));clear hsm b8 q0 q1 q2 q3 q4 q5 q6 q7 q8 R7 A7 E7;go_wp2;go_roundw;case rel=>
    refine ⟨i+1,m4,by go_num,zo,?_,HN4.out _ E8.out,HT4.out _ E8.out⟩;have e:(2147483648+3000*((i+1:Nat):Int))=2147483648+3000*(i:Int)+3000:=zo;rw [e];exact TM4.out
   case measure=>simp [intOf];omega
  ·have hi6:(2147483648+3000*(i:Int)) < 2180000000:=zo;obtain ⟨st,j,hj,hst0,hst,hg0⟩:=HTm.out.gi HSH.out hi6;have hlast:=sp_last HSH.out hj;have HG:=zh (jft (q0:=(TS.begin,m)) hg0);have HE:=zh (fun k hk hp=>jfs (q0:=(TS.begin,m)) hg0 (k:=k) hk hp);rw [hlast] at HE;clear hg0 hlast hst hst0 hi6;generalize hq0:(TS.begin,m)=q0 at*
   go_wp2_with fail;refine (VD _ HR.out).mono ?_;rintro e w3 ⟨⟨bx,rfl,S1,mS,gS⟩,b3⟩;have hN2:N2 (RXM t P s bm) RU w bx 0 (trL w w2.heap.size gv (.slice aw bl.length cw)) q0 () w3/\TrB w t P s (.slice aN ns.length cN) (.slice aE acts.length cE) w2.heap.size vs gv cv' (.slice aw bl.length cw) bl w3:=by
    obtain ⟨T0,U0,p0,-,g0,-,-,hl0⟩:=HN.out.ex;have hz:=HN.out.bel.size;have P3:=qg.keep (T:=fun _=>False) p0 (Fr.of_below b3) (fun _ _ x=>x);have lT:=qg.lt p0;have e1:=XP (P:=P) mS P3 (fun k hs ht=>by have:=gS k hs;have:=lT k ht;omega);rw [hq0] at e1;refine ⟨⟨⟨_,fun _=>False,e1,fun _ hf=>hf.elim,fun k hk=> ?_,fun _ hf=>hf.elim,fun _ _ hf=>hf.elim,fun L hL=>⟨fun hk=> ?_,fun hf=>hf.elim⟩⟩,HN.out.bel.trans (b3.mono hz),fun L hL=>⟨Nat.lt_of_lt_of_le (HN.out.ls L hL).1 b3.size,(HN.out.ls L hL).2⟩⟩,HTb.out.on (fun L hL=>b3.block L (HN.out.ls L hL).1)⟩
    ·rcases hk with hk | hk
     ·have:=gS k hk;omega
     ·exact g0 k hk
    ·rcases hk with hk | hk
     ·have:=gS _ hk;have:=(HN.out.ls L hL).1;omega
     ·exact (hl0 L hL).1 hk
   have HM:=zh hN2;clear hN2 mS gS b3 HN HTb HTm hbel c0 c1 c2 d0 d1;go_wp2_with fail;go_loopw [18] (fun vi wr=>TrRel2 w t P s (.slice aN ns.length cN) (.slice aE acts.length cE) w2.heap.size vs gv cv' (.slice aw bl.length cw) bl bx bm q0 vi wr) (fun vi _=>jab t P+1 - (intOf vi).toNat);case atStart=>exact ⟨0,rfl,fun j hj=>absurd hj (Nat.not_lt_zero _),HM.out.1,HM.out.2⟩
   case round=>
    clear HM;obtain ⟨k,rfl,hph,hn,htb⟩:=hrel;have hgi:=HG.out k hph;have hmost:=hgi.mu;have HGk:=zh hgi;have HN:=zh hn;have HTb:=zh htb;have HPh:=zh hph;have hkm:(k:Int)<=(jab t P:Int):=zo;have hbd:=jcr HR.out;have HEk:=zh (HE.out k hph);have c0:=jd (o:=0) htb.1.1;have c1:=jd (o:=1) htb.1.1;have c2:=jd (o:=2) htb.1.1;simp at c0 c1 c2;clear hn htb hgi hph;go_wp2_with fail;refine zM (most_any HR.out _) fun w6 b6=> ?_;have N6:=zh (HN.out.below J6 VH b6);have T6:=zh (HTb.out.on (fun L hL=>b6.block L (HN.out.ls L hL).1));clear b6 c0 c1 c2 HN HTb;by_cases hp:(QZ t P s q0 k).1.ph=19
    ·obtain ⟨u2,hkw,hpg,hst2⟩:=HEk.out hp;obtain ⟨S1,S2,x1,-,g1,-,-,hl1⟩:=N6.out.ex;have HOv:=zh (XO x1 HR.out hp);have HB6:=zh N6.out.bel;have HSp:=zh (fun (W:World) (hb:Below w6.heap.size w6 W)=>show Calls prog 16 #[.pointer (some ⟨bx,0,none⟩)] W fun e w'=>e= .returned (.int .i64 P)/\Below W.heap.size W w' by
      have h1:=jaN (J6.keep (T:=fun _=>False) x1 (Fr.of_below hb) (fun _ _ x=>x));rw [hpg] at h1;exact h1)
     have HT6:=zh (fun (W:World) (hb:Below w6.heap.size w6 W)=>T6.out.on (W':=W) (fun L hL=>hb.block L (N6.out.ls L hL).1));obtain ⟨⟨Sx,Tx,tm,hx,hxt⟩,hlt⟩:=x1;have HSd:=zh (fun (W:World) (hb:Below w6.heap.size w6 W) (v:Value) (R:W.ownsRow 0 44 1 v (SP t P s vs P).length (kV (SP t P s vs P)))=>jaQ (qg.keep (T:=fun _=>False) tm.pm (Fr.of_below hb) (fun _ _ x=>x)) hkw hst2 R);have HK6:=zh (fun (W:World) (E:Below w6.heap.size w6 W)=>show W.cell? ⟨w.heap.size,0,none⟩=some (.int .i64 t)/\W.cell? ⟨w.heap.size,1,none⟩=some (.int .i64 P)/\W.cell? ⟨w.heap.size,2,none⟩=some (.int .i64 s) from
      have T:=(HT6.out W E).1.1;⟨jd (o:=0) T,jd (o:=1) T,jd (o:=2) T⟩)
     clear tm hx hxt hlt g1 hl1 HGk HEk HG HE HPh N6 T6 hst2 hkw hpg;go_wp2_with fail;refine zM HOv.out fun w7 b7=> ?_;have E7:=zh b7;have E7d:=zh b7.drew;clear b7 HOv;go_wp2_with fail;refine wH (S:=fun w'=>w'.cell? ⟨w.heap.size,0,none⟩=some (.int .i64 t)/\w'.cell? ⟨w.heap.size,1,none⟩=some (.int .i64 P)/\w'.cell? ⟨w.heap.size,2,none⟩=some (.int .i64 s)) (HK6.out _ E7d.out) fun hHeld=> ?_;refine wT 0 ?_;refine wY ?_;refine wR 1 fun K hK=> ?_;go_simp;refine zM (HSp.out _ E7d.out) fun w8 b8=> ?_;have E8:=zh (E7d.out.trans (b8.mono E7d.out.size));refine wK hK (HK6.out _ E8.out) fun hHeld=> ?_;clear hK K;refine wY ?_;refine wR 10 fun K hK=> ?_;go_simp;refine (HSw.out _ _ (HT6.out _ E8.out).2.2.1).mono ?_;rintro e w9 ⟨v9,rfl,o9,-,b9⟩;have E9:=zh (E8.out.trans (b9.mono E8.out.size));have O9:=zh o9;refine wK hK (HK6.out _ E9.out) fun hHeld=> ?_;clear hK K;refine wR 11 fun K hK=> ?_;go_simp;refine zM (HSd.out _ E9.out _ O9.out) fun w10 b10=> ?_;have E10:=zh (E9.out.trans (b10.mono E9.out.size));refine wK hK (HK6.out _ E10.out) fun hHeld=> ?_;clear hK K;refine wY ?_;refine wR 14 fun K hK=> ?_;go_simp;refine zM (K6 _) fun w11 b11=> ?_;have E11:=zh (E10.out.trans (b11.mono E10.out.size));refine wK hK (HK6.out _ E11.out) fun hHeld=> ?_;clear hK K;refine wY ?_;refine wD ?_;clear hHeld;go_wp2;go_ret;exact ⟨rfl,HB6.out.trans (E11.out.mono HB6.out.size)⟩
    ·have HSx:=zh (fun S1 (h1:RXM t P s bm w6 bx S1 (QZ t P s q0 k))=>jcR h1 HGk.out hp);go_wp2_with fail;refine zM (N6.out.fst J6 VH HSx.out) ?_;rintro w11 ⟨n11,l11⟩;have N11:=zh n11;have L11:=zh (T6.out.on l11);clear n11 l11 HSx;go_wp2;go_roundw;case rel=>
      refine ⟨k+1,by go_num,fun j hj=> ?_,N11.out,L11.out⟩;by_cases hjk:j < k
      ·exact HPh.out j hjk
      ·have:j=k:=zo;rw [this];exact hp
     case measure=>simp [intOf];omega
end

section
variable {t s:Int} {P:Nat} {vs xs ns:List Int} {w w':World}
theorem QH {p:Int} {wv nv ev:Value} {acts:List NM.A} (hW:Rd w wv 1 xs.length (Jc xs)) (hu:∀v∈xs,U64 v) (hN:Rd w nv 1 ns.length (Q0 ns)) (hE:Rd w ev 6 acts.length (acts.flatMap jeL)) (hf:jeK t p s xs=none\/6 < ns.length\/60 < acts.length) :
 Calls prog 5 #[.agg #[.int .i64 t,.int .i64 p,.int .i64 s],wv,.agg #[nv,ev]] w (zW (.bool true) w):=by
 have HF:=zh (fun (W:World) (hb:Below w.heap.size w W)=>jcT (t:=t) (p:=p) (s:=s) (Rd.keepBy hW hb (Nat.le_refl _)) hu);have B0:=zh (((Below.refl w.heap.size w).alloc (Nat.le_refl _) (.cells #[.int .i64 t,.int .i64 p,.int .i64 s] 23)).alloc zT (.cells #[nv,ev] 69));obtain ⟨a,c,rfl⟩:=hW.len;obtain ⟨aN,cN,rfl⟩:=hN.len;obtain ⟨aE,cE,rfl⟩:=hE.len;have HD:=zh (fun (W:World) (E:Below ((w.alloc (.cells #[.int .i64 t,.int .i64 p,.int .i64 s] 23)).alloc (.cells #[.slice aN ns.length cN,.slice aE acts.length cE] 69)).heap.size ((w.alloc (.cells #[.int .i64 t,.int .i64 p,.int .i64 s] 23)).alloc (.cells #[.slice aN ns.length cN,.slice aE acts.length cE] 69)) W)=>show W.cell? ⟨w.heap.size+1,0,none⟩=some (.slice aN ns.length cN)/\W.cell? ⟨w.heap.size+1,1,none⟩=some (.slice aE acts.length cE) from by
  have e2:=heap_alloc_new (w.alloc (.cells #[.int .i64 t,.int .i64 p,.int .i64 s] 23)) (.cells #[.slice aN ns.length cN,.slice aE acts.length cE] 69);simp only [World.size_alloc] at e2;have h:=(E.block (w.heap.size+1) zT).trans e2;exact ⟨jd (o:=0) h,jd (o:=1) h⟩)
 clear hW hu hN hE;generalize xs.length=n at*
 generalize ns.length=nn at*
 generalize acts.length=na at*
 cases hfs:jeK t p s xs with
 | none=>
  rw [hfs] at HF;clear hf hfs HD;go_enter func5,ntmps5;go_wp2_with fail;refine (HF.out _ B0.out).mono ?_;rintro e w1 ⟨⟨v,rfl⟩,b1⟩;have B1:=zh (B0.out.trans (b1.mono B0.out.size));clear b1;go_wp2_with fail;refine zM (K6 _) fun w2 b2=> ?_;have B2:=zh (B1.out.trans (b2.mono B1.out.size));clear b2;go_wp2;go_ret;exact ⟨rfl,B2.out⟩
 | some vs=>
  rw [hfs] at HF hf;have hq:6 < nn\/60 < na:=by rcases hf with h | h;cases h;exact h
  clear hf hfs;by_cases h6:6 < nn
  ·have h6i:(6:Int) < nn:=zo;go_enter func5,ntmps5;go_wp2_with fail;refine (HF.out _ B0.out).mono ?_;rintro e w1 ⟨v,rfl,-,-,b1⟩;have B1:=zh (B0.out.trans (b1.mono B0.out.size));obtain ⟨d0,d1⟩:=HD.out _ b1;clear b1;go_wp2_with fail;refine zM (K6 _) fun w2 b2=> ?_;have B2:=zh (B1.out.trans (b2.mono B1.out.size));clear b2;go_wp2;go_ret;exact ⟨rfl,B2.out⟩
  ·have h6i:¬(6:Int) < nn:=zo;have h60:(60:Int) < na:=zo;go_enter func5,ntmps5;go_wp2_with fail;refine (HF.out _ B0.out).mono ?_;rintro e w1 ⟨v,rfl,-,-,b1⟩;have B1:=zh (B0.out.trans (b1.mono B0.out.size));obtain ⟨d0,d1⟩:=HD.out _ b1;clear b1;go_wp2_with fail;refine zM (K6 _) fun w2 b2=> ?_;have B2:=zh (B1.out.trans (b2.mono B1.out.size));clear b2;go_wp2;go_ret;exact ⟨rfl,B2.out⟩
end
theorem jbn (t p s:Int) (wv nv ev:Value) (xs ns:List Int) (acts:List NM.A) (w:World) (hW:Rd w wv 1 xs.length (Jc xs)) (hu:∀v∈xs,NM.U64 v) (hN:Rd w nv 1 ns.length (Q0 ns)) (hE:Rd w ev 6 acts.length (acts.flatMap jeL)) :
 Calls prog 5 #[.agg #[.int .i64 t,.int .i64 p,.int .i64 s],wv,.agg #[nv,ev]] w (zW (.bool true) w):=by
 by_cases h:6 < ns.length\/60 < acts.length
 ·exact QH hW hu hN hE (.inr h)
 ·cases hf:jeK t p s xs with
  | none=>exact QH hW hu hN hE (.inl hf)
  | some vs=>
   obtain ⟨P,rfl⟩:∃P:Nat,p=P:=by
    have hr:jv t p s=true:=by
     unfold jeK at hf;split at hf
     ·rename_i vs' hs;exact (Yd hs).1
     ·cases hf
    have:=jp hr;exact ⟨p.toNat,zo⟩
   exact jae hW hu hN hE zo zo hf
section
variable {H:Type} {enc:TypeId×Value->H} {w:World} {base:Nat} {spare:Nat->Bool} {held:Bool}
open Go.ChangeShapes in
theorem rd_intsT {fuel:Nat} {cs:List Value} {x:DataW H×List MemPlace} (h:DataW.trod enc prog w base spare held fuel 66 cs=some x) :
 ∃v vals,cs=[v]/\Rd w v 1 vals.length (Q0 vals):=by
 rcases open_ints underlying66 underlying3 zk h with ⟨rfl,-⟩ | ⟨a,len,cap,zs,rfl,-,hl,-,hz,-,hc,hw⟩
 ·exact ⟨_,[],rfl,⟨rfl,Or.inl ⟨rfl,rfl⟩⟩⟩
 ·have hle:len<=zs.length:=by rw [hz];split <;> omega
  have e:(zs.take len).length=len:=by simp;omega
  refine ⟨_,zs.take len,rfl,⟨by simp [Q0],Or.inr ⟨a,cap,by rw [e],?_⟩⟩⟩;intro j u hj;have hjl:j < len:=by
   have:=(List.getElem?_eq_some_iff.1 hj).1;simp [Q0] at this;omega
  rw [hc j zo,<-hj];simp [Q0,hjl,show j < zs.length by omega]
end
end Go.Proofs.YtcnininelndjoaaGreat

