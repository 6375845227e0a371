/- parts of the proof, merged by a program. -/
import Derived.Deep.RegionHeld3
import Derived.ProofKit
import Derived.Below
import Derived.Lib.Hide
import Derived.WalkKit
import Derived.WalkSpells
import Derived.WalkLawsBesides
import Derived.Test.YtcnininelndjoaaGreatRows
import Derived.Laws.BitsLemmas
import Derived.Laws.Bits64b
import Derived.Maps.OwnOps
import Derived.Lib.SmallJoins
import Derived.Deep.AppendLies
set_option linter.unusedSimpArgs false
set_option linter.unusedVariables false
set_option maxRecDepth 100000
set_option maxHeartbeats 4000000
namespace Go.Proofs.YtcnininelndjoaaGreat
open Go.Proofs.Tryz
open Go
theorem zA {α:Type _} {xs:List α} {i:Nat} (h:i < xs.toArray.size):xs.toArray[i]=xs[i]'(by simpa using h):=rfl
theorem zB {α:Type _} (a:α) (bs:List α) (h:0 < (a :: bs).length):(a :: bs)[0]=a:=rfl
theorem zC {α:Type _} (a:α) (bs:List α) (i:Nat) (h:i+1 < (a :: bs).length):(a :: bs)[i+1]=bs[i]'(Nat.lt_of_succ_lt_succ h):=rfl
theorem zD {α:Type _} (l:List α) (i:Nat) (a:α):l.toArray.setIfInBounds i a=(l.set i a).toArray:=List.setIfInBounds_toArray l i a
theorem zE {α:Type _} {x:α} {xs:List α} {a:α}:(x :: xs).set 0 a=a :: xs:=rfl
theorem zF {α:Type _} {x:α} {xs:List α} {i:Nat} {a:α}:(x :: xs).set (i+1) a=x :: xs.set i a:=rfl
theorem zR {n:Nat} {w w':World} (h:RowKit.Below n w w':=by (repeat (first | exact RowKit.Below.refl _ _ | assumption | refine RowKit.Below.setCell ?_ (by first | omega | (simp;done) | (simp;omega)) _ | refine RowKit.Below.alloc ?_ (by first | omega | (simp;done) | (simp;omega)) _ | refine RowKit.Below.drew ?_ | refine RowKit.Below.trans ?_ (RowKit.Below.mono ‹RowKit.Below _ _ _› (by first | omega | (simp;done) | (simp;omega)))))):RowKit.Below n w w':=h
theorem zo {p:Prop} (h:p:=by omega):p:=h
theorem zT {p:Prop} (h:p:=by simp):p:=h
theorem zk {p:Prop} (h:p:=by kernel_rfl):p:=h
theorem zd {p:Prop} (h:p:=by decide):p:=h
theorem zM {P:Program} {f:FuncId} {args:Array Value} {w:World} {v:Ending} {R:World->Prop} {Q':Ending->World->Prop} (h:Calls P f args w fun e w'=>e=v/\R w') (k:∀w',R w'->Q' v w'):Calls P f args w Q':=
 h.mono fun _ w' ⟨e,r⟩=>by subst e;exact k w' r
theorem zh {p:Prop} (h:p):RowKit.Hid p:=h
theorem zL {p:Prop} {n:Nat} {w w':World} (h:RowKit.Below n w w') (t:w.heap.size<=w'.heap.size->p:=by intro this;first | omega | (simp at this;omega)):p:=t h.size
@[reducible] def zW (v:Value) (w:World) (e:Ending) (w':World):Prop:=e= .returned v/\RowKit.Below w.heap.size w w'
class Kp (F:World->Prop):Prop where
 k:∀{w w':World},F w->RowKit.Below w.heap.size w w'->F w'
instance {a:Addr} {u:Value}:Kp (fun w=>w.cell? a=some u):=⟨fun h b=>(b.cell (World.block_lt_of_cell? _ _ h)).trans h⟩
instance {b:Nat} {x:Value} {l:List Value}:Kp (fun w=>∀o:Nat,w.cell? ⟨b,o,none⟩=((x :: l).toArray)[o]?):=
 ⟨fun h d o=>(d.cell (p:=⟨b,o,none⟩) (World.block_lt_of_cell? _ ⟨b,0,none⟩ (h 0))).trans (h o)⟩
instance {F G:World->Prop} [Kp F] [Kp G]:Kp (fun w=>F w/\G w):=⟨fun h b=>⟨Kp.k h.1 b,Kp.k h.2 b⟩⟩
def Ho (F:World->Prop) (w:World):Prop:=F w
theorem zP {w:World} {b:Nat} {C:Array Value} (h:∀o:Nat,w.cell? ⟨b,o,none⟩=C[o]?):Ho (fun w'=>∀o:Nat,w'.cell? ⟨b,o,none⟩=C[o]?) w:=h
theorem zQ {w:World} {a:Addr} {u:Value} (h:w.cell? a=some u):Ho (fun w'=>w'.cell? a=some u) w:=h
theorem Ho.d {F:World->Prop} [Kp F] {w:World} (h:Ho F w):F w.drew:=Kp.k h (RowKit.Below.refl _ _).drew
section
variable {P:Program} {md:Region.Mode} {ops:Array Oper} {Q:Exit->Act->World->Prop} {S:World->Prop}
theorem wT (i:Nat) {oi:Oper} {v:Value} {fuel:Nat} {listed:Array Bool} {a a2:Act} {w:World} (h:wpAnyH P md ops Q S fuel (listed.setIfInBounds i true) a2 w)
 (hi:ops[i]? =some oi:=by exact rfl)
 (hs:Region.noSelect ops=true:=by kernel_rfl) (hf:Region.free md ops listed i=true:=by kernel_rfl) (hr:(Region.ready md ops listed).contains i=true:=by kernel_rfl)
 (hQ:∀c a w,Q (.panic c) (a.put oi.dst v) w->Q (.panic c) a w:=by exact fun _ _ _ h=>h) (hg:Region.wanted oi (yielded ops a.tmps)=true:=by rfl)
 (hy:∀w,S w->(execOp a.eval oi).run P w= .ok (.value v) w:=by intro w hSw;(try dsimp only at hSw);go_simp;try with_reducible rfl) (hS:S w:=by assumption)
 (hp:a.put oi.dst v=a2:=by first | (simp only [Act.put,zA,zB,zC,zD,zE,zF];with_reducible rfl) | with_reducible rfl):wpAnyH P md ops Q S (fuel+1) listed a w:=
 wpAnyH_take hi hs hf hr hQ (Or.inl ⟨hg,hy⟩) hS (hp ▸ h)
theorem wU (i:Nat) {oi:Oper} {fuel:Nat} {listed:Array Bool} {a a2:Act} {w:World} (h:wpAnyH P md ops Q S fuel (listed.setIfInBounds i true) a2 w)
 (hi:ops[i]? =some oi:=by exact rfl)
 (hs:Region.noSelect ops=true:=by kernel_rfl) (hf:Region.free md ops listed i=true:=by kernel_rfl) (hr:(Region.ready md ops listed).contains i=true:=by kernel_rfl)
 (hQ:∀c a w,Q (.panic c) (a.put oi.dst undef) w->Q (.panic c) a w:=by exact fun _ _ _ h=>h) (hg:Region.wanted oi (yielded ops a.tmps)=false:=by rfl) (hS:S w:=by assumption)
 (hp:a.put oi.dst undef=a2:=by first | (simp only [Act.put,zA,zB,zC,zD,zE,zF];with_reducible rfl) | with_reducible rfl):wpAnyH P md ops Q S (fuel+1) listed a w:=
 wpAnyH_take hi hs hf hr hQ (Or.inr ⟨hg,rfl⟩) hS (hp ▸ h)
theorem wR (i:Nat) {o:Oper} {fuel:Nat} {listed:Array Bool} {a:Act} {w:World}
 (h:∀K':Act->World->Prop,Shut (∀a w,S w->(S w->wpAnyH P md ops Q S fuel (listed.setIfInBounds i true) a w)->K' a w)->if Region.wanted o (yielded ops a.tmps)=true then Oper.wp P o a w K' Q else K' (a.put o.dst undef) w)
 (ho:ops[i]? =some o:=by exact rfl) (hr:Region.ready md ops listed=[i]:=by kernel_rfl):wpAnyH P md ops Q S (fuel+1) listed a w:=
 wpAnyH_ready hr (by simp) (AllReadyH.cons ho h AllReadyH.nil)
theorem wD {fuel:Nat} {listed:Array Bool} {a:Act} {w:World} (h:Q .normal a w) (hr:Region.ready md ops listed=[]:=by kernel_rfl):wpAnyH P md ops (NoPanic Q) S fuel listed a w:=wpAnyH_done hr (NoPanic.normal h) fuel
theorem wH {id:Nat} {a:Act} {w:World} (hS:S w.drew) (h:S w.drew->wpAnyH P .any ops (NoPanic Q) S ops.size (Array.replicate ops.size false) a w.drew) (hm:P.follows .mixedOrders=true:=by kernel_rfl):(Code.region id ops true).wp P Q a w:=
 wp_region_noPanic (wp_region_held_drew hm hS h)
theorem wK {fuel:Nat} {l:Array Bool} {K:Act->World->Prop} (hK:Shut (∀a w,S w->(S w->wpAnyH P md ops Q S fuel l a w)->K a w)) {a a2:Act} {w:World} (hS:S w) (h:S w->wpAnyH P md ops Q S fuel l a2 w)
 (hp:a=a2:=by first | (simp only [Act.put,zA,zB,zC,zD,zE,zF];with_reducible rfl) | with_reducible rfl):K a w:=
 hK.out a w hS (hp ▸ h)
theorem wS (d:Nat) {i j:Nat} {oi:Oper} {v:Value} {fuel:Nat} {listed:Array Bool} {a a2:Act} {w:World} (h:wpAnyH P md ops Q S fuel ((listed.setIfInBounds i true).setIfInBounds j true) a2 w)
 (hj:i+d=j:=by (try simp only [Nat.reduceAdd]);exact rfl)
 (hr:(Region.ready md ops (listed.setIfInBounds i true)).contains j=true:=by decide+kernel) (hf:Region.free md ops (listed.setIfInBounds i true) j=true:=by decide+kernel)
 (hi:ops[j]? =some oi:=by exact rfl) (hs:Region.noSelect ops=true:=by kernel_rfl)
 (hQ:∀c a w,Q (.panic c) (a.put oi.dst v) w->Q (.panic c) a w:=by exact fun _ _ _ h=>h) (hg:Region.wanted oi (yielded ops a.tmps)=true:=by rfl)
 (hy:∀w,S w->(execOp a.eval oi).run P w= .ok (.value v) w:=by intro w hSw;(try dsimp only at hSw);go_simp;try with_reducible rfl) (hS:S w:=by first | assumption | exact rfl)
 (hp:a.put oi.dst v=a2:=by first | (simp only [Act.put,zA,zB,zC,zD,zE,zF];with_reducible rfl) | with_reducible rfl):wpAnyH P md ops Q S (fuel+1) (listed.setIfInBounds i true) a w:=
 wpAnyH_take hi hs hf hr hQ (Or.inl ⟨hg,hy⟩) hS (hp ▸ h)
theorem wV (d:Nat) {i j:Nat} {oi:Oper} {fuel:Nat} {listed:Array Bool} {a a2:Act} {w:World} (h:wpAnyH P md ops Q S fuel ((listed.setIfInBounds i true).setIfInBounds j true) a2 w)
 (hj:i+d=j:=by (try simp only [Nat.reduceAdd]);exact rfl)
 (hr:(Region.ready md ops (listed.setIfInBounds i true)).contains j=true:=by decide+kernel) (hf:Region.free md ops (listed.setIfInBounds i true) j=true:=by decide+kernel)
 (hi:ops[j]? =some oi:=by exact rfl) (hs:Region.noSelect ops=true:=by kernel_rfl)
 (hQ:∀c a w,Q (.panic c) (a.put oi.dst undef) w->Q (.panic c) a w:=by exact fun _ _ _ h=>h) (hg:Region.wanted oi (yielded ops a.tmps)=false:=by rfl) (hS:S w:=by first | assumption | exact rfl)
 (hp:a.put oi.dst undef=a2:=by first | (simp only [Act.put,zA,zB,zC,zD,zE,zF];with_reducible rfl) | with_reducible rfl):wpAnyH P md ops Q S (fuel+1) (listed.setIfInBounds i true) a w:=
 wpAnyH_take hi hs hf hr hQ (Or.inr ⟨hg,rfl⟩) hS (hp ▸ h)
theorem wY {fuel fuel2:Nat} {listed l2:Array Bool} {a a2:Act} {w:World} (h:wpAnyH P md ops Q S fuel2 l2 a2 w)
 (t:wpAnyH P md ops Q S fuel2 l2 a2 w->wpAnyH P md ops Q S fuel listed a w:=by
  intro h;repeat (first | refine wS 1 ?_ | refine wV 1 ?_ | refine wS 2 ?_ | refine wV 2 ?_ | refine wS 3 ?_ | refine wV 3 ?_ | refine wS 4 ?_ | refine wV 4 ?_ | refine wS 5 ?_ | refine wS 6 ?_ | refine wS 7 ?_)
  exact h):wpAnyH P md ops Q S fuel listed a w:=t h
theorem wC (i:Nat) [Kp S] {o:Oper} {f:FuncId} {args:Array Value} {v:Value} {fuel:Nat} {listed:Array Bool} {a a2:Act} {w:World}
 (H:Calls P f args w fun e w'=>e= .returned v/\RowKit.Below w.heap.size w w') (h:∀w',S w'->wpAnyH P md ops Q S fuel (listed.setIfInBounds i true) a2 w')
 (hr:Region.ready md ops listed=[i]:=by decide+kernel) (ho:ops[i]? =some o:=by exact rfl) (hS:S w:=by assumption)
 (hg:∀K:Act->World->Prop,RowKit.Hid (Calls P f args w fun e w'=>e= .returned v/\RowKit.Below w.heap.size w w')->Shut (∀w',RowKit.Below w.heap.size w w'->K a2 w')->if Region.wanted o (yielded ops a.tmps)=true then Oper.wp P o a w K Q else K (a.put o.dst undef) w:=by
  intro K hC hK;go_simp;refine hC.out.mono ?_;rintro e w' ⟨rfl,hb⟩;dsimp only;(try simp only [Act.put,zA,zB,zC,zD,zE,zF]);exact hK.out _ hb):wpAnyH P md ops Q S (fuel+1) listed a w:=
 wR i (fun K hK=>hg K (zh H) (fun w' hb=>hK.out _ _ (Kp.k hS hb) (fun hs=>h w' hs))) ho hr
theorem wQ {id:Nat} {a a2:Act} {w:World} {fuel2:Nat} {l2:Array Bool} (h:Q .normal a2 w.drew)
 (t:(∀p:Addr,w.drew.cell? p=w.cell? p)->wpAnyH P .any ops (NoPanic Q) (fun w'=>∀p:Addr,w'.cell? p=w.cell? p) fuel2 l2 a2 w.drew->wpAnyH P .any ops (NoPanic Q) (fun w'=>∀p:Addr,w'.cell? p=w.cell? p) ops.size (Array.replicate ops.size false) a w.drew:=by
  intro hHeld h;first | refine wT 0 ?_ | refine wU 0 ?_
  repeat (first | refine wS 1 ?_ | refine wV 1 ?_ | refine wS 2 ?_ | refine wV 2 ?_ | refine wS 3 ?_ | refine wV 3 ?_ | refine wS 4 ?_)
  exact h) (hr:Region.ready .any ops l2=[]:=by kernel_rfl) (hm:P.follows .mixedOrders=true:=by kernel_rfl):(Code.region id ops true).wp P Q a w:=
 wp_region_noPanic (wp_region_held_drew (S:=fun w'=>∀p:Addr,w'.cell? p=w.cell? p) hm (fun _=>rfl) fun _=>t (fun _=>rfl) (wpAnyH_done hr (NoPanic.normal h) _))
theorem wL {fuel:Nat} {l:Array Bool} {K:Act->World->Prop} (hK:Shut (∀a w,S w->(S w->wpAnyH P md ops Q S fuel l a w)->K a w)) [Kp S] {a a2:Act} {w w':World} (b:RowKit.Below w.heap.size w w') (h:S w'->wpAnyH P md ops Q S fuel l a2 w')
 (hS:S w:=by assumption) (hp:a=a2:=by first | (simp only [Act.put,zA,zB,zC,zD,zE,zF];with_reducible rfl) | with_reducible rfl):K a w':=
 hK.out a w' (Kp.k hS b) (hp ▸ h)
theorem Xe {A:World->Prop} [Kp A] {id:Nat} {a:Act} {w:World} (hA:Ho A w) (h:(A w.drew)->wpAnyH P .any ops (NoPanic Q) (fun w'=>A w') ops.size (Array.replicate ops.size false) a w.drew) (hm:P.follows .mixedOrders=true:=by kernel_rfl):(Code.region id ops true).wp P Q a w:=
 wp_region_noPanic (wp_region_held_drew (S:=fun w'=>A w') hm hA.d h)
theorem wHn2 {A B:World->Prop} [Kp A] [Kp B] {id:Nat} {a:Act} {w:World} (hA:Ho A w) (hB:Ho B w) (h:(A w.drew/\B w.drew)->wpAnyH P .any ops (NoPanic Q) (fun w'=>A w'/\B w') ops.size (Array.replicate ops.size false) a w.drew) (hm:P.follows .mixedOrders=true:=by kernel_rfl):(Code.region id ops true).wp P Q a w:=
 wp_region_noPanic (wp_region_held_drew (S:=fun w'=>A w'/\B w') hm ⟨hA.d,hB.d⟩ h)
theorem wHn3 {A B C:World->Prop} [Kp A] [Kp B] [Kp C] {id:Nat} {a:Act} {w:World} (hA:Ho A w) (hB:Ho B w) (hC:Ho C w) (h:(A w.drew/\B w.drew/\C w.drew)->wpAnyH P .any ops (NoPanic Q) (fun w'=>A w'/\B w'/\C w') ops.size (Array.replicate ops.size false) a w.drew) (hm:P.follows .mixedOrders=true:=by kernel_rfl):(Code.region id ops true).wp P Q a w:=
 wp_region_noPanic (wp_region_held_drew (S:=fun w'=>A w'/\B w'/\C w') hm ⟨hA.d,hB.d,hC.d⟩ h)
theorem wHn4 {A B C D:World->Prop} [Kp A] [Kp B] [Kp C] [Kp D] {id:Nat} {a:Act} {w:World} (hA:Ho A w) (hB:Ho B w) (hC:Ho C w) (hD:Ho D w) (h:(A w.drew/\B w.drew/\C w.drew/\D w.drew)->wpAnyH P .any ops (NoPanic Q) (fun w'=>A w'/\B w'/\C w'/\D w') ops.size (Array.replicate ops.size false) a w.drew) (hm:P.follows .mixedOrders=true:=by kernel_rfl):(Code.region id ops true).wp P Q a w:=
 wp_region_noPanic (wp_region_held_drew (S:=fun w'=>A w'/\B w'/\C w'/\D w') hm ⟨hA.d,hB.d,hC.d,hD.d⟩ h)
theorem wHn5 {A B C D E:World->Prop} [Kp A] [Kp B] [Kp C] [Kp D] [Kp E] {id:Nat} {a:Act} {w:World} (hA:Ho A w) (hB:Ho B w) (hC:Ho C w) (hD:Ho D w) (hE:Ho E w) (h:(A w.drew/\B w.drew/\C w.drew/\D w.drew/\E w.drew)->wpAnyH P .any ops (NoPanic Q) (fun w'=>A w'/\B w'/\C w'/\D w'/\E w') ops.size (Array.replicate ops.size false) a w.drew) (hm:P.follows .mixedOrders=true:=by kernel_rfl):(Code.region id ops true).wp P Q a w:=
 wp_region_noPanic (wp_region_held_drew (S:=fun w'=>A w'/\B w'/\C w'/\D w'/\E w') hm ⟨hA.d,hB.d,hC.d,hD.d,hE.d⟩ h)
theorem wHn6 {A B C D E F:World->Prop} [Kp A] [Kp B] [Kp C] [Kp D] [Kp E] [Kp F] {id:Nat} {a:Act} {w:World} (hA:Ho A w) (hB:Ho B w) (hC:Ho C w) (hD:Ho D w) (hE:Ho E w) (hF:Ho F w) (h:(A w.drew/\B w.drew/\C w.drew/\D w.drew/\E w.drew/\F w.drew)->wpAnyH P .any ops (NoPanic Q) (fun w'=>A w'/\B w'/\C w'/\D w'/\E w'/\F w') ops.size (Array.replicate ops.size false) a w.drew) (hm:P.follows .mixedOrders=true:=by kernel_rfl):(Code.region id ops true).wp P Q a w:=
 wp_region_noPanic (wp_region_held_drew (S:=fun w'=>A w'/\B w'/\C w'/\D w'/\E w'/\F w') hm ⟨hA.d,hB.d,hC.d,hD.d,hE.d,hF.d⟩ h)
theorem wHn7 {A B C D E F G:World->Prop} [Kp A] [Kp B] [Kp C] [Kp D] [Kp E] [Kp F] [Kp G] {id:Nat} {a:Act} {w:World} (hA:Ho A w) (hB:Ho B w) (hC:Ho C w) (hD:Ho D w) (hE:Ho E w) (hF:Ho F w) (hG:Ho G w) (h:(A w.drew/\B w.drew/\C w.drew/\D w.drew/\E w.drew/\F w.drew/\G w.drew)->wpAnyH P .any ops (NoPanic Q) (fun w'=>A w'/\B w'/\C w'/\D w'/\E w'/\F w'/\G w') ops.size (Array.replicate ops.size false) a w.drew) (hm:P.follows .mixedOrders=true:=by kernel_rfl):(Code.region id ops true).wp P Q a w:=
 wp_region_noPanic (wp_region_held_drew (S:=fun w'=>A w'/\B w'/\C w'/\D w'/\E w'/\F w'/\G w') hm ⟨hA.d,hB.d,hC.d,hD.d,hE.d,hF.d,hG.d⟩ h)
end
end Go.Proofs.YtcnininelndjoaaGreat
namespace Go.Proofs.YtcnininelndjoaaGreat
open Go.Proofs.Tryz
open Go.RowKit

theorem jB {W w1:World} (hb:Below W.heap.size W w1):(∀b o,b < W.heap.size->w1.cell? ⟨b,o,none⟩=W.cell? ⟨b,o,none⟩)/\(∀b o,b < W.heap.size->w1.frozen? ⟨b,o,none⟩=W.frozen? ⟨b,o,none⟩):=
 ⟨fun b o h=>hb.cell (p:=⟨b,o,none⟩) h,fun b o h=>hb.frozen (p:=⟨b,o,none⟩) h⟩
theorem Ja (w:World) (o:Obj) (k:Nat) (h:k=w.heap.size):(w.alloc o).heap[k]? =some o:=by subst h;exact heap_alloc_new w o
theorem jd {w:World} {b o:Nat} {cs:Array Value} {T:TypeId} {fr:Nat×Nat} (h:w.heap[b]? =some (.cells cs T fr)):w.cell? ⟨b,o,none⟩=cs[o]? :=by simp [World.cell?,h]
theorem jD (n:Int) (h: -9223372036854775808<=n/\n<=9223372036854775807):IntKind.i64.wrap n=n:=IntWalk.i64_in _ h
theorem kL {a b:Bool} (h:a=b):Ending.returned (.bool a)=Ending.returned (.bool b):=by rw [h]
theorem qu {k:IntKind} {a b:Int} (h:a=b):Ending.returned (.int k a)=Ending.returned (.int k b):=by rw [h]

def Vl (n lo hi:Int):Bool:=decide (n < lo) || decide (hi < n)
theorem yH (n lo hi:Int) (w:World) :
 Calls prog 79 #[.agg #[.int .i64 n,.int .i64 lo,.int .i64 hi]] w (zW (.bool (Vl n lo hi)) w):=by
 go_enter func79,ntmps79;go_wp2;all_goals
  go_ret;have h:w.heap.size<=w.heap.size:=Nat.le_refl _;refine ⟨by simp [Vl, *],(Below.refl _ _).alloc h _⟩
def JF (t p s:Int):Array Value:=#[.int .i64 t,.int .i64 1,.int .i64 16,.int .i64 p,.int .i64 4,.int .i64 1024,.int .i64 s,.int .i64 10,.int .i64 20]
theorem Vx (t p s:Int) (w:World) :
 Calls prog 78 #[.agg #[.int .i64 t,.int .i64 p,.int .i64 s]] w fun e w'=>e= .returned (.slice (some ⟨w.heap.size+1,0,none⟩) 3 3)/\Below w.heap.size w w'/\w'.heap[w.heap.size+1]? =some (.cells (JF t p s) 141)/\w'.heap.size=w.heap.size+2:=by
 go_enter func78,ntmps78;go_wp2;exact bodyPost_ret (v:= .slice (some ⟨w.heap.size+1,0,none⟩) 3 3) (by simp [results,results78,go_sem]) rfl ⟨rfl,((Below.refl _ _).alloc (Nat.le_refl _) _).alloc zT _,by rw [<-World.size_alloc w (.cells #[.int .i64 t,.int .i64 p,.int .i64 s] 23)];exact heap_alloc_new (w.alloc _) _,zT⟩
def jq (t p s:Int):Bool:= !(Vl t 1 16 || Vl p 4 1024 || Vl s 10 20)
def jan (t p s:Int):Int:=if Vl t 1 16 then 0 else if Vl p 4 1024 then 1 else if Vl s 10 20 then 2 else -1
def IdxRel (t p s:Int) (w:World) (i:Value) (wr:World):Prop:=∃k:Nat,k<=3/\i= .int .i64 k/\(0 < k->Vl t 1 16=false)/\(1 < k->Vl p 4 1024=false)/\(2 < k->Vl s 10 20=false)/\Below w.heap.size w wr
theorem idx_any (t p s:Int) (g:Nat) (w:World) (h:w.heap[g]? =some (.cells (JF t p s) 141)) :
 Calls prog 135 #[.slice (some ⟨g,0,none⟩) 3 3,.func (.func 79) #[] #[]] w (zW (.int .i64 (jan t p s)) w):=by
 have hlt:g < w.heap.size:=(Array.getElem?_eq_some_iff.1 h).1;have hcell:∀wr:World,Below w.heap.size w wr->∀o,wr.cell? ⟨g,o,none⟩=(JF t p s)[o]? :=by
  intro wr hb o;rw [hb.cell (p:=⟨g,o,none⟩) hlt];simp [World.cell?,h]
 go_enter func135,ntmps135;go_wp2;go_loopw [5,8] (fun _ i wr=>IdxRel t p s w i wr) (fun _ i _=>3 - (intOf i).toNat);case atStart=>exact ⟨0,zo,rfl,zo,zo,zo,Below.refl _ _⟩
 case round=>
  obtain ⟨k,hk,rfl,h0,h1,h2,hb⟩:=hrel;have hc:=hcell _ hb;clear hcell;rcases (by omega:k=0\/k=1\/k=2\/k=3) with rfl | rfl | rfl | rfl
  ·have c0:=hc 0;have c1:=hc 1;have c2:=hc 2;clear hc h0 h1 h2;simp [JF] at c0 c1 c2;cases hx:Vl t 1 16
   ·go_wp2_with (go_at_call 79;refine (yH _ _ _ _).mono ?_;rintro e w' ⟨rfl,hb'⟩);go_roundw;case rel=>exact ⟨1,zo,rfl,fun _=>hx,zo,zo,hb.trans (hb'.mono hb.size)⟩
    case measure=>simp [intOf]
   ·go_wp2_with (go_at_call 79;refine (yH _ _ _ _).mono ?_;rintro e w' ⟨rfl,hb'⟩);go_ret;exact ⟨by simp [jan,hx],hb.trans (hb'.mono hb.size)⟩
  ·have c0:=hc 3;have c1:=hc 4;have c2:=hc 5;have g0:=h0 zo;clear hc h0 h1 h2;simp [JF] at c0 c1 c2;cases hx:Vl p 4 1024
   ·go_wp2_with (go_at_call 79;refine (yH _ _ _ _).mono ?_;rintro e w' ⟨rfl,hb'⟩);go_roundw;case rel=>exact ⟨2,zo,rfl,fun _=>g0,fun _=>hx,zo,hb.trans (hb'.mono hb.size)⟩
    case measure=>simp [intOf]
   ·go_wp2_with (go_at_call 79;refine (yH _ _ _ _).mono ?_;rintro e w' ⟨rfl,hb'⟩);go_ret;exact ⟨by simp [jan,hx,g0],hb.trans (hb'.mono hb.size)⟩
  ·have c0:=hc 6;have c1:=hc 7;have c2:=hc 8;have g0:=h0 zo;have g1:=h1 zo;clear hc h0 h1 h2;simp [JF] at c0 c1 c2;cases hx:Vl s 10 20
   ·go_wp2_with (go_at_call 79;refine (yH _ _ _ _).mono ?_;rintro e w' ⟨rfl,hb'⟩);go_roundw;case rel=>exact ⟨3,zo,rfl,fun _=>g0,fun _=>g1,fun _=>hx,hb.trans (hb'.mono hb.size)⟩
    case measure=>simp [intOf]
   ·go_wp2_with (go_at_call 79;refine (yH _ _ _ _).mono ?_;rintro e w' ⟨rfl,hb'⟩);go_ret;exact ⟨by simp [jan,hx,g0,g1],hb.trans (hb'.mono hb.size)⟩
  ·have g0:=h0 zo;have g1:=h1 zo;have g2:=h2 zo;clear hc h0 h1 h2;go_wp2;go_ret;exact ⟨by simp [jan,g0,g1,g2],hb⟩
theorem QG (t p s:Int) (g:Nat) (w:World) (h:w.heap[g]? =some (.cells (JF t p s) 141)) :
 Calls prog 77 #[.slice (some ⟨g,0,none⟩) 3 3,.func (.func 79) #[] #[]] w (zW (.bool (!jq t p s)) w):=by
 have hx:decide (0<=jan t p s)=(!jq t p s):=by
  unfold jq jan;cases Vl t 1 16 <;> cases Vl p 4 1024 <;> cases Vl s 10 20 <;> rfl
 have H:=idx_any t p s g w h;generalize jan t p s=i at hx H;rw [<-hx];clear hx;have HH:=zh H;clear H;go_enter func77,ntmps77;go_wp2_with (go_at_call 135;refine (HH.out).mono ?_;rintro e w' ⟨rfl,hb⟩);go_ret;exact ⟨rfl,hb⟩
theorem YD (t p s:Int) (w:World) (hr:jq t p s=true) :
 Calls prog 37 #[.agg #[.int .i64 t,.int .i64 p,.int .i64 s]] w (zW (.int .i64 0) w):=by
 go_enter func37,ntmps37;go_wp2_with fail;refine zM (Vx _ _ _ _) ?_;rintro w1 ⟨hb,hg,hs⟩;go_wp2_with fail;refine zM (QG t p s _ _ (by rw [World.size_alloc] at hg;exact hg)) fun w2 hb2=> ?_;go_wp2;go_ret;exact ⟨rfl,(((Below.refl _ _).alloc (Nat.le_refl _) _).trans (hb.mono zT)).trans (hb2.mono (by rw [hs];simp;omega))⟩
theorem jbx (t p s:Int) (w:World) (hr:jq t p s=false) :
 Calls prog 37 #[.agg #[.int .i64 t,.int .i64 p,.int .i64 s]] w (zW (.int .i64 1) w):=by
 go_enter func37,ntmps37;go_wp2_with fail;refine zM (Vx _ _ _ _) ?_;rintro w1 ⟨hb,hg,hs⟩;go_wp2_with fail;refine zM (QG t p s _ _ (by rw [World.size_alloc] at hg;exact hg)) fun w2 hb2=> ?_;go_wp2;go_ret;exact ⟨rfl,(((Below.refl _ _).alloc (Nat.le_refl _) _).trans (hb.mono zT)).trans (hb2.mono (by rw [hs];simp;omega))⟩

theorem jn {t p s:Int} (h:jq t p s=true):1<=t/\t<=16/\4<=p/\p<=1024/\10<=s/\s<=20:=by
 simp [jq,Vl] at h;omega
theorem right_mk {t p s:Int} (h:1<=t/\t<=16/\4<=p/\p<=1024/\10<=s/\s<=20):jq t p s=true:=by
 simp [jq,Vl];omega
def jk (t p:Int):Int:=30+4*t+6*p
def jG (t p:Int):Int:=(16+jk t p+7) / 8*8
def qa (t p:Int):Int:=jG t p+120*(t+1)
theorem Qr (t p s m:Int) (w:World) (hr:jq t p s=true) :
 Calls prog 184 #[.agg #[.int .i64 t,.int .i64 p,.int .i64 s,.int .i64 m]] w (zW (.int .i64 (jk t p)) w):=by
 obtain ⟨b1,b2,b3,b4,b5,b6⟩:=jn hr;clear hr;go_enter func184,ntmps184;go_wp2;go_ret;exact ⟨rfl,(Below.refl _ _).alloc (Nat.le_refl _) _⟩
theorem yT (t p s:Int) (w:World) (hr:jq t p s=true) :
 Calls prog 139 #[.agg #[.int .i64 t,.int .i64 p,.int .i64 s]] w (zW (.tuple #[.agg #[.int .i64 t,.int .i64 p,.int .i64 s,.int .i64 (jG t p)],.bool true]) w):=by
 have hb1:0<=jk t p:=by have:=jn hr;unfold jk;omega
 have hb2:jk t p<=10000:=by have:=jn hr;unfold jk;omega
 have hmk:(16+jk t p+8 - 1) / 8*8=jG t p:=by unfold jG;omega
 have Hmk:=zh hmk;clear hmk;go_enter func139,ntmps139;go_wp2_with fail;refine zM (YD _ _ _ _ hr) fun w1 ha=> ?_;obtain ⟨hac,haf⟩:=jB ha;have haz0:w.heap.size < w1.heap.size:=zL ha;have haz1:w.heap.size+1 < w1.heap.size:=zL ha;go_wp2_with fail;refine zM (Qr _ _ _ _ _ hr) fun w2 hb=> ?_;obtain ⟨hbc,hbf⟩:=jB hb;have hbz0:w1.heap.size < w2.heap.size:=zL hb;go_wp2;refine bodyPost_ret (v:= .tuple #[.agg #[.int .i64 t,.int .i64 p,.int .i64 s,.int .i64 ((16+jk t p+8 - 1) / 8*8)],.bool true]) (by simp [results,results139,go_sem, *]) rfl ⟨by rw [Hmk.out],?_⟩;exact zR
theorem jal (t p s:Int) (w:World) (hr:jq t p s=false) :
 Calls prog 139 #[.agg #[.int .i64 t,.int .i64 p,.int .i64 s]] w (zW (.tuple #[.agg #[.int .i64 0,.int .i64 0,.int .i64 0,.int .i64 0],.bool false]) w):=by
 go_enter func139,ntmps139;go_wp2_with fail;refine zM (jbx _ _ _ _ hr) fun w1 ha=> ?_;obtain ⟨hac,haf⟩:=jB ha;have haz0:w.heap.size < w1.heap.size:=zL ha;have haz1:w.heap.size+1 < w1.heap.size:=zL ha;go_wp2;refine bodyPost_ret (v:= .tuple #[.agg #[.int .i64 0,.int .i64 0,.int .i64 0,.int .i64 0],.bool false]) (by simp [results,results139,go_sem, *]) rfl ⟨rfl,?_⟩;exact zR
def qb (t p s:Int):Int:=if jq t p s then jk t p else 0
theorem jfv (t p s:Int) (w:World) :
 Calls prog 216 #[.agg #[.int .i64 t,.int .i64 p,.int .i64 s]] w (zW (.int .i64 (qb t p s)) w):=by
 cases hr:jq t p s
 ·have hF:qb t p s=0:=by simp [qb,hr]
  rw [hF];go_enter func216,ntmps216;go_wp2_with fail;refine zM (jal _ _ _ _ hr) fun w1 ha=> ?_;obtain ⟨hac,haf⟩:=jB ha;have haz0:w.heap.size < w1.heap.size:=zL ha;go_wp2;go_ret;refine ⟨rfl,?_⟩;exact zR
 ·have hF:qb t p s=jk t p:=by simp [qb,hr]
  rw [hF];go_enter func216,ntmps216;go_wp2_with fail;refine zM (yT _ _ _ _ hr) fun w1 ha=> ?_;obtain ⟨hac,haf⟩:=jB ha;have haz0:w.heap.size < w1.heap.size:=zL ha;go_wp2_with fail;refine zM (Qr _ _ _ _ _ hr) fun w2 hb=> ?_;obtain ⟨hbc,hbf⟩:=jB hb;go_wp2;go_ret;refine ⟨rfl,?_⟩;exact zR
def kq (f i m:Int):Int:=if i < 0\/m<=i then -1 else f+i
theorem J7 (f i m:Int) (w:World) (h1:0<=f) (h2:f<=1000000) (h3:m<=1000000) :
 Calls prog 185 #[.int .i64 f,.int .i64 i,.int .i64 m] w fun e w'=>e= .returned (.int .i64 (kq f i m))/\w=w':=by
 by_cases h4:i < 0
 ·have hF:kq f i m= -1:=by simp [kq,h4]
  rw [hF];go_enter func185,ntmps185;go_wp2;go_ret;exact ⟨rfl,rfl⟩
 ·by_cases h5:m<=i
  ·have hF:kq f i m= -1:=by simp [kq,h5]
   rw [hF];go_enter func185,ntmps185;go_wp2;go_ret;exact ⟨rfl,rfl⟩
  ·have hF:kq f i m=f+i:=by simp [kq,h5,h4]
   rw [hF];go_enter func185,ntmps185;go_wp2;go_ret;exact ⟨rfl,rfl⟩
def ofF (t p s q part:Int):Int:=if jq t p s=true/\0<=q/\q < p then 30+4*t+6*q+part else -1
theorem Vn (t p s q part:Int) (w:World) (h1:0<=part) (h2:part<=5) :
 Calls prog 250 #[.agg #[.int .i64 t,.int .i64 p,.int .i64 s],.int .i64 q,.int .i64 part] w (zW (.int .i64 (ofF t p s q part)) w):=by
 cases hr:jq t p s
 ·have hF:ofF t p s q part= -1:=by simp [ofF,hr]
  rw [hF];go_enter func250,ntmps250;go_wp2_with fail;refine zM (jal _ _ _ _ hr) fun w1 ha=> ?_;obtain ⟨hac,haf⟩:=jB ha;have haz0:w.heap.size < w1.heap.size:=zL ha;go_wp2;go_ret;refine ⟨rfl,?_⟩;exact zR
 ·obtain ⟨b1,b2,b3,b4,b5,b6⟩:=jn hr;by_cases h4:q < 0
  ·have hF:ofF t p s q part= -1:=by simp [ofF,hr];omega
   rw [hF];go_enter func250,ntmps250;go_wp2_with fail;refine zM (yT _ _ _ _ hr) fun w1 ha=> ?_;obtain ⟨hac,haf⟩:=jB ha;have haz0:w.heap.size < w1.heap.size:=zL ha;go_wp2;go_ret;refine ⟨rfl,?_⟩;exact zR
  ·by_cases h5:p<=q
   ·have hF:ofF t p s q part= -1:=by simp [ofF,hr];omega
    rw [hF];go_enter func250,ntmps250;go_wp2_with fail;refine zM (yT _ _ _ _ hr) fun w1 ha=> ?_;obtain ⟨hac,haf⟩:=jB ha;have haz0:w.heap.size < w1.heap.size:=zL ha;go_wp2;go_ret;refine ⟨rfl,?_⟩;exact zR
   ·have hF:ofF t p s q part=30+4*t+6*q+part:=by simp [ofF,hr];omega
    rw [hF];go_enter func250,ntmps250;go_wp2_with fail;refine zM (yT _ _ _ _ hr) fun w1 ha=> ?_;obtain ⟨hac,haf⟩:=jB ha;have haz0:w.heap.size < w1.heap.size:=zL ha;go_wp2;go_ret;refine ⟨rfl,?_⟩;exact zR
end Go.Proofs.YtcnininelndjoaaGreat
namespace Go.Proofs.YtcnininelndjoaaGreat
open Go.Proofs.Tryz

def U64 (w:Int):Prop:=0<=w/\w < 18446744073709551616

def hiW (w:Int):Int:=w / 4294967296
def loW (w:Int):Int:=w % 4294967296
def jH (h l:Int):Int:=h*4294967296+l
def KC (w:Int):Option (Int×Int):=if loW w<=16 then some (hiW w,loW w) else none
def qo (w:Int):Option (Int×Bool×Int):=if loW w % 2147483648<=96 then some (hiW w,decide (2147483648<=loW w),loW w % 2147483648) else none
def qj (w:Int):Option (Int×Int):=if hiW w<=65535 then some (hiW w,loW w) else none
def qg (w s:Int):Option Int:=match qo w with
 | some (st,true,n)=>if st=s then some n else none
 | _=>none
def jo (t p u:Int):Int:=jG t p+120*u+16
def jJ (t p u i:Int):Int:=jG t p+120*u+24+i
def kh (N:Int):List Int->Option (List (Int×Int))
 | []=>some []
 | x :: r=>match qj x with
  | some (c,v)=>if c < N then (kh N r).map ((c,v) :: ·) else none
  | none=>none
def jV (s:Int):List (Int×Int)->List Int->List Int
 | [],ws=>ws
 | x :: l,ws=>jV s l (if hiW (ws.getD (16+x.1).toNat 0) < s then ws.set (16+x.1).toNat (jH s x.2) else ws)
def kW (ws:List Int) (s:Int) (n:Nat):Bool:=(List.range n).all fun i=>decide (hiW (ws.getD (16+i) 0)<=s)
def VV (t p:Int) (ws:List Int) (u:Int):Option ((Int×Bool×Int)×List (Int×Int)):=match qo (ws.getD (jo t p u).toNat 0) with
 | some (st,o,n)=>(kh (jk t p) ((ws.drop (jJ t p u 0).toNat).take n.toNat)).map fun l=>((st,o,n),l)
 | none=>none
def qS (t p:Int) (ws:List Int):Option (Int×Int×Option (List (Int×Int))):=match KC (ws.getD 8 0) with
 | some (s,u)=>if u<=t then
  if kW ws s (jk t p).toNat=true then match qg (ws.getD (jo t p u).toNat 0) s with
   | some _=>(VV t p ws u).map fun x=>(s,u,some x.2)
   | none=>some (s,u,none)
  else none
  else none
 | none=>none
def yn (s:Int) (l:Option (List (Int×Int))) (ws:List Int):List Int:=match l with
 | some l=>jV s l ws
 | none=>ws
def qY (n:Nat) (ws:List Int):List Int:=(List.range n).map fun i=>loW (ws.getD (16+i) 0)
def KQ (t p s:Int) (ws:List Int):Bool:=jq t p s && decide ((ws.length:Int)=qa t p)
def kw (t p s:Int) (ws:List Int):Option (List Int):=if KQ t p s ws=true then (qS t p ws).map fun x=>qY (jk t p).toNat (yn x.1 x.2.2 ws) else none
theorem Qt {w:Int} (h:U64 w):0<=hiW w/\hiW w < 4294967296:=by unfold U64 at h;unfold hiW;omega
theorem KZ (w:Int):0<=loW w/\loW w < 4294967296:=by unfold loW;omega
theorem JA {h l:Int} (hl:0<=l/\l < 4294967296):hiW (jH h l)=h:=by unfold hiW jH;omega
theorem Yw {h l:Int} (hl:0<=l/\l < 4294967296):loW (jH h l)=l:=by unfold loW jH;omega
theorem Jz {h l:Int} (hh:0<=h/\h < 4294967296) (hl:0<=l/\l < 4294967296):U64 (jH h l):=by unfold U64 jH;omega
theorem qO (s:Int):∀(l:List (Int×Int)) (ws:List Int),(jV s l ws).length=ws.length
 | [],_=>rfl
 | x :: l,ws=>by
  unfold jV;rw [qO s l];split <;> simp
theorem Q3 {s:Int} (hs:0<=s/\s < 4294967296):∀(l:List (Int×Int)) (ws:List Int),(∀x∈l,0<=x.2/\x.2 < 4294967296)->(∀w∈ws,U64 w)->∀w∈jV s l ws,U64 w
 | [],_,_,h=>h
 | x :: l,ws,hl,h=>by
  unfold jV;refine Q3 hs l _ (fun y hy=>hl y (by simp [hy])) ?_;split
  ·intro w hw;rcases List.mem_or_eq_of_mem_set hw with hw | rfl
   ·exact h w hw
   ·exact Jz hs (hl x zT)
  ·exact h
theorem JC {N:Int}:∀{ws:List Int} {l:List (Int×Int)},(∀w∈ws,U64 w)->kh N ws=some l->l.length=ws.length/\∀x∈l,0<=x.1/\x.1 < N/\0<=x.2/\x.2 < 4294967296
 | [],l,_,h=>by
  unfold kh at h;cases h;exact ⟨rfl,fun x hx=>by cases hx⟩
 | w :: ws,l,hu,h=>by
  unfold kh at h;have hw:=Qt (hu w zT);have hl:=KZ w;revert h;unfold qj;by_cases h1:hiW w<=65535
  ·rw [if_pos h1];dsimp only;by_cases h2:hiW w < N
   ·rw [if_pos h2];intro h;obtain ⟨r,hr,rfl⟩:=Option.map_eq_some_iff.1 h;have ih:=JC (fun y hy=>hu y (by simp [hy])) hr;refine ⟨by simp [ih.1],fun x hx=> ?_⟩;rcases List.mem_cons.1 hx with rfl | hx
    ·exact ⟨hw.1,h2,hl.1,hl.2⟩
    ·exact ih.2 x hx
   ·rw [if_neg h2];intro h;cases h
  ·rw [if_neg h1];intro h;cases h
theorem KE (n:Nat) (ws:List Int):(qY n ws).length=n:=by simp [qY]
theorem jdG (n:Nat) (ws:List Int):∀v∈qY n ws,0<=v/\v < 4294967296:=by
 intro v hv;obtain ⟨i,-,rfl⟩:=List.mem_map.1 hv;exact KZ _
theorem jaH {n:Nat} {ws ws':List Int} (h:∀i,i < n->ws[16+i]? =ws'[16+i]?):qY n ws=qY n ws':=by
 unfold qY;refine List.map_congr_left fun i hi=> ?_;rw [List.getD_eq_getElem?_getD,List.getD_eq_getElem?_getD,h i (List.mem_range.1 hi)]
theorem Jc {w st n:Int} {o:Bool} (hw:U64 w) (h:qo w=some (st,o,n)):st=hiW w/\0<=n/\n<=96/\(o=decide (2147483648<=loW w))/\n=loW w % 2147483648:=by
 unfold qo at h;split at h
 ·simp only [Option.some.injEq,Prod.mk.injEq] at h;obtain ⟨rfl,rfl,rfl⟩:=h;have:=KZ w;exact ⟨rfl,zo,by assumption,rfl,rfl⟩
 ·cases h
end Go.Proofs.YtcnininelndjoaaGreat
namespace Go.Proofs.YtcnininelndjoaaGreat
open Go.Proofs.Tryz
open Go.RowKit

def jdm (r:Int) (b:Bool):Int:=if (decide (r % 2=1) != b)=true then bits .xor .u32 (r / 2) 2197175160 else r / 2
theorem jdq (a b:Int):0<=bits .xor .u32 a b/\bits .xor .u32 a b < 4294967296:=by
 show 0<=IntKind.u32.wrap _/\IntKind.u32.wrap _ < 4294967296;rw [IntKind.wrap_u32];omega
theorem crcS_bd {r:Int} (b:Bool) (h0:0<=r) (h1:r < 4294967296):0<=jdm r b/\jdm r b < 4294967296:=by
 unfold jdm;split
 ·exact jdq _ _
 ·omega
def crcN (r w:Int):Nat->Int
 | 0=>r
 | k+1=>jdm (crcN r w k) (decide (w / 2 ^ k % 2=1))
theorem YB {r:Int} (w:Int) (h0:0<=r) (h1:r < 4294967296):∀k,0<=crcN r w k/\crcN r w k < 4294967296
 | 0=>⟨h0,h1⟩
 | k+1=>crcS_bd _ (YB w h0 h1 k).1 (YB w h0 h1 k).2
theorem jO (n:Int) (h₀:0<=n) (h₁:n < 2 ^ 64):IntKind.u64.wrap n=n:=by rw [IntKind.wrap_u64];omega
theorem crcS_00 (r:Int) (h:r % 2=0):jdm r (decide ((0:Int)=1))=r / 2:=by simp [jdm,h]
theorem crcS_01 (r:Int) (h:r % 2=0):jdm r (decide ((1:Int)=1))=bits .xor .u32 (r / 2) 2197175160:=by simp [jdm,h]
theorem crcS_10 (r:Int) (h:r % 2=1):jdm r (decide ((0:Int)=1))=bits .xor .u32 (r / 2) 2197175160:=by simp [jdm,h]
theorem crcS_11 (r:Int) (h:r % 2=1):jdm r (decide ((1:Int)=1))=r / 2:=by simp [jdm,h]
def NextRelA (r x:Int) (w:World) (a i:Value) (wr:World):Prop:=∃k:Nat,k<=32/\i= .int .i64 k/\a= .int .u32 (crcN r x k)/\Below w.heap.size w wr
def NextRelB (r x:Int) (w:World) (a i:Value) (wr:World):Prop:=∃k:Nat,k<=32/\i= .int .i64 k/\a= .int .u32 (crcN r x (32+k))/\Below w.heap.size w wr
theorem hi_bit (x:Int) (k:Nat):x / 4294967296 / 2 ^ k=x / 2 ^ (32+k):=by
 rw [Int.ediv_ediv_of_nonneg zo,Int.pow_add];rfl
theorem lo_bit (x:Int) (k:Nat) (h:k < 32):x % 4294967296 / 2 ^ k % 2=x / 2 ^ k % 2:=by
 have e:(4294967296:Int)=2 ^ k*(2*2 ^ (31 - k)):=by
  rw [<-Int.pow_succ',<-Int.pow_add,show k+(31 - k+1)=32 by omega];rfl
 have hp:(0:Int) < 2 ^ k:=Int.pow_pos zo;have hx:=Int.emod_def x 4294967296;generalize x / 4294967296=q at hx;rw [hx,e,show x - 2 ^ k*(2*2 ^ (31 - k))*q=x+(-(2*2 ^ (31 - k)*q))*2 ^ k by rw [Int.neg_mul,Int.mul_comm (2*2 ^ (31 - k)*q),Int.mul_assoc (2 ^ k)];rfl,Int.add_mul_ediv_right _ _ zo,Int.mul_assoc];generalize 2 ^ (31 - k)*q=z;omega
theorem jd7 (x:Int) (w:World) (h2:0<=x) (h3:x < 18446744073709551616):Calls prog 72 #[.int .u64 x] w (zW (.int .u32 (x % 4294967296)) w):=by
 have hw:IntKind.u32.wrap (x % 4294967296)=x % 4294967296:=IntWalk.u32_in _ zo;go_enter func72,ntmps72;go_wp2;go_ret;exact ⟨rfl,Below.refl _ _⟩
theorem jd9 (x:Int) (w:World) (h2:0<=x) (h3:x < 18446744073709551616):Calls prog 73 #[.int .u64 x] w (zW (.int .u32 (x / 4294967296)) w):=by
 have hw:IntKind.u32.wrap (x / 4294967296)=x / 4294967296:=IntWalk.u32_in _ zo;go_enter func73,ntmps73;go_wp2;go_ret;exact ⟨rfl,Below.refl _ _⟩
theorem XP (v:Int) (i:Nat) (b:Bool) (w:World) (h:i < 32) (h1:0<=v) (hb:decide (v / 2 ^ i % 2=1)=b) :
 Calls prog 155 #[.int .u32 v,.int .i64 i] w (zW (.bool b) w):=by
 have hd:0<=v / 2 ^ i:=Int.ediv_nonneg h1 (Int.pow_nonneg zo);go_enter func155,ntmps155;go_wp2;go_ret;exact ⟨kL (by rw [<-hb];rfl),Below.refl _ _⟩
theorem jec (r:Int) (b:Bool) (w:World) (h0:0<=r) (h1:r < 4294967296) :
 Calls prog 212 #[.int .u32 r,.bool b] w (zW (.int .u32 (jdm r b)) w):=by
 cases b <;> rcases (by omega:r % 2=0\/r % 2=1) with e1 | e1
 ·have HE:=zh (crcS_00 r e1);go_enter func212,ntmps212;go_wp2;go_ret;exact ⟨qu HE.out.symm,Below.refl _ _⟩
 ·have HE:=zh (crcS_10 r e1);go_enter func212,ntmps212;go_wp2;go_ret;exact ⟨qu HE.out.symm,Below.refl _ _⟩
 ·have HE:=zh (crcS_01 r e1);go_enter func212,ntmps212;go_wp2;go_ret;exact ⟨qu HE.out.symm,Below.refl _ _⟩
 ·have HE:=zh (crcS_11 r e1);go_enter func212,ntmps212;go_wp2;go_ret;exact ⟨qu HE.out.symm,Below.refl _ _⟩
theorem jcD (r x:Int) (w:World) (h0:0<=r) (h1:r < 4294967296) (h2:0<=x) (h3:x < 18446744073709551616) :
 Calls prog 181 #[.int .u32 r,.int .u64 x] w (zW (.int .u32 (crcN r x 64)) w):=by
 have HL:=zh (fun w=>jd7 x w h2 h3);have HH:=zh (fun w=>jd9 x w h2 h3);have HB:=zh (fun k w=>jec (crcN r x k) (decide (x / 2 ^ k % 2=1)) w (YB x h0 h1 k).1 (YB x h0 h1 k).2);have HI:=zh (fun (k:Nat) w (hk:k < 32)=>XP (x % 4294967296) k (decide (x / 2 ^ k % 2=1)) w hk zo (by rw [lo_bit x k hk]));have HJ:=zh (fun (k:Nat) w (hk:k < 32)=>XP (x / 4294967296) k (decide (x / 2 ^ (32+k) % 2=1)) w hk zo (by rw [hi_bit x k]));go_enter func181,ntmps181;go_wp2;go_loopw [0,5] (fun a i wr=>NextRelA r x w a i wr) (fun _ i _=>32 - (intOf i).toNat);case atStart=>exact ⟨0,zo,rfl,rfl,Below.refl _ _⟩
 case round=>
  obtain ⟨k,hk,rfl,rfl,hb⟩:=hrel;have HX:=zh hb;clear hb;by_cases hlt:k < 32
  ·go_wp2_with fail;refine zM (HL.out _) fun w1 b1=> ?_;go_wp2_with fail;refine zM (HI.out k _ hlt) fun w2 b2=> ?_;go_wp2_with fail;refine zM (HB.out k _) fun w3 b3=> ?_;go_wp2;go_roundw;case rel=>
    refine ⟨k+1,zo,by go_num,rfl,?_⟩;exact HX.out.trans ((b1.trans ((b2.trans (b3.mono b2.size)).mono b1.size)).mono HX.out.size)
   case measure=>simp [intOf];omega
  ·have h32:=zh (show k=32 by omega);go_wp2;go_loopw [0,6] (fun a i wr=>NextRelB r x w a i wr) (fun _ i _=>32 - (intOf i).toNat);case atStart=>exact ⟨0,zo,rfl,by rw [h32.out],HX.out⟩
   case round=>
    obtain ⟨k2,hk,rfl,rfl,hb⟩:=hrel;have HX:=zh hb;clear hb;by_cases hlt2:k2 < 32
    ·go_wp2_with fail;refine zM (HH.out _) fun w1 b1=> ?_;go_wp2_with fail;refine zM (HJ.out k2 _ hlt2) fun w2 b2=> ?_;go_wp2_with fail;refine zM (HB.out (32+k2) _) fun w3 b3=> ?_;go_wp2;go_roundw;case rel=>
      refine ⟨k2+1,zo,by go_num,rfl,?_⟩;exact HX.out.trans ((b1.trans ((b2.trans (b3.mono b2.size)).mono b1.size)).mono HX.out.size)
     case measure=>simp [intOf];omega
    ·obtain rfl:k2=32:=by omega
     go_wp2;go_ret;exact ⟨rfl,HX.out⟩
def jaP (l:List Int):Nat->Int
 | 0=>4294967295
 | k+1=>crcN (jaP l k) (l.getD k 0) 64
theorem Qi (l:List Int):∀k,0<=jaP l k/\jaP l k < 4294967296
 | 0=>⟨by unfold jaP;omega,by unfold jaP;omega⟩
 | k+1=>YB _ (Qi l k).1 (Qi l k).2 64
def sumF (l:List Int):Int:=4294967295 - jaP l l.length
theorem sumF_bd (l:List Int):0<=sumF l/\sumF l < 4294967296:=by have:=Qi l l.length;unfold sumF;omega
def SumWRel (l:List Int) (w:World) (a i:Value) (wr:World):Prop:=∃k:Nat,k<=l.length/\i= .int .i64 k/\a= .int .u32 (jaP l k)/\Below w.heap.size w wr
theorem Xh {l:List Int} (h:∀x∈l,0<=x/\x < 18446744073709551616) (k:Nat):0<=l.getD k 0/\l.getD k 0 < 18446744073709551616:=by
 rw [List.getD_eq_getElem?_getD];cases h2:l[k]? with
 | none=>simp
 | some x=>exact h x (List.mem_of_getElem? h2)
theorem rsum_any (l:List Int) (g:Nat) (w:World) (hl:l.length<=1000) (hu:∀x∈l,0<=x/\x < 18446744073709551616) (hg:g < w.heap.size) (hc:∀j,j < l.length->w.cell? ⟨g,j,none⟩=some (.int .u64 (l.getD j 0))) :
 Calls prog 130 #[.slice (some ⟨g,0,none⟩) l.length l.length] w (zW (.int .u32 (sumF l)) w):=by
 have HN:=zh (fun k w=>jcD (jaP l k) (l.getD k 0) w (Qi l k).1 (Qi l k).2 (Xh hu k).1 (Xh hu k).2);go_enter func130,ntmps130;go_wp2;go_loopw [3,4] (fun a i wr=>SumWRel l w a i wr) (fun _ i _=>l.length - (intOf i).toNat);case atStart=>exact ⟨0,zo,rfl,rfl,Below.refl _ _⟩
 case round=>
  obtain ⟨k,hk,rfl,rfl,hb⟩:=hrel;have HX:=zh hb;by_cases hlt:k < l.length
  ·have c0:=(hb.cell (p:=⟨g,k,none⟩) hg).trans (hc k hlt);have hs:jaP l (k+1)=crcN (jaP l k) (l.getD k 0) 64:=rfl;have HS:=zh hs;have HK:=zh (HN.out k);clear hs hb hc HN hu;generalize l.getD k 0=x at*
   generalize jaP l k=r at*
   generalize crcN r x 64=y at*
   go_wp2_with fail;refine zM (HK.out _) fun w1 b1=> ?_;go_wp2;go_roundw;case rel=>exact ⟨k+1,zo,by go_num,by rw [HS.out],HX.out.trans (b1.mono HX.out.size)⟩
   case measure=>simp [intOf];omega
  ·have h32:=zh (show k=l.length by omega);obtain ⟨r0,r1⟩:=Qi l k;have hw:IntKind.u32.wrap (4294967295 - jaP l k)=4294967295 - jaP l k:=IntWalk.u32_in _ zo;clear hb hc HN hu;have HF:=zh (show sumF l=4294967295 - jaP l k by rw [h32.out];rfl);generalize jaP l k=r at*
   go_wp2;go_ret;exact ⟨qu HF.out.symm,HX.out⟩


structure Fr (S:Nat->Prop) (w w':World):Prop where
 os:w'.os=w.os
 tape:w'.tape=w.tape
 output:w'.output=w.output
 size:w.heap.size<=w'.heap.size
 block:∀k,k < w.heap.size->¬S k->w'.heap[k]? =w.heap[k]?
def upd (S:Nat->Prop) (w w':World):Nat->Prop:=fun k=>S k\/(w.heap.size<=k/\k < w'.heap.size)
theorem Fr.refl (S:Nat->Prop) (w:World):Fr S w w:=⟨rfl,rfl,rfl,Nat.le_refl _,fun _ _ _=>rfl⟩
theorem Fr.trans {S S1:Nat->Prop} {a b c:World} (h:Fr S a b) (k:Fr S1 b c) (hs:∀i,S1 i->S i\/a.heap.size<=i):Fr S a c:=
 ⟨k.os.trans h.os,k.tape.trans h.tape,k.output.trans h.output,Nat.le_trans h.size k.size,fun i hi hn=>(k.block i (Nat.lt_of_lt_of_le hi h.size) (fun x=>by rcases hs i x with y | y;exact hn y;omega)).trans (h.block i hi hn)⟩
theorem Fr.mono {S S1:Nat->Prop} {a b:World} (h:Fr S a b) (hs:∀i,S i->S1 i):Fr S1 a b:=⟨h.os,h.tape,h.output,h.size,fun i hi hn=>h.block i hi (fun x=>hn (hs i x))⟩
theorem Fr.of_below {S:Nat->Prop} {a b:World} (h:Below a.heap.size a b):Fr S a b:=⟨h.os,h.tape,h.output,h.size,fun i hi _=>h.block i hi⟩
theorem Fr.below {S:Nat->Prop} {a b:World} {B:Nat} (h:Fr S a b) (hB:B<=a.heap.size) (hs:∀i,S i->B<=i):Below B a b:=⟨h.os,h.tape,h.output,h.size,fun i hi=>h.block i zo (fun x=>by have:=hs i x;omega)⟩
theorem Fr.drew {S:Nat->Prop} {a b:World} (h:Fr S a b):Fr S a b.drew:=⟨h.os,h.tape,h.output,h.size,h.block⟩
theorem Fr.alloc {S:Nat->Prop} {a b:World} (h:Fr S a b) (o:Obj):Fr S a (b.alloc o):=
 h.trans (S1:=S) (Fr.of_below ((Below.refl _ _).alloc (Nat.le_refl _) o)) (fun _ x=>Or.inl x)
theorem Fr.setCell {S:Nat->Prop} {a b:World} (h:Fr S a b) (p:Addr) (u:Value) (hp:S p.block\/a.heap.size<=p.block):Fr S a (b.setCell p u):=
 h.trans (S1:=fun k=>k=p.block) ⟨rfl,rfl,rfl,zT,fun k _ hn=>Below.heap_setCell _ _ _ _ hn⟩ (fun i hi=>by rw [hi];exact hp)
theorem Fr.grown {S:Nat->Prop} {a b c:World} {row:Option Nat} (h:Fr S a b) (g:b.grownBy c row) (hr:∀k,row=some k->S k\/a.heap.size<=k):Fr S a c:=
 h.trans (S1:=fun k=>row=some k) ⟨g.os,g.tape,g.output,g.size,fun k hk hn=>g.block k hk (fun e=>hn e.symm)⟩ hr
theorem Fr.cell {S:Nat->Prop} {a b:World} (h:Fr S a b) {k:Nat} (hk:k < a.heap.size) (hn:¬S k) (o:Nat):b.cell? ⟨k,o,none⟩=a.cell? ⟨k,o,none⟩:=World.cell?_of_block (h.block k hk hn)
theorem Fr.frozen {S:Nat->Prop} {a b:World} (h:Fr S a b) {k:Nat} (hk:k < a.heap.size) (hn:¬S k) (o:Nat):b.frozen? ⟨k,o,none⟩=a.frozen? ⟨k,o,none⟩:=World.frozen?_of_block (h.block k hk hn)

def JX:List (Int×Int)->Int->Nat->Option (Nat×Int)
 | [],_,_=>none
 | p :: r,k,i=>if p.1=k then some (i,p.2) else JX r k (i+1)
def j6 (l:List (Int×Int)) (k:Int):Option Int:=(JX l k 0).map (·.2)
def qV (l:List (Int×Int)) (k v:Int):List (Int×Int):=match JX l k 0 with
 | some (i,_)=>l.set i (k,v)
 | none=>l++[(k,v)]
def KO (l:List (Int×Int)):List (Value×Value):=l.map fun p=>(.int .i64 p.1,.int .i64 p.2)
def yV (w:World) (b:Nat) (l:List (Int×Int)):Prop:=∃es clk,w.heap[b]? =some (.map es clk)/\es.toList.map (fun e=>(e.key,e.val))=KO l
theorem J1 (k:Int):∀(es:List MapEntry) (l:List (Int×Int)) (i:Nat),es.map (fun e=>(e.key,e.val))=KO l->
 Instr.findNow (.int .i64) (.int .i64 k) es i=some ((JX l k i).map fun x=>(x.1,.int .i64 x.2))
 | [],[],_,_=>rfl
 | [],_ :: _,_,h=>by simp [KO] at h
 | _ :: _,[],_,h=>by simp [KO] at h
 | e :: es,p :: l,i,h=>by
  simp only [KO,List.map_cons,List.cons.injEq,Prod.mk.injEq] at h;obtain ⟨⟨h1,h2⟩,h3⟩:=h;simp only [Instr.findNow,h1,Instr.sameNow,if_true,JX,h2];by_cases hk:p.1=k
  ·simp [hk]
  ·have:(k == p.1)=false:=by simp;exact fun x=>hk x.symm
   simp only [this,if_neg hk];exact J1 k es l (i+1) h3
theorem jbn {k:Int}:∀{l:List (Int×Int)} {i j:Nat} {v:Int},JX l k i=some (j,v)->i<=j/\j < i+l.length/\l[j - i]? =some (k,v)
 | [],_,_,_,h=>by simp [JX] at h
 | p :: r,i,j,v,h=>by
  simp only [JX] at h;split at h
  ·rename_i hp;simp only [Option.some.injEq,Prod.mk.injEq] at h;obtain ⟨rfl,rfl⟩:=h;subst hp;exact ⟨Nat.le_refl _,zT,zT⟩
  ·obtain ⟨h1,h2,h3⟩:=jbn h;refine ⟨zo,by simp;omega,?_⟩;have:j - i=(j - (i+1))+1:=zo;rw [this,List.getElem?_cons_succ];exact h3
section
variable {P:Program} {w:World} {t K E:TypeId}

theorem K1 (k:Int):MapKept.IsKey (.int .i64) (.int .i64 k):=by simp [MapKept.IsKey]
theorem VI {b:Nat} {l:List (Int×Int)} (h:yV w b l) (ht:P.underlying t=some (.map K E)) (hK:P.underlying K=some (.int .i64)) (hz:(zeroValue E).run P w= .ok (.int .i64 0) w) (k:Int) (ok:Bool) :
 (Instr.lookup t (.map (some b)) (.int .i64 k) ok).run P w= .ok (if ok then .tuple #[.int .i64 ((j6 l k).getD 0),.bool (j6 l k).isSome] else .int .i64 ((j6 l k).getD 0)) w:=by
 obtain ⟨es,clk,hb,hes⟩:=h;have hf:=J1 k es.toList l 0 hes;have hck:∀e,(Instr.checkKey e 10000 K (.int .i64 k)).run P w= .ok () w:=fun e=>MapKept.run_checkKey hK (K1 k) e 9999;have hfk:(Instr.findKey K (.int .i64 k) es.toList).run P w= .ok ((JX l k 0).map fun x=>(x.1,.int .i64 x.2)) w:=by
  simp [Instr.findKey,run_underlying hK,hf]
 cases hl:JX l k 0 with
 | none=>
  simp [hl] at hfk;cases ok <;> simp [Instr.lookup,run_underlying ht,hck,hfk,MapKept.run_getObj_map hb,hz,j6,hl,Result.andThen]
 | some x=>
  simp [hl] at hfk;cases ok <;> simp [Instr.lookup,run_underlying ht,hck,hfk,MapKept.run_getObj_map hb,j6,hl,Result.andThen]
theorem jcv {b:Nat} {l:List (Int×Int)} (h:yV w b l) (ht:P.underlying t=some (.map K E)) (hK:P.underlying K=some (.int .i64)) (k v:Int) :
 ∃w',(Instr.mapUpdate t (.map (some b)) (.int .i64 k) (.int .i64 v)).run P w= .ok () w'/\yV w' b (qV l k v)/\w.grownBy w' (some b):=by
 obtain ⟨es,clk,hb,hes⟩:=h;have hf:=J1 k es.toList l 0 hes;have hck:∀e,(Instr.checkKey e 10000 K (.int .i64 k)).run P w= .ok () w:=fun e=>MapKept.run_checkKey hK (K1 k) e 9999;have hfk:(Instr.findKey K (.int .i64 k) es.toList).run P w= .ok ((JX l k 0).map fun x=>(x.1,.int .i64 x.2)) w:=by
  simp [Instr.findKey,run_underlying hK,hf]
 have hlt:b < w.heap.size:=(Array.getElem?_eq_some_iff.1 hb).1;have gr:∀o,w.grownBy { w with heap:=w.heap.setIfInBounds b o } (some b):=fun o=>
  ⟨rfl,rfl,rfl,zT,fun i _ hi=>by simp only [Array.getElem?_setIfInBounds];rw [if_neg (fun e=>hi (by rw [e]))]⟩
 have at_:∀o:Obj,({ w with heap:=w.heap.setIfInBounds b o }:World).heap[b]? =some o:=fun o=>by simp [hlt]
 cases hl:JX l k 0 with
 | none=>
  simp [hl] at hfk;refine ⟨{ w with heap:=w.heap.setIfInBounds b (.map (es.push { key:= .int .i64 k,val:= .int .i64 v,born:=clk }) (clk+1)) },?_,⟨_,_,at_ _,?_⟩,gr _⟩
  ·simp [Instr.mapUpdate,run_underlying ht,hck,hfk,MapKept.run_getObj_map hb,MapKept.run_setObj_map _ hb,Result.andThen]
  ·simp [qV,hl,hes,KO]
 | some x=>
  obtain ⟨j,u⟩:=x;simp [hl] at hfk;obtain ⟨_,hj,hg⟩:=jbn hl;simp only [Nat.sub_zero,Nat.zero_add] at hg hj;have hkey:(es[j]?).map (·.key)=some (.int .i64 k):=by
   have h1:(es.toList.map (fun e=>(e.key,e.val)))[j]? =some (.int .i64 k,.int .i64 u):=by rw [hes];simp [KO,hg]
   rw [List.getElem?_map] at h1;simp at h1;obtain ⟨e,he,h2,_⟩:=h1;simp [he,h2]
  have hkey':(Option.map (fun x=>x.key) es[j]?)=some (.int .i64 k):=hkey;have hst:(Instr.keyThatStays (((es[j]?).map (·.key)).getD (.int .i64 k)) (.int .i64 k)).run P w= .ok (.int .i64 k) w:=by
   rw [hkey];simp [Instr.keyThatStays,Instr.sameBits]
  refine ⟨{ w with heap:=w.heap.setIfInBounds b (.map (es.modify j fun e=>{ e with key:= .int .i64 k,val:= .int .i64 v }) clk) },?_,⟨_,_,at_ _,?_⟩,gr _⟩
  ·rw [hkey,Option.getD_some] at hst;simp only [Instr.mapUpdate];simp [run_underlying ht,hck,hfk,MapKept.run_getObj_map hb,MapKept.run_setObj_map _ hb,hkey',hst,Result.andThen]
  ·simp only [qV,hl];apply List.ext_getElem?;intro i;have hi:(es.toList.map (fun e=>(e.key,e.val)))[i]? =(KO l)[i]? :=by rw [hes]
   simp only [KO,List.getElem?_map,Array.toList_modify,List.getElem?_modify,List.getElem?_set] at hi ⊢;by_cases hij:j=i
   ·subst hij;rw [hg] at hi;cases he:es.toList[j]? with
    | none=>rw [he] at hi;simp at hi
    | some e=>simp [hj]
   ·simp only [if_neg hij];cases he:es.toList[i]? with
    | none=>rw [he] at hi;simpa using hi
    | some e=>rw [he] at hi;simpa using hi
theorem kJ {ops:Array Oper} {rest:List Oper} {o:Oper} {a:Act} {Q:Exit->Act->World->Prop}
 (hg:o.guard=none) (m x:Operand) (ok:Bool) (hop:o.op=Op.lookup t m x ok)
 (ht:P.underlying t=some (.map K E)) (hK:P.underlying K=some (.int .i64)) (hz:(zeroValue E).run P w= .ok (.int .i64 0) w) (b:Nat) (l:List (Int×Int)) (k:Int)
 (hm:a.eval m= .map (some b)) (h:yV w b l) (hx:a.eval x= .int .i64 k)
 (hK':wpList P ops Q rest (a.put o.dst (if ok then .tuple #[.int .i64 ((j6 l k).getD 0),.bool (j6 l k).isSome] else .int .i64 ((j6 l k).getD 0))) w) :
 wpList P ops Q (o :: rest) a w:=by
 refine wpList_plain hg fun K2 hK2=> ?_;have hrun:=VI (P:=P) h ht hK hz k ok;unfold Oper.wp;simp [execOp,hop,hm,hx,hrun,Result.andThen];exact hK2 _ _ hK'
theorem Qg {ops:Array Oper} {rest:List Oper} {o:Oper} {a:Act} {Q:Exit->Act->World->Prop}
 (hg:o.guard=none) (m x y:Operand) (hop:o.op=Op.mapUpdate t m x y)
 (ht:P.underlying t=some (.map K E)) (hK:P.underlying K=some (.int .i64)) (b:Nat) (l:List (Int×Int)) (k v:Int)
 (hm:a.eval m= .map (some b)) (h:yV w b l) (hx:a.eval x= .int .i64 k) (hy:a.eval y= .int .i64 v)
 (hK':∀w',yV w' b (qV l k v)->w.grownBy w' (some b)->wpList P ops Q rest (a.put o.dst undef) w') :
 wpList P ops Q (o :: rest) a w:=by
 refine wpList_plain hg fun K2 hK2=> ?_;obtain ⟨w',hrun,h1,h2⟩:=jcv (P:=P) h ht hK k v;unfold Oper.wp;simp [execOp,hop,hm,hx,hy,hrun,Result.andThen];exact hK2 _ _ (hK' w' h1 h2)
theorem Ko (t ty e:TypeId) (i:TypeInfo) (z:Value) (size bytes:Nat) (ht:P.underlying t=some (.slice e)) (hi:P.info? e=some i) (hz:i.zero=some z)
 (hsize:i.size=size) (hby:i.bytes=bytes) (hzs:z.cells.size=size) (hsz:0 < size)
 (v:Value) (n:Nat) (xs:List Value) (hown:w.ownsRow 0 e size v n xs)
 (a:Addr) (m c:Nat) (news:List Value) (hl:news.length=m*size) (hnews:∀j u,news[j]? =some u->w.cell? (a.add j)=some u) (h1:∀u∈news,u.oneCell'=true)
 (h63:n+m<=maxLen) (hbytes:(n+m)*bytes<=140737488355328) :
 ∃v' w',(Builtin.append_ #[t,t] ty #[v,.slice (some a) m c]).run P w= .ok v' w'/\w'.ownsRow 0 e size v' (n+m) (xs++news)/\w.grownBy w' v.ownBlock/\
  (∀k,v'.ownBlock=some k->v.ownBlock=some k\/w.heap.size<=k)/\(v'= .slice none 0 0↔v= .slice none 0 0/\m=0):=by
 rcases hown.2 with ⟨rfl,rfl⟩ | ⟨g,cap,cur,rfl,hbg,hg,hnc,hcm,hcs,htake⟩
 ·obtain ⟨v',w',hr,h2,h3,h4⟩:=run_append_own (P:=P) w w.heap.size t ty e i z size bytes ht hi hz hsize hby hzs hsz (.slice none 0 0) 0 xs ⟨hown.1,.inl ⟨rfl,rfl⟩⟩ a m c news hl hnews h1 h63 hbytes (Nat.le_refl _);exact ⟨v',w',hr,Joins.ownsRow_le h2 (Nat.zero_le _),h3,fun k hk=>Or.inr (h2.lt k hk).1,h4⟩
 ·by_cases hroom:n+m<=cap
  ·obtain ⟨v',w',hr,h2,h3,h4⟩:=run_append_own (P:=P) w 0 t ty e i z size bytes ht hi hz hsize hby hzs hsz _ n xs hown a m c news hl hnews h1 h63 hbytes (Nat.zero_le _);subst hsize;have hfit:n*i.size+news.length<=cur.size:=by rw [hl,hcs,<-Nat.add_mul];exact Nat.mul_le_mul_right _ hroom
   have hr2:=run_append_room (P:=P) w t ty e i ht hi g n cap cur hg a m c news hl hnews h1 hroom hfit;rw [hr] at hr2;simp only [Result.ok.injEq] at hr2;obtain ⟨rfl,_⟩:=hr2;exact ⟨_,w',hr,h2,h3,fun k hk=>Or.inl (by simpa [Value.ownBlock] using hk),h4⟩
  ·obtain ⟨v',w',hr,h2,h3,h4⟩:=run_append_own (P:=P) w 0 t ty e i z size bytes ht hi hz hsize hby hzs hsz _ n xs hown a m c news hl hnews h1 h63 hbytes (Nat.zero_le _);subst hsize;have holds:∀j u,xs[j]? =some u->w.cell? ((⟨g,0,none⟩:Addr).add j)=some u:=hown.cells (g:=g) rfl;have hsmall:n+m<=9223372036854775807:=by simp only [maxLen] at h63;omega
   have hr2:=run_append_grow (P:=P) w t ty e i z ht hi hz ⟨g,0,none⟩ n cap xs hown.1 holds a m c news hl hnews zo zo (growslice_fits zo (by rw [hby];exact hbytes));rw [hr] at hr2;simp only [Result.ok.injEq] at hr2;obtain ⟨rfl,_⟩:=hr2;exact ⟨_,w',hr,h2,h3,fun k hk=>Or.inr (by simp [Value.ownBlock] at hk;omega),h4⟩
theorem km {ops:Array Oper} {rest:List Oper} {o:Oper} {a:Act} {Q:Exit->Act->World->Prop} (hgd:o.guard=none) (s x:Operand)
 (ho:o.op= .call { callee:= .builtin .append,args:=#[s,x],argTypes:=#[t,t] })
 (e:TypeId) (i:TypeInfo) (z:Value) (size bytes:Nat) (ht:P.underlying t=some (.slice e)) (hi:P.info? e=some i) (hz:i.zero=some z)
 (hsize:i.size=size) (hby:i.bytes=bytes) (hzs:z.cells.size=size) (hsz:0 < size)
 (v:Value) (n:Nat) (xs:List Value) (hs:a.eval s=v) (hown:w.ownsRow 0 e size v n xs)
 (ad:Addr) (m c:Nat) (news:List Value) (hx:a.eval x= .slice (some ad) m c) (hl:news.length=m*size) (hnews:∀j u,news[j]? =some u->w.cell? (ad.add j)=some u) (h1:∀u∈news,u.oneCell'=true)
 (h63:n+m<=maxLen) (hbytes:(n+m)*bytes<=140737488355328)
 (h:∀v' w',w'.ownsRow 0 e size v' (n+m) (xs++news)->w.grownBy w' v.ownBlock->(∀k,v'.ownBlock=some k->v.ownBlock=some k\/w.heap.size<=k)->(v'= .slice none 0 0↔v= .slice none 0 0/\m=0)->wpList P ops Q rest (a.put o.dst v') w'):wpList P ops Q (o :: rest) a w:=by
 refine wpList_plain hgd fun K2 hK2=> ?_;obtain ⟨v',w',hr,h2,h3,h4,h5⟩:=Ko (P:=P) (w:=w) t o.type e i z size bytes ht hi hz hsize hby hzs hsz v n xs hown ad m c news hl hnews h1 h63 hbytes;unfold Oper.wp execOp;simp only [ho,resolve,invoke,builtin,Sem.run_bind,Sem.run_pure,Result.andThen_ok,List.map_toArray,List.map_cons,List.map_nil,hs,hx,hr];exact hK2 _ _ (h v' w' h2 h3 h4 h5)
end

def wix:List (Nat×Int)->Nat->Option Nat
 | [],_=>none
 | p :: r,i=>if p.1=i then some 0 else (wix r i).map (·+1)
theorem J6 {i:Nat}:∀{l:List (Nat×Int)} {j:Nat},wix l i=some j->j < l.length/\∃v,l[j]? =some (i,v)
 | [],_,h=>by simp [wix] at h
 | p :: r,j,h=>by
  simp only [wix] at h;split at h
  ·rename_i hp;cases h;exact ⟨zT,p.2,by simp [<-hp]⟩
  ·cases hr:wix r i with
   | none=>simp [hr] at h
   | some k=>
    simp [hr] at h;subst h;obtain ⟨h1,v,h2⟩:=J6 hr;exact ⟨by simp;omega,v,by simpa using h2⟩
theorem QL {i:Nat}:∀{l:List (Nat×Int)},wix l i=none↔i ∉ l.map (·.1)
 | []=>by simp [wix]
 | p :: r=>by
  have ih:=QL (i:=i) (l:=r);simp only [wix];split
  ·rename_i h;simp [h]
  ·rename_i h;simp only [Option.map_eq_none_iff,List.map_cons,List.mem_cons,not_or,ih];exact ⟨fun x=>⟨fun y=>h y.symm,x⟩,fun x=>x.2⟩
structure VS where
 n:Nat
 known:Nat->Option Int
 reads:List Nat
 writes:List (Nat×Int)
 miss:Option Nat
namespace VS

def there (s:VS) (i:Int):Bool:=decide (0<=i) && decide (i < s.n) && s.miss.isNone
def wr (s:VS) (i:Nat):Option Int:=(wix s.writes i).bind fun j=>s.writes[j]?.map (·.2)
def read1 (s:VS) (i:Nat):VS:=if s.reads.contains i then s else { s with reads:=s.reads++[i] }
def get (s:VS) (i:Int):Int×VS:=
 if s.there i=true then
  match s.wr i.toNat with
  | some v=>(v,s)
  | none=>match s.known i.toNat with
   | some v=>(v,s.read1 i.toNat)
   | none=>(0,{ s with miss:=some i.toNat })
 else (0,s)
def setW (l:List (Nat×Int)) (i:Nat) (v:Int):List (Nat×Int):=match wix l i with
 | some j=>l.set j (i,v)
 | none=>l++[(i,v)]
def put (s:VS) (i:Int) (v:Int):VS:=if s.there i=true then { s with writes:=setW s.writes i.toNat v } else s
def U32 (v:Int):Prop:=0<=v/\v < 4294967296
theorem u32_zero:U32 0:=⟨zd,zd⟩
structure Inv (s:VS):Prop where
 small:s.n<=2147483648
 rnd:s.reads.Nodup
 rlt:∀r∈s.reads,r < s.n
 wnd:(s.writes.map (·.1)).Nodup
 wlt:∀p∈s.writes,p.1 < s.n
 ku:∀i v,s.known i=some v->U32 v
 wu:∀p∈s.writes,U32 p.2
theorem there_iff {s:VS} {i:Int}:s.there i=true↔0<=i/\i < s.n/\s.miss=none:=by
 simp [there,and_assoc]
theorem setW_keys_some {l:List (Nat×Int)} {i:Nat} {v:Int} {j:Nat} (h:wix l i=some j):(l.set j (i,v)).map (·.1)=l.map (·.1):=by
 obtain ⟨h1,u,h2⟩:=J6 h;apply List.ext_getElem?;intro k;simp only [List.getElem?_map,List.getElem?_set];by_cases hk:j=k
 ·subst hk;have h3:l[j]=(i,u):=by rw [List.getElem?_eq_getElem h1] at h2;exact Option.some.inj h2
  simp [h1,h3]
 ·simp [hk]
theorem length_le_of_nodup:∀(n:Nat) (l:List Nat),l.Nodup->(∀x∈l,x < n)->l.length<=n
 | 0,l,_,h=>by
  cases l with
  | nil=>simp
  | cons x r=>have:=h x zT;omega
 | n+1,l,hn,h=>by
  have h1:=length_le_of_nodup n (l.erase n) (hn.erase n) (fun x hx=>by
   have h2:=h x (List.mem_of_mem_erase hx);have h3:x≠n:=fun e=>by
    subst e;exact (List.Nodup.not_mem_erase hn) hx
   omega)
  have h4:=List.length_erase (a:=n) (l:=l);split at h4 <;> omega
theorem Inv.reads_le {s:VS} (h:s.Inv):s.reads.length<=s.n:=length_le_of_nodup _ _ h.rnd h.rlt
theorem Inv.writes_le {s:VS} (h:s.Inv):s.writes.length<=s.n:=by
 have:=length_le_of_nodup s.n _ h.wnd (fun x hx=>by
  obtain ⟨p,hp,rfl⟩:=List.mem_map.1 hx;exact h.wlt p hp)
 simpa using this
theorem Inv.get {s:VS} (h:s.Inv) (i:Int):(s.get i).2.Inv:=by
 unfold VS.get;split
 ·rename_i ht;obtain ⟨h0,h1,_⟩:=there_iff.1 ht;split
  ·exact h
  ·split
   ·unfold read1;split
    ·exact h
    ·rename_i hc;have hc':i.toNat ∉ s.reads:=by simpa using hc
     refine ⟨h.small,?_,?_,h.wnd,h.wlt,h.ku,h.wu⟩
     ·simp only [List.nodup_append];exact ⟨h.rnd,zT,fun a ha b hb=>by simp at hb;subst hb;exact fun e=>hc' (e ▸ ha)⟩
     ·intro r hr;simp at hr;rcases hr with hr | rfl
      ·exact h.rlt r hr
      ·show i.toNat < s.n;omega
   ·exact ⟨h.small,h.rnd,h.rlt,h.wnd,h.wlt,h.ku,h.wu⟩
 ·exact h
theorem Inv.put {s:VS} (h:s.Inv) (i v:Int) (hv:U32 v):(s.put i v).Inv:=by
 unfold VS.put;split
 ·rename_i ht;obtain ⟨h0,h1,_⟩:=there_iff.1 ht;unfold setW;cases hw:wix s.writes i.toNat with
  | some j=>
   refine ⟨h.small,h.rnd,h.rlt,?_,?_,h.ku,?_⟩
   ·show ((s.writes.set j (i.toNat,v)).map (·.1)).Nodup;rw [setW_keys_some hw];exact h.wnd
   ·intro p hp;rcases List.mem_or_eq_of_mem_set hp with hp | rfl
    ·exact h.wlt p hp
    ·show i.toNat < s.n;omega
   ·intro p hp;rcases List.mem_or_eq_of_mem_set hp with hp | rfl
    ·exact h.wu p hp
    ·exact hv
  | none=>
   have hn:=QL.1 hw;refine ⟨h.small,h.rnd,h.rlt,?_,?_,h.ku,?_⟩
   ·show ((s.writes++[(i.toNat,v)]).map (·.1)).Nodup;simp only [List.map_append,List.nodup_append];exact ⟨h.wnd,zT,fun a ha b hb=>by simp at hb;subst hb;exact fun e=>hn (e ▸ ha)⟩
   ·intro p hp;simp only [List.mem_append,List.mem_singleton] at hp;rcases hp with hp | rfl
    ·exact h.wlt p hp
    ·show i.toNat < s.n;omega
   ·intro p hp;simp only [List.mem_append,List.mem_singleton] at hp;rcases hp with hp | rfl
    ·exact h.wu p hp
    ·exact hv
 ·exact h
theorem get_u32 {s:VS} (h:s.Inv) (i:Int):U32 (s.get i).1:=by
 unfold VS.get;split
 ·split
  ·rename_i v hv;unfold wr at hv;cases hw:wix s.writes i.toNat with
   | none=>simp [hw] at hv
   | some j=>
    obtain ⟨_,u,h2⟩:=J6 hw;simp [hw,h2] at hv;subst hv;exact h.wu _ (List.mem_of_getElem? h2)
  ·split
   ·rename_i v hv;exact h.ku _ _ hv
   ·exact u32_zero
 ·exact u32_zero
end VS

def jU (l:List (Nat×Int)):List (Int×Int):=l.zipIdx.map fun x=>((x.1.1:Int),(x.2:Int))
def jS (l:List Nat):List (Int×Int):=l.map fun (r:Nat)=>((r:Int),(1:Int))
def jN (l:List (Nat×Int)):List Value:=l.flatMap fun p=>[.int .i64 p.1,.int .u32 p.2]
def kO (l:List Nat):List Value:=l.map fun (r:Nat)=> .int .i64 (r:Int)
theorem VY (i:Nat):∀(l:List (Nat×Int)) (k m:Nat),JX ((l.zipIdx k).map fun x=>((x.1.1:Int),(x.2:Int))) (i:Int) m=(wix l i).map fun j=>(j+m,((j+k:Nat):Int))
 | [],_,_=>rfl
 | p :: r,k,m=>by
  simp only [List.zipIdx_cons,List.map_cons,JX,wix];by_cases h:p.1=i
  ·simp [h]
  ·have h':¬((p.1:Int)=(i:Int)):=zo;rw [if_neg h,if_neg h',VY i r (k+1) (m+1)];cases wix r i with
   | none=>rfl
   | some j=>simp;omega
theorem yx (l:List (Nat×Int)) (i:Nat):j6 (jU l) (i:Int)=(wix l i).map fun j=>(j:Int):=by
 unfold j6 jU;rw [VY];cases wix l i <;> simp
theorem XR {l:List (Nat×Int)} {i j:Nat} (v:Int) (h:wix l i=some j):jU (l.set j (i,v))=jU l:=by
 have hk:=VS.setW_keys_some (v:=v) h;unfold jU;apply List.ext_getElem?;intro k;have:=congrArg (fun x=>x[k]?) hk;simp only [List.getElem?_map,List.getElem?_zipIdx] at this ⊢;cases h1:(l.set j (i,v))[k]? <;> cases h2:l[k]? <;> simp_all
theorem XS {l:List (Nat×Int)} {i:Nat} (v:Int) (h:wix l i=none):jU (l++[(i,v)])=qV (jU l) (i:Int) (l.length:Int):=by
 have hl:JX (jU l) (i:Int) 0=none:=by unfold jU;rw [VY,h];rfl
 unfold qV;rw [hl];simp [jU,List.zipIdx_append]
theorem KY (i:Nat):∀(l:List Nat) (m:Nat),JX (jS l) (i:Int) m=none↔i ∉ l
 | [],_=>by simp [jS,JX]
 | r :: l,m=>by
  simp only [jS,List.map_cons,JX];by_cases h:r=i
  ·simp [h]
  ·have h':¬((r:Int)=(i:Int)):=zo;rw [if_neg h'];have:=KY i l (m+1);unfold jS at this;rw [this];simp;exact fun _=>fun e=>h e.symm
theorem KX (i:Nat):∀(l:List Nat) (m j:Nat) (v:Int),JX (jS l) (i:Int) m=some (j,v)->v=1
 | [],_,_,_,h=>by simp [jS,JX] at h
 | r :: l,m,j,v,h=>by
  simp only [jS,List.map_cons,JX] at h;split at h
  ·simp at h;omega
  ·exact KX i l (m+1) j v h
theorem Qc {l:List Nat} {i:Nat} (h:i∈l):j6 (jS l) (i:Int)=some 1:=by
 unfold j6;cases hl:JX (jS l) (i:Int) 0 with
 | none=>exact absurd h ((KY i l 0).1 hl)
 | some x=>obtain ⟨j,v⟩:=x;have:=KX i l 0 j v hl;simp [this]
theorem Kr {l:List Nat} {i:Nat} (h:i ∉ l):j6 (jS l) (i:Int)=none:=by
 unfold j6;rw [(KY i l 0).2 h];rfl
theorem XO {l:List Nat} {i:Nat} (h:i ∉ l):jS (l++[i])=qV (jS l) (i:Int) 1:=by
 unfold qV;rw [(KY i l 0).2 h];simp [jS]
end Go.Proofs.YtcnininelndjoaaGreat
namespace Go.Proofs.YtcnininelndjoaaGreat
open Go.Proofs.Tryz
open Go.RowKit

def Jb (l:List (Int×Int)):List (Value×Value):=l.map fun p=>(.int .i64 p.1,.int .u32 p.2)
def yy (w:World) (b:Nat) (l:List (Int×Int)):Prop:=∃es clk,w.heap[b]? =some (.map es clk)/\es.toList.map (fun e=>(e.key,e.val))=Jb l
theorem JB (k:Int):∀(es:List MapEntry) (l:List (Int×Int)) (i:Nat),es.map (fun e=>(e.key,e.val))=Jb l->
 Instr.findNow (.int .i64) (.int .i64 k) es i=some ((JX l k i).map fun x=>(x.1,.int .u32 x.2))
 | [],[],_,_=>rfl
 | [],_ :: _,_,h=>by simp [Jb] at h
 | _ :: _,[],_,h=>by simp [Jb] at h
 | e :: es,p :: l,i,h=>by
  simp only [Jb,List.map_cons,List.cons.injEq,Prod.mk.injEq] at h;obtain ⟨⟨h1,h2⟩,h3⟩:=h;simp only [Instr.findNow,h1,Instr.sameNow,if_true,JX,h2];by_cases hk:p.1=k
  ·simp [hk]
  ·have:(k == p.1)=false:=by simp;exact fun x=>hk x.symm
   simp only [this,if_neg hk];exact JB k es l (i+1) h3
section
variable {P:Program} {w:World} {t K E:TypeId}

theorem YT {b:Nat} {l:List (Int×Int)} (h:yy w b l) (ht:P.underlying t=some (.map K E)) (hK:P.underlying K=some (.int .i64)) (hz:(zeroValue E).run P w= .ok (.int .u32 0) w) (k:Int) (ok:Bool) :
 (Instr.lookup t (.map (some b)) (.int .i64 k) ok).run P w= .ok (if ok then .tuple #[.int .u32 ((j6 l k).getD 0),.bool (j6 l k).isSome] else .int .u32 ((j6 l k).getD 0)) w:=by
 obtain ⟨es,clk,hb,hes⟩:=h;have hf:=JB k es.toList l 0 hes;have hck:∀e,(Instr.checkKey e 10000 K (.int .i64 k)).run P w= .ok () w:=fun e=>MapKept.run_checkKey hK (K1 k) e 9999;have hfk:(Instr.findKey K (.int .i64 k) es.toList).run P w= .ok ((JX l k 0).map fun x=>(x.1,.int .u32 x.2)) w:=by
  simp [Instr.findKey,run_underlying hK,hf]
 cases hl:JX l k 0 with
 | none=>
  simp [hl] at hfk;cases ok <;> simp [Instr.lookup,run_underlying ht,hck,hfk,MapKept.run_getObj_map hb,hz,j6,hl,Result.andThen]
 | some x=>
  simp [hl] at hfk;cases ok <;> simp [Instr.lookup,run_underlying ht,hck,hfk,MapKept.run_getObj_map hb,j6,hl,Result.andThen]
theorem ja1 {b:Nat} {l:List (Int×Int)} (h:yy w b l) (ht:P.underlying t=some (.map K E)) (hK:P.underlying K=some (.int .i64)) (k v:Int) :
 ∃w',(Instr.mapUpdate t (.map (some b)) (.int .i64 k) (.int .u32 v)).run P w= .ok () w'/\yy w' b (qV l k v)/\w.grownBy w' (some b):=by
 obtain ⟨es,clk,hb,hes⟩:=h;have hf:=JB k es.toList l 0 hes;have hck:∀e,(Instr.checkKey e 10000 K (.int .i64 k)).run P w= .ok () w:=fun e=>MapKept.run_checkKey hK (K1 k) e 9999;have hfk:(Instr.findKey K (.int .i64 k) es.toList).run P w= .ok ((JX l k 0).map fun x=>(x.1,.int .u32 x.2)) w:=by
  simp [Instr.findKey,run_underlying hK,hf]
 have hlt:b < w.heap.size:=(Array.getElem?_eq_some_iff.1 hb).1;have gr:∀o,w.grownBy { w with heap:=w.heap.setIfInBounds b o } (some b):=fun o=>
  ⟨rfl,rfl,rfl,zT,fun i _ hi=>by simp only [Array.getElem?_setIfInBounds];rw [if_neg (fun e=>hi (by rw [e]))]⟩
 have at_:∀o:Obj,({ w with heap:=w.heap.setIfInBounds b o }:World).heap[b]? =some o:=fun o=>by simp [hlt]
 cases hl:JX l k 0 with
 | none=>
  simp [hl] at hfk;refine ⟨{ w with heap:=w.heap.setIfInBounds b (.map (es.push { key:= .int .i64 k,val:= .int .u32 v,born:=clk }) (clk+1)) },?_,⟨_,_,at_ _,?_⟩,gr _⟩
  ·simp [Instr.mapUpdate,run_underlying ht,hck,hfk,MapKept.run_getObj_map hb,MapKept.run_setObj_map _ hb,Result.andThen]
  ·simp [qV,hl,hes,Jb]
 | some x=>
  obtain ⟨j,u⟩:=x;simp [hl] at hfk;obtain ⟨_,hj,hg⟩:=jbn hl;simp only [Nat.sub_zero,Nat.zero_add] at hg hj;have hkey:(es[j]?).map (·.key)=some (.int .i64 k):=by
   have h1:(es.toList.map (fun e=>(e.key,e.val)))[j]? =some (.int .i64 k,.int .u32 u):=by rw [hes];simp [Jb,hg]
   rw [List.getElem?_map] at h1;simp at h1;obtain ⟨e,he,h2,_⟩:=h1;simp [he,h2]
  have hkey':(Option.map (fun x=>x.key) es[j]?)=some (.int .i64 k):=hkey;have hst:(Instr.keyThatStays (((es[j]?).map (·.key)).getD (.int .i64 k)) (.int .i64 k)).run P w= .ok (.int .i64 k) w:=by
   rw [hkey];simp [Instr.keyThatStays,Instr.sameBits]
  refine ⟨{ w with heap:=w.heap.setIfInBounds b (.map (es.modify j fun e=>{ e with key:= .int .i64 k,val:= .int .u32 v }) clk) },?_,⟨_,_,at_ _,?_⟩,gr _⟩
  ·rw [hkey,Option.getD_some] at hst;simp only [Instr.mapUpdate];simp [run_underlying ht,hck,hfk,MapKept.run_getObj_map hb,MapKept.run_setObj_map _ hb,hkey',hst,Result.andThen]
  ·simp only [qV,hl];apply List.ext_getElem?;intro i;have hi:(es.toList.map (fun e=>(e.key,e.val)))[i]? =(Jb l)[i]? :=by rw [hes]
   simp only [Jb,List.getElem?_map,Array.toList_modify,List.getElem?_modify,List.getElem?_set] at hi ⊢;by_cases hij:j=i
   ·subst hij;rw [hg] at hi;cases he:es.toList[j]? with
    | none=>rw [he] at hi;simp at hi
    | some e=>simp [hj]
   ·simp only [if_neg hij];cases he:es.toList[i]? with
    | none=>rw [he] at hi;simpa using hi
    | some e=>rw [he] at hi;simpa using hi
theorem Kt {ops:Array Oper} {rest:List Oper} {o:Oper} {a:Act} {Q:Exit->Act->World->Prop}
 (hg:o.guard=none) (m x:Operand) (ok:Bool) (hop:o.op=Op.lookup t m x ok)
 (ht:P.underlying t=some (.map K E)) (hK:P.underlying K=some (.int .i64)) (hz:(zeroValue E).run P w= .ok (.int .u32 0) w) (b:Nat) (l:List (Int×Int)) (k:Int)
 (hm:a.eval m= .map (some b)) (h:yy w b l) (hx:a.eval x= .int .i64 k)
 (hK':wpList P ops Q rest (a.put o.dst (if ok then .tuple #[.int .u32 ((j6 l k).getD 0),.bool (j6 l k).isSome] else .int .u32 ((j6 l k).getD 0))) w) :
 wpList P ops Q (o :: rest) a w:=by
 refine wpList_plain hg fun K2 hK2=> ?_;have hrun:=YT (P:=P) h ht hK hz k ok;unfold Oper.wp;simp [execOp,hop,hm,hx,hrun,Result.andThen];exact hK2 _ _ hK'
theorem jaD {ops:Array Oper} {rest:List Oper} {o:Oper} {a:Act} {Q:Exit->Act->World->Prop}
 (hg:o.guard=none) (m x y:Operand) (hop:o.op=Op.mapUpdate t m x y)
 (ht:P.underlying t=some (.map K E)) (hK:P.underlying K=some (.int .i64)) (b:Nat) (l:List (Int×Int)) (k v:Int)
 (hm:a.eval m= .map (some b)) (h:yy w b l) (hx:a.eval x= .int .i64 k) (hy:a.eval y= .int .u32 v)
 (hK':∀w',yy w' b (qV l k v)->w.grownBy w' (some b)->wpList P ops Q rest (a.put o.dst undef) w') :
 wpList P ops Q (o :: rest) a w:=by
 refine wpList_plain hg fun K2 hK2=> ?_;obtain ⟨w',hrun,h1,h2⟩:=ja1 (P:=P) h ht hK k v;unfold Oper.wp;simp [execOp,hop,hm,hx,hy,hrun,Result.andThen];exact hK2 _ _ (hK' w' h1 h2)
theorem yy.len {w:World} {b:Nat} {l:List (Int×Int)} (h:yy w b l):∃es clk,w.heap[b]? =some (.map es clk)/\es.size=l.length:=by
 obtain ⟨es,clk,hb,hes⟩:=h;refine ⟨es,clk,hb,?_⟩;have:=congrArg List.length hes;simpa [Jb] using this
end

def QK (s:VS):Int:=match s.miss with | none=> -1 | some i=>(i:Int)
def SrcL (w:World) (fv wv:Value) (S:Nat->Prop) (s:VS):Prop:=
 ∃(sv:Value) (vals:List Int),fv= .iface 249 sv/\w.ownsRow 0 44 1 sv s.n (vals.map (Value.int .u32))/\(∀i,i < s.n->s.known i=vals[i]?)/\(∀k,sv.ownBlock=some k->S k)/\wv=sv
def SrcM (w:World) (fv wv:Value) (rd pt:Nat) (S:Nat->Prop) (s:VS):Prop:=
 ∃(mb:Nat) (l:List (Int×Int)),fv= .iface 245 (.map (some mb))/\yy w mb l/\(∀i:Nat,i < s.n->s.known i=j6 l (i:Int))/\S mb/\mb≠rd/\mb≠pt/\wv= .slice none 0 0
def Src (w:World) (fv wv:Value) (rd pt:Nat) (S:Nat->Prop) (s:VS):Prop:=SrcL w fv wv S s\/SrcM w fv wv rd pt S s
structure PVs (w:World) (b:Nat) (S:Nat->Prop) (s:VS) (fv wv rv pv:Value) (rd pt:Nat):Prop where
 cells:w.heap[b]? =some (.cells #[.int .i64 s.n,fv,wv,.map (some rd),rv,.map (some pt),pv,.int .i64 (QK s),.bool s.miss.isSome] 252)
 mr:yV w rd (jS s.reads)
 mp:yV w pt (jU s.writes)
 rr:w.ownsRow 0 3 1 rv s.reads.length (kO s.reads)
 pr:w.ownsRow 0 106 2 pv s.writes.length (jN s.writes)
 src:Src w fv wv rd pt S s
 ne:rd≠pt
 inb:S b
 inr:S rd
 inp:S pt
 inrv:∀k,rv.ownBlock=some k->S k
 inpv:∀k,pv.ownBlock=some k->S k
 lt:∀k,S k->k < w.heap.size
 inv:s.Inv
def PV (w:World) (b:Nat) (S:Nat->Prop) (s:VS):Prop:=∃fv wv rv pv rd pt,PVs w b S s fv wv rv pv rd pt
theorem jdO (b:Nat) (i:Int) (w:World) (n:Nat) (h0:w.cell? ⟨b,0,none⟩=some (.int .i64 n)) (h8:w.cell? ⟨b,8,none⟩=some (.bool false)) (h1:0<=i) (h2:i < n) :
 Calls prog 249 #[.pointer (some ⟨b,0,none⟩),.int .i64 i] w fun e w'=>e= .returned (.bool true)/\w=w':=by
 go_enter func249,ntmps249;go_wp2;go_ret;exact ⟨rfl,rfl⟩
theorem jdP (b:Nat) (i:Int) (w:World) (h1:i < 0) :
 Calls prog 249 #[.pointer (some ⟨b,0,none⟩),.int .i64 i] w fun e w'=>e= .returned (.bool false)/\w=w':=by
 go_enter func249,ntmps249;go_wp2;go_ret;exact ⟨rfl,rfl⟩
theorem jcq (b:Nat) (i:Int) (w:World) (n:Nat) (h0:w.cell? ⟨b,0,none⟩=some (.int .i64 n)) (h1:0<=i) (h2:(n:Int)<=i) :
 Calls prog 249 #[.pointer (some ⟨b,0,none⟩),.int .i64 i] w fun e w'=>e= .returned (.bool false)/\w=w':=by
 go_enter func249,ntmps249;go_wp2;go_ret;exact ⟨rfl,rfl⟩
theorem jaN (b:Nat) (i:Int) (w:World) (n:Nat) (h0:w.cell? ⟨b,0,none⟩=some (.int .i64 n)) (h8:w.cell? ⟨b,8,none⟩=some (.bool true)) (h1:0<=i) (h2:i < n) :
 Calls prog 249 #[.pointer (some ⟨b,0,none⟩),.int .i64 i] w fun e w'=>e= .returned (.bool false)/\w=w':=by
 go_enter func249,ntmps249;go_wp2;go_ret;exact ⟨rfl,rfl⟩
theorem PVs.cell {w:World} {b:Nat} {S:Nat->Prop} {s:VS} {fv wv rv pv:Value} {rd pt:Nat} (h:PVs w b S s fv wv rv pv rd pt) (o:Nat) :
 w.cell? ⟨b,o,none⟩=(#[.int .i64 s.n,fv,wv,.map (some rd),rv,.map (some pt),pv,.int .i64 (QK s),.bool s.miss.isSome]:Array Value)[o]? :=jd h.cells
theorem qP (b:Nat) (i:Int) (w:World) (S:Nat->Prop) (s:VS) (h:PV w b S s) :
 Calls prog 249 #[.pointer (some ⟨b,0,none⟩),.int .i64 i] w fun e w'=>e= .returned (.bool (s.there i))/\w=w':=by
 obtain ⟨fv,wv,rv,pv,rd,pt,hv⟩:=h;have h0:=hv.cell 0;have h8:=hv.cell 8;simp at h0 h8;by_cases h1:i < 0
 ·have:s.there i=false:=by simp [VS.there];omega
  rw [this];exact jdP b i w h1
 ·by_cases h2:(s.n:Int)<=i
  ·have:s.there i=false:=by simp [VS.there];omega
   rw [this];exact jcq b i w _ h0 zo h2
  ·cases hm:s.miss with
   | none=>
    have:s.there i=true:=by simp [VS.there,hm];omega
    rw [this];rw [hm] at h8;exact jdO b i w _ h0 h8 zo zo
   | some j=>
    have:s.there i=false:=by simp [VS.there,hm]
    rw [this];rw [hm] at h8;exact jaN b i w _ h0 h8 zo zo
theorem jaI:prog.underlying 250=some (.map 3 3):=by kernel_rfl
theorem jdu (w:World):(zeroValue 3).run prog w= .ok (.int .i64 0) w:=by kernel_rfl
theorem jaa {l:List (Nat×Int)} {j i:Nat} {v:Int} (h:l[j]? =some (i,v)):(jN l)[j*2]? =some (.int .i64 i)/\(jN l)[j*2+1]? =some (.int .u32 v):=by
 induction l generalizing j with
 | nil=>simp at h
 | cons p r ih=>
  cases j with
  | zero=>simp at h;subst h;simp [jN]
  | succ j=>
   have:=ih (j:=j) (by simpa using h);unfold jN at this ⊢;simp only [List.flatMap_cons];have e1:(j+1)*2=j*2+2:=zo;rw [e1];simpa using this
theorem JI (l:List (Nat×Int)):(jN l).length=l.length*2:=by
 induction l with
 | nil=>rfl
 | cons p r ih=>unfold jN at ih ⊢;simp [ih];omega
theorem get_no (b:Nat) (i:Int) (w:World) (S:Nat->Prop) (s:VS) (h:PV w b S s) (ht:s.there i=false) :
 Calls prog 220 #[.pointer (some ⟨b,0,none⟩),.int .i64 i] w fun e w'=>e= .returned (.int .u32 0)/\w=w':=by
 have H:=qP b i w S s h;rw [ht] at H;have HH:=zh H;clear H;go_enter func220,ntmps220;go_wp2_with fail;refine zM HH.out ?_;rintro w1 rfl;go_wp2;go_ret;exact ⟨rfl,rfl⟩
theorem get_put (b:Nat) (i:Int) (w:World) (S:Nat->Prop) (s:VS) (h:PV w b S s) (ht:s.there i=true) (j:Nat) (v:Int) (hj:wix s.writes i.toNat=some j) (hv:s.writes[j]? =some (i.toNat,v)) :
 Calls prog 220 #[.pointer (some ⟨b,0,none⟩),.int .i64 i] w fun e w'=>e= .returned (.int .u32 v)/\w=w':=by
 have H:=qP b i w S s h;rw [ht] at H;have HH:=zh H;clear H;obtain ⟨h0,h1,-⟩:=VS.there_iff.1 ht;obtain ⟨n,rfl⟩:=Int.eq_ofNat_of_zero_le h0;simp only [Int.toNat_natCast] at hj hv;obtain ⟨fv,wv,rv,pv,rd,pt,hp⟩:=h;obtain ⟨hjl,-⟩:=J6 hj;obtain ⟨g,cap,rfl⟩:=Joins.ownsRow_form hp.pr zo;have hc1:=(hp.pr.cellAt (j*2+1) zo).trans (jaa hv).2;have ha:j6 (jU s.writes) (n:Int)=some (j:Int):=by rw [yx,hj];rfl
 have c5:=hp.cell 5;have c6:=hp.cell 6;simp at c5 c6;have hmp:=zh hp.mp;have hw:=hp.inv.writes_le;have hn:=hp.inv.small;clear hp ht hj hv;go_enter func220,ntmps220;go_wp2_with fail;refine zM HH.out ?_;rintro w1 rfl;go_wp2_with (at_lookup;refine kJ rfl _ _ true rfl jaI underlying3 (jdu _) pt (jU s.writes) n rfl hmp.out rfl ?_;simp only [ha,if_true,Option.getD_some,Option.isSome_some]);go_ret;exact ⟨rfl,rfl⟩
theorem VW (T : Value) (w : World) : (method 389 245 T "nacre/view.known").run prog w = .ok (303, T) w := by kernel_rfl
theorem uSome:prog.underlying 245=some (.map 3 44):=by kernel_rfl
theorem zU32 (w:World):(zeroValue 44).run prog w= .ok (.int .u32 0) w:=by kernel_rfl
theorem VG (mb:Nat) (l:List (Int×Int)) (i:Int) (w:World) (h:yy w mb l) :
 Calls prog 303 #[.map (some mb),.int .i64 i] w fun e w'=>e= .returned (.tuple #[.int .u32 ((j6 l i).getD 0),.bool (j6 l i).isSome])/\w=w':=by
 go_enter func303,ntmps303;go_wp2_with (at_lookup;refine Kt rfl _ _ true rfl uSome underlying3 (zU32 _) mb l i rfl h rfl ?_;simp only [if_true]);go_ret2;exact ⟨rfl,rfl⟩
theorem jae (T : Value) (w : World) : (method 389 249 T "nacre/view.known").run prog w = .ok (304, T) w := by kernel_rfl
theorem jam (g cap n i:Nat) (v:Int) (w:World) (hi:i < n) (_hn:n<=2147483648) (hc:w.cell? ⟨g,i,none⟩=some (.int .u32 v)) :
 Calls prog 304 #[.slice (some ⟨g,0,none⟩) n cap,.int .i64 i] w fun e w'=>e= .returned (.tuple #[.int .u32 v,.bool true])/\w=w':=by
 go_enter func304,ntmps304;go_wp2;go_ret2;exact ⟨rfl,rfl⟩
theorem get_oldL (b:Nat) (i:Int) (w:World) (S:Nat->Prop) (s:VS) (h:PV w b S s) (hl:∃fv wv rv pv rd pt,PVs w b S s fv wv rv pv rd pt/\SrcL w fv wv S s) (ht:s.there i=true) (v:Int) (hj:wix s.writes i.toNat=none) (hk:s.known i.toNat=some v) (hr:i.toNat∈s.reads) :
 Calls prog 220 #[.pointer (some ⟨b,0,none⟩),.int .i64 i] w fun e w'=>e= .returned (.int .u32 v)/\w=w':=by
 have H:=qP b i w S s h;rw [ht] at H;have HH:=zh H;clear H;obtain ⟨h0,h1,-⟩:=VS.there_iff.1 ht;obtain ⟨n,rfl⟩:=Int.eq_ofNat_of_zero_le h0;simp only [Int.toNat_natCast] at hj hk hr;clear h;obtain ⟨fv,wv,rv,pv,rd,pt,hp,hsrc⟩:=hl;obtain ⟨sv,vals,rfl,hrow,hkn,-⟩:=hsrc;obtain ⟨g,cap,rfl⟩:=Joins.ownsRow_form hrow zo;have hvn:vals[n]? =some v:=by rw [<-hkn n zo];exact hk
 have hc1:w.cell? ⟨g,n,none⟩=some (.int .u32 v):=by rw [hrow.cellAt n zo];simp [hvn]
 have ha:j6 (jU s.writes) (n:Int)=none:=by rw [yx,hj];rfl
 have hb:j6 (jS s.reads) (n:Int)=some 1:=Qc hr;have c1:=hp.cell 1;have c3:=hp.cell 3;have c5:=hp.cell 5;simp at c1 c3 c5;have hmp:=zh hp.mp;have hmr:=zh hp.mr;have hn:=hp.inv.small;have HK:=zh (jam g cap s.n n v w zo hn hc1);have mk:=jae;clear hp ht hj hk hr hrow hkn hvn hc1;go_enter func220,ntmps220;go_wp2_with fail;refine zM HH.out ?_;rintro w1 rfl;go_wp2_with (first | (at_lookup;refine kJ rfl _ _ true rfl jaI underlying3 (jdu _) pt (jU s.writes) n rfl hmp.out rfl ?_;simp only [ha,if_true,Option.getD_none,Option.isSome_none]) | (at_lookup;refine kJ rfl _ _ false rfl jaI underlying3 (jdu _) rd (jS s.reads) n rfl hmr.out rfl ?_;simp only [hb,Option.getD_some]) | (go_at_call 304;refine HK.out.mono ?_;rintro e w1 ⟨rfl,rfl⟩));go_ret;exact ⟨rfl,rfl⟩
theorem get_oldM (b:Nat) (i:Int) (w:World) (S:Nat->Prop) (s:VS) (h:PV w b S s) (hl:∃fv wv rv pv rd pt,PVs w b S s fv wv rv pv rd pt/\SrcM w fv wv rd pt S s) (ht:s.there i=true) (v:Int) (hj:wix s.writes i.toNat=none) (hk:s.known i.toNat=some v) (hr:i.toNat∈s.reads) :
 Calls prog 220 #[.pointer (some ⟨b,0,none⟩),.int .i64 i] w fun e w'=>e= .returned (.int .u32 v)/\w=w':=by
 have H:=qP b i w S s h;rw [ht] at H;have HH:=zh H;clear H;obtain ⟨h0,h1,-⟩:=VS.there_iff.1 ht;obtain ⟨n,rfl⟩:=Int.eq_ofNat_of_zero_le h0;simp only [Int.toNat_natCast] at hj hk hr;clear h;obtain ⟨fv,wv,rv,pv,rd,pt,hp,hsrc⟩:=hl;obtain ⟨mb,ml,rfl,hmb,hkn,-⟩:=hsrc;have ha:j6 (jU s.writes) (n:Int)=none:=by rw [yx,hj];rfl
 have hb:j6 (jS s.reads) (n:Int)=some 1:=Qc hr;have c1:=hp.cell 1;have c3:=hp.cell 3;have c5:=hp.cell 5;simp at c1 c3 c5;have hmp:=zh hp.mp;have hmr:=zh hp.mr;have hn:=hp.inv.small;have HK:=zh (VG mb ml n w hmb);rw [show j6 ml (n:Int)=some v by rw [<-hkn n zo];exact hk,Option.getD_some,Option.isSome_some] at HK;have mk:=VW;clear hp ht hj hk hr hmb hkn;go_enter func220,ntmps220;go_wp2_with fail;refine zM HH.out ?_;rintro w1 rfl;go_wp2_with (first | (at_lookup;refine kJ rfl _ _ true rfl jaI underlying3 (jdu _) pt (jU s.writes) n rfl hmp.out rfl ?_;simp only [ha,if_true,Option.getD_none,Option.isSome_none]) | (at_lookup;refine kJ rfl _ _ false rfl jaI underlying3 (jdu _) rd (jS s.reads) n rfl hmr.out rfl ?_;simp only [hb,Option.getD_some]) | (go_at_call 303;refine HK.out.mono ?_;rintro e w1 ⟨rfl,rfl⟩));go_ret;exact ⟨rfl,rfl⟩
theorem qy (w:World) (b:Nat) (cs:Array Value) {T:TypeId} (h:w.heap[b]? =some (.cells cs T)) (o:Nat):w.frozen? ⟨b,o,none⟩=false:=by simp [World.frozen?,h]
theorem Yx:(prog.info? 3).map (fun i=>(i.zero,i.size,i.bytes))=some (some (.int .i64 0),1,8):=by kernel_rfl
def Now (w:World) (b:Nat) (S:Nat->Prop) (t:VS) (w':World):Prop:=PV w' b (upd S w w') t/\Fr S w w'
theorem jA {w:World} {e e2 size g:Nat} {v:Value} {n:Nat} {xs:List Value} {cur:Array Value} {fr:Nat×Nat} (h:w.ownsRow 0 e size v n xs) (hg:w.heap[g]? =some (.cells cur e2 fr)) (hne:e≠e2):v.ownBlock≠some g:=by
 intro hv;rcases h.2 with ⟨rfl,-⟩ | ⟨g',cap,cur',rfl,-,hg',-⟩
 ·simp [Value.ownBlock] at hv
 ·simp [Value.ownBlock] at hv;subst hv;rw [hg] at hg';simp only [Option.some.injEq,Obj.cells.injEq] at hg';exact hne hg'.2.1.symm
theorem kE {w:World} {e size g:Nat} {v:Value} {n:Nat} {xs:List Value} {l:List (Int×Int)} (h:w.ownsRow 0 e size v n xs) (hg:yV w g l):v.ownBlock≠some g:=by
 intro hv;obtain ⟨es,clk,hm,-⟩:=hg;rcases h.2 with ⟨rfl,-⟩ | ⟨g',cap,cur',rfl,-,hg',-⟩
 ·simp [Value.ownBlock] at hv
 ·simp [Value.ownBlock] at hv;subst hv;rw [hm] at hg';simp at hg'
theorem qk {w:World} {b g:Nat} {cs:Array Value} {e:TypeId} {fr:Nat×Nat} {l:List (Int×Int)} (h:w.heap[b]? =some (.cells cs e fr)) (hg:yV w g l):b≠g:=by
 intro hv;obtain ⟨es,clk,hm,-⟩:=hg;subst hv;rw [h] at hm;simp at hm
theorem yV.block {w w':World} {b:Nat} {l:List (Int×Int)} (h:yV w b l) (hb:w'.heap[b]? =w.heap[b]?):yV w' b l:=by
 obtain ⟨es,clk,h1,h2⟩:=h;exact ⟨es,clk,hb.trans h1,h2⟩
theorem yV.lt {w:World} {b:Nat} {l:List (Int×Int)} (h:yV w b l):b < w.heap.size:=by
 obtain ⟨es,clk,h1,h2⟩:=h;exact (Array.getElem?_eq_some_iff.1 h1).1
theorem jt {w:World} {e size:Nat} {v:Value} {n:Nat} {xs:List Value} (h:w.ownsRow 0 e size v n xs) {k:Nat} (hk:v.ownBlock=some k):k < w.heap.size:=(h.lt k hk).2
theorem jh {w w':World} {e size:Nat} {v:Value} {n:Nat} {xs:List Value} (h:w.ownsRow 0 e size v n xs) (hb:∀k,v.ownBlock=some k->w'.heap[k]? =w.heap[k]?):w'.ownsRow 0 e size v n xs:=by
 refine ⟨h.1,?_⟩;rcases h.2 with hn | ⟨g,cap,cur,rfl,hb',hgg,rest⟩
 ·exact .inl hn
 ·exact .inr ⟨g,cap,cur,rfl,hb',(hb g rfl).trans hgg,rest⟩
theorem yy.block {w w':World} {b:Nat} {l:List (Int×Int)} (h:yy w b l) (hb:w'.heap[b]? =w.heap[b]?):yy w' b l:=by
 obtain ⟨es,clk,h1,h2⟩:=h;exact ⟨es,clk,hb.trans h1,h2⟩
theorem yy.lt {w:World} {b:Nat} {l:List (Int×Int)} (h:yy w b l):b < w.heap.size:=by
 obtain ⟨es,clk,h1,h2⟩:=h;exact (Array.getElem?_eq_some_iff.1 h1).1
theorem Src.block {w w':World} {fv wv:Value} {rd pt:Nat} {S S':Nat->Prop} {s s':VS} (h:Src w fv wv rd pt S s) (hn:s'.n=s.n) (hk:s'.known=s.known) (hS:∀k,S k->S' k) (hb:∀k,S k->w.heap[k]?≠none->w'.heap[k]? =w.heap[k]?):Src w' fv wv rd pt S' s':=by
 rcases h with ⟨sv,vals,h1,h2,h3,h4,h5⟩ | ⟨mb,l,h1,h2,h3,h4,h5⟩
 ·refine .inl ⟨sv,vals,h1,?_,?_,fun k hk=>hS k (h4 k hk),h5⟩
  ·rw [hn];exact jh h2 fun k hk=>hb k (h4 k hk) (by rw [Array.getElem?_eq_getElem (jt h2 hk)];simp)
  ·rw [hn,hk];exact h3
 ·refine .inr ⟨mb,l,h1,h2.block (hb mb h4 (by rw [Array.getElem?_eq_getElem h2.lt];simp)),?_,hS mb h4,h5⟩;rw [hn,hk];exact h3
def SrcB (w:World) (rd pt k:Nat):Prop:=(∃cur,w.heap[k]? =some (.cells cur 44 (0,0)))\/(k≠rd/\k≠pt/\∃es clk,w.heap[k]? =some (.map es clk))
theorem SrcB.ne {w:World} {rd pt k:Nat} {lr lp:List (Int×Int)} (h:SrcB w rd pt k) (hr:yV w rd lr) (hp:yV w pt lp):k≠rd/\k≠pt:=by
 rcases h with ⟨cur,h⟩ | ⟨h1,h2,-⟩
 ·exact ⟨qk h hr,qk h hp⟩
 ·exact ⟨h1,h2⟩
theorem SrcB.row {w:World} {rd pt k:Nat} {e size n:Nat} {v:Value} {xs:List Value} (h:SrcB w rd pt k) (hr:w.ownsRow 0 e size v n xs) (hne:e≠44):v.ownBlock≠some k:=by
 rcases h with ⟨cur,h⟩ | ⟨-,-,es,clk,h⟩
 ·exact jA hr h hne
 ·intro hv;rcases hr.2 with ⟨rfl,-⟩ | ⟨g',cap,cur',rfl,-,hg',-⟩
  ·simp [Value.ownBlock] at hv
  ·simp [Value.ownBlock] at hv;subst hv;rw [h] at hg';simp at hg'
theorem SrcB.box {w:World} {rd pt k:Nat} {b:Nat} {cs:Array Value} {T:TypeId} (h:SrcB w rd pt k) (hb:w.heap[b]? =some (.cells cs T)) (hne:T≠44):k≠b:=by
 rintro rfl;rcases h with ⟨cur,h⟩ | ⟨-,-,es,clk,h⟩
 ·rw [h] at hb;simp only [Option.some.injEq,Obj.cells.injEq] at hb;exact hne hb.2.1.symm
 ·rw [h] at hb;simp at hb
theorem Src.elem {w:World} {fv wv:Value} {rd pt:Nat} {S:Nat->Prop} {s:VS} (h:Src w fv wv rd pt S s):∃(F:Nat->Prop),(∀k,F k->S k/\k < w.heap.size/\SrcB w rd pt k)/\
 ∀(w':World) (S':Nat->Prop) (s':VS),s'.n=s.n->s'.known=s.known->(∀k,F k->S' k)->(∀k,F k->w'.heap[k]? =w.heap[k]?)->Src w' fv wv rd pt S' s':=by
 rcases h with ⟨sv,vals,h1,h2,h3,h4,h5⟩ | ⟨mb,l,h1,h2,h3,h4,h5,h6,h7⟩
 ·refine ⟨fun k=>sv.ownBlock=some k,?_,?_⟩
  ·intro k hk;refine ⟨h4 k hk,jt h2 hk,.inl ?_⟩;rcases h2.2 with ⟨rfl,-⟩ | ⟨g,cap,cur,rfl,-,hg,-⟩
   ·simp [Value.ownBlock] at hk
   ·simp [Value.ownBlock] at hk;subst hk;exact ⟨cur,hg⟩
  ·intro w' S' s' hn hk hS hb;exact .inl ⟨sv,vals,h1,by rw [hn];exact jh h2 hb,by rw [hn,hk];exact h3,hS,h5⟩
 ·refine ⟨fun k=>k=mb,?_,?_⟩
  ·rintro k rfl;obtain ⟨es,clk,hm,-⟩:=h2;exact ⟨h4,(Array.getElem?_eq_some_iff.1 hm).1,.inr ⟨h5,h6,es,clk,hm⟩⟩
  ·intro w' S' s' hn hk hS hb;exact .inr ⟨mb,l,h1,h2.block (hb mb rfl),by rw [hn,hk];exact h3,hS mb rfl,h5,h6,h7⟩
theorem jbZ {w w1 w2:World} {b:Nat} {S:Nat->Prop} {s:VS} {fv wv rv pv v':Value} {rd pt n:Nat} (hv:PVs w b S s fv wv rv pv rd pt) (hn:n ∉ s.reads) (hlt:n < s.n) (X:Obj)
 (hm1:yV w1 rd (qV (jS s.reads) n 1)) (hg1:w.grownBy w1 (some rd)) (hown:w2.ownsRow 0 3 1 v' (s.reads.length+1) (kO s.reads++[.int .i64 n]))
 (hg2:(w1.alloc X).grownBy w2 rv.ownBlock) (hnew:∀k,v'.ownBlock=some k->rv.ownBlock=some k\/(w1.alloc X).heap.size<=k) :
 Now w b S { s with reads:=s.reads++[n] } (w2.setCell ⟨b,4,none⟩ v'):=by
 have hblt:b < w.heap.size:=(Array.getElem?_eq_some_iff.1 hv.cells).1;have hbr:=qk hv.cells hv.mr;have hbp:=qk hv.cells hv.mp;have hz1:=hg1.size;have hz2:=hg2.size;simp only [World.size_alloc] at hz2;-- a block that is none of the three is as it was
 have blk:∀k,k < w.heap.size->k≠rd->rv.ownBlock≠some k->k≠b->(w2.setCell ⟨b,4,none⟩ v').heap[k]? =w.heap[k]? :=by
  intro k hk h1 h2 h3;rw [Below.heap_setCell _ _ _ _ (by simpa using h3),hg2.block k (by simp;omega) (fun e=>h2 e.symm),Below.heap_alloc _ _ _ zo,hg1.block k hk (by simpa using h1)]
 have bb:w2.heap[b]? =w.heap[b]? :=by
  rw [hg2.block b (by simp;omega) (fun e=>jA hv.rr hv.cells zd e.symm),Below.heap_alloc _ _ _ zo,hg1.block b hblt (by simpa using hbr)]
 have hrnm:=kE hv.rr hv.mr;have hrnp:=kE hv.rr hv.mp;have F:Fr S w (w2.setCell ⟨b,4,none⟩ v'):=
  ((((Fr.refl S w).grown hg1 (fun k hk=>by cases hk;exact Or.inl hv.inr)).alloc X).grown hg2 (fun k hk=>Or.inl (hv.inrv k hk))).setCell _ _ (Or.inl hv.inb)
 refine ⟨⟨fv,wv,v',pv,rd,pt,?_⟩,F⟩;obtain ⟨SF,hSF,mkSrc⟩:=hv.src.elem;have su:∀k,S k->upd S w (w2.setCell ⟨b,4,none⟩ v') k:=fun k hk=>Or.inl hk;refine ⟨?_,?_,?_,?_,?_,?_,hv.ne,su _ hv.inb,su _ hv.inr,su _ hv.inp,?_,fun k hk=>su _ (hv.inpv k hk),?_,?_⟩
 ·have:=Joins.block_setCell (i:=4) (bb.trans hv.cells) v';rw [this];rfl
 ·rw [XO hn];refine hm1.block ?_;rw [Below.heap_setCell _ _ _ _ (by simpa using fun e=>hbr e.symm),hg2.block rd (by simp;have:=hm1.lt;omega) (fun e=>hrnm e.symm),Below.heap_alloc _ _ _ hm1.lt]
 ·exact hv.mp.block (blk pt hv.mp.lt (fun e=>hv.ne e.symm) hrnp (fun e=>hbp e.symm))
 ·have e1:(s.reads++[n]).length=s.reads.length+1:=zT;have e2:kO (s.reads++[n])=kO s.reads++[.int .i64 n]:=by simp [kO]
  show (w2.setCell _ v').ownsRow 0 _ 1 v' (s.reads++[n]).length (kO (s.reads++[n]));rw [e1,e2];refine jh hown fun k hk=>Below.heap_setCell _ _ _ _ ?_;rcases hnew k hk with h | h
  ·exact fun e=>jA hv.rr hv.cells zd (by rw [h];exact congrArg some e)
  ·simp at h;show k≠b;omega
 ·refine jh hv.pr fun k hk=> ?_;have hkl:=jt hv.pr hk;refine blk k hkl ?_ ?_ ?_
  ·exact fun e=>kE hv.pr hv.mr (by rw [hk,e])
  ·intro e;rcases hv.rr.2 with ⟨h5,-⟩ | ⟨g,cap,cur,h5,-,hg,-⟩
   ·rw [h5] at e;simp [Value.ownBlock] at e
   ·rw [h5] at e;simp [Value.ownBlock] at e;subst e;exact jA hv.pr hg zd hk
  ·exact fun e=>jA hv.pr hv.cells zd (by rw [hk,e])
 ·refine mkSrc _ _ _ rfl rfl (fun k hk=>su k (hSF k hk).1) (fun k hk=> ?_);obtain ⟨-,hkl,hcur⟩:=hSF k hk;exact blk k hkl (hcur.ne hv.mr hv.mp).1 (hcur.row hv.rr zd) (hcur.box hv.cells zd)
 ·intro k hk;rcases hnew k hk with h | h
  ·exact su k (hv.inrv k h)
  ·refine Or.inr ⟨by simp at h;omega,?_⟩;have:=jt hown hk;simpa using this
 ·intro k hk;rcases hk with hk | hk
  ·have:=hv.lt k hk;simp;omega
  ·exact hk.2
 ·have h0:=hv.inv;refine ⟨h0.small,?_,?_,h0.wnd,h0.wlt,h0.ku,h0.wu⟩
  ·simp only [List.nodup_append];exact ⟨h0.rnd,zT,fun a ha c hc=>by simp at hc;subst hc;exact fun e=>hn (e ▸ ha)⟩
  ·intro r hr;simp at hr;rcases hr with hr | rfl
   ·exact h0.rlt r hr
   ·exact hlt
theorem get_newL (b:Nat) (i:Int) (w:World) (S:Nat->Prop) (s:VS) (h:PV w b S s) (hl:∃fv wv rv pv rd pt,PVs w b S s fv wv rv pv rd pt/\SrcL w fv wv S s) (ht:s.there i=true) (v:Int) (hj:wix s.writes i.toNat=none) (hk:s.known i.toNat=some v) (hr:i.toNat ∉ s.reads) :
 Calls prog 220 #[.pointer (some ⟨b,0,none⟩),.int .i64 i] w fun e w'=>e= .returned (.int .u32 v)/\Now w b S { s with reads:=s.reads++[i.toNat] } w':=by
 have H:=qP b i w S s h;rw [ht] at H;have HH:=zh H;clear H;have HP:=zh h;obtain ⟨h0,h1,-⟩:=VS.there_iff.1 ht;obtain ⟨n,rfl⟩:=Int.eq_ofNat_of_zero_le h0;simp only [Int.toNat_natCast] at hj hk hr ⊢;clear h;obtain ⟨fv,wv,rv,pv,rd,pt,hp,hsrc⟩:=hl;have HV:=zh hp;obtain ⟨sv,vals,rfl,hrow,hkn,-⟩:=hsrc;obtain ⟨g,cap,rfl⟩:=Joins.ownsRow_form hrow zo;have hvn:vals[n]? =some v:=by rw [<-hkn n zo];exact hk
 have hc1:w.cell? ⟨g,n,none⟩=some (.int .u32 v):=by rw [hrow.cellAt n zo];simp [hvn]
 have ha:j6 (jU s.writes) (n:Int)=none:=by rw [yx,hj];rfl
 have hb:j6 (jS s.reads) (n:Int)=none:=Kr hr;have c1:=hp.cell 1;have c3:=hp.cell 3;have c4:=hp.cell 4;have c5:=hp.cell 5;simp at c1 c3 c4 c5;have hmp:=zh hp.mp;have hmr:=zh hp.mr;have hrr:=zh hp.rr;have hn:=hp.inv.small;have hrl:=hp.inv.reads_le;have hbr:=qk hp.cells hp.mr;have hblt:b < w.heap.size:=(Array.getElem?_eq_some_iff.1 hp.cells).1;have hrnb:=zh (jA hp.rr hp.cells zd);have hrnm:=zh (kE hp.rr hp.mr);have HK:=zh (jam g cap s.n n v w zo hn hc1);obtain ⟨i0,hi0,hi1,hi2,hi3⟩:=info_parts Yx;have HI:=zh (And.intro hi0 (And.intro hi1 (And.intro hi2 hi3)));have mk:=jae;clear hp ht hj hk hrow hkn hvn hc1 hi0 hi1 hi2 hi3;go_enter func220,ntmps220;go_wp2_with fail;refine zM HH.out ?_;rintro w1 rfl;go_wp2_with (first | (at_lookup;refine kJ rfl _ _ true rfl jaI underlying3 (jdu _) pt (jU s.writes) n rfl hmp.out rfl ?_;simp only [ha,if_true,Option.getD_none,Option.isSome_none]) | (at_lookup;refine kJ rfl _ _ false rfl jaI underlying3 (jdu _) rd (jS s.reads) n rfl hmr.out rfl ?_;simp only [hb,Option.getD_none]) | (go_at_call 304;refine HK.out.mono ?_;rintro e w1 ⟨rfl,rfl⟩) | (at_mapUpdate;refine Qg rfl _ _ _ rfl jaI underlying3 rd (jS s.reads) n 1 rfl hmr.out rfl rfl ?_;intro w1 hm1 hg1;have d4:w1.cell? ⟨b,4,none⟩=some rv:=hg1.cell c4 (by simpa using hbr)) | (at_builtin;go_must (refine km rfl _ _ rfl 3 i0 (.int .i64 0) 1 8 underlying66 HI.out.1 HI.out.2.1 HI.out.2.2.1 HI.out.2.2.2 rfl zd rv s.reads.length (kO s.reads) rfl ((hrr.out.kept hg1 (Or.inr hrnm.out)).alloc _) ⟨w1.heap.size,0,none⟩ 1 1 [.int .i64 n] rfl rfl (cell_one_new _ _ _) ?c1 ?c2 ?c3 ?_);go_must (case c1=>(simp [Value.oneCell']));go_must (case c2=>(unfold maxLen;omega));go_must (case c3=>(omega));go_must (intro v' w2 hown2 hg2 hnew2 hnil2);clear hnil2;go_must (obtain ⟨g',cap',rfl⟩:=Joins.ownsRow_form hown2 zo);go_must (have e4:w2.cell? ⟨b,4,none⟩=some rv:=hg2.cell ((World.cell?_alloc_lt _ _ _ (World.block_lt_of_cell? w1 _ d4)).trans d4) (fun e=>hrnb.out e.symm));go_must (have f4:w2.frozen? ⟨b,4,none⟩=false:=qy w2 b _ (by rw [hg2.block b (by have:=World.block_lt_of_cell? w1 _ d4;simp at this ⊢;omega) (fun e=>hrnb.out e.symm),Below.heap_alloc _ _ _ (World.block_lt_of_cell? w1 _ d4),hg1.block b hblt (by simpa using hbr)];exact HV.out.cells) 4)));go_ret;exact ⟨rfl,jbZ HV.out hr zo _ hm1 hg1 hown2 hg2 hnew2⟩
theorem get_newM (b:Nat) (i:Int) (w:World) (S:Nat->Prop) (s:VS) (h:PV w b S s) (hl:∃fv wv rv pv rd pt,PVs w b S s fv wv rv pv rd pt/\SrcM w fv wv rd pt S s) (ht:s.there i=true) (v:Int) (hj:wix s.writes i.toNat=none) (hk:s.known i.toNat=some v) (hr:i.toNat ∉ s.reads) :
 Calls prog 220 #[.pointer (some ⟨b,0,none⟩),.int .i64 i] w fun e w'=>e= .returned (.int .u32 v)/\Now w b S { s with reads:=s.reads++[i.toNat] } w':=by
 have H:=qP b i w S s h;rw [ht] at H;have HH:=zh H;clear H;have HP:=zh h;obtain ⟨h0,h1,-⟩:=VS.there_iff.1 ht;obtain ⟨n,rfl⟩:=Int.eq_ofNat_of_zero_le h0;simp only [Int.toNat_natCast] at hj hk hr ⊢;clear h;obtain ⟨fv,wv,rv,pv,rd,pt,hp,hsrc⟩:=hl;have HV:=zh hp;obtain ⟨mb,ml,rfl,hmb,hkn,-⟩:=hsrc;have ha:j6 (jU s.writes) (n:Int)=none:=by rw [yx,hj];rfl
 have hb:j6 (jS s.reads) (n:Int)=none:=Kr hr;have c1:=hp.cell 1;have c3:=hp.cell 3;have c4:=hp.cell 4;have c5:=hp.cell 5;simp at c1 c3 c4 c5;have hmp:=zh hp.mp;have hmr:=zh hp.mr;have hrr:=zh hp.rr;have hn:=hp.inv.small;have hrl:=hp.inv.reads_le;have hbr:=qk hp.cells hp.mr;have hblt:b < w.heap.size:=(Array.getElem?_eq_some_iff.1 hp.cells).1;have hrnb:=zh (jA hp.rr hp.cells zd);have hrnm:=zh (kE hp.rr hp.mr);have HK:=zh (VG mb ml n w hmb);rw [show j6 ml (n:Int)=some v by rw [<-hkn n zo];exact hk,Option.getD_some,Option.isSome_some] at HK;obtain ⟨i0,hi0,hi1,hi2,hi3⟩:=info_parts Yx;have HI:=zh (And.intro hi0 (And.intro hi1 (And.intro hi2 hi3)));have mk:=VW;clear hp ht hj hk hmb hkn hi0 hi1 hi2 hi3;go_enter func220,ntmps220;go_wp2_with fail;refine zM HH.out ?_;rintro w1 rfl;go_wp2_with (first | (at_lookup;refine kJ rfl _ _ true rfl jaI underlying3 (jdu _) pt (jU s.writes) n rfl hmp.out rfl ?_;simp only [ha,if_true,Option.getD_none,Option.isSome_none]) | (at_lookup;refine kJ rfl _ _ false rfl jaI underlying3 (jdu _) rd (jS s.reads) n rfl hmr.out rfl ?_;simp only [hb,Option.getD_none]) | (go_at_call 303;refine HK.out.mono ?_;rintro e w1 ⟨rfl,rfl⟩) | (at_mapUpdate;refine Qg rfl _ _ _ rfl jaI underlying3 rd (jS s.reads) n 1 rfl hmr.out rfl rfl ?_;intro w1 hm1 hg1;have d4:w1.cell? ⟨b,4,none⟩=some rv:=hg1.cell c4 (by simpa using hbr)) | (at_builtin;go_must (refine km rfl _ _ rfl 3 i0 (.int .i64 0) 1 8 underlying66 HI.out.1 HI.out.2.1 HI.out.2.2.1 HI.out.2.2.2 rfl zd rv s.reads.length (kO s.reads) rfl ((hrr.out.kept hg1 (Or.inr hrnm.out)).alloc _) ⟨w1.heap.size,0,none⟩ 1 1 [.int .i64 n] rfl rfl (cell_one_new _ _ _) ?c1 ?c2 ?c3 ?_);go_must (case c1=>(simp [Value.oneCell']));go_must (case c2=>(unfold maxLen;omega));go_must (case c3=>(omega));go_must (intro v' w2 hown2 hg2 hnew2 hnil2);clear hnil2;go_must (obtain ⟨g',cap',rfl⟩:=Joins.ownsRow_form hown2 zo);go_must (have e4:w2.cell? ⟨b,4,none⟩=some rv:=hg2.cell ((World.cell?_alloc_lt _ _ _ (World.block_lt_of_cell? w1 _ d4)).trans d4) (fun e=>hrnb.out e.symm));go_must (have f4:w2.frozen? ⟨b,4,none⟩=false:=qy w2 b _ (by rw [hg2.block b (by have:=World.block_lt_of_cell? w1 _ d4;simp at this ⊢;omega) (fun e=>hrnb.out e.symm),Below.heap_alloc _ _ _ (World.block_lt_of_cell? w1 _ d4),hg1.block b hblt (by simpa using hbr)];exact HV.out.cells) 4)));go_ret;exact ⟨rfl,jbZ HV.out hr zo _ hm1 hg1 hown2 hg2 hnew2⟩
theorem PV.mono {w:World} {b:Nat} {S S':Nat->Prop} {s:VS} (h:PV w b S s) (hS:∀k,S k->S' k) (hlt:∀k,S' k->k < w.heap.size):PV w b S' s:=by
 obtain ⟨fv,wv,rv,pv,rd,pt,hv⟩:=h;refine ⟨fv,wv,rv,pv,rd,pt,hv.cells,hv.mr,hv.mp,hv.rr,hv.pr,?_,hv.ne,hS _ hv.inb,hS _ hv.inr,hS _ hv.inp,fun k hk=>hS _ (hv.inrv k hk),fun k hk=>hS _ (hv.inpv k hk),hlt,hv.inv⟩;exact hv.src.block rfl rfl hS (fun _ _ _=>rfl)
theorem PV.lt {w:World} {b:Nat} {S:Nat->Prop} {s:VS} (h:PV w b S s):∀k,S k->k < w.heap.size:=by
 obtain ⟨fv,wv,rv,pv,rd,pt,hv⟩:=h;exact hv.lt
theorem PV.inv {w:World} {b:Nat} {S:Nat->Prop} {s:VS} (h:PV w b S s):s.Inv:=by
 obtain ⟨fv,wv,rv,pv,rd,pt,hv⟩:=h;exact hv.inv
theorem Now.refl {w:World} {b:Nat} {S:Nat->Prop} {s:VS} (h:PV w b S s):Now w b S s w:=
 ⟨h.mono (fun k hk=>Or.inl hk) (fun k hk=>by rcases hk with hk | hk;exact h.lt k hk;exact hk.2),Fr.refl _ _⟩
theorem PV.keep {w w':World} {b:Nat} {S T:Nat->Prop} {s:VS} (h:PV w b S s) (F:Fr T w w') (hd:∀k,S k->¬T k):PV w' b S s:=by
 obtain ⟨fv,wv,rv,pv,rd,pt,hv⟩:=h;have blk:∀k,S k->w'.heap[k]? =w.heap[k]? :=fun k hk=>F.block k (hv.lt k hk) (hd k hk);refine ⟨fv,wv,rv,pv,rd,pt,(blk b hv.inb).trans hv.cells,hv.mr.block (blk _ hv.inr),hv.mp.block (blk _ hv.inp),jh hv.rr fun k hk=>blk k (hv.inrv k hk),jh hv.pr fun k hk=>blk k (hv.inpv k hk),?_,hv.ne,hv.inb,hv.inr,hv.inp,hv.inrv,hv.inpv,fun k hk=>Nat.lt_of_lt_of_le (hv.lt k hk) F.size,hv.inv⟩;exact hv.src.block rfl rfl (fun k hk=>hk) (fun k hk _=>blk k hk)
theorem now_miss {w:World} {b:Nat} {S:Nat->Prop} {s:VS} {fv wv rv pv:Value} {rd pt:Nat} (hv:PVs w b S s fv wv rv pv rd pt) (n:Nat) :
 Now w b S { s with miss:=some n } ((w.setCell ⟨b,7,none⟩ (.int .i64 n)).setCell ⟨b,8,none⟩ (.bool true)):=by
 have hb1:=Joins.block_setCell (i:=7) hv.cells (.int .i64 n);have hb2:=Joins.block_setCell (i:=8) hb1 (.bool true);have blk:∀k,k≠b->((w.setCell ⟨b,7,none⟩ (.int .i64 n)).setCell ⟨b,8,none⟩ (.bool true)).heap[k]? =w.heap[k]? :=fun k hk=>by
  rw [Below.heap_setCell _ _ _ _ (by simpa using hk),Below.heap_setCell _ _ _ _ (by simpa using hk)]
 have F:Fr S w ((w.setCell ⟨b,7,none⟩ (.int .i64 n)).setCell ⟨b,8,none⟩ (.bool true)):=(((Fr.refl S w).setCell ⟨b,7,none⟩ _ (Or.inl hv.inb)).setCell ⟨b,8,none⟩ _ (Or.inl hv.inb))
 have hbr:=qk hv.cells hv.mr;have hbp:=qk hv.cells hv.mp;obtain ⟨SF,hSF,mkSrc⟩:=hv.src.elem;generalize (w.setCell ⟨b,7,none⟩ (.int .i64 n)).setCell ⟨b,8,none⟩ (.bool true)=w' at*
 have su:∀k,S k->upd S w w' k:=fun k hk=>Or.inl hk;refine ⟨⟨fv,wv,rv,pv,rd,pt,?_,hv.mr.block (blk _ (Ne.symm hbr)),hv.mp.block (blk _ (Ne.symm hbp)),jh hv.rr fun k hk=>blk k ?_,jh hv.pr fun k hk=>blk k ?_,?_,hv.ne,su _ hv.inb,su _ hv.inr,su _ hv.inp,fun k hk=>su _ (hv.inrv k hk),fun k hk=>su _ (hv.inpv k hk),?_,?_⟩,F⟩
 ·rw [hb2];rfl
 ·rintro rfl;exact jA hv.rr hv.cells zd hk
 ·rintro rfl;exact jA hv.pr hv.cells zd hk
 ·exact mkSrc _ _ _ rfl rfl (fun k hk=>su k (hSF k hk).1) (fun k hk=>blk k ((hSF k hk).2.2.box hv.cells zd))
 ·intro k hk;rcases hk with hk | hk
  ·exact Nat.lt_of_lt_of_le (hv.lt k hk) F.size
  ·exact hk.2
 ·exact ⟨hv.inv.small,hv.inv.rnd,hv.inv.rlt,hv.inv.wnd,hv.inv.wlt,hv.inv.ku,hv.inv.wu⟩
theorem get_miss (b:Nat) (i:Int) (w:World) (S:Nat->Prop) (s:VS) (h:PV w b S s) (hl:∃fv wv rv pv rd pt,PVs w b S s fv wv rv pv rd pt/\SrcM w fv wv rd pt S s) (ht:s.there i=true) (hj:wix s.writes i.toNat=none) (hk:s.known i.toNat=none) :
 Calls prog 220 #[.pointer (some ⟨b,0,none⟩),.int .i64 i] w fun e w'=>e= .returned (.int .u32 0)/\Now w b S { s with miss:=some i.toNat } w':=by
 have H:=qP b i w S s h;rw [ht] at H;have HH:=zh H;clear H;obtain ⟨h0,h1,-⟩:=VS.there_iff.1 ht;obtain ⟨n,rfl⟩:=Int.eq_ofNat_of_zero_le h0;simp only [Int.toNat_natCast] at hj hk ⊢;clear h;obtain ⟨fv,wv,rv,pv,rd,pt,hp,hsrc⟩:=hl;obtain ⟨mb,ml,rfl,hmb,hkn,-⟩:=hsrc;have ha:j6 (jU s.writes) (n:Int)=none:=by rw [yx,hj];rfl
 have c1:=hp.cell 1;have c5:=hp.cell 5;have c7:=hp.cell 7;have c8:=hp.cell 8;simp at c1 c5 c7 c8;have f7:=qy w b _ hp.cells 7;have f8:=qy w b _ hp.cells 8;have hmp:=zh hp.mp;have hn:=hp.inv.small;have HK:=zh (VG mb ml n w hmb);rw [show j6 ml (n:Int)=none by rw [<-hkn n zo];exact hk,Option.getD_none,Option.isSome_none] at HK;have mk:=VW;have HN:=zh (now_miss hp n);clear hp ht hj hk hmb hkn;go_enter func220,ntmps220;go_wp2_with fail;refine zM HH.out ?_;rintro w1 rfl;go_wp2_with (first | (at_lookup;refine kJ rfl _ _ true rfl jaI underlying3 (jdu _) pt (jU s.writes) n rfl hmp.out rfl ?_;simp only [ha,if_true,Option.getD_none,Option.isSome_none]) | (go_at_call 303;refine HK.out.mono ?_;rintro e w1 ⟨rfl,rfl⟩));go_ret;exact ⟨rfl,HN.out⟩
theorem yU (b:Nat) (i:Int) (w:World) (S:Nat->Prop) (s:VS) (h:PV w b S s) :
 Calls prog 220 #[.pointer (some ⟨b,0,none⟩),.int .i64 i] w fun e w'=>e= .returned (.int .u32 (s.get i).1)/\Now w b S (s.get i).2 w':=by
 cases ht:s.there i with
 | false=>
  have e:s.get i=(0,s):=by simp [VS.get,ht]
  rw [e];exact (get_no b i w S s h ht).mono fun e w' ⟨h1,h2⟩=>⟨h1,h2 ▸ Now.refl h⟩
 | true=>
  obtain ⟨h0,h1,-⟩:=VS.there_iff.1 ht;cases hj:wix s.writes i.toNat with
  | some j=>
   obtain ⟨hjl,v,hv⟩:=J6 hj;have e:s.get i=(v,s):=by simp [VS.get,ht,VS.wr,hj,hv]
   rw [e];exact (get_put b i w S s h ht j v hj hv).mono fun e w' ⟨h1,h2⟩=>⟨h1,h2 ▸ Now.refl h⟩
  | none=>
   obtain ⟨fv,wv,rv,pv,rd,pt,hv⟩:=id h;rcases id hv.src with hs | hs
   ·obtain ⟨v,hk⟩:∃v,s.known i.toNat=some v:=by
     obtain ⟨sv,vals,-,hrow,hkn,-⟩:=hs;have hl:=hrow.1;simp at hl;exact ⟨vals[i.toNat]'(by omega),by rw [hkn _ zo];exact List.getElem?_eq_getElem zo⟩
    by_cases hr:i.toNat∈s.reads
    ·have e:s.get i=(v,s):=by simp [VS.get,ht,VS.wr,hj,hk,VS.read1,hr]
     rw [e];exact (get_oldL b i w S s h ⟨fv,wv,rv,pv,rd,pt,hv,hs⟩ ht v hj hk hr).mono fun e w' ⟨h1,h2⟩=>⟨h1,h2 ▸ Now.refl h⟩
    ·have e:s.get i=(v,{ s with reads:=s.reads++[i.toNat] }):=by simp [VS.get,ht,VS.wr,hj,hk,VS.read1,hr]
     rw [e];exact get_newL b i w S s h ⟨fv,wv,rv,pv,rd,pt,hv,hs⟩ ht v hj hk hr
   ·cases hk:s.known i.toNat with
    | none=>
     have e:s.get i=(0,{ s with miss:=some i.toNat }):=by simp [VS.get,ht,VS.wr,hj,hk]
     rw [e];exact get_miss b i w S s h ⟨fv,wv,rv,pv,rd,pt,hv,hs⟩ ht hj hk
    | some v=>
     by_cases hr:i.toNat∈s.reads
     ·have e:s.get i=(v,s):=by simp [VS.get,ht,VS.wr,hj,hk,VS.read1,hr]
      rw [e];exact (get_oldM b i w S s h ⟨fv,wv,rv,pv,rd,pt,hv,hs⟩ ht v hj hk hr).mono fun e w' ⟨h1,h2⟩=>⟨h1,h2 ▸ Now.refl h⟩
     ·have e:s.get i=(v,{ s with reads:=s.reads++[i.toNat] }):=by simp [VS.get,ht,VS.wr,hj,hk,VS.read1,hr]
      rw [e];exact get_newM b i w S s h ⟨fv,wv,rv,pv,rd,pt,hv,hs⟩ ht v hj hk hr

theorem PVs.rebuild {w w':World} {b:Nat} {S:Nat->Prop} {s s':VS} {fv wv rv pv rv' pv':Value} {rd pt:Nat} (hv:PVs w b S s fv wv rv pv rd pt) (F:Fr S w w')
 (hc:w'.heap[b]? =some (.cells #[.int .i64 s'.n,fv,wv,.map (some rd),rv',.map (some pt),pv',.int .i64 (QK s'),.bool s'.miss.isSome] 252))
 (hmr:yV w' rd (jS s'.reads)) (hmp:yV w' pt (jU s'.writes))
 (hrr:w'.ownsRow 0 3 1 rv' s'.reads.length (kO s'.reads)) (hpr:w'.ownsRow 0 106 2 pv' s'.writes.length (jN s'.writes))
 (hir:∀k,rv'.ownBlock=some k->S k\/w.heap.size<=k) (hip:∀k,pv'.ownBlock=some k->S k\/w.heap.size<=k)
 (hsrc:∀k,k < w.heap.size->SrcB w rd pt k->w'.heap[k]? =w.heap[k]?)
 (hn:s'.n=s.n) (hk:s'.known=s.known) (hi:s'.Inv):Now w b S s' w':=by
 obtain ⟨SF,hSF,mkSrc⟩:=hv.src.elem;have su:∀k,S k->upd S w w' k:=fun k hk=>Or.inl hk;refine ⟨⟨fv,wv,rv',pv',rd,pt,hc,hmr,hmp,hrr,hpr,?_,hv.ne,su _ hv.inb,su _ hv.inr,su _ hv.inp,?_,?_,?_,hi⟩,F⟩
 ·exact mkSrc _ _ _ hn hk (fun k hk=>su k (hSF k hk).1) (fun k hk=>hsrc k (hSF k hk).2.1 (hSF k hk).2.2)
 ·intro k hk;rcases hir k hk with h | h
  ·exact Or.inl h
  ·exact Or.inr ⟨h,jt hrr hk⟩
 ·intro k hk;rcases hip k hk with h | h
  ·exact Or.inl h
  ·exact Or.inr ⟨h,jt hpr hk⟩
 ·intro k hk;rcases hk with hk | hk
  ·exact Nat.lt_of_lt_of_le (hv.lt k hk) F.size
  ·exact hk.2
theorem put_no (b:Nat) (i v:Int) (w:World) (S:Nat->Prop) (s:VS) (h:PV w b S s) (ht:s.there i=false) :
 Calls prog 251 #[.pointer (some ⟨b,0,none⟩),.int .i64 i,.int .u32 v] w fun e w'=>e= .returned (.tuple #[])/\w=w':=by
 have H:=qP b i w S s h;rw [ht] at H;have HH:=zh H;clear H;go_enter func251,ntmps251;go_wp2_with fail;refine zM HH.out ?_;rintro w1 rfl;go_wp2;refine bodyPost_ret (results_none rfl _ _ _) rfl ?_;exact ⟨rfl,rfl⟩
theorem VO {l:List (Nat×Int)} {j i:Nat} {u v:Int} (h:l[j]? =some (i,u)):jN (l.set j (i,v))=(jN l).set (j*2+1) (.int .u32 v):=by
 induction l generalizing j with
 | nil=>simp at h
 | cons p r ih=>
  cases j with
  | zero=>simp at h;subst h;simp [jN]
  | succ j=>
   have:=ih (j:=j) (by simpa using h);unfold jN at this ⊢;have e1:(j+1)*2+1=(j*2+1)+2:=zo;rw [e1];simp [this]
theorem put_old (b:Nat) (i v:Int) (w:World) (S:Nat->Prop) (s:VS) (h:PV w b S s) (hv:VS.U32 v) (ht:s.there i=true) (j:Nat) (hj:wix s.writes i.toNat=some j) :
 Calls prog 251 #[.pointer (some ⟨b,0,none⟩),.int .i64 i,.int .u32 v] w fun e w'=>e= .returned (.tuple #[])/\Now w b S (s.put i v) w':=by
 have H:=qP b i w S s h;rw [ht] at H;have HH:=zh H;clear H;have hinv:=h.inv.put i v hv;have hput:s.put i v={ s with writes:=s.writes.set j (i.toNat,v) }:=by simp [VS.put,ht,VS.setW,hj]
 rw [hput] at hinv ⊢;obtain ⟨h0,h1,-⟩:=VS.there_iff.1 ht;obtain ⟨n,rfl⟩:=Int.eq_ofNat_of_zero_le h0;simp only [Int.toNat_natCast] at hj hinv ⊢;obtain ⟨fv,wv,rv,pv,rd,pt,hp⟩:=h;obtain ⟨hjl,u,hu⟩:=J6 hj;obtain ⟨g,cap,rfl⟩:=Joins.ownsRow_form hp.pr zo;have hc1:=(hp.pr.cellAt (j*2+1) zo).trans (jaa hu).2;have hf1:=hp.pr.frozenAt (j*2+1);have ha:j6 (jU s.writes) (n:Int)=some (j:Int):=by rw [yx,hj];rfl
 have c5:=hp.cell 5;have c6:=hp.cell 6;simp at c5 c6;have hmp:=zh hp.mp;have hw:=hp.inv.writes_le;have hn:=hp.inv.small;have HV:=zh hp;have hU:=zh hu;have HI:=zh hinv;have HJ:=zh hj;clear hp ht hj hv hu hinv hput;go_enter func251,ntmps251;go_wp2_with fail;refine zM HH.out ?_;rintro w1 rfl;go_wp2_with (at_lookup;refine kJ rfl _ _ true rfl jaI underlying3 (jdu _) pt (jU s.writes) n rfl hmp.out rfl ?_;simp only [ha,if_true,Option.getD_some,Option.isSome_some]);go_end0;refine ⟨rfl,HV.out.rebuild ((Fr.refl _ _).setCell _ _ (Or.inl (HV.out.inpv g rfl))) ?_ ?_ ?_ ?_ ?_ (fun k hk=>Or.inl (HV.out.inrv k hk)) (fun k hk=>Or.inl (HV.out.inpv k hk)) ?_ rfl rfl HI.out⟩
 ·have hne:b≠g:=fun e=>jA HV.out.pr HV.out.cells zd (congrArg some e.symm);exact (Below.heap_setCell w ⟨g,j*2+1,none⟩ _ b hne).trans HV.out.cells
 ·exact HV.out.mr.block (Below.heap_setCell _ _ _ _ (fun e=>kE HV.out.pr HV.out.mr (congrArg some e.symm)))
 ·show yV _ pt (jU (s.writes.set j (n,v)));rw [XR v HJ.out];exact HV.out.mp.block (Below.heap_setCell _ _ _ _ (fun e=>kE HV.out.pr HV.out.mp (congrArg some e.symm)))
 ·refine jh HV.out.rr fun k hk=>Below.heap_setCell _ _ _ _ ?_;rintro rfl;rcases HV.out.pr.2 with ⟨h5,-⟩ | ⟨g',cap',cur,h5,-,hg,-⟩
  ·simp at h5
  ·simp at h5;obtain ⟨rfl,-⟩:=h5;exact jA HV.out.rr hg zd hk
 ·show World.ownsRow _ 0 _ 2 _ (s.writes.set j (n,v)).length (jN (s.writes.set j (n,v)));rw [VO hU.out,List.length_set];exact (HV.out.pr.stored _ _).1
 ·rintro k hk hcur;refine Below.heap_setCell _ _ _ _ ?_;rintro rfl;exact hcur.row HV.out.pr zd rfl
theorem QX:(prog.info? 106).map (fun i=>(i.zero,i.size,i.bytes))=some (some (.agg #[.int .i64 0,.int .u32 0]),2,16):=by kernel_rfl
theorem jel {w w1 w2:World} {b:Nat} {S:Nat->Prop} {s:VS} {fv wv rv pv:Value} {rd pt n g' cap':Nat} {T:TypeId} (hv:PVs w b S s fv wv rv pv rd pt) (hg1:w.grownBy w1 (some pt))
 (hg2:(w1.alloc (.cells #[.int .i64 n,.int .u32 0] T)).grownBy w2 pv.ownBlock) (hown:w2.ownsRow 0 106 2 (.slice (some ⟨g',0,none⟩) (s.writes.length+1) cap') (s.writes.length+1) (jN s.writes++[.int .i64 n,.int .u32 0]))
 (hnew:∀k,(Value.slice (some ⟨g',0,none⟩) (s.writes.length+1) cap').ownBlock=some k->pv.ownBlock=some k\/(w1.alloc (.cells #[.int .i64 n,.int .u32 0] T)).heap.size<=k) :
 w2.cell? ⟨b,6,none⟩=some pv/\w2.frozen? ⟨b,6,none⟩=false/\w2.cell? ⟨g',s.writes.length*2+1,none⟩=some (.int .u32 0)/\w2.frozen? ⟨g',s.writes.length*2+1,none⟩=false/\b≠g':=by
 have hblt:b < w.heap.size:=(Array.getElem?_eq_some_iff.1 hv.cells).1;have hz1:=hg1.size;have bb:w2.heap[b]? =w.heap[b]? :=by
  rw [hg2.block b (by simp;omega) (fun e=>jA hv.pr hv.cells zd e.symm),Below.heap_alloc _ _ _ zo,hg1.block b hblt (by simpa using qk hv.cells hv.mp)]
 have hc:=bb.trans hv.cells;refine ⟨by rw [jd hc];rfl,qy _ _ _ hc _,?_,hown.frozenAt _,?_⟩
 ·rw [hown.cellAt _ zo];have hl:=JI s.writes;rw [List.getElem?_append_right zo,hl];have:s.writes.length*2+1 - s.writes.length*2=1:=zo;rw [this];rfl
 ·rintro rfl;rcases hnew b rfl with h | h
  ·exact jA hv.pr hv.cells zd h
  ·simp at h;omega
theorem VP (l:List (Nat×Int)) (n:Nat) (v:Int):jN (l++[(n,v)])=jN l++[.int .i64 n,.int .u32 v]:=by simp [jN]
theorem now_put {w w1 w2:World} {b:Nat} {S:Nat->Prop} {s:VS} {fv wv rv pv:Value} {rd pt n g' cap':Nat} {v:Int} {T:TypeId} (hv:PVs w b S s fv wv rv pv rd pt) (hg1:w.grownBy w1 (some pt))
 (hg2:(w1.alloc (.cells #[.int .i64 n,.int .u32 0] T)).grownBy w2 pv.ownBlock) (hown:w2.ownsRow 0 106 2 (.slice (some ⟨g',0,none⟩) (s.writes.length+1) cap') (s.writes.length+1) (jN s.writes++[.int .i64 n,.int .u32 0]))
 (hnew:∀k,(Value.slice (some ⟨g',0,none⟩) (s.writes.length+1) cap').ownBlock=some k->pv.ownBlock=some k\/(w1.alloc (.cells #[.int .i64 n,.int .u32 0] T)).heap.size<=k)
 (hm1:yV w1 pt (qV (jU s.writes) n s.writes.length)) (hbg:b≠g') (_hn:n ∉ s.writes.map (·.1)) (hj:wix s.writes n=none) (hi:VS.Inv { s with writes:=s.writes++[(n,v)] }) :
 Now w b S { s with writes:=s.writes++[(n,v)] } ((w2.setCell ⟨b,6,none⟩ (.slice (some ⟨g',0,none⟩) (s.writes.length+1) cap')).setCell ⟨g',s.writes.length*2+1,none⟩ (.int .u32 v)):=by
 have hblt:b < w.heap.size:=(Array.getElem?_eq_some_iff.1 hv.cells).1;have hbr:=qk hv.cells hv.mr;have hbp:=qk hv.cells hv.mp;have hz1:=hg1.size;have hz2:=hg2.size;simp only [World.size_alloc] at hz2;have hg':=hnew g' rfl;have hins:S g'\/w.heap.size<=g':=by
  rcases hg' with h | h
  ·exact Or.inl (hv.inpv _ h)
  ·simp at h;exact Or.inr zo
 -- a block that is none of these is as it was
 have blk2:∀k,k < w.heap.size->k≠pt->pv.ownBlock≠some k->w2.heap[k]? =w.heap[k]? :=by
  intro k hk h1 h2;rw [hg2.block k (by simp;omega) (fun e=>h2 e.symm),Below.heap_alloc _ _ _ zo,hg1.block k hk (by simpa using h1)]
 have blk:∀k,k < w.heap.size->k≠pt->pv.ownBlock≠some k->k≠b->((w2.setCell ⟨b,6,none⟩ (.slice (some ⟨g',0,none⟩) (s.writes.length+1) cap')).setCell ⟨g',s.writes.length*2+1,none⟩ (.int .u32 v)).heap[k]? =w.heap[k]? :=by
  intro k hk h1 h2 h3;have hkg:k≠g':=by
   rintro rfl;rcases hg' with h | h
   ·exact h2 h
   ·simp at h;omega
  rw [Below.heap_setCell _ _ _ _ (by simpa using hkg),Below.heap_setCell _ _ _ _ (by simpa using h3)];exact blk2 k hk h1 h2
 have hpnm:=kE hv.pr hv.mp;have hpnr:=kE hv.pr hv.mr;have bb:w2.heap[b]? =w.heap[b]? :=blk2 b hblt hbp (jA hv.pr hv.cells zd);have hc2:=Joins.block_setCell (i:=6) (bb.trans hv.cells) (.slice (some ⟨g',0,none⟩) (s.writes.length+1) cap');have F:Fr S w ((w2.setCell ⟨b,6,none⟩ (.slice (some ⟨g',0,none⟩) (s.writes.length+1) cap')).setCell ⟨g',s.writes.length*2+1,none⟩ (.int .u32 v)):=
  ((((((Fr.refl S w).grown hg1 (fun k hk=>by cases hk;exact Or.inl hv.inp)).alloc _).grown hg2 (fun k hk=>Or.inl (hv.inpv k hk))).setCell _ _ (Or.inl hv.inb)).setCell _ _ hins)
 refine hv.rebuild (pv':= .slice (some ⟨g',0,none⟩) (s.writes.length+1) cap') F ?_ ?_ ?_ ?_ ?_ (fun k hk=>Or.inl (hv.inrv k hk)) ?_ ?_ rfl rfl hi
 ·rw [Below.heap_setCell _ _ _ _ (by simpa using hbg),hc2];rfl
 ·refine hv.mr.block (blk rd hv.mr.lt hv.ne hpnr (fun e=>hbr e.symm))
 ·show yV _ pt (jU (s.writes++[(n,v)]));rw [XS v hj];have hpg:pt≠g':=by
   rintro rfl;rcases hg' with h | h
   ·exact hpnm h
   ·simp at h;have:=hv.mp.lt;omega
  refine hm1.block ?_;rw [Below.heap_setCell _ _ _ _ (by simpa using hpg),Below.heap_setCell _ _ _ _ (by simpa using fun e=>hbp e.symm),hg2.block pt (by simp;have:=hm1.lt;omega) (fun e=>hpnm e.symm),Below.heap_alloc _ _ _ hm1.lt]
 ·refine jh hv.rr fun k hk=>blk k (jt hv.rr hk) ?_ ?_ ?_
  ·exact fun e=>kE hv.rr hv.mp (by rw [hk,e])
  ·intro e;rcases hv.pr.2 with ⟨h5,-⟩ | ⟨g,cap,cur,h5,-,hg,-⟩
   ·rw [h5] at e;simp [Value.ownBlock] at e
   ·rw [h5] at e;simp [Value.ownBlock] at e;subst e;exact jA hv.rr hg zd hk
  ·exact fun e=>jA hv.rr hv.cells zd (by rw [hk,e])
 ·have h1:(w2.setCell ⟨b,6,none⟩ (.slice (some ⟨g',0,none⟩) (s.writes.length+1) cap')).ownsRow 0 106 2 (.slice (some ⟨g',0,none⟩) (s.writes.length+1) cap') (s.writes.length+1) (jN s.writes++[.int .i64 n,.int .u32 0]):=
   jh hown fun k hk=>Below.heap_setCell _ _ _ _ (by simp [Value.ownBlock] at hk;subst hk;simpa using fun e=>hbg e.symm)
  have h2:=(h1.stored (s.writes.length*2+1) (.int .u32 v)).1;have h3:(jN s.writes++[Value.int .i64 n,.int .u32 0]).set (s.writes.length*2+1) (.int .u32 v)=jN (s.writes++[(n,v)]):=by
   have hl:=JI s.writes;rw [VP,List.set_append_right _ _ zo,hl];have:s.writes.length*2+1 - s.writes.length*2=1:=zo;rw [this];rfl
  rw [h3] at h2;simpa using h2
 ·intro k hk;simp [Value.ownBlock] at hk;subst hk;exact hins
 ·rintro k hk hcur;exact blk k hk (hcur.ne hv.mr hv.mp).2 (hcur.row hv.pr zd) (hcur.box hv.cells zd)
theorem put_new (b:Nat) (i v:Int) (w:World) (S:Nat->Prop) (s:VS) (h:PV w b S s) (hv:VS.U32 v) (ht:s.there i=true) (hj:wix s.writes i.toNat=none) :
 Calls prog 251 #[.pointer (some ⟨b,0,none⟩),.int .i64 i,.int .u32 v] w fun e w'=>e= .returned (.tuple #[])/\Now w b S (s.put i v) w':=by
 have H:=qP b i w S s h;rw [ht] at H;have HH:=zh H;clear H;have hinv:=h.inv.put i v hv;have hput:s.put i v={ s with writes:=s.writes++[(i.toNat,v)] }:=by simp [VS.put,ht,VS.setW,hj]
 rw [hput] at hinv ⊢;obtain ⟨h0,h1,-⟩:=VS.there_iff.1 ht;obtain ⟨n,rfl⟩:=Int.eq_ofNat_of_zero_le h0;simp only [Int.toNat_natCast] at hj hinv ⊢;obtain ⟨fv,wv,rv,pv,rd,pt,hp⟩:=h;have hlen:∃a m c,pv= .slice a m c/\m=s.writes.length:=by
  rcases hp.pr.2 with ⟨h5,h6⟩ | ⟨g',cap',cur,h5,-⟩
  ·exact ⟨_,_,_,h5,h6.symm⟩
  ·exact ⟨_,_,_,h5,rfl⟩
 obtain ⟨pa,pm,pc,rfl,rfl⟩:=hlen;have ha:j6 (jU s.writes) (n:Int)=none:=by rw [yx,hj];rfl
 have c5:=hp.cell 5;have c6:=hp.cell 6;simp at c5 c6;have hmp:=zh hp.mp;have hpr:=zh hp.pr;have hw:=hp.inv.writes_le;have hn:=hp.inv.small;have hbp:=qk hp.cells hp.mp;have hblt:b < w.heap.size:=(Array.getElem?_eq_some_iff.1 hp.cells).1;have hpnb:=zh (jA hp.pr hp.cells zd);have hpnm:=zh (kE hp.pr hp.mp);have HV:=zh hp;have HI:=zh hinv;have HJ:=zh hj;obtain ⟨i0,hi0,hi1,hi2,hi3⟩:=info_parts QX;have HT:=zh (And.intro hi0 (And.intro hi1 (And.intro hi2 hi3)));clear hp ht hj hv hinv hput hi0 hi1 hi2 hi3;go_enter func251,ntmps251;go_wp2_with fail;refine zM HH.out ?_;rintro w1 rfl;go_wp2_with (first | (at_lookup;refine kJ rfl _ _ true rfl jaI underlying3 (jdu _) pt (jU s.writes) n rfl hmp.out rfl ?_;simp only [ha,if_true,Option.getD_none,Option.isSome_none]) | (at_mapUpdate;go_must (refine Qg rfl _ _ _ rfl jaI underlying3 pt (jU s.writes) n s.writes.length rfl hmp.out rfl rfl ?_);go_must (intro w1 hm1 hg1);go_must (have d6:w1.cell? ⟨b,6,none⟩=some (.slice pa s.writes.length pc):=hg1.cell c6 (by simpa using hbp))) | (at_builtin;go_must (refine km rfl _ _ rfl 106 i0 (.agg #[.int .i64 0,.int .u32 0]) 2 16 underlying45 HT.out.1 HT.out.2.1 HT.out.2.2.1 HT.out.2.2.2 rfl zd (.slice pa s.writes.length pc) s.writes.length (jN s.writes) rfl ((hpr.out.kept hg1 (Or.inr hpnm.out)).alloc _) ⟨w1.heap.size,0,none⟩ 1 1 [.int .i64 n,.int .u32 0] rfl rfl (World.news_of_block (heap_alloc_new w1 _)) ?c1 ?c2 ?c3 ?_);go_must (case c1=>(simp [Value.oneCell']));go_must (case c2=>(unfold maxLen;omega));go_must (case c3=>(omega));go_must (intro v' w2 hown2 hg2 hnew2 hnil2);clear hnil2;go_must (obtain ⟨g',cap',rfl⟩:=Joins.ownsRow_form hown2 zo);go_must (obtain ⟨e6,f6,x7,f7,hbg⟩:=jel HV.out hg1 hg2 hown2 hnew2)));go_end0;exact ⟨rfl,now_put HV.out hg1 hg2 hown2 hnew2 hm1 hbg (QL.1 HJ.out) HJ.out HI.out⟩
theorem ke (b:Nat) (i v:Int) (w:World) (S:Nat->Prop) (s:VS) (h:PV w b S s) (hv:VS.U32 v) :
 Calls prog 251 #[.pointer (some ⟨b,0,none⟩),.int .i64 i,.int .u32 v] w fun e w'=>e= .returned (.tuple #[])/\Now w b S (s.put i v) w':=by
 cases ht:s.there i with
 | false=>
  have e:s.put i v=s:=by simp [VS.put,ht]
  rw [e];exact (put_no b i v w S s h ht).mono fun e w' ⟨h1,h2⟩=>⟨h1,h2 ▸ Now.refl h⟩
 | true=>
  cases hj:wix s.writes i.toNat with
  | some j=>exact put_old b i v w S s h hv ht j hj
  | none=>exact put_new b i v w S s h hv ht hj

structure YZ (R:World->Nat->(Nat->Prop)->VS->Prop):Prop where
 keep:∀{w w':World} {b:Nat} {S T:Nat->Prop} {s:VS},R w b S s->Fr T w w'->(∀k,S k->¬T k)->R w' b S s
 lt:∀{w:World} {b:Nat} {S:Nat->Prop} {s:VS},R w b S s->∀k,S k->k < w.heap.size
 inv:∀{w:World} {b:Nat} {S:Nat->Prop} {s:VS},R w b S s->s.Inv
 mono:∀{w:World} {b:Nat} {S S':Nat->Prop} {s:VS},R w b S s->(∀k,S k->S' k)->(∀k,S' k->k < w.heap.size)->R w b S' s
theorem je:YZ PV:=⟨PV.keep,PV.lt,PV.inv,PV.mono⟩
structure VSt (R:World->Nat->(Nat->Prop)->VS->Prop) (w0:World) (b:Nat) (S:Nat->Prop) (Ls:List Nat) (s:VS) (w:World):Prop where
 ex:∃S1,R w b S1 s/\(∀k,S1 k->S k\/w0.heap.size<=k)/\(∀L∈Ls,¬S1 L)
 fr:Fr S w0 w
 ls:∀L∈Ls,L < w.heap.size/\w0.heap.size<=L
 s0:∀k,S k->k < w0.heap.size
section
variable {R:World->Nat->(Nat->Prop)->VS->Prop} {w0 w w':World} {b:Nat} {S:Nat->Prop} {Ls:List Nat} {s s':VS}

theorem VSt.start (K:YZ R) (h:R w b S s):VSt R w b S [] s w:=⟨⟨S,h,fun _ hk=>Or.inl hk,zT⟩,Fr.refl _ _,zT,K.lt h⟩
theorem VSt.below (K:YZ R) (h:VSt R w0 b S Ls s w) (hb:Below w.heap.size w w'):VSt R w0 b S Ls s w':=by
 obtain ⟨S1,h1,h2,h4⟩:=h.ex;exact ⟨⟨S1,K.keep (T:=fun _=>False) h1 (Fr.of_below hb) (fun _ _ x=>x),h2,h4⟩,h.fr.trans (S1:=fun _=>False) (Fr.of_below hb) (fun _ x=>x.elim),fun L hL=>⟨Nat.lt_of_lt_of_le (h.ls L hL).1 hb.size,(h.ls L hL).2⟩,h.s0⟩
theorem VSt.alloc (K:YZ R) (h:VSt R w0 b S Ls s w) (o:Obj):VSt R w0 b S (w.heap.size :: Ls) s (w.alloc o):=by
 have hb:Below w.heap.size w (w.alloc o):=(Below.refl _ _).alloc (Nat.le_refl _) o;obtain ⟨S1,h1,h2,h4⟩:=h.ex;refine ⟨⟨S1,K.keep (T:=fun _=>False) h1 (Fr.of_below hb) (fun _ _ x=>x),h2,?_⟩,h.fr.trans (S1:=fun _=>False) (Fr.of_below hb) (fun _ x=>x.elim),?_,h.s0⟩
 ·intro L hL;simp at hL;rcases hL with rfl | hL
  ·exact fun x=>Nat.lt_irrefl _ (K.lt h1 _ x)
  ·exact h4 L hL
 ·intro L hL;simp at hL;rcases hL with rfl | hL
  ·exact ⟨zT,h.fr.size⟩
  ·exact ⟨Nat.lt_of_lt_of_le (h.ls L hL).1 hb.size,(h.ls L hL).2⟩
theorem VSt.drew (K:YZ R) (h:VSt R w0 b S Ls s w):VSt R w0 b S Ls s w.drew:=h.below K ((Below.refl _ _).drew)
theorem VSt.setCell (K:YZ R) (h:VSt R w0 b S Ls s w) {L:Nat} (hL:L∈Ls) (o:Nat) (v:Value):VSt R w0 b S Ls s (w.setCell ⟨L,o,none⟩ v):=by
 obtain ⟨S1,h1,h2,h4⟩:=h.ex;have F:Fr (fun k=>k=L) w (w.setCell ⟨L,o,none⟩ v):=(Fr.refl _ _).setCell _ _ (Or.inl rfl);exact ⟨⟨S1,K.keep h1 F (fun k hk e=>h4 L hL (e ▸ hk)),h2,h4⟩,h.fr.setCell _ _ (Or.inr (h.ls L hL).2),fun M hM=>⟨by simpa using (h.ls M hM).1,(h.ls M hM).2⟩,h.s0⟩
theorem VSt.inv (K:YZ R) (h:VSt R w0 b S Ls s w):s.Inv:=by
 obtain ⟨S1,h1,-⟩:=h.ex;exact K.inv h1
theorem VSt.done (K:YZ R) (h:VSt R w0 b S Ls s w):R w b (upd S w0 w) s/\Fr S w0 w:=by
 obtain ⟨S1,h1,h2,-⟩:=h.ex;refine ⟨K.mono h1 (fun k hk=> ?_) (fun k hk=> ?_),h.fr⟩
 ·rcases h2 k hk with h | h
  ·exact Or.inl h
  ·exact Or.inr ⟨h,K.lt h1 k hk⟩
 ·rcases hk with hk | hk
  ·exact Nat.lt_of_lt_of_le (h.s0 k hk) h.fr.size
  ·exact hk.2
theorem ji {P:Program} {f:FuncId} {args:Array Value} {val:Value} (h:VSt R w0 b S Ls s w)
 (hc:∀S1,R w b S1 s->Calls P f args w fun e w'=>e= .returned val/\(R w' b (upd S1 w w') s'/\Fr S1 w w')) :
 Calls P f args w fun e w'=>e= .returned val/\VSt R w0 b S Ls s' w'/\∀L∈Ls,w'.heap[L]? =w.heap[L]? :=by
 obtain ⟨S1,h1,h2,h4⟩:=h.ex;refine (hc S1 h1).mono fun e w' ⟨he,hr,hf⟩=>⟨he,⟨⟨upd S1 w w',hr,?_,?_⟩,h.fr.trans hf h2,fun L hL=>⟨Nat.lt_of_lt_of_le (h.ls L hL).1 hf.size,(h.ls L hL).2⟩,h.s0⟩,fun L hL=>hf.block L (h.ls L hL).1 (h4 L hL)⟩
 ·intro k hk;rcases hk with hk | hk
  ·exact h2 k hk
  ·have:=h.fr.size;exact Or.inr zo
 ·intro L hL x;rcases x with x | x
  ·exact h4 L hL x
  ·have:=(h.ls L hL).1;omega
theorem jm {P:Program} {f:FuncId} {args:Array Value} {val:Value} (K:YZ R) (h:VSt R w0 b S Ls s w)
 (hc:Calls P f args w (zW val w)) :
 Calls P f args w fun e w'=>e= .returned val/\VSt R w0 b S Ls s w'/\∀L∈Ls,w'.heap[L]? =w.heap[L]? :=
 hc.mono fun _ _ ⟨he,hb⟩=>⟨he,h.below K hb,fun L hL=>hb.block L (h.ls L hL).1⟩
theorem jc {L:Nat} {cs:Array Value} (hl:∀L∈Ls,w'.heap[L]? =w.heap[L]?) (hm:L∈Ls) (hc:∀o:Nat,w.cell? ⟨L,o,none⟩=cs[o]?):∀o:Nat,w'.cell? ⟨L,o,none⟩=cs[o]? :=
 fun o=>(World.cell?_of_block (a:=⟨L,o,none⟩) (hl L hm)).trans (hc o)
theorem jr (w:World) (cs:Array Value) (T:TypeId):∀o:Nat,(w.alloc (.cells cs T)).cell? ⟨w.heap.size,o,none⟩=cs[o]? :=fun _=>jd (heap_alloc_new w _)
theorem jC {L:Nat} {cs:Array Value} (ob:Obj) (hL:L < w.heap.size) (hc:∀o:Nat,w.cell? ⟨L,o,none⟩=cs[o]?):∀i:Nat,(w.alloc ob).cell? ⟨L,i,none⟩=cs[i]? :=
 fun i=>(World.cell?_alloc_lt (a:=⟨L,i,none⟩) _ _ hL).trans (hc i)
theorem kg {e size:Nat} {v:Value} {n:Nat} {xs:List Value} (hl:∀L∈Ls,w'.heap[L]? =w.heap[L]?) (hm:∀k,v.ownBlock=some k->k∈Ls) (h:w.ownsRow 0 e size v n xs):w'.ownsRow 0 e size v n xs:=
 jh h fun k hk=>hl k (hm k hk)
theorem VSt.grown (K:YZ R) (h:VSt R w0 b S Ls s w) {row:Option Nat} (hg:w.grownBy w' row) (hr:∀k,row=some k->k∈Ls) (Ls':List Nat) (hL:∀L∈Ls',L∈Ls\/(w.heap.size<=L/\L < w'.heap.size)):VSt R w0 b S Ls' s w':=by
 obtain ⟨S1,h1,h2,h4⟩:=h.ex;have F:Fr (fun k=>row=some k) w w':=(Fr.refl _ _).grown hg (fun k hk=>Or.inl hk);have hle:=h.fr.size;refine ⟨⟨S1,K.keep h1 F (fun k hk e=>h4 k (hr k e) hk),h2,?_⟩,h.fr.trans F (fun k hk=>Or.inr (h.ls k (hr k hk)).2),?_,h.s0⟩
 ·intro L hm x;rcases hL L hm with y | y
  ·exact h4 L y x
  ·exact absurd (K.lt h1 L x) zo
 ·intro L hm;rcases hL L hm with y | y
  ·exact ⟨Nat.lt_of_lt_of_le (h.ls L y).1 hg.size,(h.ls L y).2⟩
  ·exact ⟨y.2,zo⟩
theorem VSt.sub (h:VSt R w0 b S Ls s w) (Ls':List Nat) (hL:∀L∈Ls',L∈Ls):VSt R w0 b S Ls' s w:=by
 obtain ⟨S1,h1,h2,h4⟩:=h.ex;exact ⟨⟨S1,h1,h2,fun L hm=>h4 L (hL L hm)⟩,h.fr,fun L hm=>h.ls L (hL L hm),h.s0⟩
end

theorem next_any (t p s q:Int) (w:World) :
 Calls prog 278 #[.agg #[.int .i64 t,.int .i64 p,.int .i64 s],.int .i64 q] w (zW (.int .i64 (ofF t p s q 2)) w):=by
 go_enter func278,ntmps278;go_wp2_with fail;refine zM (Vn _ _ _ _ _ _ zo zo) fun w1 ha=> ?_;obtain ⟨hac,haf⟩:=jB ha;go_wp2;go_ret;refine ⟨rfl,?_⟩;exact zR
theorem prev_any (t p s q:Int) (w:World) :
 Calls prog 279 #[.agg #[.int .i64 t,.int .i64 p,.int .i64 s],.int .i64 q] w (zW (.int .i64 (ofF t p s q 3)) w):=by
 go_enter func279,ntmps279;go_wp2_with fail;refine zM (Vn _ _ _ _ _ _ zo zo) fun w1 ha=> ?_;obtain ⟨hac,haf⟩:=jB ha;go_wp2;go_ret;refine ⟨rfl,?_⟩;exact zR
theorem qi (b:Nat) (t p s h q:Int) (w:World) :
 Calls prog 267 #[.agg #[.pointer (some ⟨b,0,none⟩),.int .i64 t,.int .i64 p,.int .i64 s,.int .i64 h],.int .i64 q] w (zW (.int .i64 (ofF t p s q 2)) w):=by
 go_enter func267,ntmps267;go_wp2_with fail;refine zM (next_any _ _ _ _ _) fun w1 ha=> ?_;obtain ⟨hac,haf⟩:=jB ha;go_wp2;go_ret;refine ⟨rfl,?_⟩;exact zR
theorem kZ (b:Nat) (t p s h q:Int) (w:World) :
 Calls prog 268 #[.agg #[.pointer (some ⟨b,0,none⟩),.int .i64 t,.int .i64 p,.int .i64 s,.int .i64 h],.int .i64 q] w (zW (.int .i64 (ofF t p s q 3)) w):=by
 go_enter func268,ntmps268;go_wp2_with fail;refine zM (prev_any _ _ _ _ _) fun w1 ha=> ?_;obtain ⟨hac,haf⟩:=jB ha;go_wp2;go_ret;refine ⟨rfl,?_⟩;exact zR
def kR (p q:Int):Bool:=decide (0<=q) && decide (q < p)
theorem yu (b:Nat) (t p s h q:Int) (w:World) :
 Calls prog 266 #[.agg #[.pointer (some ⟨b,0,none⟩),.int .i64 t,.int .i64 p,.int .i64 s,.int .i64 h],.int .i64 q] w (zW (.bool (kR p q)) w):=by
 by_cases h1:0<=q
 ·have hF:kR p q=decide (q < p):=by simp [kR,h1]
  rw [hF];go_enter func266,ntmps266;go_wp2;go_ret;refine ⟨rfl,?_⟩;exact zR
 ·have hF:kR p q=false:=by simp [kR,h1]
  rw [hF];go_enter func266,ntmps266;go_wp2;go_ret;refine ⟨rfl,?_⟩;exact zR
theorem Xm (v:Int) (w:World) (hv:VS.U32 v) :
 Calls prog 269 #[.int .u32 v] w fun e w'=>e= .returned (.int .i64 (v - 1))/\w=w':=by
 obtain ⟨h1,h2⟩:=hv;go_enter func269,ntmps269;go_wp2;go_ret;exact ⟨rfl,rfl⟩
def yd (t p s:Int) (head q:Int) (st:VS):VS:=
 if kR p q=true then
  let g:=st.get head
  let s1:=g.2.put (ofF t p s q 2) g.1
  let s2:=s1.put (ofF t p s q 3) 0
  let s3:=if g.1=0 then s2 else s2.put (ofF t p s (g.1 - 1) 3) (q+1)
  s3.put head (q+1)
 else st
theorem push_no (b:Nat) (t p s head q:Int) (w:World) (S:Nat->Prop) (st:VS) (h:PV w b S st) (hq:kR p q=false) :
 Calls prog 254 #[.pointer (some ⟨b,0,none⟩),.agg #[.int .i64 t,.int .i64 p,.int .i64 s],.int .i64 head,.int .i64 q] w fun e w'=>e= .returned (.tuple #[])/\Now w b S st w':=by
 have hV:=((VSt.start je h).alloc je (.cells #[.int .i64 t,.int .i64 p,.int .i64 s] 23)).alloc je (.cells #[.pointer (some ⟨b,0,none⟩),.int .i64 t,.int .i64 p,.int .i64 s,.int .i64 head] 262);have H:=fun w=>yu b t p s head q w;rw [hq] at H;have HH:=zh H;clear H h;go_enter func254,ntmps254;go_wp2_with fail;refine zM (jm je hV (HH.out _)) ?_;rintro w1 ⟨hV1,hl1⟩;clear hl1;go_wp2;refine bodyPost_ret (results_none rfl _ _ _) rfl ?_;exact ⟨rfl,hV1.done je⟩

theorem jem (b:Nat) (t p s head q:Int) (w:World) (S:Nat->Prop) (st:VS) (h:PV w b S st) (hq:kR p q=true) (hp:p<=1024) (h0:(st.get head).1=0) :
 Calls prog 254 #[.pointer (some ⟨b,0,none⟩),.agg #[.int .i64 t,.int .i64 p,.int .i64 s],.int .i64 head,.int .i64 q] w fun e w'=>e= .returned (.tuple #[])/\Now w b S (yd t p s head q st) w':=by
 have hV:=((VSt.start je h).alloc je (.cells #[.int .i64 t,.int .i64 p,.int .i64 s] 23)).alloc je (.cells #[.pointer (some ⟨b,0,none⟩),.int .i64 t,.int .i64 p,.int .i64 s,.int .i64 head] 262);have c0:=jr (w.alloc (.cells #[.int .i64 t,.int .i64 p,.int .i64 s] 23)) #[.pointer (some ⟨b,0,none⟩),.int .i64 t,.int .i64 p,.int .i64 s,.int .i64 head] 262;simp only [World.size_alloc] at hV c0;have H:=fun w=>yu b t p s head q w;rw [hq] at H;have HH:=zh H;have hu:=VS.get_u32 h.inv head;have hF:yd t p s head q st=(((st.get head).2.put (ofF t p s q 2) (st.get head).1).put (ofF t p s q 3) 0).put head (q+1):=by simp [yd,hq,h0]
 rw [hF];have hb:((st.get head).1 != 0)=false:=by simp [h0]
 have hq1:0<=q:=by simp [kR] at hq;omega
 have hq2:q < 1024:=by simp [kR] at hq;omega
 have HU:=zh hu;have HQ:VS.U32 (q+1):=⟨zo,zo⟩
 have HQ':=zh HQ;have hq3:IntKind.i64.wrap (q+1)=q+1:=jD _ zo;have hq4:IntKind.u32.wrap (q+1)=q+1:=IntWalk.u32_in _ zo;have HG:=zh (fun (w:World) (S1:Nat->Prop) (h1:PV w b S1 st)=>yU b head w S1 st h1);clear H h hF hu HQ h0 hq;generalize (st.get head).2=s1 at*
 generalize (st.get head).1=v at*
 go_enter func254,ntmps254;go_wp2_with fail;refine zM (jm je hV (HH.out _)) ?_;rintro w1 ⟨hV1,hV1l⟩;have c1:=jc hV1l zT c0;clear hV1l;go_wp2_with fail;refine zM (ji hV1 (HG.out w1)) ?_;rintro w2 ⟨hV2,hV2l⟩;have c2:=jc hV2l zT c1;clear hV2l;go_wp2_with fail;first | go_region_held3 (fun w'=>(∀o:Nat,w'.cell? ⟨w.heap.size+1,o,none⟩=(#[.pointer (some ⟨b,0,none⟩),.int .i64 t,.int .i64 p,.int .i64 s,.int .i64 head]:Array Value)[o]?)) (first | assumption | exact c2) (first | (go_at_call 267;go_must (refine (jm je (hV2.drew je) (qi _ _ _ _ _ _ _)).mono ?_);go_must (rintro e w3 ⟨rfl,hV3,hV3l⟩);go_must (have c3:=jc hV3l zT c2);clear hV3l) | (go_at_call 251;go_must (refine (ji hV3 (fun S1 h1=>ke _ _ _ _ _ _ h1 HU.out)).mono ?_);go_must (rintro e w4 ⟨rfl,hV4,hV4l⟩);go_must (have c4:=jc hV4l zT c3);clear hV4l)) | fail
 go_wp2_with fail;first | go_region_held3 (fun w'=>(∀o:Nat,w'.cell? ⟨w.heap.size+1,o,none⟩=(#[.pointer (some ⟨b,0,none⟩),.int .i64 t,.int .i64 p,.int .i64 s,.int .i64 head]:Array Value)[o]?)) (first | assumption | exact c4) (first | (go_at_call 268;go_must (refine (jm je (hV4.drew je) (kZ _ _ _ _ _ _ _)).mono ?_);go_must (rintro e w5 ⟨rfl,hV5,hV5l⟩);go_must (have c5:=jc hV5l zT c4);clear hV5l) | (go_at_call 251;go_must (refine (ji hV5 (fun S1 h1=>ke _ _ _ _ _ _ h1 VS.u32_zero)).mono ?_);go_must (rintro e w6 ⟨rfl,hV6,hV6l⟩);go_must (have c6:=jc hV6l zT c5);clear hV6l)) | fail
 go_wp2_with fail;refine zM (ji hV6 (fun S1 h1=>ke _ _ _ _ _ _ h1 HQ'.out)) ?_;rintro w7 ⟨hV7,hV7l⟩;have c7:=jc hV7l zT c6;clear hV7l;go_wp2;go_end0;exact ⟨rfl,hV7.done je⟩
theorem jen (b:Nat) (t p s head q:Int) (w:World) (S:Nat->Prop) (st:VS) (h:PV w b S st) (hq:kR p q=true) (hp:p<=1024) (h0:(st.get head).1≠0) :
 Calls prog 254 #[.pointer (some ⟨b,0,none⟩),.agg #[.int .i64 t,.int .i64 p,.int .i64 s],.int .i64 head,.int .i64 q] w fun e w'=>e= .returned (.tuple #[])/\Now w b S (yd t p s head q st) w':=by
 have hV:=((VSt.start je h).alloc je (.cells #[.int .i64 t,.int .i64 p,.int .i64 s] 23)).alloc je (.cells #[.pointer (some ⟨b,0,none⟩),.int .i64 t,.int .i64 p,.int .i64 s,.int .i64 head] 262);have c0:=jr (w.alloc (.cells #[.int .i64 t,.int .i64 p,.int .i64 s] 23)) #[.pointer (some ⟨b,0,none⟩),.int .i64 t,.int .i64 p,.int .i64 s,.int .i64 head] 262;simp only [World.size_alloc] at hV c0;have H:=fun w=>yu b t p s head q w;rw [hq] at H;have HH:=zh H;have hu:=VS.get_u32 h.inv head;have hF:yd t p s head q st=((((st.get head).2.put (ofF t p s q 2) (st.get head).1).put (ofF t p s q 3) 0).put (ofF t p s ((st.get head).1 - 1) 3) (q+1)).put head (q+1):=by simp [yd,hq,h0]
 rw [hF];have hb:((st.get head).1 != 0)=true:=by simp [h0]
 have hq1:0<=q:=by simp [kR] at hq;omega
 have hq2:q < 1024:=by simp [kR] at hq;omega
 have HU:=zh hu;have HQ:VS.U32 (q+1):=⟨zo,zo⟩
 have HQ':=zh HQ;have hq3:IntKind.i64.wrap (q+1)=q+1:=jD _ zo;have hq4:IntKind.u32.wrap (q+1)=q+1:=IntWalk.u32_in _ zo;have HG:=zh (fun (w:World) (S1:Nat->Prop) (h1:PV w b S1 st)=>yU b head w S1 st h1);clear H h hF hu HQ h0 hq;generalize (st.get head).2=s1 at*
 generalize (st.get head).1=v at*
 go_enter func254,ntmps254;go_wp2_with fail;refine zM (jm je hV (HH.out _)) ?_;rintro w1 ⟨hV1,hV1l⟩;have c1:=jc hV1l zT c0;clear hV1l;go_wp2_with fail;refine zM (ji hV1 (HG.out w1)) ?_;rintro w2 ⟨hV2,hV2l⟩;have c2:=jc hV2l zT c1;clear hV2l;go_wp2_with fail;first | go_region_held3 (fun w'=>(∀o:Nat,w'.cell? ⟨w.heap.size+1,o,none⟩=(#[.pointer (some ⟨b,0,none⟩),.int .i64 t,.int .i64 p,.int .i64 s,.int .i64 head]:Array Value)[o]?)) (first | assumption | exact c2) (first | (go_at_call 267;go_must (refine (jm je (hV2.drew je) (qi _ _ _ _ _ _ _)).mono ?_);go_must (rintro e w3 ⟨rfl,hV3,hV3l⟩);go_must (have c3:=jc hV3l zT c2);clear hV3l) | (go_at_call 251;go_must (refine (ji hV3 (fun S1 h1=>ke _ _ _ _ _ _ h1 HU.out)).mono ?_);go_must (rintro e w4 ⟨rfl,hV4,hV4l⟩);go_must (have c4:=jc hV4l zT c3);clear hV4l)) | fail
 go_wp2_with fail;first | go_region_held3 (fun w'=>(∀o:Nat,w'.cell? ⟨w.heap.size+1,o,none⟩=(#[.pointer (some ⟨b,0,none⟩),.int .i64 t,.int .i64 p,.int .i64 s,.int .i64 head]:Array Value)[o]?)) (first | assumption | exact c4) (first | (go_at_call 268;go_must (refine (jm je (hV4.drew je) (kZ _ _ _ _ _ _ _)).mono ?_);go_must (rintro e w5 ⟨rfl,hV5,hV5l⟩);go_must (have c5:=jc hV5l zT c4);clear hV5l) | (go_at_call 251;go_must (refine (ji hV5 (fun S1 h1=>ke _ _ _ _ _ _ h1 VS.u32_zero)).mono ?_);go_must (rintro e w6 ⟨rfl,hV6,hV6l⟩);go_must (have c6:=jc hV6l zT c5);clear hV6l)) | fail
 go_wp2_with fail;first | go_region_held3 (fun w'=>(∀o:Nat,w'.cell? ⟨w.heap.size+1,o,none⟩=(#[.pointer (some ⟨b,0,none⟩),.int .i64 t,.int .i64 p,.int .i64 s,.int .i64 head]:Array Value)[o]?)) (first | assumption | exact c6) (first | (go_at_call 269;go_must (refine (jm je (hV6.drew je) ((Xm _ _ HU.out).mono fun _ _ x=>⟨x.1,x.2 ▸ Below.refl _ _⟩)).mono ?_);go_must (rintro e w7 ⟨rfl,hV7,hV7l⟩);go_must (have c7:=jc hV7l zT c6);clear hV7l) | (go_at_call 268;go_must (refine (jm je hV7 (kZ _ _ _ _ _ _ _)).mono ?_);go_must (rintro e w8 ⟨rfl,hV8,hV8l⟩);go_must (have c8:=jc hV8l zT c7);clear hV8l) | (go_at_call 251;go_must (refine (ji hV8 (fun S1 h1=>ke _ _ _ _ _ _ h1 HQ'.out)).mono ?_);go_must (rintro e w9 ⟨rfl,hV9,hV9l⟩);go_must (have c9:=jc hV9l zT c8);clear hV9l)) | fail
 go_wp2_with fail;refine zM (ji hV9 (fun S1 h1=>ke _ _ _ _ _ _ h1 HQ'.out)) ?_;rintro w10 ⟨hV10,hV10l⟩;have c10:=jc hV10l zT c9;clear hV10l;go_wp2;go_end0;exact ⟨rfl,hV10.done je⟩
theorem jbS (b:Nat) (t p s head q:Int) (w:World) (S:Nat->Prop) (st:VS) (h:PV w b S st) (hp:p<=1024) :
 Calls prog 254 #[.pointer (some ⟨b,0,none⟩),.agg #[.int .i64 t,.int .i64 p,.int .i64 s],.int .i64 head,.int .i64 q] w fun e w'=>e= .returned (.tuple #[])/\Now w b S (yd t p s head q st) w':=by
 cases hq:kR p q with
 | false=>
  have hF:yd t p s head q st=st:=by simp [yd,hq]
  rw [hF];exact push_no b t p s head q w S st h hq
 | true=>
  by_cases h0:(st.get head).1=0
  ·exact jem b t p s head q w S st h hq hp h0
  ·exact jen b t p s head q w S st h hq hp h0

def qG (t p s:Int) (head q:Int) (st:VS):VS:=
 if kR p q=true then
  let g:=st.get (ofF t p s q 2)
  let f:=g.2.get (ofF t p s q 3)
  let s3:=if f.1=0 then f.2.put head g.1 else f.2.put (ofF t p s (f.1 - 1) 2) g.1
  let s4:=if g.1=0 then s3 else s3.put (ofF t p s (g.1 - 1) 3) f.1
  (s4.put (ofF t p s q 2) 0).put (ofF t p s q 3) 0
 else st
theorem pull_no (b:Nat) (t p s head q:Int) (w:World) (S:Nat->Prop) (st:VS) (h:PV w b S st) (hq:kR p q=false) :
 Calls prog 262 #[.pointer (some ⟨b,0,none⟩),.agg #[.int .i64 t,.int .i64 p,.int .i64 s],.int .i64 head,.int .i64 q] w fun e w'=>e= .returned (.tuple #[])/\Now w b S st w':=by
 have hV:=((VSt.start je h).alloc je (.cells #[.int .i64 t,.int .i64 p,.int .i64 s] 23)).alloc je (.cells #[.pointer (some ⟨b,0,none⟩),.int .i64 t,.int .i64 p,.int .i64 s,.int .i64 head] 262);have H:=fun w=>yu b t p s head q w;rw [hq] at H;have HH:=zh H;clear H h;go_enter func262,ntmps262;go_wp2_with fail;refine zM (jm je hV (HH.out _)) ?_;rintro w1 ⟨hV1,hl1⟩;clear hl1;go_wp2;refine bodyPost_ret (results_none rfl _ _ _) rfl ?_;exact ⟨rfl,hV1.done je⟩
theorem jer (b:Nat) (t p s head q:Int) (w:World) (S:Nat->Prop) (st s1 s2:VS) (v u:Int) (h:PV w b S st) (hq:kR p q=true) (_hp:p<=1024) (e1:st.get (ofF t p s q 2)=(v,s1)) (e2:s1.get (ofF t p s q 3)=(u,s2)) (h0:u=0) (h1:v=0) :
 Calls prog 262 #[.pointer (some ⟨b,0,none⟩),.agg #[.int .i64 t,.int .i64 p,.int .i64 s],.int .i64 head,.int .i64 q] w fun e w'=>e= .returned (.tuple #[])/\Now w b S (((s2.put head v).put (ofF t p s q 2) 0).put (ofF t p s q 3) 0) w':=by
 have hV:=((VSt.start je h).alloc je (.cells #[.int .i64 t,.int .i64 p,.int .i64 s] 23)).alloc je (.cells #[.pointer (some ⟨b,0,none⟩),.int .i64 t,.int .i64 p,.int .i64 s,.int .i64 head] 262);have c0:=jr (w.alloc (.cells #[.int .i64 t,.int .i64 p,.int .i64 s] 23)) #[.pointer (some ⟨b,0,none⟩),.int .i64 t,.int .i64 p,.int .i64 s,.int .i64 head] 262;simp only [World.size_alloc] at hV c0;have H:=fun w=>yu b t p s head q w;rw [hq] at H;have HH:=zh H;have i1:=h.inv.get (ofF t p s q 2);have u1:=VS.get_u32 h.inv (ofF t p s q 2);rw [e1] at i1 u1;have u2:=VS.get_u32 i1 (ofF t p s q 3);rw [e2] at u2;have HU1:=zh u1;have HU2:=zh u2;have G1:=fun (w:World) (S1:Nat->Prop) (h1:PV w b S1 st)=>yU b (ofF t p s q 2) w S1 st h1;have G2:=fun (w:World) (S1:Nat->Prop) (h1:PV w b S1 s1)=>yU b (ofF t p s q 3) w S1 s1 h1;rw [e1] at G1;rw [e2] at G2;have HG1:=zh G1;have HG2:=zh G2;have hb:(u == 0)=true:=by simp [h0]
 have hc:(v != 0)=false:=by simp [h1]
 clear H h i1 u1 u2 G1 G2 e1 e2 h0 h1 hq;go_enter func262,ntmps262;go_wp2_with fail;refine zM (jm je hV (HH.out _)) ?_;rintro w1 ⟨hV1,hV1l⟩;have c1:=jc hV1l zT c0;clear hV1l;go_wp2_with fail;first | go_region_held3 (fun w'=>(∀o:Nat,w'.cell? ⟨w.heap.size+1,o,none⟩=(#[.pointer (some ⟨b,0,none⟩),.int .i64 t,.int .i64 p,.int .i64 s,.int .i64 head]:Array Value)[o]?)) (first | assumption | exact c1) (first | (go_at_call 267;go_must (refine (jm je (hV1.drew je) (qi _ _ _ _ _ _ _)).mono ?_);go_must (rintro e w2 ⟨rfl,hV2,hV2l⟩);go_must (have c2:=jc hV2l zT c1);clear hV2l) | (go_at_call 220;go_must (refine (ji hV2 (HG1.out _)).mono ?_);go_must (rintro e w3 ⟨rfl,hV3,hV3l⟩);go_must (have c3:=jc hV3l zT c2);clear hV3l)) | fail
 go_wp2_with fail;first | go_region_held3 (fun w'=>(∀o:Nat,w'.cell? ⟨w.heap.size+1,o,none⟩=(#[.pointer (some ⟨b,0,none⟩),.int .i64 t,.int .i64 p,.int .i64 s,.int .i64 head]:Array Value)[o]?)) (first | assumption | exact c3) (first | (go_at_call 268;go_must (refine (jm je (hV3.drew je) (kZ _ _ _ _ _ _ _)).mono ?_);go_must (rintro e w4 ⟨rfl,hV4,hV4l⟩);go_must (have c4:=jc hV4l zT c3);clear hV4l) | (go_at_call 220;go_must (refine (ji hV4 (HG2.out _)).mono ?_);go_must (rintro e w5 ⟨rfl,hV5,hV5l⟩);go_must (have c5:=jc hV5l zT c4);clear hV5l)) | fail
 go_wp2_with fail;refine zM (ji hV5 (fun S1 h1=>ke _ _ _ _ _ _ h1 HU1.out)) ?_;rintro w6 ⟨hV6,hV6l⟩;have c6:=jc hV6l zT c5;clear hV6l;go_wp2_with fail;first | go_region_held3 (fun w'=>(∀o:Nat,w'.cell? ⟨w.heap.size+1,o,none⟩=(#[.pointer (some ⟨b,0,none⟩),.int .i64 t,.int .i64 p,.int .i64 s,.int .i64 head]:Array Value)[o]?)) (first | assumption | exact c6) (first | (go_at_call 267;go_must (refine (jm je (hV6.drew je) (qi _ _ _ _ _ _ _)).mono ?_);go_must (rintro e w7 ⟨rfl,hV7,hV7l⟩);go_must (have c7:=jc hV7l zT c6);clear hV7l) | (go_at_call 251;go_must (refine (ji hV7 (fun S1 h1=>ke _ _ _ _ _ _ h1 VS.u32_zero)).mono ?_);go_must (rintro e w8 ⟨rfl,hV8,hV8l⟩);go_must (have c8:=jc hV8l zT c7);clear hV8l)) | fail
 go_wp2_with fail;first | go_region_held3 (fun w'=>(∀o:Nat,w'.cell? ⟨w.heap.size+1,o,none⟩=(#[.pointer (some ⟨b,0,none⟩),.int .i64 t,.int .i64 p,.int .i64 s,.int .i64 head]:Array Value)[o]?)) (first | assumption | exact c8) (first | (go_at_call 268;go_must (refine (jm je (hV8.drew je) (kZ _ _ _ _ _ _ _)).mono ?_);go_must (rintro e w9 ⟨rfl,hV9,hV9l⟩);go_must (have c9:=jc hV9l zT c8);clear hV9l) | (go_at_call 251;go_must (refine (ji hV9 (fun S1 h1=>ke _ _ _ _ _ _ h1 VS.u32_zero)).mono ?_);go_must (rintro e w10 ⟨rfl,hV10,hV10l⟩);go_must (have c10:=jc hV10l zT c9);clear hV10l)) | fail
 go_wp2;go_end0;exact ⟨rfl,hV10.done je⟩
theorem jeq (b:Nat) (t p s head q:Int) (w:World) (S:Nat->Prop) (st s1 s2:VS) (v u:Int) (h:PV w b S st) (hq:kR p q=true) (_hp:p<=1024) (e1:st.get (ofF t p s q 2)=(v,s1)) (e2:s1.get (ofF t p s q 3)=(u,s2)) (h0:u=0) (h1:v≠0) :
 Calls prog 262 #[.pointer (some ⟨b,0,none⟩),.agg #[.int .i64 t,.int .i64 p,.int .i64 s],.int .i64 head,.int .i64 q] w fun e w'=>e= .returned (.tuple #[])/\Now w b S ((((s2.put head v).put (ofF t p s (v - 1) 3) u).put (ofF t p s q 2) 0).put (ofF t p s q 3) 0) w':=by
 have hV:=((VSt.start je h).alloc je (.cells #[.int .i64 t,.int .i64 p,.int .i64 s] 23)).alloc je (.cells #[.pointer (some ⟨b,0,none⟩),.int .i64 t,.int .i64 p,.int .i64 s,.int .i64 head] 262);have c0:=jr (w.alloc (.cells #[.int .i64 t,.int .i64 p,.int .i64 s] 23)) #[.pointer (some ⟨b,0,none⟩),.int .i64 t,.int .i64 p,.int .i64 s,.int .i64 head] 262;simp only [World.size_alloc] at hV c0;have H:=fun w=>yu b t p s head q w;rw [hq] at H;have HH:=zh H;have i1:=h.inv.get (ofF t p s q 2);have u1:=VS.get_u32 h.inv (ofF t p s q 2);rw [e1] at i1 u1;have u2:=VS.get_u32 i1 (ofF t p s q 3);rw [e2] at u2;have HU1:=zh u1;have HU2:=zh u2;have G1:=fun (w:World) (S1:Nat->Prop) (h1:PV w b S1 st)=>yU b (ofF t p s q 2) w S1 st h1;have G2:=fun (w:World) (S1:Nat->Prop) (h1:PV w b S1 s1)=>yU b (ofF t p s q 3) w S1 s1 h1;rw [e1] at G1;rw [e2] at G2;have HG1:=zh G1;have HG2:=zh G2;have hb:(u == 0)=true:=by simp [h0]
 have hc:(v != 0)=true:=by simp [h1]
 clear H h i1 u1 u2 G1 G2 e1 e2 h0 h1 hq;go_enter func262,ntmps262;go_wp2_with fail;refine zM (jm je hV (HH.out _)) ?_;rintro w1 ⟨hV1,hV1l⟩;have c1:=jc hV1l zT c0;clear hV1l;go_wp2_with fail;first | go_region_held3 (fun w'=>(∀o:Nat,w'.cell? ⟨w.heap.size+1,o,none⟩=(#[.pointer (some ⟨b,0,none⟩),.int .i64 t,.int .i64 p,.int .i64 s,.int .i64 head]:Array Value)[o]?)) (first | assumption | exact c1) (first | (go_at_call 267;go_must (refine (jm je (hV1.drew je) (qi _ _ _ _ _ _ _)).mono ?_);go_must (rintro e w2 ⟨rfl,hV2,hV2l⟩);go_must (have c2:=jc hV2l zT c1);clear hV2l) | (go_at_call 220;go_must (refine (ji hV2 (HG1.out _)).mono ?_);go_must (rintro e w3 ⟨rfl,hV3,hV3l⟩);go_must (have c3:=jc hV3l zT c2);clear hV3l)) | fail
 go_wp2_with fail;first | go_region_held3 (fun w'=>(∀o:Nat,w'.cell? ⟨w.heap.size+1,o,none⟩=(#[.pointer (some ⟨b,0,none⟩),.int .i64 t,.int .i64 p,.int .i64 s,.int .i64 head]:Array Value)[o]?)) (first | assumption | exact c3) (first | (go_at_call 268;go_must (refine (jm je (hV3.drew je) (kZ _ _ _ _ _ _ _)).mono ?_);go_must (rintro e w4 ⟨rfl,hV4,hV4l⟩);go_must (have c4:=jc hV4l zT c3);clear hV4l) | (go_at_call 220;go_must (refine (ji hV4 (HG2.out _)).mono ?_);go_must (rintro e w5 ⟨rfl,hV5,hV5l⟩);go_must (have c5:=jc hV5l zT c4);clear hV5l)) | fail
 go_wp2_with fail;refine zM (ji hV5 (fun S1 h1=>ke _ _ _ _ _ _ h1 HU1.out)) ?_;rintro w6 ⟨hV6,hV6l⟩;have c6:=jc hV6l zT c5;clear hV6l;go_wp2_with fail;first | go_region_held3 (fun w'=>(∀o:Nat,w'.cell? ⟨w.heap.size+1,o,none⟩=(#[.pointer (some ⟨b,0,none⟩),.int .i64 t,.int .i64 p,.int .i64 s,.int .i64 head]:Array Value)[o]?)) (first | assumption | exact c6) (first | (go_at_call 269;go_must (refine (jm je (hV6.drew je) ((Xm _ _ HU1.out).mono fun _ _ x=>⟨x.1,x.2 ▸ Below.refl _ _⟩)).mono ?_);go_must (rintro e w7 ⟨rfl,hV7,hV7l⟩);go_must (have c7:=jc hV7l zT c6);clear hV7l) | (go_at_call 268;go_must (refine (jm je hV7 (kZ _ _ _ _ _ _ _)).mono ?_);go_must (rintro e w8 ⟨rfl,hV8,hV8l⟩);go_must (have c8:=jc hV8l zT c7);clear hV8l) | (go_at_call 251;go_must (refine (ji hV8 (fun S1 h1=>ke _ _ _ _ _ _ h1 HU2.out)).mono ?_);go_must (rintro e w9 ⟨rfl,hV9,hV9l⟩);go_must (have c9:=jc hV9l zT c8);clear hV9l)) | fail
 go_wp2_with fail;first | go_region_held3 (fun w'=>(∀o:Nat,w'.cell? ⟨w.heap.size+1,o,none⟩=(#[.pointer (some ⟨b,0,none⟩),.int .i64 t,.int .i64 p,.int .i64 s,.int .i64 head]:Array Value)[o]?)) (first | assumption | exact c9) (first | (go_at_call 267;go_must (refine (jm je (hV9.drew je) (qi _ _ _ _ _ _ _)).mono ?_);go_must (rintro e w10 ⟨rfl,hV10,hV10l⟩);go_must (have c10:=jc hV10l zT c9);clear hV10l) | (go_at_call 251;go_must (refine (ji hV10 (fun S1 h1=>ke _ _ _ _ _ _ h1 VS.u32_zero)).mono ?_);go_must (rintro e w11 ⟨rfl,hV11,hV11l⟩);go_must (have c11:=jc hV11l zT c10);clear hV11l)) | fail
 go_wp2_with fail;first | go_region_held3 (fun w'=>(∀o:Nat,w'.cell? ⟨w.heap.size+1,o,none⟩=(#[.pointer (some ⟨b,0,none⟩),.int .i64 t,.int .i64 p,.int .i64 s,.int .i64 head]:Array Value)[o]?)) (first | assumption | exact c11) (first | (go_at_call 268;go_must (refine (jm je (hV11.drew je) (kZ _ _ _ _ _ _ _)).mono ?_);go_must (rintro e w12 ⟨rfl,hV12,hV12l⟩);go_must (have c12:=jc hV12l zT c11);clear hV12l) | (go_at_call 251;go_must (refine (ji hV12 (fun S1 h1=>ke _ _ _ _ _ _ h1 VS.u32_zero)).mono ?_);go_must (rintro e w13 ⟨rfl,hV13,hV13l⟩);go_must (have c13:=jc hV13l zT c12);clear hV13l)) | fail
 go_wp2;go_end0;exact ⟨rfl,hV13.done je⟩
theorem jep (b:Nat) (t p s head q:Int) (w:World) (S:Nat->Prop) (st s1 s2:VS) (v u:Int) (h:PV w b S st) (hq:kR p q=true) (_hp:p<=1024) (e1:st.get (ofF t p s q 2)=(v,s1)) (e2:s1.get (ofF t p s q 3)=(u,s2)) (h0:u≠0) (h1:v=0) :
 Calls prog 262 #[.pointer (some ⟨b,0,none⟩),.agg #[.int .i64 t,.int .i64 p,.int .i64 s],.int .i64 head,.int .i64 q] w fun e w'=>e= .returned (.tuple #[])/\Now w b S (((s2.put (ofF t p s (u - 1) 2) v).put (ofF t p s q 2) 0).put (ofF t p s q 3) 0) w':=by
 have hV:=((VSt.start je h).alloc je (.cells #[.int .i64 t,.int .i64 p,.int .i64 s] 23)).alloc je (.cells #[.pointer (some ⟨b,0,none⟩),.int .i64 t,.int .i64 p,.int .i64 s,.int .i64 head] 262);have c0:=jr (w.alloc (.cells #[.int .i64 t,.int .i64 p,.int .i64 s] 23)) #[.pointer (some ⟨b,0,none⟩),.int .i64 t,.int .i64 p,.int .i64 s,.int .i64 head] 262;simp only [World.size_alloc] at hV c0;have H:=fun w=>yu b t p s head q w;rw [hq] at H;have HH:=zh H;have i1:=h.inv.get (ofF t p s q 2);have u1:=VS.get_u32 h.inv (ofF t p s q 2);rw [e1] at i1 u1;have u2:=VS.get_u32 i1 (ofF t p s q 3);rw [e2] at u2;have HU1:=zh u1;have HU2:=zh u2;have G1:=fun (w:World) (S1:Nat->Prop) (h1:PV w b S1 st)=>yU b (ofF t p s q 2) w S1 st h1;have G2:=fun (w:World) (S1:Nat->Prop) (h1:PV w b S1 s1)=>yU b (ofF t p s q 3) w S1 s1 h1;rw [e1] at G1;rw [e2] at G2;have HG1:=zh G1;have HG2:=zh G2;have hb:(u == 0)=false:=by simp [h0]
 have hc:(v != 0)=false:=by simp [h1]
 clear H h i1 u1 u2 G1 G2 e1 e2 h0 h1 hq;go_enter func262,ntmps262;go_wp2_with fail;refine zM (jm je hV (HH.out _)) ?_;rintro w1 ⟨hV1,hV1l⟩;have c1:=jc hV1l zT c0;clear hV1l;go_wp2_with fail;first | go_region_held3 (fun w'=>(∀o:Nat,w'.cell? ⟨w.heap.size+1,o,none⟩=(#[.pointer (some ⟨b,0,none⟩),.int .i64 t,.int .i64 p,.int .i64 s,.int .i64 head]:Array Value)[o]?)) (first | assumption | exact c1) (first | (go_at_call 267;go_must (refine (jm je (hV1.drew je) (qi _ _ _ _ _ _ _)).mono ?_);go_must (rintro e w2 ⟨rfl,hV2,hV2l⟩);go_must (have c2:=jc hV2l zT c1);clear hV2l) | (go_at_call 220;go_must (refine (ji hV2 (HG1.out _)).mono ?_);go_must (rintro e w3 ⟨rfl,hV3,hV3l⟩);go_must (have c3:=jc hV3l zT c2);clear hV3l)) | fail
 go_wp2_with fail;first | go_region_held3 (fun w'=>(∀o:Nat,w'.cell? ⟨w.heap.size+1,o,none⟩=(#[.pointer (some ⟨b,0,none⟩),.int .i64 t,.int .i64 p,.int .i64 s,.int .i64 head]:Array Value)[o]?)) (first | assumption | exact c3) (first | (go_at_call 268;go_must (refine (jm je (hV3.drew je) (kZ _ _ _ _ _ _ _)).mono ?_);go_must (rintro e w4 ⟨rfl,hV4,hV4l⟩);go_must (have c4:=jc hV4l zT c3);clear hV4l) | (go_at_call 220;go_must (refine (ji hV4 (HG2.out _)).mono ?_);go_must (rintro e w5 ⟨rfl,hV5,hV5l⟩);go_must (have c5:=jc hV5l zT c4);clear hV5l)) | fail
 go_wp2_with fail;first | go_region_held3 (fun w'=>(∀o:Nat,w'.cell? ⟨w.heap.size+1,o,none⟩=(#[.pointer (some ⟨b,0,none⟩),.int .i64 t,.int .i64 p,.int .i64 s,.int .i64 head]:Array Value)[o]?)) (first | assumption | exact c5) (first | (go_at_call 269;go_must (refine (jm je (hV5.drew je) ((Xm _ _ HU2.out).mono fun _ _ x=>⟨x.1,x.2 ▸ Below.refl _ _⟩)).mono ?_);go_must (rintro e w6 ⟨rfl,hV6,hV6l⟩);go_must (have c6:=jc hV6l zT c5);clear hV6l) | (go_at_call 267;go_must (refine (jm je hV6 (qi _ _ _ _ _ _ _)).mono ?_);go_must (rintro e w7 ⟨rfl,hV7,hV7l⟩);go_must (have c7:=jc hV7l zT c6);clear hV7l) | (go_at_call 251;go_must (refine (ji hV7 (fun S1 h1=>ke _ _ _ _ _ _ h1 HU1.out)).mono ?_);go_must (rintro e w8 ⟨rfl,hV8,hV8l⟩);go_must (have c8:=jc hV8l zT c7);clear hV8l)) | fail
 go_wp2_with fail;first | go_region_held3 (fun w'=>(∀o:Nat,w'.cell? ⟨w.heap.size+1,o,none⟩=(#[.pointer (some ⟨b,0,none⟩),.int .i64 t,.int .i64 p,.int .i64 s,.int .i64 head]:Array Value)[o]?)) (first | assumption | exact c8) (first | (go_at_call 267;go_must (refine (jm je (hV8.drew je) (qi _ _ _ _ _ _ _)).mono ?_);go_must (rintro e w9 ⟨rfl,hV9,hV9l⟩);go_must (have c9:=jc hV9l zT c8);clear hV9l) | (go_at_call 251;go_must (refine (ji hV9 (fun S1 h1=>ke _ _ _ _ _ _ h1 VS.u32_zero)).mono ?_);go_must (rintro e w10 ⟨rfl,hV10,hV10l⟩);go_must (have c10:=jc hV10l zT c9);clear hV10l)) | fail
 go_wp2_with fail;first | go_region_held3 (fun w'=>(∀o:Nat,w'.cell? ⟨w.heap.size+1,o,none⟩=(#[.pointer (some ⟨b,0,none⟩),.int .i64 t,.int .i64 p,.int .i64 s,.int .i64 head]:Array Value)[o]?)) (first | assumption | exact c10) (first | (go_at_call 268;go_must (refine (jm je (hV10.drew je) (kZ _ _ _ _ _ _ _)).mono ?_);go_must (rintro e w11 ⟨rfl,hV11,hV11l⟩);go_must (have c11:=jc hV11l zT c10);clear hV11l) | (go_at_call 251;go_must (refine (ji hV11 (fun S1 h1=>ke _ _ _ _ _ _ h1 VS.u32_zero)).mono ?_);go_must (rintro e w12 ⟨rfl,hV12,hV12l⟩);go_must (have c12:=jc hV12l zT c11);clear hV12l)) | fail
 go_wp2;go_end0;exact ⟨rfl,hV12.done je⟩
theorem jeo (b:Nat) (t p s head q:Int) (w:World) (S:Nat->Prop) (st s1 s2:VS) (v u:Int) (h:PV w b S st) (hq:kR p q=true) (_hp:p<=1024) (e1:st.get (ofF t p s q 2)=(v,s1)) (e2:s1.get (ofF t p s q 3)=(u,s2)) (h0:u≠0) (h1:v≠0) :
 Calls prog 262 #[.pointer (some ⟨b,0,none⟩),.agg #[.int .i64 t,.int .i64 p,.int .i64 s],.int .i64 head,.int .i64 q] w fun e w'=>e= .returned (.tuple #[])/\Now w b S ((((s2.put (ofF t p s (u - 1) 2) v).put (ofF t p s (v - 1) 3) u).put (ofF t p s q 2) 0).put (ofF t p s q 3) 0) w':=by
 have hV:=((VSt.start je h).alloc je (.cells #[.int .i64 t,.int .i64 p,.int .i64 s] 23)).alloc je (.cells #[.pointer (some ⟨b,0,none⟩),.int .i64 t,.int .i64 p,.int .i64 s,.int .i64 head] 262);have c0:=jr (w.alloc (.cells #[.int .i64 t,.int .i64 p,.int .i64 s] 23)) #[.pointer (some ⟨b,0,none⟩),.int .i64 t,.int .i64 p,.int .i64 s,.int .i64 head] 262;simp only [World.size_alloc] at hV c0;have H:=fun w=>yu b t p s head q w;rw [hq] at H;have HH:=zh H;have i1:=h.inv.get (ofF t p s q 2);have u1:=VS.get_u32 h.inv (ofF t p s q 2);rw [e1] at i1 u1;have u2:=VS.get_u32 i1 (ofF t p s q 3);rw [e2] at u2;have HU1:=zh u1;have HU2:=zh u2;have G1:=fun (w:World) (S1:Nat->Prop) (h1:PV w b S1 st)=>yU b (ofF t p s q 2) w S1 st h1;have G2:=fun (w:World) (S1:Nat->Prop) (h1:PV w b S1 s1)=>yU b (ofF t p s q 3) w S1 s1 h1;rw [e1] at G1;rw [e2] at G2;have HG1:=zh G1;have HG2:=zh G2;have hb:(u == 0)=false:=by simp [h0]
 have hc:(v != 0)=true:=by simp [h1]
 clear H h i1 u1 u2 G1 G2 e1 e2 h0 h1 hq;go_enter func262,ntmps262;go_wp2_with fail;refine zM (jm je hV (HH.out _)) ?_;rintro w1 ⟨hV1,hV1l⟩;have c1:=jc hV1l zT c0;clear hV1l;go_wp2_with fail;first | go_region_held3 (fun w'=>(∀o:Nat,w'.cell? ⟨w.heap.size+1,o,none⟩=(#[.pointer (some ⟨b,0,none⟩),.int .i64 t,.int .i64 p,.int .i64 s,.int .i64 head]:Array Value)[o]?)) (first | assumption | exact c1) (first | (go_at_call 267;go_must (refine (jm je (hV1.drew je) (qi _ _ _ _ _ _ _)).mono ?_);go_must (rintro e w2 ⟨rfl,hV2,hV2l⟩);go_must (have c2:=jc hV2l zT c1);clear hV2l) | (go_at_call 220;go_must (refine (ji hV2 (HG1.out _)).mono ?_);go_must (rintro e w3 ⟨rfl,hV3,hV3l⟩);go_must (have c3:=jc hV3l zT c2);clear hV3l)) | fail
 go_wp2_with fail;first | go_region_held3 (fun w'=>(∀o:Nat,w'.cell? ⟨w.heap.size+1,o,none⟩=(#[.pointer (some ⟨b,0,none⟩),.int .i64 t,.int .i64 p,.int .i64 s,.int .i64 head]:Array Value)[o]?)) (first | assumption | exact c3) (first | (go_at_call 268;go_must (refine (jm je (hV3.drew je) (kZ _ _ _ _ _ _ _)).mono ?_);go_must (rintro e w4 ⟨rfl,hV4,hV4l⟩);go_must (have c4:=jc hV4l zT c3);clear hV4l) | (go_at_call 220;go_must (refine (ji hV4 (HG2.out _)).mono ?_);go_must (rintro e w5 ⟨rfl,hV5,hV5l⟩);go_must (have c5:=jc hV5l zT c4);clear hV5l)) | fail
 go_wp2_with fail;first | go_region_held3 (fun w'=>(∀o:Nat,w'.cell? ⟨w.heap.size+1,o,none⟩=(#[.pointer (some ⟨b,0,none⟩),.int .i64 t,.int .i64 p,.int .i64 s,.int .i64 head]:Array Value)[o]?)) (first | assumption | exact c5) (first | (go_at_call 269;go_must (refine (jm je (hV5.drew je) ((Xm _ _ HU2.out).mono fun _ _ x=>⟨x.1,x.2 ▸ Below.refl _ _⟩)).mono ?_);go_must (rintro e w6 ⟨rfl,hV6,hV6l⟩);go_must (have c6:=jc hV6l zT c5);clear hV6l) | (go_at_call 267;go_must (refine (jm je hV6 (qi _ _ _ _ _ _ _)).mono ?_);go_must (rintro e w7 ⟨rfl,hV7,hV7l⟩);go_must (have c7:=jc hV7l zT c6);clear hV7l) | (go_at_call 251;go_must (refine (ji hV7 (fun S1 h1=>ke _ _ _ _ _ _ h1 HU1.out)).mono ?_);go_must (rintro e w8 ⟨rfl,hV8,hV8l⟩);go_must (have c8:=jc hV8l zT c7);clear hV8l)) | fail
 go_wp2_with fail;first | go_region_held3 (fun w'=>(∀o:Nat,w'.cell? ⟨w.heap.size+1,o,none⟩=(#[.pointer (some ⟨b,0,none⟩),.int .i64 t,.int .i64 p,.int .i64 s,.int .i64 head]:Array Value)[o]?)) (first | assumption | exact c8) (first | (go_at_call 269;go_must (refine (jm je (hV8.drew je) ((Xm _ _ HU1.out).mono fun _ _ x=>⟨x.1,x.2 ▸ Below.refl _ _⟩)).mono ?_);go_must (rintro e w9 ⟨rfl,hV9,hV9l⟩);go_must (have c9:=jc hV9l zT c8);clear hV9l) | (go_at_call 268;go_must (refine (jm je hV9 (kZ _ _ _ _ _ _ _)).mono ?_);go_must (rintro e w10 ⟨rfl,hV10,hV10l⟩);go_must (have c10:=jc hV10l zT c9);clear hV10l) | (go_at_call 251;go_must (refine (ji hV10 (fun S1 h1=>ke _ _ _ _ _ _ h1 HU2.out)).mono ?_);go_must (rintro e w11 ⟨rfl,hV11,hV11l⟩);go_must (have c11:=jc hV11l zT c10);clear hV11l)) | fail
 go_wp2_with fail;first | go_region_held3 (fun w'=>(∀o:Nat,w'.cell? ⟨w.heap.size+1,o,none⟩=(#[.pointer (some ⟨b,0,none⟩),.int .i64 t,.int .i64 p,.int .i64 s,.int .i64 head]:Array Value)[o]?)) (first | assumption | exact c11) (first | (go_at_call 267;go_must (refine (jm je (hV11.drew je) (qi _ _ _ _ _ _ _)).mono ?_);go_must (rintro e w12 ⟨rfl,hV12,hV12l⟩);go_must (have c12:=jc hV12l zT c11);clear hV12l) | (go_at_call 251;go_must (refine (ji hV12 (fun S1 h1=>ke _ _ _ _ _ _ h1 VS.u32_zero)).mono ?_);go_must (rintro e w13 ⟨rfl,hV13,hV13l⟩);go_must (have c13:=jc hV13l zT c12);clear hV13l)) | fail
 go_wp2_with fail;first | go_region_held3 (fun w'=>(∀o:Nat,w'.cell? ⟨w.heap.size+1,o,none⟩=(#[.pointer (some ⟨b,0,none⟩),.int .i64 t,.int .i64 p,.int .i64 s,.int .i64 head]:Array Value)[o]?)) (first | assumption | exact c13) (first | (go_at_call 268;go_must (refine (jm je (hV13.drew je) (kZ _ _ _ _ _ _ _)).mono ?_);go_must (rintro e w14 ⟨rfl,hV14,hV14l⟩);go_must (have c14:=jc hV14l zT c13);clear hV14l) | (go_at_call 251;go_must (refine (ji hV14 (fun S1 h1=>ke _ _ _ _ _ _ h1 VS.u32_zero)).mono ?_);go_must (rintro e w15 ⟨rfl,hV15,hV15l⟩);go_must (have c15:=jc hV15l zT c14);clear hV15l)) | fail
 go_wp2;go_end0;exact ⟨rfl,hV15.done je⟩
theorem jbU (b:Nat) (t p s head q:Int) (w:World) (S:Nat->Prop) (st:VS) (h:PV w b S st) (hp:p<=1024) :
 Calls prog 262 #[.pointer (some ⟨b,0,none⟩),.agg #[.int .i64 t,.int .i64 p,.int .i64 s],.int .i64 head,.int .i64 q] w fun e w'=>e= .returned (.tuple #[])/\Now w b S (qG t p s head q st) w':=by
 cases hq:kR p q with
 | false=>
  have hF:qG t p s head q st=st:=by simp [qG,hq]
  rw [hF];exact pull_no b t p s head q w S st h hq
 | true=>
  obtain ⟨v,s1,e1⟩:∃v s1,st.get (ofF t p s q 2)=(v,s1):=⟨_,_,rfl⟩
  obtain ⟨u,s2,e2⟩:∃u s2,s1.get (ofF t p s q 3)=(u,s2):=⟨_,_,rfl⟩
  by_cases h0:u=0 <;> by_cases h1:v=0
  ·have:=jer b t p s head q w S st s1 s2 v u h hq hp e1 e2 h0 h1;simpa [qG,hq,e1,e2,h0,h1] using this
  ·have:=jeq b t p s head q w S st s1 s2 v u h hq hp e1 e2 h0 h1;simpa [qG,hq,e1,e2,h0,h1] using this
  ·have:=jep b t p s head q w S st s1 s2 v u h hq hp e1 e2 h0 h1;simpa [qG,hq,e1,e2,h0,h1] using this
  ·have:=jeo b t p s head q w S st s1 s2 v u h hq hp e1 e2 h0 h1;simpa [qG,hq,e1,e2,h0,h1] using this

def Xc (l:List Int):List Value:=l.map (.int .i64)
def lenS:Value->Nat | .slice _ n _=>n | _=>0
theorem qh {w w':World} {row:Option Nat} {L:Nat} {cs:Array Value} (hg:w.grownBy w' row) (hL:L < w.heap.size) (hne:row≠some L) (hc:∀o:Nat,w.cell? ⟨L,o,none⟩=cs[o]?):∀o:Nat,w'.cell? ⟨L,o,none⟩=cs[o]? :=
 fun o=>(World.cell?_of_block (a:=⟨L,o,none⟩) (hg.block L hL (fun e=>hne e.symm))).trans (hc o)
end Go.Proofs.YtcnininelndjoaaGreat

