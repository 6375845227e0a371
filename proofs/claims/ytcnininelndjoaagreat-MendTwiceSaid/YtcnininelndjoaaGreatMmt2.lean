/- parts of the proof, merged by a program. -/
import Derived.Test.YtcnininelndjoaaGreatMmt1
import Derived.Deep.RegionHeld3
import Derived.Deep.RegionLaw
import Derived.Shelf.Strconv.Itoa0
set_option linter.unusedSimpArgs false
set_option linter.unusedVariables false
set_option maxRecDepth 100000
set_option maxHeartbeats 4000000
namespace Go.Proofs.YtcnininelndjoaaGreat
open Go.Proofs.Tryz
open Go.RowKit

def Rd (w:World) (v:Value) (sz n:Nat) (xs:List Value):Prop:=
 xs.length=n*sz/\((v= .slice none 0 0/\n=0)\/∃ad c,v= .slice (some ad) n c/\∀j u,xs[j]? =some u->w.cell? (ad.add j)=some u)
theorem Rd.of_row {w:World} {e sz n:Nat} {v:Value} {xs:List Value} (h:w.ownsRow 0 e sz v n xs):Rd w v sz n xs:=by
 refine ⟨h.1,?_⟩;rcases h.2 with ⟨h1,h2⟩ | ⟨g,cap,cur,rfl,-⟩
 ·exact Or.inl ⟨h1,h2⟩
 ·exact Or.inr ⟨_,_,rfl,h.cells (g:=g) rfl⟩
def CloneP (w:World) (E sz n:Nat) (xs:List Value) (e:Ending) (w':World):Prop:=
 ∃v',e= .returned v'/\w'.ownsRow 0 E sz v' n xs/\(∀k,v'.ownBlock=some k->w.heap.size<=k)/\Below w.heap.size w w'
theorem jfc:(prog.info? 44).map (fun i=>(i.zero,i.size,i.bytes))=some (some (.int .u32 0),1,4):=by kernel_rfl
def qs (vals:List Int):VS:={ n:=vals.length,known:=fun i=>vals[i]?,reads:=[],writes:=[],miss:=none }
def yL (l:List Int):List Value:=l.map (.int .u32)
theorem vof_any (n:Nat) (fv:Value) (w:World) (hf:∃T v,fv= .iface T v) :
 Calls prog 246 #[.int .i64 n,fv] w fun e w'=>e= .returned (.pointer (some ⟨w.heap.size+2,0,none⟩))/\w'=((w.alloc (.map #[] 0)).alloc (.map #[] 0)).alloc (.cells #[.int .i64 n,fv,.slice none 0 0,.map (some w.heap.size),.slice none 0 0,.map (some (w.heap.size+1)),.slice none 0 0,.int .i64 (-1),.bool false] 252):=by
 obtain ⟨T,v,rfl⟩:=hf;have hmm:=@run_makeMap prog;go_enter func246,ntmps246;go_wp2;go_ret;exact ⟨rfl,rfl⟩
def NewV (w:World) (s:VS) (e:Ending) (w':World):Prop:=
 ∃b,e= .returned (.pointer (some ⟨b,0,none⟩))/\PV w' b (fun k=>w.heap.size<=k/\k < w'.heap.size) s/\Below w.heap.size w w'
theorem kK {w:World} {e sz n:Nat} {v:Value} {xs:List Value} (h:w.ownsRow 0 e sz v n xs):∃a c,v= .slice a n c:=by
 rcases h.2 with ⟨rfl,rfl⟩ | ⟨g,cap,cur,rfl,-⟩
 ·exact ⟨_,_,rfl⟩
 ·exact ⟨_,_,rfl⟩

theorem qF (t p s:Int) (w:World) :
 Calls prog 40 #[.agg #[.int .i64 t,.int .i64 p,.int .i64 s]] w (zW (.bool (jq t p s)) w):=by
 generalize hr:jq t p s=r;have HR:=zh hr;clear hr;go_enter func40,ntmps40;go_wp2;all_goals
  go_ret;refine ⟨kL ?_,by exact zR⟩;have hr:=HR.out;simp only [jq,Vl] at hr;subst hr;rw [Bool.eq_iff_iff];simp;omega
theorem ym (t p s:Int) (w:World) :
 Calls prog 41 #[.agg #[.int .i64 t,.int .i64 p,.int .i64 s]] w (zW (.int .i64 (qb t p s)) w):=by
 have H:=qF t p s;cases hr:jq t p s
 ·have hF:qb t p s=0:=by simp [qb,hr]
  rw [hF];rw [hr] at H;have HH:=zh H;clear H hF hr;go_enter func41,ntmps41;go_wp2_with fail;refine zM (HH.out _) fun w1 ha=> ?_;obtain ⟨hac,haf⟩:=jB ha;have haz0:w.heap.size < w1.heap.size:=zL ha;go_wp2;go_ret;refine ⟨rfl,?_⟩;exact zR
 ·have hF:qb t p s=jk t p:=by simp [qb,hr]
  rw [hF];rw [hr] at H;have HH:=zh H;obtain ⟨b1,b2,b3,b4,b5,b6⟩:=jn hr;clear H hF hr;go_enter func41,ntmps41;go_wp2_with fail;refine zM (HH.out _) fun w1 ha=> ?_;obtain ⟨hac,haf⟩:=jB ha;have haz0:w.heap.size < w1.heap.size:=zL ha;go_wp2;go_ret;refine ⟨rfl,?_⟩;exact zR
theorem Jh (t p s q part:Int) (w:World) (h0:0<=part) (h1:part<=5) :
 Calls prog 170 #[.agg #[.int .i64 t,.int .i64 p,.int .i64 s],.int .i64 q,.int .i64 part] w (zW (.int .i64 (ofF t p s q part)) w):=by
 have H:=qF t p s;cases hr:jq t p s
 ·have hF:ofF t p s q part= -1:=by simp [ofF,hr]
  rw [hF];rw [hr] at H;have HH:=zh H;clear H hF hr;go_enter func170,ntmps170;go_wp2_with fail;refine zM (HH.out _) fun w1 ha=> ?_;obtain ⟨hac,haf⟩:=jB ha;have haz0:w.heap.size < w1.heap.size:=zL ha;go_wp2;go_ret;refine ⟨rfl,?_⟩;exact zR
 ·obtain ⟨b1,b2,b3,b4,b5,b6⟩:=jn hr;rw [hr] at H;have HH:=zh H;clear H;by_cases hq:q < 0
  ·have hF:ofF t p s q part= -1:=by simp [ofF,hr];omega
   rw [hF];clear hF hr;go_enter func170,ntmps170;go_wp2_with fail;refine zM (HH.out _) fun w1 ha=> ?_;obtain ⟨hac,haf⟩:=jB ha;have haz0:w.heap.size < w1.heap.size:=zL ha;go_wp2;go_ret;refine ⟨rfl,?_⟩;exact zR
  ·by_cases hq2:q < p
   ·have hF:ofF t p s q part=30+4*t+6*q+part:=by simp [ofF,hr];omega
    rw [hF];clear hF hr;go_enter func170,ntmps170;go_wp2_with fail;refine zM (HH.out _) fun w1 ha=> ?_;obtain ⟨hac,haf⟩:=jB ha;have haz0:w.heap.size < w1.heap.size:=zL ha;go_wp2;go_ret;refine ⟨qu zo,?_⟩;exact zR
   ·have hF:ofF t p s q part= -1:=by simp [ofF,hr];omega
    rw [hF];clear hF hr;go_enter func170,ntmps170;go_wp2_with fail;refine zM (HH.out _) fun w1 ha=> ?_;obtain ⟨hac,haf⟩:=jB ha;have haz0:w.heap.size < w1.heap.size:=zL ha;go_wp2;go_ret;refine ⟨rfl,?_⟩;exact zR
theorem XH (t p s q:Int) (w:World) :
 Calls prog 177 #[.agg #[.int .i64 t,.int .i64 p,.int .i64 s],.int .i64 q] w (zW (.int .i64 (ofF t p s q 2)) w):=by
 go_enter func177,ntmps177;go_wp2_with fail;refine zM (Jh _ _ _ _ _ _ zo zo) fun w1 ha=> ?_;obtain ⟨hac,haf⟩:=jB ha;go_wp2;go_ret;refine ⟨rfl,?_⟩;exact zR
theorem XC (t p s q:Int) (w:World) :
 Calls prog 178 #[.agg #[.int .i64 t,.int .i64 p,.int .i64 s],.int .i64 q] w (zW (.int .i64 (ofF t p s q 3)) w):=by
 go_enter func178,ntmps178;go_wp2_with fail;refine zM (Jh _ _ _ _ _ _ zo zo) fun w1 ha=> ?_;obtain ⟨hac,haf⟩:=jB ha;go_wp2;go_ret;refine ⟨rfl,?_⟩;exact zR
theorem yq (w:World) (e sz:Nat):(w.alloc (.cells #[] e)).ownsRow 0 e sz (.slice (some ⟨w.heap.size,0,none⟩) 0 0) 0 []:=
 ⟨zT,Or.inr ⟨w.heap.size,0,#[],rfl,Nat.zero_le _,heap_alloc_new w _,Nat.le_refl _,by unfold maxLen;omega,zT,zT⟩⟩
theorem kA {P:Program} {ops:Array Oper} {o:Oper} {a:Act} {w:World} {K:Act->World->Prop} {Q:Exit->Act->World->Prop} {E:Prop} {t:TypeId}
 (hg:o.guard=none) (s x:Operand) (ho:o.op= .call { callee:= .builtin .append,args:=#[s,x],argTypes:=#[t,t] })
 (e:TypeId) (i:TypeInfo) (z:Value) (size bytes:Nat) (ht:P.underlying t=some (.slice e)) (hi:P.info? e=some i) (hz:i.zero=some z)
 (hsize:i.size=size) (hby:i.bytes=bytes) (hzs:z.cells.size=size) (hsz:0 < size)
 (v:Value) (n:Nat) (xs:List Value) (hs:a.eval s=v) (hown:w.ownsRow 0 e size v n xs)
 (ad:Addr) (m c:Nat) (news:List Value) (hx:a.eval x= .slice (some ad) m c) (hl:news.length=m*size) (hnews:∀j u,news[j]? =some u->w.cell? (ad.add j)=some u) (h1:∀u∈news,u.oneCell'=true)
 (h63:n+m<=maxLen) (hbytes:(n+m)*bytes<=140737488355328)
 (h:∀v' w',w'.ownsRow 0 e size v' (n+m) (xs++news)->w.grownBy w' v.ownBlock->(∀k,v'.ownBlock=some k->v.ownBlock=some k\/w.heap.size<=k)->(v'= .slice none 0 0↔v= .slice none 0 0/\m=0)->K (a.put o.dst v') w') :
 if Region.wanted o (yielded ops a.tmps)=true then Oper.wp P o a w K Q else E:=by
 have hw:Region.wanted o (yielded ops a.tmps)=true:=by simp [Region.wanted,hg]
 rw [if_pos hw];obtain ⟨v',w',hr,h2,h3,h4,h5⟩:=Ko (P:=P) (w:=w) t o.type e i z size bytes ht hi hz hsize hby hzs hsz v n xs hown ad m c news hl hnews h1 h63 hbytes;unfold Oper.wp execOp;simp only [ho,resolve,invoke,builtin,Sem.run_bind,Sem.run_pure,Result.andThen_ok,List.map_toArray,List.map_cons,List.map_nil,hs,hx,hr];exact h v' w' h2 h3 h4 h5
theorem YE (w:World) (u1 u2:Value) (T:TypeId) (k:Nat) (hk:k=w.heap.size):∀(j:Nat) (x:Value),[u1,u2][j]? =some x->(w.alloc (.cells #[u1,u2] T)).cell? ((⟨k,0,none⟩:Addr).add j)=some x:=by
 subst hk;intro j x hj;rcases j with _ | _ | j
 ·simp at hj;subst hj;exact jd (o:=0) (heap_alloc_new w (.cells #[u1,u2] T))
 ·simp at hj;subst hj;exact jd (o:=1) (heap_alloc_new w (.cells #[u1,u2] T))
 ·simp at hj

structure BS (w0:World) (Ls:List Nat) (w:World):Prop where
 bel:Below w0.heap.size w0 w
 ls:∀L∈Ls,L < w.heap.size/\w0.heap.size<=L
section
variable {w0 w w':World} {Ls:List Nat}

theorem BS.start (w0:World):BS w0 [] w0:=⟨Below.refl _ _,zT⟩
theorem BS.below (h:BS w0 Ls w) (hb:Below w.heap.size w w'):BS w0 Ls w':=
 ⟨h.bel.trans (hb.mono h.bel.size),fun L hL=>⟨Nat.lt_of_lt_of_le (h.ls L hL).1 hb.size,(h.ls L hL).2⟩⟩
theorem BS.alloc (h:BS w0 Ls w) (o:Obj):BS w0 (w.heap.size :: Ls) (w.alloc o):=by
 refine ⟨h.bel.alloc h.bel.size o,fun L hL=> ?_⟩;simp at hL;rcases hL with rfl | hL
 ·exact ⟨zT,h.bel.size⟩
 ·have:=h.ls L hL;exact ⟨by simp;omega,this.2⟩
theorem BS.drew (h:BS w0 Ls w):BS w0 Ls w.drew:=⟨h.bel.drew,h.ls⟩
theorem BS.setCell (h:BS w0 Ls w) {L:Nat} (hL:L∈Ls) (o:Nat) (v:Value):BS w0 Ls (w.setCell ⟨L,o,none⟩ v):=
 ⟨h.bel.setCell (h.ls L hL).2 v,fun M hM=>⟨by simpa using (h.ls M hM).1,(h.ls M hM).2⟩⟩
theorem BS.sub (h:BS w0 Ls w) (Ls':List Nat) (hL:∀L∈Ls',L∈Ls):BS w0 Ls' w:=⟨h.bel,fun L hm=>h.ls L (hL L hm)⟩
theorem BS.grown (h:BS w0 Ls w) {row:Option Nat} (hg:w.grownBy w' row) (hr:∀k,row=some k->k∈Ls) (Ls':List Nat) (hL:∀L∈Ls',L∈Ls\/(w.heap.size<=L/\L < w'.heap.size)):BS w0 Ls' w':=by
 refine ⟨h.bel.grown hg h.bel.size (fun k hk=>(h.ls k (hr k hk)).2),fun L hm=> ?_⟩;have:=h.bel.size;rcases hL L hm with y | y
 ·exact ⟨Nat.lt_of_lt_of_le (h.ls L y).1 hg.size,(h.ls L y).2⟩
 ·exact ⟨y.2,zo⟩
theorem jv {P:Program} {f:FuncId} {args:Array Value} {val:Value} (h:BS w0 Ls w)
 (hc:Calls P f args w (zW val w)) :
 Calls P f args w fun e w'=>e= .returned val/\BS w0 Ls w'/\∀L∈Ls,w'.heap[L]? =w.heap[L]? :=
 hc.mono fun _ _ ⟨he,hb⟩=>⟨he,h.below hb,fun L hL=>hb.block L (h.ls L hL).1⟩
theorem BS.old (h:BS w0 Ls w) {a:Addr} {u:Value} (hc:w0.cell? a=some u):w.cell? a=some u:=
 (h.bel.cell (World.block_lt_of_cell? w0 a hc)).trans hc
end

theorem BS.oldbox {w0 w:World} {Ls:List Nat} {b:Nat} {cs:Array Value} (h:BS w0 Ls w) (hc:∀o:Nat,w0.cell? ⟨b,o,none⟩=cs[o]?) (hb:b < w0.heap.size):∀o:Nat,w.cell? ⟨b,o,none⟩=cs[o]? :=
 fun o=>(h.bel.cell (p:=⟨b,o,none⟩) hb).trans (hc o)
theorem BS.row {w0 w:World} {Ls:List Nat} {e sz n:Nat} {v:Value} {xs:List Value} (h:BS w0 Ls w) (hr:w0.ownsRow 0 e sz v n xs):w.ownsRow 0 e sz v n xs:=
 jh hr fun k hk=>h.bel.block k (jt hr hk)
instance {w0:World} {Ls:List Nat}:Kp (fun w=>BS w0 Ls w):=⟨fun h b=>h.below b⟩
instance {w0:World} {Ls:List Nat}:Kp (BS w0 Ls):=⟨fun h b=>h.below b⟩
theorem jdE {P:Program} {ops:Array Oper} {Q:Exit->Act->World->Prop} {id:Nat} {a:Act} {w:World} (h:(BS w [] w.drew)->wpAnyH P .any ops (NoPanic Q) (fun w'=>BS w [] w') ops.size (Array.replicate ops.size false) a w.drew) (hm:P.follows .mixedOrders=true:=by kernel_rfl):(Code.region id ops true).wp P Q a w:=
 wp_region_noPanic (wp_region_held_drew (S:=fun w'=>BS w [] w') hm (BS.start w).drew h)
theorem wHb1 {A:World->Prop} [Kp A] {P:Program} {ops:Array Oper} {Q:Exit->Act->World->Prop} {id:Nat} {a:Act} {w:World} (hA:Ho A w) (h:(BS w [] w.drew/\A w.drew)->wpAnyH P .any ops (NoPanic Q) (fun w'=>BS w [] w'/\A w') ops.size (Array.replicate ops.size false) a w.drew) (hm:P.follows .mixedOrders=true:=by kernel_rfl):(Code.region id ops true).wp P Q a w:=
 wp_region_noPanic (wp_region_held_drew (S:=fun w'=>BS w [] w'/\A w') hm ⟨(BS.start w).drew,hA.d⟩ h)
theorem QN {A B:World->Prop} [Kp A] [Kp B] {P:Program} {ops:Array Oper} {Q:Exit->Act->World->Prop} {id:Nat} {a:Act} {w:World} (hA:Ho A w) (hB:Ho B w) (h:(BS w [] w.drew/\A w.drew/\B w.drew)->wpAnyH P .any ops (NoPanic Q) (fun w'=>BS w [] w'/\A w'/\B w') ops.size (Array.replicate ops.size false) a w.drew) (hm:P.follows .mixedOrders=true:=by kernel_rfl):(Code.region id ops true).wp P Q a w:=
 wp_region_noPanic (wp_region_held_drew (S:=fun w'=>BS w [] w'/\A w'/\B w') hm ⟨(BS.start w).drew,hA.d,hB.d⟩ h)
theorem wHb3 {A B C:World->Prop} [Kp A] [Kp B] [Kp C] {P:Program} {ops:Array Oper} {Q:Exit->Act->World->Prop} {id:Nat} {a:Act} {w:World} (hA:Ho A w) (hB:Ho B w) (hC:Ho C w) (h:(BS w [] w.drew/\A w.drew/\B w.drew/\C w.drew)->wpAnyH P .any ops (NoPanic Q) (fun w'=>BS w [] w'/\A w'/\B w'/\C w') ops.size (Array.replicate ops.size false) a w.drew) (hm:P.follows .mixedOrders=true:=by kernel_rfl):(Code.region id ops true).wp P Q a w:=
 wp_region_noPanic (wp_region_held_drew (S:=fun w'=>BS w [] w'/\A w'/\B w'/\C w') hm ⟨(BS.start w).drew,hA.d,hB.d,hC.d⟩ h)
theorem wHb4 {A B C D:World->Prop} [Kp A] [Kp B] [Kp C] [Kp D] {P:Program} {ops:Array Oper} {Q:Exit->Act->World->Prop} {id:Nat} {a:Act} {w:World} (hA:Ho A w) (hB:Ho B w) (hC:Ho C w) (hD:Ho D w) (h:(BS w [] w.drew/\A w.drew/\B w.drew/\C w.drew/\D w.drew)->wpAnyH P .any ops (NoPanic Q) (fun w'=>BS w [] w'/\A w'/\B w'/\C w'/\D w') ops.size (Array.replicate ops.size false) a w.drew) (hm:P.follows .mixedOrders=true:=by kernel_rfl):(Code.region id ops true).wp P Q a w:=
 wp_region_noPanic (wp_region_held_drew (S:=fun w'=>BS w [] w'/\A w'/\B w'/\C w'/\D w') hm ⟨(BS.start w).drew,hA.d,hB.d,hC.d,hD.d⟩ h)
theorem jT {F:World->Prop} {W:World} (h:∀W',W'=W->F W'):F W:=h W rfl
theorem BS.append {w0 w w':World} {L:Nat} {v v':Value} {ob:Obj} {e sz n:Nat} {xs:List Value} (h:BS w0 (L :: v.ownBlock.toList) w) (hg:(w.alloc ob).grownBy w' v.ownBlock)
 (hnew:∀k,v'.ownBlock=some k->v.ownBlock=some k\/(w.alloc ob).heap.size<=k) (hown:w'.ownsRow 0 e sz v' n xs):BS w0 (L :: v'.ownBlock.toList) w':=by
 refine (h.alloc ob).grown hg (fun k hk=>by simp [hk]) _ fun M hM=> ?_;simp at hM;rcases hM with rfl | hM
 ·exact Or.inl zT
 ·rcases hnew M hM with h1 | h1
  ·exact Or.inl (by simp [h1])
  ·exact Or.inr ⟨h1,jt hown hM⟩
structure BA (w0:World) (Ls:List Nat) (LA:Nat) (cs:Array Value) (T:TypeId) (w:World):Prop where
 bs:BS w0 (LA :: Ls) w
 box:w.heap[LA]? =some (.cells cs T)
 ne:∀L∈Ls,L≠LA
section
variable {w0 w w':World} {Ls:List Nat} {LA:Nat} {cs:Array Value} {T:TypeId}
theorem BS.allocd (h:BS w0 Ls w) (cs:Array Value) (T:TypeId):BA w0 Ls w.heap.size cs T (w.alloc (.cells cs T)):=
 ⟨h.alloc _,heap_alloc_new w _,fun L hL e=>by have:=(h.ls L hL).1;omega⟩
theorem BA.step (h:BA w0 Ls LA cs T w) (hV:BS w0 (LA :: Ls) w') (hl:∀L∈LA :: Ls,w'.heap[L]? =w.heap[L]?):BA w0 Ls LA cs T w':=
 ⟨hV,(hl _ zT).trans h.box,h.ne⟩
theorem jj {o:Nat} (h:w.heap[LA]? =some (.cells cs T)):w.frozen? ⟨LA,o,none⟩=false:=by
 simp [World.frozen?,h]
theorem jR {L o:Nat} {v:Value} (h:w.heap[L]? =some (.cells cs T)):(w.setCell ⟨L,o,none⟩ v).heap[L]? =some (.cells (cs.setIfInBounds o v) T):=by
 simp only [World.setCell];rw [Array.getElem?_modify,if_pos rfl,h];rfl
theorem jg {L M o:Nat} {v:Value} (h:M≠L):(w.setCell ⟨L,o,none⟩ v).heap[M]? =w.heap[M]? :=by
 simp only [World.setCell];rw [Array.getElem?_modify,if_neg (Ne.symm h)]
theorem BA.set (h:BA w0 Ls LA cs T w) (o:Nat) (v:Value):BA w0 Ls LA (cs.setIfInBounds o v) T (w.setCell ⟨LA,o,none⟩ v):=
 ⟨h.bs.setCell zT _ _,jR h.box,h.ne⟩
theorem BA.loc (h:BA w0 Ls LA cs T w) {L:Nat} {ds:Array Value} (hm:L∈Ls) (o:Nat) (v:Value) (hc:∀i:Nat,w.cell? ⟨L,i,none⟩=ds[i]?):∀i:Nat,(w.setCell ⟨LA,o,none⟩ v).cell? ⟨L,i,none⟩=ds[i]? :=
 fun i=>(World.cell?_of_block (a:=⟨L,i,none⟩) (jg (h.ne L hm))).trans (hc i)
theorem BA.hloc (h:BA w0 Ls LA cs T w) {L:Nat} {x:Option Obj} (hm:L∈Ls) (o:Nat) (v:Value) (hc:w.heap[L]? =x):(w.setCell ⟨LA,o,none⟩ v).heap[L]? =x:=
 (jg (h.ne L hm)).trans hc
theorem BA.grown (h:BA w0 Ls LA cs T w) {ob:Obj} {row:Option Nat} (hg:(w.alloc ob).grownBy w' row) (hr:∀k,row=some k->k < w0.heap.size):∀o:Nat,w'.cell? ⟨LA,o,none⟩=cs[o]? :=by
 have hl:=h.bs.ls LA zT;exact qh hg (by simp;omega) (fun e=>by have:=hr _ e;omega) (jC ob hl.1 fun o=>jd h.box)
theorem BA.cells3 {x y z:Value} (h:BA w0 Ls LA #[x,y,z] T w):(w.cell? ⟨LA,0,none⟩=some x/\w.cell? ⟨LA,1,none⟩=some y/\w.cell? ⟨LA,2,none⟩=some z)/\w.frozen? ⟨LA,0,none⟩=false/\w.frozen? ⟨LA,1,none⟩=false/\w.frozen? ⟨LA,2,none⟩=false/\LA < w.heap.size/\w0.heap.size<=LA/\Below w0.heap.size w0 w:=
 ⟨⟨jd h.box,jd h.box,jd h.box⟩,jj h.box,jj h.box,jj h.box,(h.bs.ls LA zT).1,(h.bs.ls LA zT).2,h.bs.bel⟩
theorem cells3 {L:Nat} {x y z:Value} (h:w.heap[L]? =some (.cells #[x,y,z] T)):(w.cell? ⟨L,0,none⟩=some x/\w.cell? ⟨L,1,none⟩=some y/\w.cell? ⟨L,2,none⟩=some z)/\w.frozen? ⟨L,0,none⟩=false/\w.frozen? ⟨L,1,none⟩=false/\w.frozen? ⟨L,2,none⟩=false:=
 ⟨⟨jd h,jd h,jd h⟩,jj h,jj h,jj h⟩
end

structure XV (w:World) (t p s:Int) (ad:Addr) (n:Nat) (vs:List Int):Prop where
 right:jq t p s=true
 few:p<=1024
 len:vs.length=n
 num:(n:Int)=30+4*t+6*p
 u32:∀v∈vs,VS.U32 v
 cells:∀k,k < n->w.cell? (ad.add k)=some (.int .u32 (vs.getD k 0))
theorem XV.keep {w w':World} {t p s:Int} {ad:Addr} {n:Nat} {vs:List Int} (h:XV w t p s ad n vs) (hb:Below w.heap.size w w'):XV w' t p s ad n vs:=
 ⟨h.right,h.few,h.len,h.num,h.u32,fun k hk=>(hb.cell (World.block_lt_of_cell? w _ (h.cells k hk))).trans (h.cells k hk)⟩
def cix (t q part:Int):Nat:=(30+4*t+6*q+part).toNat
def gv (vs:List Int) (t q part:Int):Int:=vs.getD (cix t q part) 0
theorem jfJ (a:Addr) (k:Nat):(a.add k).block=a.block:=by unfold Addr.add;split <;> rfl
theorem Kj {vs:List Int} (h:∀v∈vs,VS.U32 v) (k:Nat):VS.U32 (vs.getD k 0):=by
 by_cases hk:k < vs.length
 ·have e:vs.getD k 0=vs[k]:=by simp [hk]
  rw [e];exact h _ (List.getElem_mem hk)
 ·have e:vs.getD k 0=0:=by simp [show¬k < vs.length from hk]
  rw [e];exact VS.u32_zero
section
variable {w:World} {t p s:Int} {ad:Addr} {n:Nat} {vs:List Int}
theorem XV.bd (h:XV w t p s ad n vs):1<=t/\t<=16/\4<=p/\p<=1024/\10<=s/\s<=20/\(n:Int)=30+4*t+6*p:=by
 have:=jn h.right;have:=h.few;have:=h.num;omega
theorem XV.of (h:XV w t p s ad n vs) {q part:Int} (h1:0<=q) (h2:q < p):ofF t p s q part=30+4*t+6*q+part:=by
 simp [ofF,h.right,h1,h2]
theorem XV.cx (h:XV w t p s ad n vs) {q part:Int} (h1:0<=q) (h2:q < p) (h3:0<=part) (h4:part<=5):cix t q part < n/\ofF t p s q part=((cix t q part:Nat):Int):=by
 have b:=h.bd;rw [h.of h1 h2];unfold cix;omega
theorem XV.gu (h:XV w t p s ad n vs) (q part:Int):0<=gv vs t q part/\gv vs t q part < 4294967296:=Kj h.u32 _
end


theorem hmask16 (w:World):Calls prog 214 #[.int .i64 16] w (zW (.int .u64 65535) w):=by
 go_enter func214,ntmps214;go_wp2;go_ret;exact ⟨rfl,Below.refl _ _⟩
theorem jaX (t p s:Nat) (w:World) (hr:jq t p s=true) :
 Calls prog 129 #[.agg #[.int .i64 t,.int .i64 p,.int .i64 s]] w (zW (.tuple #[.int .u64 (t+p*65536+s*4294967296:Nat),.bool true]) w):=by
 obtain ⟨b1,b2,b3,b4,b5,b6⟩:=jn hr;have HC:=zh (fun w=>qF t p s w);rw [hr] at HC;have hw1:IntKind.u64.wrap (t:Int)=t:=jO _ zo zo;have hw2:IntKind.u64.wrap (p:Int)=p:=jO _ zo zo;have hw3:IntKind.u64.wrap (s:Int)=s:=jO _ zo zo;have hw4:IntKind.u64.wrap ((p:Int)*65536)=p*65536:=jO _ zo zo;have hw5:IntKind.u64.wrap ((s:Int)*4294967296)=s*4294967296:=jO _ zo zo;have hw6:IntKind.u64.wrap ((t:Int)+p*65536)=t+p*65536:=jO _ zo zo;have hw7:IntKind.u64.wrap ((t:Int)+p*65536+s*4294967296)=t+p*65536+s*4294967296:=jO _ zo zo;clear hr;go_enter func129,ntmps129;go_wp2_with fail;refine zM (HC.out _) fun w1 ha=> ?_;obtain ⟨hac,haf⟩:=jB ha;have haz0:w.heap.size < w1.heap.size:=zL ha;go_wp2;refine bodyPost_ret (v:= .tuple #[.int .u64 (t+p*65536+s*4294967296:Nat),.bool true]) (by simp [results,results129,go_sem]) rfl ⟨rfl,?_⟩;exact zR

def ValsRel (a b:List Int) (w:World) (i:Value) (wr:World):Prop:=∃k:Nat,k<=a.length/\i= .int .i64 k/\(∀j,j < k->a[j]? =b[j]?)/\Below w.heap.size w wr
def setN (vals:List Int) (ws:List (Nat×Int)) (k:Nat):List Int:=(ws.take k).foldl (fun l x=>l.set x.1 x.2) vals
theorem jbI (vals:List Int) (ws:List (Nat×Int)) (k:Nat):(setN vals ws k).length=vals.length:=by
 unfold setN;generalize ws.take k=l;induction l generalizing vals with
 | nil=>rfl
 | cons x l ih=>simp [ih]
def ValsP (w:World) (l:List Int) (e:Ending) (w':World):Prop:=
 ∃v,e= .returned v/\w'.ownsRow 0 44 1 v l.length (yL l)/\(∀k,v.ownBlock=some k->w.heap.size<=k)/\Below w.heap.size w w'

def jW (l:List Int):List Value:=l.map (.int .u64)
def FirstRel (n m:Int) (w:World) (a:Value) (wr:World):Prop:=∃k:Int,a= .int .i64 k/\n<=k/\k<=m/\Below w.heap.size w wr
theorem Vf (t p s:Int) (w:World) (hr:jq t p s=true) :
 Calls prog 128 #[.agg #[.int .i64 t,.int .i64 p,.int .i64 s]] w (zW (.int .i64 (jG t p)) w):=by
 have H1:=fun w=>ym t p s w;have hcf:qb t p s=jk t p:=by simp [qb,hr]
 rw [hcf] at H1;have HH1:=zh H1;have hb:0<=jk t p/\jk t p<=10000:=by have:=jn hr;unfold jk;omega
 have hm:16+jk t p<=jG t p/\jG t p < 16+jk t p+8/\jG t p % 8=0:=by unfold jG;omega
 generalize jG t p=m at*
 generalize jk t p=n at*
 clear H1 hcf hr;go_enter func128,ntmps128;go_wp2_with fail;refine zM (HH1.out _) fun w1 ha=> ?_;obtain ⟨hac,haf⟩:=jB ha;have haz0:w.heap.size < w1.heap.size:=zL ha;go_wp2;have HBel:Hid (Below w.heap.size w w1):=zh (by
  exact zR)
 go_loopw [3] (fun a wr=>FirstRel (16+n) m w a wr) (fun a _=>(m - intOf a).toNat);case atStart=>exact ⟨16+n,rfl,zo,zo,HBel.out⟩
 case round=>
  obtain ⟨k,rfl,k1,k2,hb⟩:=hrel;by_cases hlt:k=m
  ·have hz:k % 8=0:=zo;go_wp2;go_ret;exact ⟨qu hlt,hb⟩
  ·have hz:k % 8≠0:=zo;go_wp2;go_roundw;case rel=>exact ⟨k+1,rfl,zo,zo,hb⟩
   case measure=>simp [intOf];omega
theorem JM (t p s:Int) (w:World) (hr:jq t p s=true) :
 Calls prog 74 #[.agg #[.int .i64 t,.int .i64 p,.int .i64 s]] w (zW (.int .i64 (qa t p)) w):=by
 have HF:=zh (fun w=>Vf t p s w hr);have HC:=zh (fun w=>qF t p s w);rw [hr] at HC;have hm:0<=jG t p/\jG t p<=10000:=by have:=jn hr;unfold jG jk;omega
 have hw:qa t p=jG t p+120*(t+1):=rfl;have ht:=(jn hr).1;have ht2:=(jn hr).2.1;rw [hw];generalize jG t p=m at*
 have e1:IntKind.i64.wrap (t+1)=t+1:=IntWalk.i64_in _ zo;have e2:IntKind.i64.wrap (120*(t+1))=120*(t+1):=IntWalk.i64_in _ zo;have e3:IntKind.i64.wrap (m+120*(t+1))=m+120*(t+1):=IntWalk.i64_in _ zo;clear hw hr;have c0:=jr w #[.int .i64 t,.int .i64 p,.int .i64 s] 23;have S0:=((BS.start w).alloc (.cells #[.int .i64 t,.int .i64 p,.int .i64 s] 23))
 go_enter func74,ntmps74;go_wp2_with fail;refine zM (jv S0 (HC.out _)) ?_;rintro w1 ⟨S1,S1l⟩;have c1:=jc S1l zT c0;clear S1l;go_wp2_with fail;refine Xe (zP c1) fun hHeld=> ?_;refine wT 0 ?_;refine wY ?_;refine wR 1 fun K hK=> ?_;go_simp;refine zM (HF.out _) fun w2 b2=> ?_;have S2:=S1.drew.below b2;have c2:=((BS.start _).below b2).oldbox hHeld (S1.ls w.heap.size zT).1;refine wK hK (c2) fun hHeld=> ?_;clear hK K;refine wY ?_;refine wD ?_;go_wp2;go_ret;exact ⟨rfl,S2.bel⟩
theorem jbr:(prog.info? 38).map (fun i=>(i.zero,i.size,i.bytes))=some (some (.int .u64 0),1,8):=by kernel_rfl
theorem jd2 (w:World) (cs:List Value) (n:Nat) (hn:cs.length=n) (h:n<=1000000):(w.alloc (.cells cs.toArray 38)).ownsRow 0 38 1 (.slice (some ⟨w.heap.size,0,none⟩) n n) n cs:=by
 refine ⟨by simpa using hn,Or.inr ⟨w.heap.size,n,cs.toArray,rfl,Nat.zero_le _,heap_alloc_new w _,Nat.le_refl _,by unfold maxLen;omega,by simpa using hn,?_⟩⟩;simp [<-hn]
def JJ (x:Nat) (n:Int):List Int:=[5638862229071736881,1,x,n,0,0,0]
def jao (x:Nat) (n:Int):List Int:=JJ x n++[sumF (JJ x n)]
def jfK (w:World) (l:List Int) (e:Ending) (w':World):Prop:=
 ∃v,e= .returned v/\w'.ownsRow 0 38 1 v l.length (jW l)/\(∀k,v.ownBlock=some k->w.heap.size<=k)/\Below w.heap.size w w'
theorem jfk {x:Nat} {n:Int} (hx:x < 18446744073709551616) (hn:0<=n) (hn2:n<=100000):∀y∈JJ x n,0<=y/\y < 18446744073709551616:=by
 intro y hy;simp [JJ] at hy;omega

theorem VL (t p s x:Nat) (n:Int) (w:World) (hr:jq t p s=true) (hx:t+p*65536+s*4294967296=x) (hn:qa t p=n) :
 Calls prog 75 #[.agg #[.int .i64 t,.int .i64 p,.int .i64 s]] w (jfK w (jao x n)):=by
 obtain ⟨b1,b2,b3,b4,b5,b6⟩:=jn hr;have HC:=zh (fun w=>jaX t p s w hr);rw [hx] at HC;have HW:=zh (fun w=>JM t p s w hr);rw [hn] at HW;have hx2:x < 18446744073709551616:=zo;have hn2:0<=n/\n<=100000:=by rw [<-hn];unfold qa jG jk;omega
 have hwn:IntKind.u64.wrap n=n:=jO _ zo zo;have hu:=zh (jfk hx2 hn2.1 hn2.2);have hsb:=sumF_bd (JJ x n);have hws:IntKind.u64.wrap (sumF (JJ x n))=sumF (JJ x n):=jO _ zo zo;have hL:jao x n=JJ x n++[sumF (JJ x n)]:=rfl;have HL:=zh hL;have HS:=zh (fun g w=>rsum_any (JJ x n) g w);generalize sumF (JJ x n)=y at*
 obtain ⟨i0,hi0,hi1,hi2,hi3⟩:=info_parts jbr;have HI:=zh (And.intro hi0 (And.intro hi1 (And.intro hi2 hi3)));clear hi0 hi1 hi2 hi3 hr hx hn hL;have c0:=jr w #[.int .i64 t,.int .i64 p,.int .i64 s] 23;have S0:=((BS.start w).alloc (.cells #[.int .i64 t,.int .i64 p,.int .i64 s] 23))
 go_enter func75,ntmps75;go_wp2_with fail;refine zM (jv S0 (HC.out _)) ?_;rintro w1 ⟨S1,S1l⟩;have c1:=jc S1l zT c0;clear S1l;go_wp2_with fail;refine zM (jv S1 (HW.out _)) ?_;rintro w2 ⟨S2,S2l⟩;have c2:=jc S2l zT c1;clear S2l;have R2:(w2.alloc (.cells #[.int .u64 5638862229071736881,.int .u64 1,.int .u64 x,.int .u64 n,.int .u64 0,.int .u64 0,.int .u64 0] 38)).ownsRow 0 38 1 (.slice (some ⟨w2.heap.size,0,none⟩) 7 7) 7 (jW (JJ x n)):=jd2 w2 (jW (JJ x n)) 7 (by simp [jW,JJ]) zo;have S3:=S2.alloc (.cells #[.int .u64 5638862229071736881,.int .u64 1,.int .u64 x,.int .u64 n,.int .u64 0,.int .u64 0,.int .u64 0] 38);go_wp2_with fail;refine (HS.out w2.heap.size _ (by simp [JJ]) hu.out zT (fun j hj=> ?_)).mono ?_
 ·have:=R2.cellAt j (by simpa [JJ] using hj);rw [this];simp [jW,hj]
 rintro e w3 ⟨rfl,b3⟩;have R3:=((BS.start _).below b3).row R2;have S4:=S3.below b3;have l2:w2.heap.size < w3.heap.size:=(S4.ls w2.heap.size zT).1;clear S0 S1 S2 S3 R2 c0 c1 c2 b3 HC HW HS hu;go_wp2_with (at_builtin;go_must (refine km rfl _ _ rfl 38 i0 (.int .u64 0) 1 8 underlying24 HI.out.1 HI.out.2.1 HI.out.2.2.1 HI.out.2.2.2 rfl zd (.slice (some ⟨w2.heap.size,0,none⟩) 7 7) 7 (jW (JJ x n)) rfl (R3.alloc _) ⟨w3.heap.size,0,none⟩ 1 1 [.int .u64 y] rfl rfl (cell_one_new _ _ _) ?c1 ?c2 ?c3 ?_);go_must (case c1=>(simp [Value.oneCell']));go_must (case c2=>(unfold maxLen;omega));go_must (case c3=>(omega));go_must (intro v' w5 hown5 hg5 hnew5 hnil5);clear hnil5);go_ret;have S5:=(S4.alloc (.cells #[.int .u64 y] 38)).grown hg5 (fun k hk=>by simp [Value.ownBlock] at hk;simp [hk]) [] zT;refine ⟨v',rfl,?_,fun k hk=> ?_,S5.bel⟩
 ·rw [HL.out];simpa [JJ,jW] using hown5
 ·have:=S4.bel.size;rcases hnew5 k hk with h | h
  ·simp [Value.ownBlock] at h;have:=(S4.ls w2.heap.size zT).2;omega
  ·simp at h;omega
theorem rjoin10 (w:World):Calls prog 48 #[.int .u32 1,.int .u32 0] w (zW (.int .u64 4294967296) w):=by
 go_enter func48,ntmps48;go_wp2;go_ret;exact ⟨rfl,Below.refl _ _⟩
theorem Yl (t p s c:Int) (w:World) (hr:jq t p s=true) (h0:0<=c) (h1:c < jk t p) :
 Calls prog 143 #[.agg #[.int .i64 t,.int .i64 p,.int .i64 s],.int .i64 c] w (zW (.int .i64 (16+c)) w):=by
 have HL:=zh (fun w=>yT t p s w hr);have HC:=zh (fun m w=>Qr t p s m w hr);have hb:jk t p<=10000:=by have:=jn hr;unfold jk;omega
 have HW:=zh (fun w=>J7 16 c (jk t p) w zo zo zo);have hwf:kq 16 c (jk t p)=16+c:=by unfold kq;rw [if_neg zo]
 rw [hwf] at HW;generalize jk t p=n at*
 clear hwf hr;go_enter func143,ntmps143;go_wp2_with fail;refine zM (HL.out _) fun w1 ha=> ?_;obtain ⟨hac,haf⟩:=jB ha;have haz0:w.heap.size < w1.heap.size:=zL ha;go_wp2_with fail;refine zM (HC.out _ _) fun w2 hb2=> ?_;obtain ⟨hb2c,hb2f⟩:=jB hb2;go_wp2_with fail;refine zM (HW.out _) ?_;rintro w3 rfl;go_wp2;go_ret;refine ⟨rfl,?_⟩;exact zR

theorem KP (t p s q:Int) (w:World) :
 Calls prog 115 #[.agg #[.int .i64 t,.int .i64 p,.int .i64 s],.int .i64 q] w (zW (.int .i64 (ofF t p s q 0)) w):=by
 go_enter func115,ntmps115;go_wp2_with fail;refine zM (Jh _ _ _ _ _ _ zo zo) fun w1 ha=> ?_;obtain ⟨hac,haf⟩:=jB ha;go_wp2;go_ret;refine ⟨rfl,?_⟩;exact zR
theorem XM (t p s q:Int) (w:World) :
 Calls prog 134 #[.agg #[.int .i64 t,.int .i64 p,.int .i64 s],.int .i64 q] w (zW (.int .i64 (ofF t p s q 1)) w):=by
 go_enter func134,ntmps134;go_wp2_with fail;refine zM (Jh _ _ _ _ _ _ zo zo) fun w1 ha=> ?_;obtain ⟨hac,haf⟩:=jB ha;go_wp2;go_ret;refine ⟨rfl,?_⟩;exact zR
theorem jcz (t p s q:Int) (w:World) :
 Calls prog 116 #[.agg #[.int .i64 t,.int .i64 p,.int .i64 s],.int .i64 q] w (zW (.int .i64 (ofF t p s q 4)) w):=by
 go_enter func116,ntmps116;go_wp2_with fail;refine zM (Jh _ _ _ _ _ _ zo zo) fun w1 ha=> ?_;obtain ⟨hac,haf⟩:=jB ha;go_wp2;go_ret;refine ⟨rfl,?_⟩;exact zR
theorem jcx (t p s q:Int) (w:World) :
 Calls prog 117 #[.agg #[.int .i64 t,.int .i64 p,.int .i64 s],.int .i64 q] w (zW (.int .i64 (ofF t p s q 5)) w):=by
 go_enter func117,ntmps117;go_wp2_with fail;refine zM (Jh _ _ _ _ _ _ zo zo) fun w1 ha=> ?_;obtain ⟨hac,haf⟩:=jB ha;go_wp2;go_ret;refine ⟨rfl,?_⟩;exact zR
theorem jbQ (k:Nat) (w:World) (h:k < 11) :
 Calls prog 131 #[.int .i64 k] w (zW (.int .i64 ((2+k:Nat):Int)) w):=by
 go_enter func131,ntmps131;go_wp2;go_ret;exact ⟨qu zo,Below.refl _ _⟩
theorem jd1 (k:Nat) (w:World) (h:k < 9) :
 Calls prog 166 #[.int .i64 k] w (zW (.int .i64 ((13+k:Nat):Int)) w):=by
 go_enter func166,ntmps166;go_wp2;go_ret;exact ⟨qu zo,Below.refl _ _⟩
theorem jd0 (k:Nat) (w:World) (h:k < 8) :
 Calls prog 58 #[.int .i64 k] w (zW (.int .i64 ((22+k:Nat):Int)) w):=by
 go_enter func58,ntmps58;go_wp2;go_ret;exact ⟨qu zo,Below.refl _ _⟩
def bitB (v:Int) (i:Nat):Bool:=decide (i < 32) && (v / 2 ^ i % 2 == 1)
theorem KR (v:Int) (i:Nat) (w:World) (h:i < 32) (h1:0<=v) :
 Calls prog 155 #[.int .u32 v,.int .i64 i] w (zW (.bool (bitB v i)) w):=by
 have hd:0<=v / 2 ^ i:=Int.ediv_nonneg h1 (Int.pow_nonneg zo);go_enter func155,ntmps155;go_wp2;go_ret;exact ⟨kL (by simp [bitB,h]),Below.refl _ _⟩
def jE (k:Int):Int:=if k=0 then 32 else if k=1 then 21 else if k=2 then 16 else if k=3 then 10 else if k=4 then 8 else if k=5 then 5 else if k=6 then 4 else if k=7 then 3 else if k=8 then 2 else 0
theorem QQ (k:Int):0<=jE k/\jE k<=32:=by unfold jE;repeat' split <;> omega
theorem yl (k:Int) (w:World) :
 Calls prog 172 #[.int .i64 k] w (zW (.int .i64 (jE k)) w):=by
 generalize hF:jE k=F;have HF:=zh hF;clear hF;go_enter func172,ntmps172;go_wp2;all_goals
  go_ret;refine ⟨qu ?_,Below.refl _ _⟩;have e:=HF.out;subst e;clear HF;simp_all [jE]
def kj (v:Int):Nat->Nat
 | 0=>0
 | k+1=>kj v k+if bitB v k then 1 else 0
theorem QT (v:Int) (k:Nat):kj v k<=k:=by
 induction k with
 | zero=>exact Nat.le_refl _
 | succ k ih=>unfold kj;split <;> omega
def OnesRel (v:Int) (w:World) (a i:Value) (wr:World):Prop:=∃k:Nat,k<=32/\i= .int .i64 k/\a= .int .i64 (kj v k)/\Below w.heap.size w wr
theorem XG (v:Int) (w:World) (h1:0<=v) :
 Calls prog 179 #[.int .u32 v] w (zW (.int .i64 (kj v 32)) w):=by
 go_enter func179,ntmps179;go_wp2;go_loopw [3,4] (fun a i wr=>OnesRel v w a i wr) (fun _ i _=>32 - (intOf i).toNat);case atStart=>exact ⟨0,zo,rfl,rfl,Below.refl _ _⟩
 case round=>
  obtain ⟨k,hk,rfl,rfl,hb⟩:=hrel;have hle:=QT v k;by_cases hlt:k < 32
  ·have HB:=KR v k wr hlt h1;have hs:kj v (k+1)=kj v k+if bitB v k then 1 else 0:=rfl
   have HS:=zh hs;clear hs;generalize bitB v k=z at*
   have HC:=zh HB;have HX:=zh hb;clear HB hb;cases z
   ·go_wp2_with fail;refine zM HC.out fun w1 b1=> ?_;go_wp2_with fail;go_roundw;case rel=>exact ⟨k+1,zo,by go_num,by rw [HS.out];simp,HX.out.trans (b1.mono HX.out.size)⟩
    case measure=>simp [intOf];omega
   ·go_wp2_with fail;refine zM HC.out fun w1 b1=> ?_;go_wp2_with fail;go_roundw;case rel=>exact ⟨k+1,zo,by go_num,by rw [HS.out];simp,HX.out.trans (b1.mono HX.out.size)⟩
    case measure=>simp [intOf];omega
  ·obtain rfl:k=32:=by omega
   go_wp2;go_ret;exact ⟨rfl,hb⟩
def KA (n:Nat):Nat:=if n=0 then 0 else n.log2+1
theorem jdr (n:Nat) (h:1<=n):KA n=KA (n / 2)+1:=by
 unfold KA;rw [if_neg zo,Nat.log2_def];by_cases h2:2<=n
 ·rw [if_pos h2,if_neg zo]
 ·rw [if_neg h2,if_pos zo]
theorem V8 (n:Nat):KA n<=n:=by
 unfold KA;split
 ·omega
 ·have:=Nat.log2_lt (n:=n) (k:=n) zo;have:=this.2 Nat.lt_two_pow_self;omega
def qr (n:Int):Int:=(KA n.toNat:Int) - 1
def LogRel (n:Int) (w:World) (a i:Value) (wr:World):Prop:=∃c k:Nat,a= .int .i64 c/\c<=1000000/\i= .int .i64 ((k:Int) - 1)/\k+KA c=KA n.toNat/\w=wr
theorem jbO (n:Int) (w:World) (h1:0<=n) (h2:n<=1000000) :
 Calls prog 182 #[.int .i64 n] w (zW (.int .i64 (qr n)) w):=by
 have hbn:=V8 n.toNat;obtain ⟨m,rfl⟩:=Int.eq_ofNat_of_zero_le h1;simp at hbn;generalize hF:qr m=F;have HF:=zh hF;clear hF h1;have h3:m<=1000000:=zo;clear h2;go_enter func182,ntmps182;go_wp2;go_loopw [0,3] (fun a i wr=>LogRel m w a i wr) (fun a _ _=>(intOf a).toNat);case atStart=>exact ⟨m,0,rfl,h3,rfl,zT,rfl⟩
 case round=>
  obtain ⟨c,k,rfl,hc,rfl,hs,rfl⟩:=hrel;have hbc:=V8 c;have hs2:k+KA c=KA m:=by simpa using hs
  have HS:=zh hs2;have hk:k<=1000000:=zo;clear hs hs2;by_cases hlt:1<=c
  ·go_wp2;go_roundw;case rel=>exact ⟨c / 2,k+1,zT,zo,by congr 1;omega,by have:=HS.out;have:=jdr c hlt;simp;omega,rfl⟩
   case measure=>simp [intOf];omega
  ·go_wp2;go_ret;refine ⟨qu ?_,Below.refl _ _⟩;have:=HS.out;have e:=HF.out;subst e;have:KA c=0:=by unfold KA;rw [if_pos zo]
   simp [qr];omega
def qx (v k:Int):Bool:=((kj v 32:Nat):Int) == jE k
theorem XL (v k:Int) (w:World) (h1:0<=v) :
 Calls prog 164 #[.int .u32 v,.int .i64 k] w (zW (.bool (qx v k)) w):=by
 have H1:=zh (fun w=>XG v w h1);generalize hz:qx v k=z;have HZ:=zh hz;clear hz h1;go_enter func164,ntmps164;go_wp2_with fail;refine zM (H1.out _) fun w1 b1=> ?_;go_wp2_with fail;refine zM (yl _ _) fun w2 b2=> ?_;go_wp2_with fail;go_ret;exact ⟨kL HZ.out,b1.trans (b2.mono b1.size)⟩
def yr (k l c:Int):Bool:=
 if k=0 then decide (l=0) && decide (c=0)
 else if k=1\/k=2 then decide (1<=l) && decide (l<=1024) && decide (c=0)
 else if k=3 then decide (l=1) && decide (0<=c) && decide (c<=8) else false
theorem Yi (k l c:Int) (w:World) :
 Calls prog 169 #[.agg #[.int .i64 k,.int .i64 l,.int .i64 c]] w (zW (.bool (yr k l c)) w):=by
 generalize hF:yr k l c=F;have HF:=zh hF;clear hF;go_enter func169,ntmps169;go_wp2;all_goals
  go_ret;refine ⟨kL ?_,by exact zR⟩;have e:=HF.out;subst e;clear HF;rw [Bool.eq_iff_iff];simp_all [yr] <;> omega

theorem k9 (a b:Int) (w:World) (h0:0<=a) (h1:1<=b) (h2:b<=64) (h3:a<=64 - b) :
 Calls prog 213 #[.int .i64 a,.int .i64 b] w (zW (.bool true) w):=by
 go_enter func213,ntmps213;go_wp2;go_ret;exact ⟨rfl,Below.refl _ _⟩
theorem jbs (w:World):Calls prog 214 #[.int .i64 12] w (zW (.int .u64 4095) w):=by
 go_enter func214,ntmps214;go_wp2;go_ret;exact ⟨rfl,Below.refl _ _⟩
theorem jb7 (w:World):Calls prog 214 #[.int .i64 4] w (zW (.int .u64 15) w):=by
 go_enter func214,ntmps214;go_wp2;go_ret;exact ⟨rfl,Below.refl _ _⟩
theorem hlo_any (v:Int) (w:World) (h0:0<=v) (h1:v < 4294967296):Calls prog 136 #[.int .u64 v] w (zW (.int .u32 v) w):=by
 have hw:IntKind.u32.wrap v=v:=IntWalk.u32_in _ zo;go_enter func136,ntmps136;go_wp2;go_ret;exact ⟨rfl,Below.refl _ _⟩
theorem jbq (n:Int) (w:World) (h1:1<=n) (h2:n<=1024):Calls prog 248 #[.agg #[.int .i64 1,.int .i64 n,.int .i64 0]] w (zW (.bool true) w):=by
 go_enter func248,ntmps248;go_wp2;go_ret;exact ⟨rfl,(Below.refl _ _).alloc (Nat.le_refl _) _⟩
theorem jfy (t p s q:Int) (w:World) (h0:0<=q) (h1:q < p):Calls prog 282 #[.agg #[.int .i64 t,.int .i64 p,.int .i64 s],.int .i64 q] w (zW (.bool true) w):=by
 go_enter func282,ntmps282;go_wp2;go_ret;exact ⟨rfl,(Below.refl _ _).alloc (Nat.le_refl _) _⟩
theorem put12:∀n:Nat,n < 1025->bits BinOp.or IntKind.u64 (bits BinOp.andNot IntKind.u64 1 (IntKind.u64.wrap 65520)) (IntKind.u64.wrap ((n:Int)*16))=1+16*(n:Int):=by decide+kernel
theorem put4:∀n:Nat,n < 1025->bits BinOp.or IntKind.u64 (bits BinOp.andNot IntKind.u64 (1+16*(n:Int)) (IntKind.u64.wrap 983040)) 0=1+16*(n:Int):=by decide+kernel
theorem jfi (n:Nat) (w:World) (h1:1<=n) (h2:n<=1024):Calls prog 227 #[.int .u64 1,.int .i64 4,.int .i64 12,.int .u64 n] w (zW (.tuple #[.int .u64 (1+16*n),.bool true]) w):=by
 go_enter func227,ntmps227;go_wp2_with fail;refine zM (k9 _ _ _ zo zo zo zo) fun w1 b1=> ?_;go_wp2_with fail;refine zM (jbs _) fun w2 b2=> ?_;go_wp2_with fail;refine jdE fun hHeld=> ?_;refine wT 0 ?_;refine wY ?_;refine wC 2 (jbs _) fun wz hHeld=> ?_;refine wY ?_;refine wD ?_;have bel:=hHeld.bel;clear hHeld;go_wp2;exact bodyPost_ret (v:= .tuple #[.int .u64 (1+16*n),.bool true]) (by simp [results,results227,go_sem];exact put12 n zo) rfl ⟨rfl,b1.trans ((b2.trans (bel.mono b2.size)).mono b1.size)⟩
theorem jfh (n:Nat) (w:World) (h1:1<=n) (h2:n<=1024):Calls prog 227 #[.int .u64 (1+16*n),.int .i64 16,.int .i64 4,.int .u64 0] w (zW (.tuple #[.int .u64 (1+16*n),.bool true]) w):=by
 have hp:=put4 n zo;have HP:=zh hp;clear hp;generalize (1+16*(n:Int))=v at*
 go_enter func227,ntmps227;go_wp2_with fail;refine zM (k9 _ _ _ zo zo zo zo) fun w1 b1=> ?_;go_wp2_with fail;refine zM (jb7 _) fun w2 b2=> ?_;go_wp2_with fail;refine jdE fun hHeld=> ?_;refine wT 0 ?_;refine wY ?_;refine wC 2 (jb7 _) fun wz hHeld=> ?_;refine wY ?_;refine wD ?_;have bel:=hHeld.bel;clear hHeld;go_wp2;exact bodyPost_ret (v:= .tuple #[.int .u64 v,.bool true]) (by simp [results,results227,go_sem];exact HP.out) rfl ⟨rfl,b1.trans ((b2.trans (bel.mono b2.size)).mono b1.size)⟩
theorem jfb (n:Nat) (w:World) (h1:1<=n) (h2:n<=1024):Calls prog 283 #[.agg #[.int .i64 1,.int .i64 n,.int .i64 0]] w (zW (.tuple #[.int .u32 (1+16*n),.bool true]) w):=by
 have H1:=zh (fun w=>jbq n w zo zo);have H2:=zh (fun w=>jfi n w h1 h2);have H3:=zh (fun w=>jfh n w h1 h2);have H4:=zh (fun w=>hlo_any (1+16*n) w zo zo);generalize (1+16*(n:Int))=v at*
 go_enter func283,ntmps283;go_wp2_with fail;refine zM (H1.out _) fun w1 ha=> ?_;obtain ⟨hac,haf⟩:=jB ha;have haz0:w.heap.size < w1.heap.size:=zL ha;go_wp2_with fail;refine zM (H2.out _) fun w2 hb=> ?_;obtain ⟨hbc,hbf⟩:=jB hb;have hbz0:w1.heap.size<=w2.heap.size:=zL hb;have hbz1:w.heap.size < w2.heap.size:=zL hb;go_wp2_with fail;refine zM (H3.out _) fun w3 hc=> ?_;obtain ⟨hcc,hcf⟩:=jB hc;have hcz0:w2.heap.size<=w3.heap.size:=zL hc;have hcz1:w.heap.size < w3.heap.size:=zL hc;go_wp2_with fail;refine zM (H4.out _) fun w4 hd=> ?_;obtain ⟨hdc,hdf⟩:=jB hd;go_wp2;refine bodyPost_ret (v:= .tuple #[.int .u32 v,.bool true]) (by simp [results,results283,go_sem]) rfl ⟨rfl,?_⟩;exact zR

def okI (v:Int):Bool:=yr (v % 16) (v / 16 % 4096) (v / 65536)
def iK (v:Int):Int:=if okI v then v % 16 else 0
def iL (v:Int):Int:=if okI v then v / 16 % 4096 else 0
def iC (v:Int):Int:=if okI v then v / 65536 else 0
theorem kP (v:Int):0<=iK v/\iK v<=3/\0<=iL v/\iL v<=1024/\0<=iC v/\iC v<=8/\(iK v≠0->okI v=true/\1<=iL v)/\(okI v=false->iK v=0):=by
 unfold iK iL iC;cases h:okI v
 ·simp
 ·unfold okI yr at h;have h0:=h;split at h0
  ·simp at h0;simp;omega
  ·split at h0
   ·simp at h0;simp;omega
   ·split at h0
    ·simp at h0;simp;omega
    ·simp at h0
theorem XK (v:Int) (w:World) (h1:0<=v) (h2:v < 4294967296) :
 Calls prog 114 #[.int .u32 v] w (zW (.tuple #[.agg #[.int .i64 (iK v),.int .i64 (iL v),.int .i64 (iC v)],.bool (okI v)]) w):=by
 have H:=fun w=>Yi (v % 16) (v / 16 % 4096) (v / 65536) w;have hz:yr (v % 16) (v / 16 % 4096) (v / 65536)=okI v:=rfl;rw [hz] at H;have HZ:∀z,okI v=z->(iK v=if z then v % 16 else 0)/\(iL v=if z then v / 16 % 4096 else 0)/\(iC v=if z then v / 65536 else 0):=by
  intro z hz;subst hz;exact ⟨rfl,rfl,rfl⟩
 clear hz;cases hok:okI v
 ·obtain ⟨e1,e2,e3⟩:=HZ _ hok;simp at e1 e2 e3;rw [e1,e2,e3];rw [hok] at H;have HH:=zh H;clear H HZ hok e1 e2 e3;go_enter func114,ntmps114;go_wp2_with fail;refine zM (HH.out _) fun w1 hb=> ?_;obtain ⟨hbc,hbf⟩:=jB hb;have z0:w.heap.size < w1.heap.size:=zL hb;have k:=fun o=>(hbc w.heap.size o (by simp;omega)).trans (jC (.cells #[.int .i64 (v % 16),.int .i64 (v / 16 % 4096),.int .i64 (v / 65536)] 130) zT (jr w #[.int .i64 0,.int .i64 0,.int .i64 0] 130) o);have k0:=k 0;have k1:=k 1;have k2:=k 2;simp at k0 k1 k2;clear k;go_wp2;clear hbc hbf;refine bodyPost_ret (v:= .tuple #[.agg #[.int .i64 0,.int .i64 0,.int .i64 0],.bool false]) (by simp [results,results114,go_sem, *]) rfl ⟨rfl,?_⟩;exact zR
 ·obtain ⟨e1,e2,e3⟩:=HZ _ hok;simp at e1 e2 e3;rw [e1,e2,e3];rw [hok] at H;have HH:=zh H;clear H HZ hok e1 e2 e3;go_enter func114,ntmps114;go_wp2_with fail;refine zM (HH.out _) fun w1 hb=> ?_;obtain ⟨hbc,hbf⟩:=jB hb;have z0:w.heap.size < w1.heap.size:=zL hb;have z1:w.heap.size+1 < w1.heap.size:=zL hb;have k:=fun o=>(hbc w.heap.size o (by simp;omega)).trans (jC (.cells #[.int .i64 (v % 16),.int .i64 (v / 16 % 4096),.int .i64 (v / 65536)] 130) zT (jr w #[.int .i64 0,.int .i64 0,.int .i64 0] 130) o);have k0:=k 0;have k1:=k 1;have k2:=k 2;simp at k0 k1 k2;clear k;go_wp2;clear hbc hbf;refine bodyPost_ret (v:= .tuple #[.agg #[.int .i64 (v % 16),.int .i64 (v / 16 % 4096),.int .i64 (v / 65536)],.bool true]) (by simp [results,results114,go_sem, *]) rfl ⟨rfl,?_⟩;exact zR
section
variable {t p s:Int} {ad:Addr} {n:Nat} {vs:List Int}

theorem yp (q:Int) (c:Nat) (w:World) (h:XV w t p s ad n vs) (h0:0<=q) (h1:q < p) :
 Calls prog 67 #[.agg #[.int .i64 t,.int .i64 p,.int .i64 s,.slice (some ad) n c],.int .i64 q] w (zW (.agg #[.int .i64 (iK (gv vs t q 0)),.int .i64 (iL (gv vs t q 0)),.int .i64 (iC (gv vs t q 0))]) w):=by
 obtain ⟨hx1,hx2⟩:=h.cx h0 h1 (part:=0) zo zo;have hc0:=h.cells _ hx1;have hgu:=h.gu q 0;have hI:=fun w=>KP t p s q w;rw [hx2] at hI;have hd:vs.getD (cix t q 0) 0=gv vs t q 0:=rfl;rw [hd] at hc0;generalize gv vs t q 0=v at*
 have hG:=fun w=>XK v w hgu.1 hgu.2;generalize okI v=ok at*
 generalize iK v=a1 at*
 generalize iL v=a2 at*
 generalize iC v=a3 at*
 generalize cix t q 0=k at*
 have H1:=zh hI;have H2:=zh hG;clear h hd hgu hI hG hx2;have hS0:=(((BS.start w).alloc (.cells #[.int .i64 t,.int .i64 p,.int .i64 s,.slice (some ad) n c] 128)).alloc (.cells #[.int .i64 0,.int .i64 0,.int .i64 0] 130))
 simp only [World.size_alloc] at hS0;go_enter func67,ntmps67;go_wp2_with fail;refine wH (S:=fun w'=>BS w [w.heap.size+1,w.heap.size] w'/\(∀o:Nat,w'.cell? ⟨w.heap.size,o,none⟩=(#[.int .i64 t,.int .i64 p,.int .i64 s,.slice (some ad) n c]:Array Value)[o]?)/\w'.heap[w.heap.size+1]? =some (.cells (#[.int .i64 0,.int .i64 0,.int .i64 0]) 130)/\w'.cell? (ad.add k)=some (.int .u32 v)) (⟨hS0.drew,jC _ zT (jr w _ _),Ja _ _ _ zT,hS0.drew.old hc0⟩) fun hHeld=> ?_;refine wT 0 ?_;refine wY ?_;refine wpAnyH_ready (rs:=[5,12]) zk zT ?_;refine AllReadyH.cons (o:=_) rfl (fun K hK=> ?_) (AllReadyH.cons (o:=_) rfl (fun K hK=> ?_) AllReadyH.nil);go_simp;refine zM (jv hHeld.1 (H1.out _)) ?_;rintro wr1 ⟨hV,hVl⟩;dsimp only;refine wK hK (⟨hV,jc hVl zT hHeld.2.1,(hVl _ zT).trans hHeld.2.2.1,hV.old hc0⟩) ?_;clear hK K hV hVl hHeld;intro hHeld;refine wT 6 ?_;refine wY ?_;refine wpAnyH_ready (rs:=[8,12]) zk zT ?_;refine AllReadyH.cons (o:=_) rfl (fun K hK=> ?_) (AllReadyH.cons (o:=_) rfl (fun K hK=> ?_) AllReadyH.nil);go_simp;refine zM (jv hHeld.1 (H2.out _)) ?_;rintro wr2 ⟨hV,hVl⟩;dsimp only;refine wK hK (⟨hV,jc hVl zT hHeld.2.1,(hVl _ zT).trans hHeld.2.2.1,hV.old hc0⟩) ?_;clear hK K hV hVl hHeld;intro hHeld;refine wT 9 ?_;refine wY ?_;refine wR 12 fun K hK=> ?_;have hP:=hHeld;have hA:=hHeld.1.allocd (#[.int .i64 0,.int .i64 0,.int .i64 0]) 130;try simp only [World.size_drew] at hA
 try simp only [World.size_alloc] at hA
 go_simp;refine wK hK (⟨hA.bs.sub _ zT,jC _ (hHeld.1.ls _ zT).1 hHeld.2.1,(heap_alloc_old _ _ (hHeld.1.ls _ zT).1).trans hHeld.2.2.1,hA.bs.old hc0⟩) ?_;clear hK K hHeld;intro hHeld;refine wR 13 fun K hK=> ?_;go_simp;have hA2:=(hP.1).allocd (#[.int .i64 a1,.int .i64 a2,.int .i64 a3]) 130;refine hK.out _ _ ?_ (fun hHeld2=> ?_);try simp only [World.size_drew] at hA2
 try simp only [World.size_alloc] at hA2
 ·exact ⟨hA2.bs.sub _ zT,jC _ ((hP.1).ls _ zT).1 hP.2.1,(heap_alloc_old _ _ ((hP.1).ls _ zT).1).trans hP.2.2.1,hA2.bs.old hc0⟩
 clear hA hP;have hA:=hA2;clear hA2 hHeld;have hHeld:=hHeld2;clear hHeld2;clear hK K;try simp only [Act.put,zA,zB,zC,zD,zE,zF]
 refine wY ?_;refine wD ?_;rotate_left;have hP:=hHeld;have hA:=hHeld.1.allocd (#[.int .i64 0,.int .i64 0,.int .i64 0]) 130;try simp only [World.size_drew] at hA
 try simp only [World.size_alloc] at hA
 go_simp;refine wK hK (⟨hA.bs.sub _ zT,jC _ (hHeld.1.ls _ zT).1 hHeld.2.1,(heap_alloc_old _ _ (hHeld.1.ls _ zT).1).trans hHeld.2.2.1,hA.bs.old hc0⟩) ?_;clear hK K hHeld;intro hHeld;refine wR 8 fun K hK=> ?_;go_simp;refine zM (jv hA.bs (H2.out _)) ?_;rintro wr3 ⟨hV,hVl⟩;have hAn:=hA.step hV hVl;dsimp only;refine wK hK (⟨hV.sub _ zT,jc hVl zT hHeld.2.1,(hVl _ zT).trans hHeld.2.2.1,hV.old hc0⟩) ?_;clear hK K hV hVl hHeld hA hP;have hA:=hAn;have hP:=trivial;clear hAn;intro hHeld;refine wY ?_;refine wR 13 fun K hK=> ?_;have kc0:=(jd (o:=0) hA.box)
 have kc1:=(jd (o:=1) hA.box)
 have kc2:=(jd (o:=2) hA.box)
 simp at kc0 kc1 kc2;have kf0:=jj (o:=0) hA.box;have kf1:=jj (o:=1) hA.box;have kf2:=jj (o:=2) hA.box;go_simp;refine wK hK (⟨(((hA.set 0 _).set 1 _).set 2 _).bs.sub _ zT,(((hA.set 0 _).set 1 _).loc zT 2 _ ((hA.set 0 _).loc zT 1 _ (hA.loc zT 0 _ hHeld.2.1))),(((hA.set 0 _).set 1 _).hloc zT 2 _ ((hA.set 0 _).hloc zT 1 _ (hA.hloc zT 0 _ hHeld.2.2.1))),(((hA.set 0 _).set 1 _).set 2 _).bs.old hc0⟩) ?_;have hA2:BA w [w.heap.size+1,w.heap.size] _ (#[.int .i64 a1,.int .i64 a2,.int .i64 a3]) 130 _:=(((hA.set 0 (.int .i64 a1)).set 1 (.int .i64 a2)).set 2 (.int .i64 a3))
 clear kc0 kf0 kc1 kf1 kc2 kf2 hA hP;have hA:=hA2;clear hA2 hHeld;intro hHeld;clear hK K;refine wT 14 ?_;refine wD ?_;rotate_left;have hP:=hHeld;have hA:=hHeld.1.allocd (#[.int .i64 0,.int .i64 0,.int .i64 0]) 130;try simp only [World.size_drew] at hA
 try simp only [World.size_alloc] at hA
 go_simp;refine wK hK (⟨hA.bs.sub _ zT,jC _ (hHeld.1.ls _ zT).1 hHeld.2.1,(heap_alloc_old _ _ (hHeld.1.ls _ zT).1).trans hHeld.2.2.1,hA.bs.old hc0⟩) ?_;clear hK K hHeld;intro hHeld;refine wR 5 fun K hK=> ?_;go_simp;refine zM (jv hA.bs (H1.out _)) ?_;rintro wr4 ⟨hV,hVl⟩;have hAn:=hA.step hV hVl;dsimp only;refine wK hK (⟨hV.sub _ zT,jc hVl zT hHeld.2.1,(hVl _ zT).trans hHeld.2.2.1,hV.old hc0⟩) ?_;clear hK K hV hVl hHeld hA hP;have hA:=hAn;have hP:=trivial;clear hAn;intro hHeld;refine wY ?_;refine wR 8 fun K hK=> ?_;go_simp;refine zM (jv hA.bs (H2.out _)) ?_;rintro wr5 ⟨hV,hVl⟩;have hAn:=hA.step hV hVl;dsimp only;refine wK hK (⟨hV.sub _ zT,jc hVl zT hHeld.2.1,(hVl _ zT).trans hHeld.2.2.1,hV.old hc0⟩) ?_;clear hK K hV hVl hHeld hA hP;have hA:=hAn;have hP:=trivial;clear hAn;intro hHeld;refine wY ?_;refine wR 13 fun K hK=> ?_;have kc0:=(jd (o:=0) hA.box)
 have kc1:=(jd (o:=1) hA.box)
 have kc2:=(jd (o:=2) hA.box)
 simp at kc0 kc1 kc2;have kf0:=jj (o:=0) hA.box;have kf1:=jj (o:=1) hA.box;have kf2:=jj (o:=2) hA.box;go_simp;refine wK hK (⟨(((hA.set 0 _).set 1 _).set 2 _).bs.sub _ zT,(((hA.set 0 _).set 1 _).loc zT 2 _ ((hA.set 0 _).loc zT 1 _ (hA.loc zT 0 _ hHeld.2.1))),(((hA.set 0 _).set 1 _).hloc zT 2 _ ((hA.set 0 _).hloc zT 1 _ (hA.hloc zT 0 _ hHeld.2.2.1))),(((hA.set 0 _).set 1 _).set 2 _).bs.old hc0⟩) ?_;have hA2:BA w [w.heap.size+1,w.heap.size] _ (#[.int .i64 a1,.int .i64 a2,.int .i64 a3]) 130 _:=(((hA.set 0 (.int .i64 a1)).set 1 (.int .i64 a2)).set 2 (.int .i64 a3))
 clear kc0 kf0 kc1 kf1 kc2 kf2 hA hP;have hA:=hA2;clear hA2 hHeld;intro hHeld;clear hK K;refine wT 14 ?_;refine wD ?_;all_goals
  refine jT ?_;intro wz hwz;rw [<-hwz] at hHeld hA;clear hwz;obtain ⟨⟨q0,q1,q2⟩,f0,f1,f2,z1,z2,bel⟩:=hA.cells3;obtain ⟨⟨r0,r1,r2⟩,g0,g1,g2⟩:=cells3 hHeld.2.2.1;have y1:=hA.ne (w.heap.size+1) zT;have y2:=(hHeld.1.ls (w.heap.size+1) zT).1;clear hHeld hA H1 H2 hS0 hc0;go_wp2;refine bodyPost_ret (v:= .agg #[.int .i64 a1,.int .i64 a2,.int .i64 a3]) (by simp [results,results67,go_sem, *]) rfl ⟨rfl,?_⟩;exact (bel.setCell zT _ |>.setCell zT _ |>.setCell zT _)
end

theorem yt (t p s q:Int) (w:World) :
 Calls prog 221 #[.agg #[.int .i64 t,.int .i64 p,.int .i64 s],.int .i64 q] w (zW (.int .i64 (ofF t p s q 0)) w):=by
 go_enter func221,ntmps221;go_wp2_with fail;refine zM (Vn _ _ _ _ _ _ zo zo) fun w1 ha=> ?_;obtain ⟨hac,haf⟩:=jB ha;go_wp2;go_ret;refine ⟨rfl,?_⟩;exact zR
theorem Yn (t p s q:Int) (w:World) :
 Calls prog 280 #[.agg #[.int .i64 t,.int .i64 p,.int .i64 s],.int .i64 q] w (zW (.int .i64 (ofF t p s q 1)) w):=by
 go_enter func280,ntmps280;go_wp2_with fail;refine zM (Vn _ _ _ _ _ _ zo zo) fun w1 ha=> ?_;obtain ⟨hac,haf⟩:=jB ha;go_wp2;go_ret;refine ⟨rfl,?_⟩;exact zR
theorem jbY (k:Int) (w:World) :
 Calls prog 284 #[.int .i64 k] w (zW (.int .i64 (kq 2 k 11)) w):=by
 go_enter func284,ntmps284;go_wp2_with fail;refine zM (J7 2 k 11 w zo zo zo) ?_;rintro w1 rfl;go_wp2;go_ret;exact ⟨rfl,Below.refl _ _⟩
def lenRen:Go.Shelf.Ren:=⟨fun | 129=>243 | n=>n,fun | 3=>3 | 4=>4 | 5=>5 | 9=>9 | 46=>204 | 53=>38 | n=>n,fun n=>n⟩
theorem lenLays:Go.Proofs.Lays.n129 prog lenRen where
 mixed:=by kernel_rfl
 f129:=func243.trans (congrArg some zk)
 t3:=underlying3
 a3:=Tryz.isAgg3
 z3:=Tryz.sizeOf3
 v3:=Tryz.zeroValue3
 t4:=underlying4
 a4:=Tryz.isAgg4
 z4:=Tryz.sizeOf4
 v4:=Tryz.zeroValue4
 t5:=underlying5
 a5:=Tryz.isAgg5
 z5:=Tryz.sizeOf5
 v5:=Tryz.zeroValue5
 t9:=underlying9
 a9:=Tryz.isAgg9
 z9:=Tryz.sizeOf9
 v9:=Tryz.zeroValue9
 t46:=underlying204
 a46:=Tryz.isAgg204
 z46:=Tryz.sizeOf204
 v46:=Tryz.zeroValue204
 t53:=underlying38
 a53:=Tryz.isAgg38
 z53:=Tryz.sizeOf38
 v53:=Tryz.zeroValue38
theorem je7 (n:Int) (w:World) (h1:0<=n) (h2:n<=18446744073709551615) :
 Calls prog 243 #[.int .u64 n] w (zW (.int .i64 (Lib.bitLen n.toNat)) w):=
 (Go.Proofs.Any.bits_Len64 lenLays n w h1 h2).mono fun _ _ ⟨he,hw⟩=>⟨he,by rw [hw];exact Below.refl _ _⟩
theorem jfC:∀n:Nat,n < 1025->Lib.bitLen n=KA n:=by decide+kernel
theorem hlog_any (n:Nat) (w:World) (h1:1<=n) (h2:n<=1024) :
 Calls prog 287 #[.int .i64 n] w (zW (.int .i64 (qr n)) w):=by
 have H:=zh (fun w=>je7 n w zo zo);have hb:=jfC n zo;have hl:qr n=(Lib.bitLen n:Int) - 1:=by rw [hb];simp [qr]
 have hbl:=V8 n;have HL:=zh hl;rw [<-hb] at hbl;simp only [Int.toNat_natCast] at H;generalize Lib.bitLen n=m at*
 clear hb hl;go_enter func287,ntmps287;go_wp2_with fail;refine zM (H.out _) fun w1 b1=> ?_;go_wp2;go_ret;exact ⟨qu HL.out.symm,b1⟩
theorem jfz (n:Nat) (w:World) (h1:1<=n) (h2:n<=1024) :
 Calls prog 285 #[.int .i64 n] w (zW (.int .i64 (qr n)) w):=by
 have H:=zh (fun w=>hlog_any n w h1 h2);generalize qr n=m at*
 go_enter func285,ntmps285;go_wp2_with fail;refine zM (H.out _) fun w1 b1=> ?_;go_wp2;go_ret;exact ⟨rfl,b1⟩

def addF (t p s:Int) (q n:Nat) (st:VS):VS:=
 yd t p s (kq 2 (qr n) 11) q ((st.put (ofF t p s q 0) (1+16*n)).put (ofF t p s ((q:Int)+n - 1) 1) ((q:Int)+1))
theorem badd_any (b:Nat) (t p s:Int) (q n:Nat) (w:World) (S:Nat->Prop) (st:VS) (h:PV w b S st) (hp:p<=1024) (h0:(q:Int) < p) (h1:1<=n) (h2:(n:Int)<=p - q) :
 Calls prog 274 #[.pointer (some ⟨b,0,none⟩),.agg #[.int .i64 t,.int .i64 p,.int .i64 s],.int .i64 q,.int .i64 n] w fun e w'=>e= .returned (.tuple #[])/\Now w b S (addF t p s q n st) w':=by
 have hV:=(VSt.start je h).alloc je (.cells #[.int .i64 t,.int .i64 p,.int .i64 s] 23);have c0:=jr w #[.int .i64 t,.int .i64 p,.int .i64 s] 23;have HP:=zh (fun w=>jfy t p s q w zo h0);have HI:=zh (fun w=>jfb n w h1 zo);have HO:=zh (fun w=>jfz n w h1 zo);have U1:=zh (show VS.U32 (1+16*(n:Int)) from ⟨zo,zo⟩);have U2:=zh (show VS.U32 ((q:Int)+1) from ⟨zo,zo⟩);have hF:addF t p s q n st=yd t p s (kq 2 (qr n) 11) q ((st.put (ofF t p s q 0) (1+16*n)).put (ofF t p s ((q:Int)+n - 1) 1) ((q:Int)+1)):=rfl;rw [hF];have hw1:IntKind.i64.wrap ((q:Int)+n - 1)=(q:Int)+n - 1:=jD _ zo;have hw2:IntKind.u32.wrap ((q:Int)+1)=(q:Int)+1:=IntWalk.u32_in _ zo;clear h hF;generalize qr n=lg at*
 generalize hx:1+16*(n:Int)=iv at*
 clear hx;go_enter func274,ntmps274;go_wp2_with fail;refine zM (jm je hV (HP.out _)) ?_;rintro w1 ⟨hV1,hV1l⟩;have c1:=jc hV1l zT c0;clear hV1l;go_wp2_with fail;refine zM (jm je hV1 (HI.out _)) ?_;rintro w2 ⟨hV2,hV2l⟩;have c2:=jc hV2l zT c1;clear hV2l;go_wp2_with fail;refine zM (jm je hV2 (yt _ _ _ _ _)) ?_;rintro w3 ⟨hV3,hV3l⟩;have c3:=jc hV3l zT c2;clear hV3l;go_wp2_with fail;refine zM (ji hV3 (fun S1 h1=>ke _ _ _ _ _ _ h1 U1.out)) ?_;rintro w4 ⟨hV4,hV4l⟩;have c4:=jc hV4l zT c3;clear hV4l;go_wp2_with fail;refine zM (jm je hV4 (Yn _ _ _ _ _)) ?_;rintro w5 ⟨hV5,hV5l⟩;have c5:=jc hV5l zT c4;clear hV5l;go_wp2_with fail;refine zM (ji hV5 (fun S1 h1=>ke _ _ _ _ _ _ h1 U2.out)) ?_;rintro w6 ⟨hV6,hV6l⟩;have c6:=jc hV6l zT c5;clear hV6l;go_wp2_with fail;have hV6d:=hV6.drew je;refine Xe (zP c6) fun hHeld=> ?_;refine wT 0 ?_;refine wY ?_;refine wR 3 fun K hK=> ?_;go_simp;refine zM (jm je hV6d (HO.out _)) ?_;rintro w7 ⟨hV7,hV7l⟩;have c7:=jc hV7l zT hHeld;clear hV7l;dsimp only;refine wK hK (c7) fun hHeld=> ?_;clear hK K;refine wR 4 fun K hK=> ?_;go_simp;refine zM (jm je hV7 (jbY _ _)) ?_;rintro w8 ⟨hV8,hV8l⟩;have c8:=jc hV8l zT c7;clear hV8l;dsimp only;refine wK hK (c8) fun hHeld=> ?_;clear hK K;refine wR 6 fun K hK=> ?_;go_simp;refine zM (ji hV8 (fun S1 h1=>jbS b t p s _ q _ S1 _ h1 hp)) ?_;rintro w9 ⟨hV9,hV9l⟩;have c9:=jc hV9l zT c8;clear hV9l;dsimp only;refine wK hK (c9) fun hHeld=> ?_;clear hK K;refine wD ?_;go_wp2;go_end0;exact ⟨rfl,hV9.done je⟩
end Go.Proofs.YtcnininelndjoaaGreat

