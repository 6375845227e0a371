/- parts of the proof, merged by a program. -/
import Derived.Test.YtcnininelndjoaaGreatMmt3
import Derived.Test.YtcnininelndjoaaGreatMmt5
import Derived.Test.YtcnininelndjoaaGreatMmt6
import Derived.RangeFuncNested
import Derived.RangeFuncBound
import Derived.RangeFuncCalls
import Derived.RangeFuncLeaves
import Derived.Shelf.Abstract
import Derived.WalkKit
import Derived.OwnWalkIn
import Derived.TacticsInMore
import Derived.LoopNIn
import Derived.LoopIn
import Derived.OrdersIn
import Derived.Deep.OwnRows
set_option linter.unusedSimpArgs false
set_option linter.unusedVariables false
set_option maxRecDepth 100000
set_option maxHeartbeats 4000000
namespace Go.Proofs.YtcnininelndjoaaGreat
open Go.Proofs.Tryz
open Go.RowKit

theorem jfd:(prog.info? 121).map (fun i=>(i.zero,i.size,i.bytes))=some (some (.agg #[.int .i64 0,.int .i64 0]),2,16):=by kernel_rfl
def ko (l:List (Int×Int)):List Value:=l.flatMap fun x=>[.int .i64 x.1,.int .i64 x.2]
theorem YY (l m:List (Int×Int)):ko (l++m)=ko l++ko m:=by simp [ko]
def RowB (w:World) (l:List (Int×Int)) (v:Value) (w':World):Prop:=
 w'.ownsRow 0 121 2 v l.length (ko l)/\(∀k,v.ownBlock=some k->w.heap.size<=k)/\Below w.heap.size w w'
def qH:List (Int×Int×Int)->List (Int×Int)
 | []=>[]
 | x :: l=>(if x.1=2 then [(x.2.1,x.2.2)] else [])++qH l
theorem yf (l m:List (Int×Int×Int)):qH (l++m)=qH l++qH m:=by
 induction l with
 | nil=>rfl
 | cons x l ih=>simp [qH,ih]
theorem jai (l:List (Int×Int×Int)):(qH l).length<=l.length:=by
 induction l with
 | nil=>exact Nat.le_refl _
 | cons x l ih=>
  simp only [qH,List.length_append,List.length_cons];split <;> simp <;> omega
theorem jdd {l:List (Int×Int×Int)} {k:Nat} {x:Int×Int×Int} (h:l[k]? =some x):qH (l.take (k+1))=qH (l.take k)++if x.1=2 then [(x.2.1,x.2.2)] else []:=by
 rw [List.take_add_one,h,yf];simp [qH]
theorem jeA {l:List (Int×Int×Int)} {k:Nat} {x:Int×Int×Int} (h:l[k]? =some x):(jM l)[k*3]? =some (.int .i64 x.1)/\(jM l)[k*3+1]? =some (.int .i64 x.2.1)/\(jM l)[k*3+2]? =some (.int .i64 x.2.2):=by
 induction l generalizing k with
 | nil=>simp at h
 | cons y ys ih=>
  have e:jM (y :: ys)=[.int .i64 y.1,.int .i64 y.2.1,.int .i64 y.2.2]++jM ys:=by simp [jM]
  rw [e];cases k with
  | zero=>simp at h;subst h;simp
  | succ k=>
   have h2:ys[k]? =some x:=by simpa using h
   obtain ⟨a,b,d⟩:=ih h2;refine ⟨?_,?_,?_⟩
   ·rw [List.getElem?_append_right (by simp;omega)];rw [<-a];congr 1;simp;omega
   ·rw [List.getElem?_append_right (by simp;omega)];rw [<-b];congr 1;simp;omega
   ·rw [List.getElem?_append_right (by simp;omega)];rw [<-d];congr 1;simp;omega
theorem jdp {l:List (Int×Int)} {k:Nat} {x:Int×Int} (h:l[k]? =some x):(ko l)[k*2]? =some (.int .i64 x.1)/\(ko l)[k*2+1]? =some (.int .i64 x.2):=by
 induction l generalizing k with
 | nil=>simp at h
 | cons y ys ih=>
  have e:ko (y :: ys)=[.int .i64 y.1,.int .i64 y.2]++ko ys:=by simp [ko]
  rw [e];cases k with
  | zero=>simp at h;subst h;simp
  | succ k=>
   have h2:ys[k]? =some x:=by simpa using h
   obtain ⟨a,b⟩:=ih h2;refine ⟨?_,?_⟩
   ·rw [List.getElem?_append_right (by simp;omega)];rw [<-a];congr 1;simp;omega
   ·rw [List.getElem?_append_right (by simp;omega)];rw [<-b];congr 1;simp;omega
section
variable {t p s:Int} {ad:Addr} {n c:Nat} {vs:List Int}
def qC (vs:List Int) (t p s:Int):List (Int×Int):=qH (JS vs t p s)
structure BlRel (w:World) (l:List (Int×Int×Int)) (lv:Value) (v3 v5:Value) (wr:World) (k:Nat):Prop where
 hk:v5= .int .i64 k
 le:k<=l.length
 row:wr.ownsRow 0 121 2 v3 (qH (l.take k)).length (ko (qH (l.take k)))
 bs:BS w (w.heap.size :: v3.ownBlock.toList) wr
 lrow:wr.ownsRow 0 188 3 lv l.length (jM l)
 far:∀k,v3.ownBlock=some k->lv.ownBlock≠some k
def BlRelE (w:World) (l:List (Int×Int×Int)) (lv:Value) (v3 v5:Value) (wr:World):Prop:=∃k,BlRel w l lv v3 v5 wr k
theorem jdo (c:Nat) (w:World) (h:XV w t p s ad n vs) :
 Calls prog 109 #[.agg #[.int .i64 t,.int .i64 p,.int .i64 s,.slice (some ad) n c]] w fun e w'=>∃v,e= .returned v/\RowB w (qC vs t p s) v w':=by
 have X0:=(h.boxed c).alloc (.cells #[] 121);have r0:=yq (w.alloc (.cells #[.int .i64 t,.int .i64 p,.int .i64 s,.slice (some ad) n c] 128)) 121 2;have hS0:=((BS.start w).alloc (.cells #[.int .i64 t,.int .i64 p,.int .i64 s,.slice (some ad) n c] 128)).alloc (.cells #[] 121);simp only [World.size_alloc] at hS0 r0;have HP:=zh (fun (w:World) (h:XV w t p s ad n vs)=>jez c w h);have hll:(JS vs t p s).length<=33792:=by
  have:=Qn vs t s p.toNat;have:=h.bd;unfold JS;omega
 obtain ⟨i0,hi0,hi1,hi2,hi3⟩:=info_parts jfd;have HI:=zh (And.intro hi0 (And.intro hi1 (And.intro hi2 hi3)));have hF0:qC vs t p s=qH (JS vs t p s):=rfl;generalize qC vs t p s=F at*
 generalize JS vs t p s=l at*
 have HF0:=zh hF0;clear hi0 hi1 hi2 hi3 h hF0;obtain ⟨x0,x1,x2,x3⟩:=X0.cells;have xz:=X0.lt;go_enter func109,ntmps109;go_wp2_with fail;refine (HP.out _ X0.xv).mono ?_;rintro e w1 ⟨lv,rfl,hlv⟩;have r1:=((BS.start _).below hlv.2.2).row r0;have hS1:=hS0.below hlv.2.2;have hlr:=hlv.1;have hlf:=hlv.2.1;have hls:∃a c,lv= .slice a l.length c:=kK hlr;obtain ⟨la,lc,rfl⟩:=hls;simp only [World.size_alloc] at hlf;clear hlv r0 hS0 X0 x0 x1 x2 x3 xz;go_wp2_with fail;go_loopw [3,5] (fun v3 v5 wr=>BlRelE w l (.slice la l.length lc) v3 v5 wr) (fun _ v5 _=>l.length - (intOf v5).toNat);case atStart=>exact ⟨0,rfl,zo,by simpa [qH,ko] using r1,hS1.sub _ (by simp [Value.ownBlock]),hlr,fun k hk e=>by have:=hlf k e;simp [Value.ownBlock] at hk;omega⟩
 case round=>
  obtain ⟨k,rfl,hle,hrow,hbs,hlrow,hfar⟩:=hrel;have hll2:=jai (l.take k);have hll3:(l.take k).length<=l.length:=by simp;omega
  have HTk:=zh (fun x (h:l[k]? =some x)=>jdd h);have HTe:=zh (fun (h:k=l.length)=>(show qH (l.take k)=qH l by rw [h,List.take_length]));generalize qH (l.take k)=o at*
  have hol:o.length<=33792:=zo;have hlen:∃a c,u3= .slice a o.length c:=kK hrow;obtain ⟨pa,pc,rfl⟩:=hlen;have HB:=zh hbs;have HF:=zh hfar;have HRow:=zh hrow;have HLr:=zh hlrow;clear r1 hS1 hlr hlf hbs hfar hrow hlrow hll2 hll3;by_cases hlt:k < l.length
  ·obtain ⟨⟨y1,y2,y3⟩,hx⟩:∃x,l[k]? =some x:=⟨_,List.getElem?_eq_getElem hlt⟩
   obtain ⟨g,cap,hg⟩:=Joins.ownsRow_form HLr.out zo;simp only [Value.slice.injEq,true_and] at hg;obtain ⟨rfl,rfl⟩:=hg;obtain ⟨p0,p1,p2⟩:=jeA hx;have q0:=(HLr.out.cellAt (k*3) zo).trans p0;have q1:=(HLr.out.cellAt (k*3+1) zo).trans p1;have q2:=(HLr.out.cellAt (k*3+2) zo).trans p2;have ht:=HTk.out _ hx;simp only at ht q0 q1 q2;have hgl:g < wr.heap.size:=jt HLr.out (by simp [Value.ownBlock]);have hgn:(Value.slice pa o.length pc).ownBlock≠some g:=fun e=>HF.out g e (by simp [Value.ownBlock]);clear p0 p1 p2 hx HTk HTe;by_cases hy:y1=2
   ·subst hy;rw [if_pos rfl] at ht;have HT:=zh ht;have HQ1:=zh q1;have HQ2:=zh q2;have HGn:=zh hgn;clear ht hgn;go_wp2_with fail;refine wHn2 (zQ HQ1.out) (zQ HQ2.out) fun hHeld=> ?_;refine wT 0 ?_;refine wY ?_;refine wR 12 fun K hK=> ?_;go_simp;refine wK hK (⟨(World.cell?_alloc_lt (a:=⟨g,k*3+1,none⟩) _ _ (by simpa using hgl)).trans HQ1.out,(World.cell?_alloc_lt (a:=⟨g,k*3+2,none⟩) _ _ (by simpa using hgl)).trans HQ2.out⟩) fun hHeld=> ?_;clear hK K;refine wR 13 fun K hK=> ?_;refine kA rfl (.tmp 21) (.tmp 33) rfl 121 i0 (.agg #[.int .i64 0,.int .i64 0]) 2 16 underlying70 HI.out.1 HI.out.2.1 HI.out.2.2.1 HI.out.2.2.2 rfl zd (.slice pa o.length pc) o.length (ko o) rfl ((jh (w':=wr.drew) HRow.out (fun _ _=>rfl)).alloc _) ⟨_,0,none⟩ 1 1 [.int .i64 y2,.int .i64 y3] rfl rfl (YE _ _ _ _ _ zT) ?c1 ?c2 ?c3 ?_;case c1=>(simp [Value.oneCell'])
    case c2=>(unfold maxLen;omega)
    case c3=>(omega)
    intro v' w5 hown5 hg5 hnew5 hnil5;clear hnil5;obtain ⟨g',cap',rfl⟩:=Joins.ownsRow_form hown5 zo;have hc5:=fun i=>(World.cell?_of_block (a:=⟨g,i,none⟩) (hg5.block g (by simp;omega) (fun e=>HGn.out e.symm))).trans (World.cell?_alloc_lt (w:=wr.drew) (a:=⟨g,i,none⟩) _ (by simpa using hgl));refine wK hK (⟨(hc5 _).trans HQ1.out,(hc5 _).trans HQ2.out⟩) fun hHeld=> ?_;clear hK K;refine wY ?_;refine wD ?_;go_wp2_with fail;go_roundw;case rel=>
     have B5:=HB.out.drew.append hg5 hnew5 hown5;refine ⟨k+1,by go_num,zo,?_,B5,jh HLr.out (fun j hj=> ?_),fun j hj e=> ?_⟩
     ·rw [HT.out,YY,List.length_append];exact hown5
     ·simp [Value.ownBlock] at hj;subst hj;exact (hg5.block g (by simp;omega) (fun e=>HGn.out e.symm)).trans (heap_alloc_old _ _ (by simpa using hgl))
     ·simp [Value.ownBlock] at e;subst e;rcases hnew5 g hj with x | x
      ·exact HGn.out x
      ·simp at x;omega
    case measure=>simp [intOf];omega
   ·rw [if_neg hy,List.append_nil] at ht;have HT:=zh ht;have hyb:(y1 == 2)=false:=by simp [hy]
    clear ht hgn hy;go_wp2_with fail;go_roundw;case rel=>
     refine ⟨k+1,by go_num,zo,?_,HB.out,HLr.out,HF.out⟩;rw [HT.out];exact HRow.out
    case measure=>simp [intOf];omega
  ·have hFo:F=o:=by rw [HF0.out,HTe.out zo]
   subst hFo;clear HTk HTe;go_wp2;go_ret;refine ⟨.slice pa F.length pc,rfl,HRow.out,fun k hk=>(HB.out.ls k (List.mem_cons_of_mem _ ?_)).2,HB.out.bel⟩;rw [hk];simp
def hasB (l:List (Int×Int)) (a:Int):Bool:=l.any fun x=>x.1 == a
def HsRel (l:List (Int×Int)) (a:Int) (w:World) (i:Value) (wr:World):Prop:=∃k:Nat,k<=l.length/\i= .int .i64 k/\(∀j x,j < k->l[j]? =some x->x.1≠a)/\w=wr
theorem hasb_any (l:List (Int×Int)) (a:Int) (v:Value) (w:World) (h:w.ownsRow 0 121 2 v l.length (ko l)) (hn:l.length<=4294967296) :
 Calls prog 180 #[v,.int .i64 a] w (zW (.bool (hasB l a)) w):=by
 have hc:∀k x,l[k]? =some x->∃g m c,v= .slice (some ⟨g,0,none⟩) m c/\w.cell? ⟨g,k*2,none⟩=some (.int .i64 x.1):=by
  intro k x hk;have hkl:=(List.getElem?_eq_some_iff.1 hk).1;obtain ⟨g,cap,rfl⟩:=Joins.ownsRow_form h zo;exact ⟨g,_,cap,rfl,(h.cellAt (k*2) zo).trans (jdp hk).1⟩
 obtain ⟨pa,pc,rfl⟩:=kK h;clear h;generalize hr:hasB l a=r;have HR:=zh hr;clear hr;go_enter func180,ntmps180;go_wp2;go_loopw [5] (fun i wr=>HsRel l a w i wr) (fun i _=>l.length - (intOf i).toNat);case atStart=>exact ⟨0,zo,rfl,zo,rfl⟩
 case round=>
  obtain ⟨k,hk,rfl,hno,rfl⟩:=hrel;have HN:=zh hno;clear hno;by_cases hlt:k < l.length
  ·obtain ⟨⟨y1,y2⟩,hx⟩:∃x,l[k]? =some x:=⟨_,List.getElem?_eq_getElem hlt⟩
   obtain ⟨g,m,c',hv,c0⟩:=hc k _ hx;simp only [Value.slice.injEq] at hv;obtain ⟨rfl,rfl,rfl⟩:=hv;have HX:=zh hx;clear hc hx;simp only at c0;by_cases hy:y1=a
   ·have HY:=zh hy;have hb:(y1 == a)=true:=by simp [hy]
    have hres:r=true:=by
     rw [<-HR.out];unfold hasB;rw [List.any_eq_true];exact ⟨_,List.mem_of_getElem? HX.out,by simpa using hy⟩
    subst hres;clear hy;go_wp2;go_ret;exact ⟨rfl,Below.refl _ _⟩
   ·have hb:(y1 == a)=false:=by simp [hy]
    have HY:=zh hy;clear hy;go_wp2;go_roundw;case rel=>
     refine ⟨k+1,zo,by go_num,fun j x hj hjx=> ?_,rfl⟩;by_cases e:j=k
     ·subst e;rw [HX.out] at hjx;simp at hjx;subst hjx;exact HY.out
     ·exact HN.out j x zo hjx
    case measure=>simp [intOf];omega
  ·have hres:r=false:=by
    rw [<-HR.out];unfold hasB;rw [List.any_eq_false];intro x hx;obtain ⟨j,hj⟩:=List.mem_iff_getElem?.1 hx;have:=HN.out j x (by have:=(List.getElem?_eq_some_iff.1 hj).1;omega) hj;simpa using this
   subst hres;clear hc;go_wp2;go_ret;exact ⟨rfl,Below.refl _ _⟩
def XE (vs:List Int) (bl:List (Int×Int)) (i:Nat):Bool:=vs.getD (22+i) 0 == 0 || hasB bl (vs.getD (22+i) 0)
def QB (vs:List Int) (t p s:Int):Bool:=yI (XE vs (qC vs t p s)) 8
theorem jbz (vs:List Int) (t p s:Int) (h:p<=1024):(qC vs t p s).length<=33792:=by
 have h1:=jai (JS vs t p s);have h2:=Qn vs t s p.toNat;unfold qC;unfold JS at h1 ⊢;omega
theorem jd4 (c:Nat) (w:World) (h:XV w t p s ad n vs) :
 Calls prog 127 #[.agg #[.int .i64 t,.int .i64 p,.int .i64 s,.slice (some ad) n c]] w (zW (.bool (QB vs t p s)) w):=by
 have X0:=h.boxed c;have hnn:30<=n:=by have:=h.bd;omega
 have hbl:=jbz vs t p s h.few;have HP:=zh (fun (w:World) (h:XV w t p s ad n vs)=>jdo c w h);have HC:=zh h.cells;have HU:=zh (fun i=>Kj h.u32 i);generalize hr:QB vs t p s=r;have hr2:yI (XE vs (qC vs t p s)) 8=r:=hr;have HR:=zh hr2;generalize qC vs t p s=l at*
 clear h hr hr2;obtain ⟨x0,x1,x2,x3⟩:=X0.cells;have xz:=X0.lt;go_enter func127,ntmps127;go_wp2_with fail;refine (HP.out _ X0.xv).mono ?_;rintro e w1 ⟨lv,rfl,hlv⟩;have X1:=X0.keep hlv.2.2;have hls:∃a c,lv= .slice a l.length c:=kK hlv.1;obtain ⟨la,lc,rfl⟩:=hls;have HL:=zh hlv.1;clear hlv X0 x0 x1 x2 x3 xz;go_wp2_with fail;go_loopw [4,5] (fun v4 _ wr=>QH (XE vs l) 8 w1 v4 wr) (fun v4 _ _=>8 - (intOf v4).toNat);case atStart=>exact ⟨0,zo,rfl,rfl,Below.refl _ _⟩
 case round=>
  obtain ⟨i,hi,rfl,hall,hbel⟩:=hrel;have X3:=X1.keep hbel;have HA:=zh hall;have HB:=zh hbel;clear hall hbel;obtain ⟨x0,x1,x2,x3⟩:=X3.cells;by_cases hlt:i < 8
  ·have hRo:=zh (fun w=>jd0 i w hlt);have hd0:=(BS.mk X3.bel zT:BS w [] wr).old (HC.out (22+i) zo);have hu:=HU.out (22+i);have hrb:XE vs l i=(vs.getD (22+i) 0 == 0 || hasB l (vs.getD (22+i) 0)):=rfl;have HBox:=zh X3.box;have hxl:=X3.lt;have hin:22+i < n:=zo;generalize vs.getD (22+i) 0=a at*
   generalize hki:22+i=ki at*
   clear hki;obtain ⟨hu0,hu1⟩:=hu;have hwa:IntKind.i64.wrap a=a:=jD _ zo;have HH:=zh (fun (w':World) (hb:Below w1.heap.size w1 w')=>hasb_any l a (.slice la l.length lc) w' (jh HL.out fun k hk=>hb.block k (jt HL.out hk)) zo);clear HC HU;by_cases ha:a=0
   ·subst ha;have hyes:XE vs l i=true:=by rw [hrb];simp
    have HY:=zh hyes;clear hyes hrb;go_wp2_with fail;refine QN (zP HBox.out) (zQ hd0) fun hHeld=> ?_;refine wT 0 ?_;refine wY ?_;refine wC 3 (hRo.out _) fun wz hHeld=> ?_;refine wY ?_;refine wD ?_;have hbz:=HB.out.trans (hHeld.1.bel.mono HB.out.size);clear hHeld;go_wp2_with fail;go_roundw;case rel=>exact ⟨i+1,zo,by go_num,by simp [yI,HA.out,HY.out],hbz⟩
    case measure=>simp [intOf];omega
   ·have hab:(a != 0)=true:=by simp [ha]
    cases hz:hasB l a
    ·have hno:XE vs l i=false:=by rw [hrb,hz];simp [ha]
     have hres:r=false:=by rw [<-HR.out];exact kF hlt hno
     subst hres;rw [hz] at HH;clear hno hrb ha hz;go_wp2_with fail;refine QN (zP HBox.out) (zQ hd0) fun hHeld=> ?_;refine wT 0 ?_;refine wY ?_;refine wC 3 (hRo.out _) fun wz hHeld=> ?_;refine wY ?_;refine wD ?_;have hbz:=HB.out.trans (hHeld.1.bel.mono HB.out.size);have X5:=X3.keep hHeld.1.bel;clear hHeld;go_wp2_with fail;refine zM (HH.out _ hbz) fun w5 hb5=> ?_;go_wp2;go_ret;exact ⟨rfl,(X5.keep hb5).bel⟩
    ·have hyes:XE vs l i=true:=by rw [hrb,hz];simp
     have HY:=zh hyes;rw [hz] at HH;clear hyes hrb ha hz;go_wp2_with fail;refine QN (zP HBox.out) (zQ hd0) fun hHeld=> ?_;refine wT 0 ?_;refine wY ?_;refine wC 3 (hRo.out _) fun wz hHeld=> ?_;refine wY ?_;refine wD ?_;have hbz:=HB.out.trans (hHeld.1.bel.mono HB.out.size);clear hHeld;go_wp2_with fail;refine zM (HH.out _ hbz) fun w5 hb5=> ?_;have hbz5:=hbz.trans (hb5.mono hbz.size);go_wp2_with fail;go_roundw;case rel=>exact ⟨i+1,zo,by go_num,by simp [yI,HA.out,HY.out],hbz5⟩
     case measure=>simp [intOf];omega
  ·obtain rfl:i=8:=by omega
   have hres:r=true:=by rw [<-HR.out];exact HA.out
   subst hres;go_wp2;go_ret;exact ⟨rfl,X3.bel⟩
end
section
variable {t p s:Int} {ad:Addr} {n c:Nat} {vs:List Int}

def J4 (vs:List Int) (t p s:Int):Int×Bool:=
 if Kn vs t p=false then (2,false) else
 if V7 vs t p=false then (3,false) else
 if Qd vs t p=false then (4,false) else
 if yB vs t p=false then (5,false) else
 if YI vs t p=false then (6,false) else
 if JO vs t p=false then (7,false) else
 if QD vs t p=false then (8,false) else
 if JD vs t p=false then (9,false) else
 if QB vs t p s=false then (10,false) else
 (0,true)
theorem jcG (c:Nat) (w:World) (h:XV w t p s ad n vs) :
 Calls prog 71 #[.agg #[.int .i64 t,.int .i64 p,.int .i64 s],.slice (some ad) n c] w (zW (.tuple #[.int .i64 (J4 vs t p s).1,.bool (J4 vs t p s).2]) w):=by
 have H1:=qF t p s;have H2:=ym t p s;rw [h.right] at H1;have hcf:qb t p s=(n:Int):=by unfold qb;rw [h.right,h.num];rfl
 rw [hcf] at H2;have HH1:=zh H1;have HH2:=zh H2;have HV:=zh h;have hst:=(Ju (g:=fun q=>gv vs t q 0) (p:=p) (by have:=h.bd;omega)).2.1;have HSt:=zh hst;have C_tiles:=fun (w:World) (h:XV w t p s ad n vs)=>jdM c w h;have C_feet:=fun (w:World) (h:XV w t p s ad n vs) (hne:(jX (fun q=>gv vs t q 0) p).1≠[])=>feet_any c w h hne;have C_apart:=fun (w:World) (h:XV w t p s ad n vs)=>jfH c w h;have C_slots:=fun (w:World) (h:XV w t p s ad n vs)=>jdT c w h;have C_bins:=fun (w:World) (h:XV w t p s ad n vs)=>bins_any c w h;have C_racks:=fun (w:World) (h:XV w t p s ad n vs)=>jed c w h;have C_loose:=fun (w:World) (h:XV w t p s ad n vs)=>jeY c w h;have C_counts:=fun (w:World) (h:XV w t p s ad n vs)=>jdn c w h;have C_roots:=fun (w:World) (h:XV w t p s ad n vs)=>jd4 c w h;generalize hr:J4 vs t p s=r;have HR:=zh hr;clear H1 H2 hcf h hst hr;go_enter func71,ntmps71;go_wp2_with fail;refine zM (HH1.out _) fun w1 ha=> ?_;obtain ⟨hac,haf⟩:=jB ha;have haz0:w.heap.size < w1.heap.size:=zL ha;go_wp2_with fail;refine zM (HH2.out _) fun w2 hb=> ?_;obtain ⟨hbc,hbf⟩:=jB hb;have hbz0:w1.heap.size<=w2.heap.size:=zL hb;have hbz1:w.heap.size < w2.heap.size:=zL hb;have bel2:Below w.heap.size w w2:=zR;have X0:=(HV.out.keep bel2).boxed c;have X0z:=X0.lt;obtain ⟨X00,X01,X02,X03⟩:=X0.cells;generalize h_tiles:Kn vs t p=b0 at C_tiles;have K_tiles:=zh C_tiles;clear C_tiles;go_wp2_with fail;refine zM (K_tiles.out _ X0.xv) fun v0 hv0=> ?_;have Y0:=X0.keep hv0;obtain ⟨Y00,Y01,Y02,Y03⟩:=Y0.cells;have Y0z:=Y0.lt;clear hv0 X00 X01 X02 X03 X0z K_tiles;cases b0
 ·have hR:r=(2,false):=by rw [<-HR.out];simp [J4,h_tiles]
  subst hR;go_wp2;exact bodyPost_ret (v:= .tuple #[.int .i64 2,.bool false]) (by simp [results,results71,go_sem]) rfl ⟨rfl,bel2.trans (Y0.bel.mono bel2.size)⟩
 have hne:=HSt.out (by simp [Kn] at h_tiles;exact h_tiles.1);generalize h_feet:V7 vs t p=b1 at C_feet;have K_feet:=zh C_feet;clear C_feet;go_wp2_with fail;refine zM (K_feet.out _ Y0.xv hne) fun v1 hv1=> ?_;have Y1:=Y0.keep hv1;obtain ⟨Y10,Y11,Y12,Y13⟩:=Y1.cells;have Y1z:=Y1.lt;clear hv1 Y00 Y01 Y02 Y03 Y0z K_feet;cases b1
 ·have hR:r=(3,false):=by rw [<-HR.out];simp [J4,h_tiles,h_feet]
  subst hR;go_wp2;exact bodyPost_ret (v:= .tuple #[.int .i64 3,.bool false]) (by simp [results,results71,go_sem]) rfl ⟨rfl,bel2.trans (Y1.bel.mono bel2.size)⟩
 generalize h_apart:Qd vs t p=b2 at C_apart;have K_apart:=zh C_apart;clear C_apart;go_wp2_with fail;refine zM (K_apart.out _ Y1.xv) fun v2 hv2=> ?_;have Y2:=Y1.keep hv2;obtain ⟨Y20,Y21,Y22,Y23⟩:=Y2.cells;have Y2z:=Y2.lt;clear hv2 Y10 Y11 Y12 Y13 Y1z K_apart;cases b2
 ·have hR:r=(4,false):=by rw [<-HR.out];simp [J4,h_tiles,h_feet,h_apart]
  subst hR;go_wp2;exact bodyPost_ret (v:= .tuple #[.int .i64 4,.bool false]) (by simp [results,results71,go_sem]) rfl ⟨rfl,bel2.trans (Y2.bel.mono bel2.size)⟩
 generalize h_slots:yB vs t p=b3 at C_slots;have K_slots:=zh C_slots;clear C_slots;go_wp2_with fail;refine zM (K_slots.out _ Y2.xv) fun v3 hv3=> ?_;have Y3:=Y2.keep hv3;obtain ⟨Y30,Y31,Y32,Y33⟩:=Y3.cells;have Y3z:=Y3.lt;clear hv3 Y20 Y21 Y22 Y23 Y2z K_slots;cases b3
 ·have hR:r=(5,false):=by rw [<-HR.out];simp [J4,h_tiles,h_feet,h_apart,h_slots]
  subst hR;go_wp2;exact bodyPost_ret (v:= .tuple #[.int .i64 5,.bool false]) (by simp [results,results71,go_sem]) rfl ⟨rfl,bel2.trans (Y3.bel.mono bel2.size)⟩
 generalize h_bins:YI vs t p=b4 at C_bins;have K_bins:=zh C_bins;clear C_bins;go_wp2_with fail;refine zM (K_bins.out _ Y3.xv) fun v4 hv4=> ?_;have Y4:=Y3.keep hv4;obtain ⟨Y40,Y41,Y42,Y43⟩:=Y4.cells;have Y4z:=Y4.lt;clear hv4 Y30 Y31 Y32 Y33 Y3z K_bins;cases b4
 ·have hR:r=(6,false):=by rw [<-HR.out];simp [J4,h_tiles,h_feet,h_apart,h_slots,h_bins]
  subst hR;go_wp2;exact bodyPost_ret (v:= .tuple #[.int .i64 6,.bool false]) (by simp [results,results71,go_sem]) rfl ⟨rfl,bel2.trans (Y4.bel.mono bel2.size)⟩
 generalize h_racks:JO vs t p=b5 at C_racks;have K_racks:=zh C_racks;clear C_racks;go_wp2_with fail;refine zM (K_racks.out _ Y4.xv) fun v5 hv5=> ?_;have Y5:=Y4.keep hv5;obtain ⟨Y50,Y51,Y52,Y53⟩:=Y5.cells;have Y5z:=Y5.lt;clear hv5 Y40 Y41 Y42 Y43 Y4z K_racks;cases b5
 ·have hR:r=(7,false):=by rw [<-HR.out];simp [J4,h_tiles,h_feet,h_apart,h_slots,h_bins,h_racks]
  subst hR;go_wp2;exact bodyPost_ret (v:= .tuple #[.int .i64 7,.bool false]) (by simp [results,results71,go_sem]) rfl ⟨rfl,bel2.trans (Y5.bel.mono bel2.size)⟩
 generalize h_loose:QD vs t p=b6 at C_loose;have K_loose:=zh C_loose;clear C_loose;go_wp2_with fail;refine zM (K_loose.out _ Y5.xv) fun v6 hv6=> ?_;have Y6:=Y5.keep hv6;obtain ⟨Y60,Y61,Y62,Y63⟩:=Y6.cells;have Y6z:=Y6.lt;clear hv6 Y50 Y51 Y52 Y53 Y5z K_loose;cases b6
 ·have hR:r=(8,false):=by rw [<-HR.out];simp [J4,h_tiles,h_feet,h_apart,h_slots,h_bins,h_racks,h_loose]
  subst hR;go_wp2;exact bodyPost_ret (v:= .tuple #[.int .i64 8,.bool false]) (by simp [results,results71,go_sem]) rfl ⟨rfl,bel2.trans (Y6.bel.mono bel2.size)⟩
 generalize h_counts:JD vs t p=b7 at C_counts;have K_counts:=zh C_counts;clear C_counts;go_wp2_with fail;refine zM (K_counts.out _ Y6.xv) fun v7 hv7=> ?_;have Y7:=Y6.keep hv7;obtain ⟨Y70,Y71,Y72,Y73⟩:=Y7.cells;have Y7z:=Y7.lt;clear hv7 Y60 Y61 Y62 Y63 Y6z K_counts;cases b7
 ·have hR:r=(9,false):=by rw [<-HR.out];simp [J4,h_tiles,h_feet,h_apart,h_slots,h_bins,h_racks,h_loose,h_counts]
  subst hR;go_wp2;exact bodyPost_ret (v:= .tuple #[.int .i64 9,.bool false]) (by simp [results,results71,go_sem]) rfl ⟨rfl,bel2.trans (Y7.bel.mono bel2.size)⟩
 generalize h_roots:QB vs t p s=b8 at C_roots;have K_roots:=zh C_roots;clear C_roots;go_wp2_with fail;refine zM (K_roots.out _ Y7.xv) fun v8 hv8=> ?_;have Y8:=Y7.keep hv8;obtain ⟨Y80,Y81,Y82,Y83⟩:=Y8.cells;have Y8z:=Y8.lt;clear hv8 Y70 Y71 Y72 Y73 Y7z K_roots;cases b8
 ·have hR:r=(10,false):=by rw [<-HR.out];simp [J4,h_tiles,h_feet,h_apart,h_slots,h_bins,h_racks,h_loose,h_counts,h_roots]
  subst hR;go_wp2;exact bodyPost_ret (v:= .tuple #[.int .i64 10,.bool false]) (by simp [results,results71,go_sem]) rfl ⟨rfl,bel2.trans (Y8.bel.mono bel2.size)⟩
 have hR:r=(0,true):=by rw [<-HR.out];simp [J4,h_tiles,h_feet,h_apart,h_slots,h_bins,h_racks,h_loose,h_counts,h_roots]
 subst hR;go_wp2;exact bodyPost_ret (v:= .tuple #[.int .i64 0,.bool true]) (by simp [results,results71,go_sem]) rfl ⟨rfl,bel2.trans (Y8.bel.mono bel2.size)⟩
end
section
variable {t p s:Int} {ad:Addr} {n c:Nat} {vs:List Int}

theorem jcy (c:Nat) (w:World) (h:XV w t p s ad n vs) :
 Calls prog 32 #[.agg #[.int .i64 t,.int .i64 p,.int .i64 s],.slice (some ad) n c] w (zW (.bool (J4 vs t p s).2) w):=by
 have H:=zh (fun w (h:XV w t p s ad n vs)=>jcG c w h);have h2:=h.keep ((Below.refl _ _).alloc (Nat.le_refl _) (.cells #[.int .i64 t,.int .i64 p,.int .i64 s] 23));have HV:=zh h;have HV2:=zh h2;generalize J4 vs t p s=r at*
 clear h h2;go_enter func32,ntmps32;go_wp2_with fail;refine zM (H.out _ (by first | exact HV.out | exact HV2.out)) fun w1 hb=> ?_;go_wp2;go_ret;refine ⟨rfl,?_⟩;exact zR
end

theorem pslots9 (w:World):Calls prog 277 #[] w (zW (.agg #[.int .i64 32,.int .i64 21,.int .i64 16,.int .i64 10,.int .i64 8,.int .i64 5,.int .i64 4,.int .i64 3,.int .i64 2]) w):=by
 go_enter func277,ntmps277;go_wp2;refine bodyPost_ret (v:= .agg #[.int .i64 32,.int .i64 21,.int .i64 16,.int .i64 10,.int .i64 8,.int .i64 5,.int .i64 4,.int .i64 3,.int .i64 2]) (by simp [results,results277,go_sem]) rfl ⟨rfl,?_⟩;exact zR
theorem jcR (k:Int) (w:World):Calls prog 265 #[.int .i64 k] w (zW (.int .i64 (jE k)) w):=by
 have H:=zh pslots9;by_cases hk:0<=k/\k < 9
 ·skip;go_enter func265,ntmps265;go_wp2_with fail;refine zM (H.out _) fun w1 b1=> ?_;rcases (by omega:k=0\/k=1\/k=2\/k=3\/k=4\/k=5\/k=6\/k=7\/k=8) with rfl | rfl | rfl | rfl | rfl | rfl | rfl | rfl | rfl;all_goals
   go_wp2;go_ret;exact ⟨rfl,b1.alloc b1.size _⟩
 ·have hs:jE k=0:=by
   unfold jE;rw [if_neg zo,if_neg zo,if_neg zo,if_neg zo,if_neg zo,if_neg zo,if_neg zo,if_neg zo,if_neg zo]
  rw [hs];clear hs;rcases (by omega:k < 0\/(0<=k/\9<=k)) with h | h
  ·skip;go_enter func265,ntmps265;go_wp2_with fail;refine zM (H.out _) fun w1 b1=> ?_;go_wp2;go_ret;exact ⟨rfl,b1.alloc b1.size _⟩
  ·have h1:=h.1;have h2:=h.2;go_enter func265,ntmps265;go_wp2_with fail;refine zM (H.out _) fun w1 b1=> ?_;go_wp2;go_ret;exact ⟨rfl,b1.alloc b1.size _⟩
theorem jbe (t p s q:Int) (w:World) :
 Calls prog 222 #[.agg #[.int .i64 t,.int .i64 p,.int .i64 s],.int .i64 q] w (zW (.int .i64 (ofF t p s q 4)) w):=by
 go_enter func222,ntmps222;go_wp2_with fail;refine zM (Vn _ _ _ _ _ _ zo zo) fun w1 ha=> ?_;obtain ⟨hac,haf⟩:=jB ha;go_wp2;go_ret;refine ⟨rfl,?_⟩;exact zR
theorem yQ (t p s q:Int) (w:World) :
 Calls prog 223 #[.agg #[.int .i64 t,.int .i64 p,.int .i64 s],.int .i64 q] w (zW (.int .i64 (ofF t p s q 5)) w):=by
 go_enter func223,ntmps223;go_wp2_with fail;refine zM (Vn _ _ _ _ _ _ zo zo) fun w1 ha=> ?_;obtain ⟨hac,haf⟩:=jB ha;go_wp2;go_ret;refine ⟨rfl,?_⟩;exact zR
theorem jcT (k:Nat) (w:World) (h:k < 9) :
 Calls prog 255 #[.int .i64 k] w (zW (.int .i64 ((13+k:Nat):Int)) w):=by
 have HW:=zh (fun w=>J7 13 k 9 w zo zo zo);have hf:kq 13 k 9=((13+k:Nat):Int):=by unfold kq;rw [if_neg zo];omega
 rw [hf] at HW;go_enter func255,ntmps255;go_wp2_with fail;refine zM (HW.out _) ?_;rintro w1 rfl;go_wp2;go_ret;exact ⟨rfl,Below.refl _ _⟩
attribute [local go_sem] Oper.semAt_some

section
variable {P:Program} {ops:Array Oper} {Q:Exit->Act->World->Prop} {md:Region.Mode} {l n:Nat}
end
theorem Below.from {W W':World} (h:Below W.heap.size W W') (B:Nat):KeepsFrom B W W':=
 ⟨h.size,fun k o _ hk _=>(h.block k (Array.getElem?_eq_some_iff.1 hk).1).trans hk⟩
section
variable {P:Nat}
end
end Go.Proofs.YtcnininelndjoaaGreat
namespace Go.Proofs.YtcnininelndjoaaGreat
open Go.Proofs.Tryz
open Go.RowKit
attribute [local go_sem] Oper.semAt_some

theorem RowQ.shape {w w':World} {l:List (Int×Int×Int)} {v:Value} (h:RowQ w l v w') (hp:0 < l.length):∃g c,v= .slice (some ⟨g,0,none⟩) l.length c:=Joins.ownsRow_form h.1 hp
section
variable {b:Nat} {t s:Int} {ad:Addr} {n c:Nat} {vs:List Int} {mb:Nat}
end
end Go.Proofs.YtcnininelndjoaaGreat

