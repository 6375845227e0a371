/- parts of the proof, merged by a program. -/
import Derived.Test.YtcnininelndjoaaGreatMmt1
import Derived.Test.YtcnininelndjoaaGreatMmt2
import Derived.Test.YtcnininelndjoaaGreatMmt3
import Derived.Test.YtcnininelndjoaaGreatMmt11
import Derived.Test.YtcnininelndjoaaGreatMmt13
import Derived.Test.YtcnininelndjoaaGreatRows
import Derived.Shelf.Sort.AssemblyIn
import Derived.Sort.EveryDepth
import Derived.Sort.OwnSortedInts
import Derived.Deep.OwnRows
set_option linter.unusedSimpArgs false
set_option linter.unusedVariables false
set_option maxRecDepth 100000
set_option maxHeartbeats 4000000
namespace Go.Proofs.YtcnininelndjoaaGreat
open Go.Proofs.Tryz
open Go.RowKit

theorem jck (a b:List Int) (va vb:Value) (w:World) (ha:w.ownsRow 0 38 1 va a.length (yG a)) (hb:w.ownsRow 0 38 1 vb b.length (yG b)) (hna:a.length<=4294967296) (hnb:b.length<=4294967296) :
 Calls prog 19 #[va,vb] w (zW (.bool (decide (a=b))) w):=by
 have hca:∀wr,Below w.heap.size w wr->∀k,k < a.length->∃g m c,va= .slice (some ⟨g,0,none⟩) m c/\wr.cell? ⟨g,k,none⟩=some (.int .u64 (a.getD k 0)):=by
  intro wr hb0 k hk;obtain ⟨g,cap,rfl⟩:=Joins.ownsRow_form ha zo;refine ⟨g,_,cap,rfl,?_⟩;have e0:w.cell? ⟨g,k,none⟩=some (.int .u64 (a.getD k 0)):=by
   rw [ha.cellAt k zo];simp [yG,hk]
  exact (hb0.cell (World.block_lt_of_cell? w _ e0)).trans e0
 have hcb:∀wr,Below w.heap.size w wr->∀k,k < b.length->∃g m c,vb= .slice (some ⟨g,0,none⟩) m c/\wr.cell? ⟨g,k,none⟩=some (.int .u64 (b.getD k 0)):=by
  intro wr hb0 k hk;obtain ⟨g,cap,rfl⟩:=Joins.ownsRow_form hb zo;refine ⟨g,_,cap,rfl,?_⟩;have e0:w.cell? ⟨g,k,none⟩=some (.int .u64 (b.getD k 0)):=by
   rw [hb.cellAt k zo];simp [yG,hk]
  exact (hb0.cell (World.block_lt_of_cell? w _ e0)).trans e0
 obtain ⟨pa,ca,rfl⟩:=kK ha;obtain ⟨pb,cb,rfl⟩:=kK hb;clear ha hb;generalize hr:decide (a=b)=r;have HR:=zh hr;clear hr;by_cases hl:a.length=b.length
 ·have hlb:((a.length:Int) != (b.length:Int))=false:=by simp [hl]
  have HL:=zh hl;clear hl;go_enter func19,ntmps19;go_wp2;go_loopw [5] (fun i wr=>ValsRel a b w i wr) (fun i _=>a.length - (intOf i).toNat);case atStart=>exact ⟨0,zo,rfl,zo,Below.refl _ _⟩
  case round=>
   obtain ⟨k,hk,rfl,hno,hbw⟩:=hrel;have HN:=zh hno;have HB:=zh hbw;have hca:=hca _ hbw;have hcb:=hcb _ hbw;clear hno hbw;by_cases hlt:k < a.length
   ·have hltb:k < b.length:=by have:=HL.out;omega
    obtain ⟨g,m,c',hv,c0⟩:=hca k hlt;obtain ⟨g2,m2,c2',hv2,c1⟩:=hcb k hltb;simp only [Value.slice.injEq] at hv hv2;obtain ⟨rfl,rfl,rfl⟩:=hv;obtain ⟨rfl,rfl,rfl⟩:=hv2;clear hca hcb;have HX:=zh (show a[k]? =some (a.getD k 0) by simp [hlt]);have HX2:=zh (show b[k]? =some (b.getD k 0) by simp [hltb]);generalize a.getD k 0=y at*
    generalize b.getD k 0=z at*
    by_cases hy:y=z
    ·have hb:(y != z)=false:=by simp [hy]
     have HY:=zh hy;clear hy;go_wp2;refine wQ ?_;go_wp2;go_roundw;case rel=>
      refine ⟨k+1,zo,by go_num,fun j hj=> ?_,HB.out.drew⟩;by_cases e:j=k
      ·subst e;rw [HX.out,HX2.out,HY.out]
      ·exact HN.out j zo
     case measure=>simp [intOf];omega
    ·have hb:(y != z)=true:=by simp [hy]
     have HY:=zh hy;clear hy;go_wp2;refine wQ ?_;go_wp2;go_ret;refine ⟨kL ?_,HB.out.drew⟩;rw [<-HR.out];symm;simp only [decide_eq_false_iff_not];intro hm;subst hm;have:=HX.out.symm.trans HX2.out;exact HY.out (Option.some.inj this)
   ·clear hca hcb;go_wp2;go_ret;refine ⟨kL ?_,HB.out⟩;rw [<-HR.out];symm;simp only [decide_eq_true_eq];apply List.ext_getElem?;intro j;by_cases hj:j < k
    ·exact HN.out j hj
    ·rw [List.getElem?_eq_none zo,List.getElem?_eq_none (by have:=HL.out;omega)]
 ·have hlb:((a.length:Int) != (b.length:Int))=true:=by simp;omega
  have HL:=zh hl;clear hl hca hcb;go_enter func19,ntmps19;go_wp2;go_ret;refine ⟨kL ?_,Below.refl _ _⟩;rw [<-HR.out];symm;simp only [decide_eq_false_iff_not];intro hm;exact HL.out (by rw [hm])
def sortRen:Go.Shelf.Ren:=⟨fun | 189=>154 | 125=>203 | 257=>202 | 128=>242 | 129=>243 | 294=>233 | 295=>234 | 296=>235 | 297=>236 | 298=>237 | 299=>238 | 216=>239 | 300=>240 | 301=>241 | 328=>256 | 329=>257 | 330=>258 | 331=>259 | 332=>260 | 215=>261 | 343=>270 | n=>n,fun | 28=>66 | 3=>3 | 46=>204 | 0=>0 | 51=>44 | 53=>38 | 4=>4 | 183=>236 | 182=>235 | 131=>134 | 5=>5 | 9=>9 | 218=>256 | 222=>259 | 228=>263 | 229=>264 | n=>n,fun | n=>n⟩
theorem sortLays:Go.Proofs.Lays.n189 prog sortRen where
 mixed:=by kernel_rfl
 f125:=func203.trans (congrArg some zk)
 f128:=func242.trans (congrArg some zk)
 f129:=func243.trans (congrArg some zk)
 f189:=func154.trans (congrArg some zk)
 f215:=func261.trans (congrArg some zk)
 f216:=func239.trans (congrArg some zk)
 f257:=func202.trans (congrArg some zk)
 f294:=func233.trans (congrArg some zk)
 f295:=func234.trans (congrArg some zk)
 f296:=func235.trans (congrArg some zk)
 f297:=func236.trans (congrArg some zk)
 f298:=func237.trans (congrArg some zk)
 f299:=func238.trans (congrArg some zk)
 f300:=func240.trans (congrArg some zk)
 f301:=func241.trans (congrArg some zk)
 f328:=func256.trans (congrArg some zk)
 f329:=func257.trans (congrArg some zk)
 f330:=func258.trans (congrArg some zk)
 f331:=func259.trans (congrArg some zk)
 f332:=func260.trans (congrArg some zk)
 f343:=func270.trans (congrArg some zk)
 t0:=underlying0
 a0:=Tryz.isAgg0
 z0:=Tryz.sizeOf0
 v0:=Tryz.zeroValue0
 t3:=underlying3
 a3:=Tryz.isAgg3
 z3:=Tryz.sizeOf3
 v3:=Tryz.zeroValue3
 t4:=underlying4
 a4:=Tryz.isAgg4
 z4:=Tryz.sizeOf4
 v4:=Tryz.zeroValue4
 t5:=underlying5
 a5:=Tryz.isAgg5
 z5:=Tryz.sizeOf5
 v5:=Tryz.zeroValue5
 t9:=underlying9
 a9:=Tryz.isAgg9
 z9:=Tryz.sizeOf9
 v9:=Tryz.zeroValue9
 t28:=underlying66
 a28:=Tryz.isAgg66
 z28:=Tryz.sizeOf66
 v28:=Tryz.zeroValue66
 t46:=underlying204
 a46:=Tryz.isAgg204
 z46:=Tryz.sizeOf204
 v46:=Tryz.zeroValue204
 t51:=underlying44
 a51:=Tryz.isAgg44
 z51:=Tryz.sizeOf44
 v51:=Tryz.zeroValue44
 t53:=underlying38
 a53:=Tryz.isAgg38
 z53:=Tryz.sizeOf38
 v53:=Tryz.zeroValue38
 t131:=underlying134
 a131:=Tryz.isAgg134
 z131:=Tryz.sizeOf134
 v131:=Tryz.zeroValue134
 t182:=underlying235
 a182:=Tryz.isAgg235
 z182:=Tryz.sizeOf235
 v182:=Tryz.zeroValue235
 t183:=underlying236
 a183:=Tryz.isAgg236
 z183:=Tryz.sizeOf236
 v183:=Tryz.zeroValue236
 t218:=underlying256
 a218:=Tryz.isAgg256
 z218:=Tryz.sizeOf256
 v218:=Tryz.zeroValue256
 t222:=underlying259
 a222:=Tryz.isAgg259
 z222:=Tryz.sizeOf259
 v222:=Tryz.zeroValue259
 t228:=underlying263
 a228:=Tryz.isAgg263
 z228:=Tryz.sizeOf263
 v228:=Tryz.zeroValue263
 t229:=underlying264
 a229:=Tryz.isAgg264
 z229:=Tryz.sizeOf264
 v229:=Tryz.zeroValue264
theorem sort_any (blk cap:Nat) (zs:List Int) (w:World) (hH:Go.Sort.Holds (Value.int .i64) w blk 0 zs.toArray) (hblk:blk < w.heap.size) (hsz:zs.length < 4611686018427387904) :
 Calls prog 154 #[.slice (some ⟨blk,0,none⟩) zs.length cap] w fun e w'=>
  e= .returned (.tuple #[])/\∃n os,w'=Go.Sort.grow (Go.Sort.putRow (Value.int .i64) (Go.Sort.ahead w n) blk 0 (zs.mergeSort fun x y=>decide (x<=y)).toArray) os:=
 calls_of_every_depth fun D=>AnyS.slices_Sort_int_in sortLays D blk 0 cap zs w hH hblk hsz

theorem NM.Inv.pcount {s:NM} (h:s.Inv):s.P.length<=17*8192:=by
 have h1:s.P.length<=((List.range 17).flatMap fun a:Nat=>(List.range 8192).map fun b:Nat=>((a:Int),(b:Int))).length:=by
  refine List.Nodup.length_le_of_subset h.nd fun p hp=> ?_;obtain ⟨a0,a1,a2,a3⟩:=h.pb p hp;have hs:=h.small;refine List.mem_flatMap.2 ⟨p.1.toNat,List.mem_range.2 zo,List.mem_map.2 ⟨p.2.toNat,List.mem_range.2 zo,?_⟩⟩;refine Prod.ext ?_ ?_
  ·show ((p.1.toNat:Nat):Int)=p.1;omega
  ·show ((p.2.toNat:Nat):Int)=p.2;omega
 have h2:((List.range 17).flatMap fun a:Nat=>(List.range 8192).map fun b:Nat=>((a:Int),(b:Int))).length=17*8192:=by rw [List.length_flatMap];simp only [List.length_map,List.length_range];rfl
 omega
structure jdw (P rem:List (Int×Int)) (who:Int) (ls:List Int):Prop where
 nd:ls.Nodup
 mem:∀l,l∈ls↔(who,l)∈P/\(who,l) ∉ rem
 len:ls.length+rem.length<=P.length
theorem jdw.start (P:List (Int×Int)) (who:Int):jdw P P who []:=⟨zT,zT,zT⟩
theorem K8 {rem:List (Int×Int)} {p:Int×Int} (hp:p∈rem):(rem.filter fun q=> !decide (q=p)).length < rem.length:=by
 have h1:=List.length_filter_lt_length_iff_exists (l:=rem) (p:=fun q=> !decide (q=p));exact h1.2 ⟨p,hp,zT⟩
theorem jdw.skip {P rem:List (Int×Int)} {who:Int} {ls:List Int} (h:jdw P rem who ls) {p:Int×Int} (hp:p∈rem) (hw:p.1≠who):jdw P (rem.filter fun q=> !decide (q=p)) who ls:=by
 refine ⟨h.nd,fun l=> ?_,?_⟩
 ·rw [h.mem l];have hne:(who,l)≠p:=fun e=>hw (by rw [<-e]);simp [List.mem_filter,hne]
 ·have:=K8 hp;have:=h.len;omega
theorem jdw.take {P rem:List (Int×Int)} {who:Int} {ls:List Int} (h:jdw P rem who ls) {p:Int×Int} (hp:p∈rem) (hw:p.1=who) (hP:p∈P):jdw P (rem.filter fun q=> !decide (q=p)) who (ls++[p.2]):=by
 have hpe:(who,p.2)=p:=by rw [<-hw]
 have hno:p.2 ∉ ls:=fun hm=>((h.mem _).1 hm).2 (by rw [hpe];exact hp);refine ⟨?_,fun l=> ?_,?_⟩
 ·rw [List.nodup_append];exact ⟨h.nd,zT,fun a ha b hb=>by simp at hb;subst hb;exact fun e=>hno (e ▸ ha)⟩
 ·rw [List.mem_append,h.mem l];by_cases hl:l=p.2
  ·subst hl;rw [hpe];simp [hP]
  ·have hne:(who,l)≠p:=fun e=>hl (by rw [<-e]);simp [List.mem_filter,hne,hl]
 ·have:=K8 hp;have:=h.len;rw [List.length_append];simp only [List.length_cons,List.length_nil];omega
theorem jey (s:NM) (who:Int):kO (s.pend who)=Xc ((s.pend who).map fun (n:Nat)=>(n:Int)):=by simp [kO,Xc]
theorem jdw.sorted {s:NM} (hi:s.Inv) {who:Int} {ls:List Int} (h:jdw s.P [] who ls):(ls.mergeSort fun x y=>decide (x<=y))=(s.pend who).map fun (n:Nat)=>(n:Int):=by
 have tr:∀a b c:Int,decide (a<=b)=true->decide (b<=c)=true->decide (a<=c)=true:=fun a b c h1 h2=>by simp at*;omega
 have to:∀a b:Int,(decide (a<=b) || decide (b<=a))=true:=fun a b=>by simp;omega
 have hnp:((s.pend who).map fun (n:Nat)=>(n:Int)).Nodup:=by
  unfold List.Nodup;rw [List.pairwise_map];exact (List.Pairwise.filter _ List.nodup_range).imp fun hne e=>hne (by exact_mod_cast e)
 have hp:ls.Perm ((s.pend who).map fun (n:Nat)=>(n:Int)):=by
  refine (List.perm_ext_iff_of_nodup h.nd hnp).2 fun l=> ?_;rw [h.mem l];constructor
  ·rintro ⟨h1,-⟩;obtain ⟨a0,a1,a2,a3⟩:=hi.pb _ h1;refine List.mem_map.2 ⟨l.toNat,?_,by show ((l.toNat:Nat):Int)=l;dsimp only at a2;omega⟩;have e:((l.toNat:Nat):Int)=l:=by dsimp only at a2;omega
   dsimp only at a3;simp only [NM.pend,List.mem_filter,List.mem_range,decide_eq_true_eq,e];exact ⟨zo,h1⟩
  ·intro hm;obtain ⟨n,hn,rfl⟩:=List.mem_map.1 hm;exact ⟨(NM.pend_lt hn).2,zT⟩
 refine List.Perm.eq_of_pairwise (le:=fun a b=>decide (a<=b)=true) (fun a b _ _ h1 h2=>by simp at h1 h2;omega) (List.pairwise_mergeSort tr to ls) ?_ ((List.mergeSort_perm ls _).trans hp);rw [List.pairwise_map];exact (List.Pairwise.filter _ List.pairwise_lt_range).imp fun hlt=>by simp;omega
theorem jaw (w:World) (u:Value) (T:TypeId) (k:Nat) (hk:k=w.heap.size):∀(j:Nat) (x:Value),[u][j]? =some x->(w.alloc (.cells #[u] T)).cell? ((⟨k,0,none⟩:Addr).add j)=some x:=by
 subst hk;exact cell_one_new w u T
def PendP (w:World) (s:NM) (who:Int) (e:Ending) (w':World):Prop:=∃v,e= .returned v/\w'.ownsRow w.heap.size 3 1 v (s.pend who).length (kO (s.pend who))/\Below w.heap.size w w'
structure PeRel (w:World) (pb:Nat) (P:List (Int×Int)) (who:Int) (v5:Value) (wr:World) (rem:List (Int×Int)) (ls:List Int):Prop where
 rg:jaC wr pb w.heap.size P rem
 row:wr.ownsRow 0 3 1 v5 ls.length (Xc ls)
 own:∀k,v5.ownBlock=some k->w.heap.size < k
 bel:Below w.heap.size w wr
 col:jdw P rem who ls
def PeRelE (w:World) (pb:Nat) (P:List (Int×Int)) (who:Int) (v5:Value) (wr:World):Prop:=∃rem ls,PeRel w pb P who v5 wr rem ls
noncomputable def remLen (w:World) (pb r:Nat):Nat:=match w.heap[r]? with
 | some (.mapIter _ _ seen _)=>(match w.heap[pb]? with | some (.map es _)=>(leftOf es seen).size | _=>0)
 | _=>0
theorem jaC.rem_len {w:World} {pb r:Nat} {P rem:List (Int×Int)} (h:jaC w pb r P rem):remLen w pb r=rem.length:=by
 obtain ⟨es,clk,s,n,c,h1,-,h2,-,-,-,h3,-⟩:=h;unfold remLen;rw [h2,h1];have:=congrArg List.length h3;simpa using this
theorem jdf (w:World):Calls prog 233 #[.slice none 0 0,.int .i64 0,.int .i64 0] w fun e w'=>e= .returned (.tuple #[])/\w=w':=by
 go_enter func233,ntmps233;go_wp2;refine wp_loop_rounds 1 ?_;rw [rounds_succ];go_wp2;go_end0;exact ⟨rfl,rfl⟩
theorem pdq_nil (w:World):Calls prog 202 #[.slice none 0 0,.int .i64 0,.int .i64 0,.int .i64 0] w fun e w'=>e= .returned (.tuple #[])/\w=w':=by
 go_enter func202,ntmps202;go_wp2;refine wp_loop_rounds 1 ?_;rw [rounds_succ];go_wp2_with fail;refine zM (jdf _) ?_;rintro w' rfl;go_wp2;refine bodyPost_ret (results_none rfl _ _ _) rfl ?_;exact ⟨rfl,rfl⟩
theorem je6 (w:World):Calls prog 243 #[.int .u64 0] w fun e w'=>e= .returned (.int .i64 0)/\w=w':=by
 have h8:Go.Lib.len8 0=0:=zk;go_enter func243,ntmps243;go_wp2;go_ret;exact ⟨rfl,rfl⟩
theorem len_nil (w:World):Calls prog 203 #[.int .u64 0] w fun e w'=>e= .returned (.int .i64 0)/\w=w':=by
 go_enter func203,ntmps203;go_wp2_with fail;refine zM (je6 _) ?_;rintro w' rfl;go_wp2;go_ret;exact ⟨rfl,rfl⟩
theorem sort_nil (w:World):Calls prog 154 #[.slice none 0 0] w fun e w'=>e= .returned (.tuple #[])/\w=w':=by
 go_enter func154,ntmps154;go_wp2_with fail;refine zM (len_nil _) ?_;rintro w' rfl;go_wp2_with fail;refine zM (pdq_nil _) ?_;rintro w' rfl;go_wp2;go_end0;exact ⟨rfl,rfl⟩
theorem jeP (b:Nat) (who:Int) (w:World) (S:Nat->Prop) (s:NM) (h:PM w b S s) :
 Calls prog 93 #[.pointer (some ⟨b,0,none⟩),.int .i64 who] w (PendP w s who):=by
 obtain ⟨wv,kv,pb,hv⟩:=h;have h2:=hv.cell 2;simp at h2;have hpl:=hv.lt pb hv.inp;have HM:=zh hv.mp;have HI:=zh hv.inv;have hcount:=hv.inv.pcount;have HCnt:=zh hcount;clear hv hcount;obtain ⟨i0,hi0,hi1,hi2,hi3⟩:=info_parts Yx;have HT:=zh (And.intro hi0 (And.intro hi1 (And.intro hi2 hi3)));clear hi0 hi1 hi2 hi3;go_enter func93,ntmps93;go_wp2_with (at_range;refine jcn rfl _ rfl HM.out uPend rfl ?_;intro w1 hr1 hb1 hz1);have HR1:=zh hr1;have HB1:=zh hb1;clear hr1 hb1 hz1;go_frame;go_loopw [5] (fun v5 wr=>PeRelE w pb s.P who v5 wr) (fun _ wr=>remLen wr pb w.heap.size);case atStart=>exact ⟨s.P,[],HR1.out,⟨by simp [Xc],Or.inl ⟨rfl,rfl⟩⟩,by simp [Value.ownBlock],HB1.out,jdw.start _ _⟩
 case round=>
  obtain ⟨rem,ls,hrg,hrow,hown,hbel,hcol⟩:=hrel;have HRg:=zh hrg;have HRow:=zh hrow;have HOwn:=zh hown;have HBel:=zh hbel;have HCol:=zh hcol;clear hrg hrow hown hbel hcol;go_wp2_with (at_next;refine jdy rfl _ rfl HRg.out rfl ?_ ?_)
  ·intro h0;subst h0;have HSo:=zh (HCol.out.sorted HI.out);have hlen:ls.length=(s.pend who).length:=by
    have:=congrArg List.length HSo.out;simpa using this
   rcases HRow.out.2 with ⟨rfl,hn⟩ | ⟨g,cap,cur,rfl,-,hbk,q1,q2,q3,q4⟩
   ·have HL:=zh hlen;have HN:=zh hn;clear hlen hn;go_wp2_with fail;refine zM (sort_nil _) ?_;rintro w3 rfl;go_wp2;go_ret;have hz:(s.pend who)=[]:=List.eq_nil_of_length_eq_zero (by have:=HL.out;have:=HN.out;omega);exact ⟨_,rfl,by rw [hz];exact ⟨by simp [kO],Or.inl ⟨rfl,rfl⟩⟩,HBel.out⟩
   ·have hg0:=HOwn.out g rfl;have hlb:ls.length<=17*8192:=by
     have:=HCol.out.len;have:=HCnt.out;omega
    have hso:=sort_any g cap ls wr (holds_of_blockI hbk (by simpa [Xc] using q4)) (Array.getElem?_eq_some_iff.1 hbk).1 zo;have HS:=zh hso;have HOs:=fun n os=>ownsRow_sortedI (n:=n) (os:=os) (ss:=ls) (ts:=ls.mergeSort fun x y=>decide (x<=y)) (base:=w.heap.size) zT zo hbk q1 q2 q3;have HO2:=zh HOs;have HL:=zh hlen;clear hso HOs hbk q1 q2 q3 q4 hlb hlen;go_wp2_with fail;refine zM HS.out ?_;rintro w3 ⟨nn,os,rfl⟩;have ho:=HO2.out nn os;have hb3:Below w.heap.size w (Go.Sort.grow (Go.Sort.putRow (Value.int .i64) (Go.Sort.ahead wr nn) g 0 (ls.mergeSort fun x y=>decide (x<=y)).toArray) os):=HBel.out.grown (grownBy_sortedI _) HBel.out.size (fun k hk=>by cases hk;omega);generalize Go.Sort.grow (Go.Sort.putRow (Value.int .i64) (Go.Sort.ahead wr nn) g 0 (ls.mergeSort fun x y=>decide (x<=y)).toArray) os=w4 at ho hb3 ⊢;rw [HSo.out,HL.out] at ho;have HO3:=zh ho;have HB3:=zh hb3;clear ho hb3;go_wp2;go_ret;exact ⟨_,rfl,by rw [jey,HL.out];exact HO3.out,HB3.out⟩
  ·intro p1 p2 w2 hp hr2 hg2 hs2 hen;have hen2:(Instr.entry (.pointer (some ⟨w.heap.size,0,none⟩))).run prog w2= .ok (.tuple #[.agg #[.int .i64 p1,.int .i64 p2],.int .i64 1]) w2:=hen;have hkey:jQ (p1,p2)= .agg #[.int .i64 p1,.int .i64 p2]:=rfl;rw [hkey];have HP:=zh hp;have HR2:=zh hr2;have HB2:=zh (HBel.out.grown hg2 HBel.out.size (fun k hk=>by cases hk;exact Nat.le_refl _));have HRow2:=zh (jh (w':=w2) HRow.out fun k hk=>hg2.block k (jt HRow.out hk) (fun e=>by have:=HOwn.out k hk;cases e;omega));have hpP:(p1,p2)∈s.P:=by
    obtain ⟨_,_,_,_,_,_,_,_,_,_,_,_,hsub⟩:=HRg.out;exact hsub _ hp
   have HPP:=zh hpP;clear hp hr2 hg2 hs2 hen hkey hpP;have hlb:ls.length<=17*8192:=by
    have:=HCol.out.len;have:=HCnt.out;omega
   have hz2:w.heap.size < w2.heap.size:=HR2.out.lt;obtain ⟨pa,pc,rfl⟩:=kK HRow2.out;by_cases hw:p1=who
   ·subst hw;have HCo:=zh (HCol.out.take HP.out rfl HPP.out);go_wp2_with (at_builtin;go_must (refine km rfl _ _ rfl 3 i0 (.int .i64 0) 1 8 underlying66 HT.out.1 HT.out.2.1 HT.out.2.2.1 HT.out.2.2.2 rfl zd (.slice pa ls.length pc) ls.length (Xc ls) rfl ((HRow2.out.alloc _).alloc _) ⟨_,0,none⟩ 1 1 [.int .i64 p2] rfl rfl (jaw _ _ _ _ zT) ?c1 ?c2 ?c3 ?_);go_must (case c1=>(simp [Value.oneCell']));go_must (case c2=>(unfold maxLen;omega));go_must (case c3=>(omega));go_must (intro v' w5 hown5 hg5 hnew5 hnil5);clear hnil5;go_must (obtain ⟨g',cap',rfl⟩:=Joins.ownsRow_form hown5 zo));have hR5:=HR2.out.block (w':=w5) ((hg5.block pb (by simp;omega) (fun e=>by have:=HOwn.out pb e.symm;omega)).trans ((Below.heap_alloc _ _ _ (by simp;omega)).trans (Below.heap_alloc _ _ _ zo))) ((hg5.block w.heap.size (by simp;omega) (fun e=>by have:=HOwn.out _ e.symm;omega)).trans ((Below.heap_alloc _ _ _ (by simp;omega)).trans (Below.heap_alloc _ _ _ hz2)));have hl5:remLen w5 pb w.heap.size < remLen wr pb w.heap.size:=by
     rw [hR5.rem_len,HRg.out.rem_len];exact K8 HP.out
    have HR5:=zh hR5;have HL5:=zh hl5;have HRw:=zh (show w5.ownsRow 0 3 1 (.slice (some ⟨g',0,none⟩) (ls.length+1) cap') (ls++[p2]).length (Xc (ls++[p2])) by rw [List.length_append];simpa [Xc] using hown5);have HOw:=zh (show∀k,(Value.slice (some ⟨g',0,none⟩) (ls.length+1) cap').ownBlock=some k->w.heap.size < k from fun k hk=>by
     rcases hnew5 k hk with h1 | h1
     ·exact HOwn.out k h1
     ·simp at h1;omega)
    have HB5:=zh (((HB2.out.alloc HB2.out.size _).alloc (by simp;omega) _).grown hg5 (by simp;omega) (fun k hk=>Nat.le_of_lt (HOwn.out k hk)));clear hR5 hl5 hown5 hg5 hnew5;go_wp2;go_roundw;case rel=>exact ⟨_,ls++[p2],HR5.out,HRw.out,HOw.out,HB5.out,HCo.out⟩
    case measure=>exact HL5.out
   ·have HCo:=zh (HCol.out.skip HP.out hw);have hwb:(p1 == who)=false:=by simpa using hw
    go_wp2;go_roundw;case rel=>exact ⟨_,ls,HR2.out.block (Below.heap_alloc _ _ _ zo) (Below.heap_alloc _ _ _ hz2),HRow2.out.alloc _,HOwn.out,HB2.out.alloc HB2.out.size _,HCo.out⟩
    case measure=>
     rw [(HR2.out.block (Below.heap_alloc _ _ _ zo) (Below.heap_alloc _ _ _ hz2)).rem_len,HRg.out.rem_len];exact K8 HP.out

theorem NSt.turn {α:Type} {R:World->Nat->(Nat->Prop)->α->Prop} {w0 w w':World} {b:Nat} {S S1:Nat->Prop} {Ls:List Nat} {s s':α} (h:NSt R w0 b S Ls s w) (hS:∀k,S1 k->S k\/w0.heap.size<=k) (hL:∀L∈Ls,¬S1 L) (h':R w' b S1 s') (F:Fr S1 w w'):NSt R w0 b S Ls s' w'/\∀L∈Ls,w'.heap[L]? =w.heap[L]? :=
 ⟨⟨⟨S1,h',hS,hL⟩,h.fr.trans F hS,fun L hm=>⟨Nat.lt_of_lt_of_le (h.ls L hm).1 F.size,(h.ls L hm).2⟩,h.s0⟩,fun L hm=>F.block L (h.ls L hm).1 (hL L hm)⟩
theorem jdi {α β:Type} (f:α->β->α) (a:α) (l:List β) {k:Nat} {x:β} (h:l[k]? =some x):(l.take (k+1)).foldl f a=f ((l.take k).foldl f a) x:=by
 rw [List.take_add_one,h];simp
structure FeRel (w:World) (b:Nat) (S:Nat->Prop) (s:NM) (who:Int) (v:Value) (vi:Value) (wr:World) (k:Nat):Prop where
 le:k<=(s.pend who).length
 eq:vi= .int .i64 k
 st:NSt PM w b S v.ownBlock.toList (((s.pend who).take k).foldl (NM.step who) s) wr
 row:wr.ownsRow 0 3 1 v (s.pend who).length (kO (s.pend who))
def FeRelE (w:World) (b:Nat) (S:Nat->Prop) (s:NM) (who:Int) (v:Value) (vi:Value) (wr:World):Prop:=∃k,FeRel w b S s who v vi wr k
theorem jc8 (b:Nat) (who:Int) (w:World) (S:Nat->Prop) (s:NM) (h:PM w b S s) :
 Calls prog 53 #[.pointer (some ⟨b,0,none⟩),.int .i64 who] w fun e w'=>e= .returned (.int .i64 (s.fence who).1)/\(PM w' b (upd S w w') (s.fence who).2/\Fr S w w'):=by
 have HP:=zh (jeP b who w S s h);have HI:=zh h.inv;have HS:=zh (NSt.start qT h);have hpl:=NM.pend_le h.inv who;have hsm:=h.inv.small;clear h;go_enter func53,ntmps53;go_wp2_with fail;refine HP.out.mono ?_;rintro e w1 ⟨v,rfl,hr,hb⟩;obtain ⟨pa,pc,rfl⟩:=kK (Joins.ownsRow_le hr (Nat.zero_le _));have HN1:=zh (HS.out.row qT hb hr);have HR1:=zh (Joins.ownsRow_le hr (Nat.zero_le _));clear hr hb;go_wp2_with fail;go_loopw [13] (fun vi wr=>FeRelE w b S s who (.slice pa (s.pend who).length pc) vi wr) (fun vi _=>(s.pend who).length - (intOf vi).toNat);case atStart=>exact ⟨0,zo,rfl,by simpa using HN1.out,HR1.out⟩
 case round=>
  obtain ⟨k,hk,rfl,hst,hrow⟩:=hrel;by_cases hlt:k < (s.pend who).length
  ·obtain ⟨l,hl⟩:∃l,(s.pend who)[k]? =some l:=⟨_,List.getElem?_eq_getElem hlt⟩
   have hlw:=NM.pend_lt (List.mem_of_getElem? hl);have hwho:=(HI.out.pb _ hlw.2)
   have hfold:=jdi (NM.step who) s _ hl;obtain ⟨g,cap,hg⟩:=Joins.ownsRow_form hrow zo;simp only [Value.slice.injEq,true_and] at hg;obtain ⟨rfl,rfl⟩:=hg;have hc:wr.cell? ⟨g,k,none⟩=some (.int .i64 l):=by
    rw [hrow.cellAt k zo];simp [kO,hl]
   have hkl:(k:Int) < (s.pend who).length:=zo;have hinv:=NM.Inv.steps who ((s.pend who).take k) s HI.out;have hW:=NM.steps_W who ((s.pend who).take k) s;obtain ⟨st,hstt⟩:∃st,((s.pend who).take k).foldl (NM.step who) s=st:=⟨_,rfl⟩
   rw [hstt] at hst hfold hinv hW;have HSt:=zh hst;have HRow:=zh hrow;have HFo:=zh hfold;have HIn:=zh (hinv.step who l);have HK:=zh (fun S1 (h1:PM wr b S1 st)=>jeV b l 255 wr S1 st h1 (by rw [hW];exact hlw.1) zo);have hp:I64p (who,(l:Int)):=by
    obtain ⟨a0,a1,a2,a3⟩:=hwho;dsimp only at a0 a1 a2 a3;exact ⟨⟨by dsimp only;omega,by dsimp only;omega⟩,⟨by dsimp only;omega,by dsimp only;omega⟩⟩
   have HPr:=zh hp;clear hst hrow hfold hinv hW hstt hl hlw hwho hp;go_wp2_with fail;refine zM (jfw HSt.out HK.out) ?_;rintro w2 ⟨hn2,hl2⟩;have hrow2:=jh (w':=w2) HRow.out (fun j hj=>hl2 j (by simp [hj]));obtain ⟨S1,⟨wv,kv,pb,hps⟩,hS1,hL1⟩:=hn2.ex;have h2c:=hps.cell 2;simp at h2c;have HM:=zh hps.mp;have HPs:=zh hps;have HN2:=zh hn2;have HSL:=zh (And.intro hS1 hL1);have HRow2:=zh hrow2;clear hn2 hl2 hrow2 hps hS1 hL1;go_wp2_with (at_delete;refine jaF rfl _ _ rfl HM.out fPair uPend (who,(l:Int)) HPr.out rfl rfl ?_;intro w3 hm3 hg3);obtain ⟨n1,n2⟩:=HPs.out.pendI (P':=NM.delP st.P (who,(l:Int))) hm3 hg3 HIn.out;obtain ⟨n3,n4⟩:=HN2.out.turn HSL.out.1 HSL.out.2 ⟨_,_,_,n1⟩ n2;have hrow3:=jh (w':=w3) HRow2.out (fun j hj=>n4 j (by simp [hj]));have HN3:=zh n3;have HRow3:=zh hrow3;clear n1 n2 n3 n4 hrow3 hm3 hg3;go_wp2;go_roundw;case rel=>exact ⟨k+1,zo,by go_num,by rw [HFo.out];exact HN3.out,HRow3.out⟩
   case measure=>simp [intOf];omega
  ·have hke:k=(s.pend who).length:=zo;have hkl:¬(k:Int) < (s.pend who).length:=zo;have hd:=hst.done qT;rw [hke,List.take_length] at hd;have HD:=zh hd;clear hst hrow hd hke;go_wp2;go_ret;exact ⟨rfl,HD.out⟩

structure jch (w:World) (S T:Nat->Prop) (b bm:Nat) (t p s:Int) (x:TS) (m:NM):Prop where
 ms:MSA w S b t p s x
 pm:PM w bm T m
 ap:∀k,S k->¬T k
section
variable {w w':World} {S T:Nat->Prop} {b bm:Nat} {t p s:Int} {x:TS} {m:NM}
theorem jch.below (h:jch w S T b bm t p s x m) (hb:Below w.heap.size w w'):jch w' S T b bm t p s x m:=
 ⟨h.ms.keep (T:=fun _=>False) (Fr.of_below hb) (fun _ hf=>hf.elim),qT.keep h.pm (Fr.of_below (S:=fun _=>False) hb) (fun _ _ hf=>hf),h.ap⟩
theorem jaJ {m':NM} (h:jch w S T b bm t p s x m) (hp:PM w' bm (upd T w w') m') (hf:Fr T w w'):jch w' S (upd T w w') b bm t p s x m':=
 ⟨h.ms.keep hf (fun k ht hs=>h.ap k hs ht),hp,fun k hs ht=>by
  rcases ht with ht | ht
  ·exact h.ap k hs ht
  ·exact absurd (h.ms.2 k hs) zo⟩
theorem two_told {v:Int} {ok:Bool} (h:jch w S T b bm t p s x m) (hr:jq t p s=true) (hp:x.ph≠19) (hv:VOK t p x v) :
 Calls prog 54 #[.pointer (some ⟨b,0,none⟩),.int .u64 v,.bool ok] w fun e w'=>e= .returned (.tuple #[])/\(∃S',jch w' S' T b bm t p s (jy t p s v x) m/\∀k,S' k->S k\/w.heap.size<=k)/\Fr S w w':=by
 refine zM (msa_told h.ms hr hp hv) ?_;rintro w' ⟨⟨S',h1,h2⟩,hF⟩;refine ⟨rfl,⟨S',⟨h1,qT.keep h.pm hF (fun k ht hs=>h.ap k hs ht),fun k hs ht=> ?_⟩,h2⟩,hF⟩;rcases h2 k hs with h3 | h3
 ·exact h.ap k h3 ht
 ·exact absurd (qT.lt h.pm k ht) zo
def StepP (w:World) (S T:Nat->Prop) (b bm:Nat) (t p s:Int) (x:TS) (m:NM) (w':World):Prop:=
 (∃S' T',jch w' S' T' b bm t p s x m/\(∀k,S' k->S k\/w.heap.size<=k)/\(∀k,T' k->T k\/w.heap.size<=k))/\Fr (fun k=>S k\/T k) w w'
theorem QP {w0 w1:World} {S':Nat->Prop} {T':Nat->Prop} (h:jch w' S' T' b bm t p s x m) (hS:∀k,S' k->S k\/w1.heap.size<=k) (hT:∀k,T' k->T k\/w0.heap.size<=k) (h0:w.heap.size<=w0.heap.size) (h01:w0.heap.size<=w1.heap.size) (f0:Fr (fun _=>False) w w0) (f1:Fr T w0 w1) (f2:Fr S w1 w'):StepP w S T b bm t p s x m w':=
 ⟨⟨S',T',h,fun k hk=>(hS k hk).imp id (fun h=>by omega),fun k hk=>(hT k hk).imp id (fun h=>by omega)⟩,
  ((f0.mono (S1:=fun k=>S k\/T k) (fun _ hf=>hf.elim)).trans f1 (fun _ hk=> .inl (.inr hk))).trans f2 (fun _ hk=> .inl (.inl hk))⟩
theorem jeh {d a v:Int} (h:jch w S T b bm t p s x m) (hr:jq t p s=true) (hn:jp t p x=some (d,a,v)) (hvu:U64 v) (hv:VOK t p x (doM t m d a v).1) :
 Calls prog 18 #[.pointer (some ⟨b,0,none⟩),.pointer (some ⟨bm,0,none⟩)] w fun e w'=>e= .returned (.bool true)/\StepP w S T b bm t p s (jy t p s (doM t m d a v).1 x) (doM t m d a v).2 w':=by
 have hp:x.ph≠19:=fun e=>by rw [(Jp h.ms.1.inv).2 e] at hn;cases hn
 have hN:=VT h.ms hr;rw [hn] at hN;have HN:=zh hN;have hd:=nextT_do hn;have HW:=zh (fun (w1:World) (b1:Below w.heap.size w w1)=>h.below (b1.alloc b1.size (.cells #[.int .i64 d,.int .i64 t,.int .i64 a,.int .i64 0,.int .u64 0,.int .u64 v] 40)));have HT:=zh (fun (W:World) (S' T':Nat->Prop) (m':NM) (ok:Bool) (g:jch W S' T' b bm t p s x m')=>two_told (ok:=ok) g hr hp hv);clear h hN hn hv hr hp;rcases hd with rfl | rfl | rfl | rfl
 ·simp only [doM,if_true] at HT ⊢;generalize jy t p s (m.load a).1 x=y at*
  go_enter func18,ntmps18;go_wp2_with fail;refine zM HN.out fun w1 b1=> ?_;have H1:=zh (HW.out w1 b1);have B1:=zh (b1.alloc b1.size (.cells #[.int .i64 1,.int .i64 t,.int .i64 a,.int .i64 0,.int .u64 0,.int .u64 v] 40));clear b1 HW HN;unfold Xa;go_wp2_with fail;refine zM (jeT bm a _ T m H1.out.pm) ?_;rintro w2 rfl;go_wp2_with fail;refine zM (HT.out _ _ _ _ _ H1.out) ?_;rintro w3 ⟨⟨S',h3,hS⟩,hF⟩;have H3:=zh (QP h3 hS (fun k hk=> .inl hk) B1.out.size (Nat.le_refl _) (Fr.of_below B1.out) (Fr.refl T _) hF);clear h3 hS hF HT H1 B1;go_wp2;go_ret;exact ⟨rfl,H3.out⟩
 ·simp only [doM,show¬((2:Int)=1) from by decide,if_false,if_true] at HT ⊢;generalize jy t p s 0 x=y at*
  go_enter func18,ntmps18;go_wp2_with fail;refine zM HN.out fun w1 b1=> ?_;have H1:=zh (HW.out w1 b1);have B1:=zh (b1.alloc b1.size (.cells #[.int .i64 2,.int .i64 t,.int .i64 a,.int .i64 0,.int .u64 0,.int .u64 v] 40));clear b1 HW HN;unfold Xa;go_wp2_with fail;refine zM (jc3 bm a v _ T m H1.out.pm hvu) ?_;rintro w2 ⟨hp2,hf2⟩;have H2:=zh (jaJ H1.out hp2 hf2);have HF2:=zh hf2;clear hp2 hf2;go_wp2_with fail;refine zM (HT.out _ _ _ _ _ H2.out) ?_;rintro w3 ⟨⟨S',h3,hS⟩,hF⟩;have H3:=zh (QP h3 hS (fun k hk=>hk.imp id (fun h=>h.1)) B1.out.size HF2.out.size (Fr.of_below B1.out) HF2.out hF);clear h3 hS hF HT H1 H2 HF2 B1;go_wp2;go_ret;exact ⟨rfl,H3.out⟩
 ·simp only [doM,show¬((4:Int)=1) from by decide,show¬((4:Int)=2) from by decide,if_false,if_true] at HT ⊢;generalize jy t p s 0 x=y at*
  go_enter func18,ntmps18;go_wp2_with fail;refine zM HN.out fun w1 b1=> ?_;have H1:=zh (HW.out w1 b1);have B1:=zh (b1.alloc b1.size (.cells #[.int .i64 4,.int .i64 t,.int .i64 a,.int .i64 0,.int .u64 0,.int .u64 v] 40));clear b1 HW HN;unfold Xa;go_wp2_with fail;refine zM (jc7 bm t a _ T m H1.out.pm) ?_;rintro w2 ⟨hp2,hf2⟩;have H2:=zh (jaJ H1.out hp2 hf2);have HF2:=zh hf2;clear hp2 hf2;go_wp2_with fail;refine zM (HT.out _ _ _ _ _ H2.out) ?_;rintro w3 ⟨⟨S',h3,hS⟩,hF⟩;have H3:=zh (QP h3 hS (fun k hk=>hk.imp id (fun h=>h.1)) B1.out.size HF2.out.size (Fr.of_below B1.out) HF2.out hF);clear h3 hS hF HT H1 H2 HF2 B1;go_wp2;go_ret;exact ⟨rfl,H3.out⟩
 ·simp only [doM,show¬((5:Int)=1) from by decide,show¬((5:Int)=2) from by decide,show¬((5:Int)=4) from by decide,if_false] at HT ⊢;generalize jy t p s 0 x=y at*
  go_enter func18,ntmps18;go_wp2_with fail;refine zM HN.out fun w1 b1=> ?_;have H1:=zh (HW.out w1 b1);have B1:=zh (b1.alloc b1.size (.cells #[.int .i64 5,.int .i64 t,.int .i64 a,.int .i64 0,.int .u64 0,.int .u64 v] 40));clear b1 HW HN;unfold Xa;go_wp2_with fail;refine zM (jc8 bm t _ T m H1.out.pm) ?_;rintro w2 ⟨hp2,hf2⟩;have H2:=zh (jaJ H1.out hp2 hf2);have HF2:=zh hf2;clear hp2 hf2;go_wp2_with fail;refine zM (HT.out _ _ _ _ _ H2.out) ?_;rintro w3 ⟨⟨S',h3,hS⟩,hF⟩;have H3:=zh (QP h3 hS (fun k hk=>hk.imp id (fun h=>h.1)) B1.out.size HF2.out.size (Fr.of_below B1.out) HF2.out hF);clear h3 hS hF HT H1 H2 HF2 B1;go_wp2;go_ret;exact ⟨rfl,H3.out⟩
end

section
variable {w0 w:World} {S T:Nat->Prop} {b bm:Nat} {t p s:Int} {x:TS} {m:NM}
theorem jcK (h:jch w S T b bm t p s x m) (hr:jq t p s=true) (hp:x.ph=19) :
 Calls prog 18 #[.pointer (some ⟨b,0,none⟩),.pointer (some ⟨bm,0,none⟩)] w fun e w'=>e= .returned (.bool false)/\jch w' S T b bm t p s x m/\Below w.heap.size w w':=by
 have hN:=VT h.ms hr;rw [(Jp h.ms.1.inv).2 hp] at hN;have HN:=zh hN;have H:=zh h;clear h hN hr hp;go_enter func18,ntmps18;go_wp2_with fail;refine zM HN.out fun w1 b1=> ?_;have B1:=zh (b1.alloc b1.size (.cells #[.int .i64 0,.int .i64 0,.int .i64 0,.int .i64 0,.int .u64 0,.int .u64 0] 40));clear b1 HN;unfold Xa;go_wp2;go_ret;exact ⟨rfl,H.out.below B1.out,B1.out⟩
theorem JZ {h l:Int} (hh:0<=h/\h < 4294967296) (hl:0<=l/\l < 4294967296):U64 (jH h l):=by
 unfold U64 jH;omega
theorem ms_u64 (hr:jq t p s=true) (h:MS w0 S b t p s x w) {d a v:Int} (hn:jp t p x=some (d,a,v)):U64 v:=by
 have hrb:=jn hr;have hmb:=jI hr;have hst:=h.st;have hmu:(0:Int)<=(mu t p x:Int):=Int.natCast_nonneg _;have hwr:=h.inv.wr;have hph:=h.inv.ph;have z0:U64 0:=by unfold U64;omega
 have hm:=h.mr;unfold MR at hm;unfold jp at hn;have hopen:U64 x.openN:=by unfold TS.openN j9;exact JZ zo (by simp;omega)
 have hc:x.ph=0\/x.ph=1\/x.ph=2\/x.ph=3\/x.ph=4\/x.ph=5\/x.ph=6\/x.ph=7\/x.ph=8\/x.ph=9\/x.ph=10\/x.ph=11\/x.ph=12\/x.ph=13\/x.ph=14\/x.ph=15\/x.ph=16\/x.ph=17\/x.ph=18\/x.ph=19:=zo;rcases hc with e | e | e | e | e | e | e | e | e | e | e | e | e | e | e | e | e | e | e | e <;> rw [e] at hm hn
 ·cases hn;exact z0
 ·cases hn;exact z0
 ·cases hn;exact z0
 ·cases hn;exact z0
 ·cases hn;obtain ⟨hd,Ls,k0,kl,kx,ku,kn,kb,y,r,js,jx,ja,jl,jb,hy,-⟩:=hm;have hy':x.l[x.i]? =some y:=by rw [<-List.head?_drop,hy];rfl
  have hg:x.l.getD x.i (0,0)=y:=by rw [List.getD_eq_getElem?_getD,hy'];rfl
  rw [hg];exact JZ (Qt hd.nv) (hd.l.2 y (List.mem_of_getElem? hy')).2
 ·cases hn;exact z0
 ·cases hn;exact z0
 ·cases hn;obtain ⟨hd,-⟩:=hm;obtain ⟨o,n,hw⟩:=hd.nw;have:=Jc hd.nv hw;rw [jaT hw];unfold j9;exact JZ (Qt hd.nv) (by simp;omega)
 ·cases hn;exact z0
 ·cases hn;exact z0
 ·cases hn;exact z0
 ·cases hn;obtain ⟨hW,-⟩:=hm;obtain ⟨y,hy'⟩:∃y,x.wr[x.i]? =some y:=⟨_,List.getElem?_eq_getElem (h.inv.hi zo)⟩
  have hg:x.wr.getD x.i (0,0)=y:=by rw [List.getD_eq_getElem?_getD,hy'];rfl
  rw [hg];have:=hW.2 y (List.mem_of_getElem? hy');exact JZ zo this.2
 ·cases hn;exact z0
 ·cases hn;exact hopen
 ·cases hn;exact z0
 ·cases hn;exact z0
 ·cases hn;exact JZ zo zo
 ·cases hn;exact z0
 ·cases hn;exact z0
 ·cases hn
end

section
variable {t p s:Int} {w w' w0:World} {b:Nat} {S:Nat->Prop} {x:TS}
def jcZ (t p:Int) (x:TS):Value:=match jp t p x with | some (d,a,v)=> .tuple #[Xa d t a v,.bool true] | none=> .tuple #[Xa 0 0 0 0,.bool false]
theorem jcY {d a v:Int} (h:jp t p x=some (d,a,v)):jcZ t p x= .tuple #[Xa d t a v,.bool true]:=by unfold jcZ;rw [h]
end

def RXM (t p s:Int) (bm:Nat):World->Nat->(Nat->Prop)->TS×NM->Prop:=fun w b S q=>(∃S1 T1,jch w S1 T1 b bm t p s q.1 q.2/\(∀k,S1 k->S k)/\(∀k,T1 k->S k))/\∀k,S k->k < w.heap.size
section
variable {t p s:Int} {bm:Nat}
theorem qJ:qN (RXM t p s bm) where
 keep:=by
  rintro w w' b S T q ⟨⟨S1,T1,h,h1,h2⟩,h3⟩ F hd;exact ⟨⟨S1,T1,⟨h.ms.keep F (fun k ht hs=>hd k (h1 k hs) ht),qT.keep h.pm F (fun k hs ht=>hd k (h2 k hs) ht),h.ap⟩,h1,h2⟩,fun k hk=>Nat.lt_of_lt_of_le (h3 k hk) F.size⟩
 lt:=by rintro w b S q ⟨-,h⟩;exact h
 mono:=by
  rintro w b S S' q ⟨⟨S1,T1,h,h1,h2⟩,h3⟩ hs hl;exact ⟨⟨S1,T1,h,fun k hk=>hs k (h1 k hk),fun k hk=>hs k (h2 k hk)⟩,hl⟩
def RU:World->Nat->(Nat->Prop)->Unit->Prop:=fun w _ S _=>∀k,S k->k < w.heap.size
theorem Yu:qN RU where
 keep:=fun h F _ k hk=>Nat.lt_of_lt_of_le (h k hk) F.size
 lt:=fun h=>h
 mono:=fun _ _ hl=>hl
end
section
variable {w w':World} {S:Nat->Prop} {b bm:Nat} {t z:Int} {P:Nat} {vs:List Int} {s0:Int} {k:Nat} {q:TS×NM}
theorem rxm_next (h:RXM t P z bm w b S q) (hr:jq t P z=true) :
 Calls prog 14 #[.pointer (some ⟨b,0,none⟩)] w (zW (jcZ t P q.1) w):=by
 obtain ⟨⟨S1,T1,h,-,-⟩,-⟩:=h;have:=VT h.ms hr;unfold jcZ;revert this;cases jp t P q.1 <;> exact id
theorem jbL (h:RXM t P z bm w b S q):Calls prog 17 #[.pointer (some ⟨b,0,none⟩)] w (zW (.int .u32 q.1.made) w):=by
 obtain ⟨⟨S1,T1,h,-,-⟩,-⟩:=h;exact (msa_made h.ms).mono fun e w' hh=>⟨hh.1,by rw [<-hh.2];exact Below.refl _ _⟩
theorem Xx (h:RXM t P z bm w b S q):Calls prog 16 #[.pointer (some ⟨b,0,none⟩)] w (zW (.int .i64 q.1.page) w):=by
 obtain ⟨⟨S1,T1,h,-,-⟩,-⟩:=h;exact (jeN h.ms).mono fun e w' hh=>⟨hh.1,by rw [<-hh.2];exact Below.refl _ _⟩
theorem rxm_st (h:RXM t P z bm w b S q) (hr:jq t P z=true) {d a v:Int} (hn:jp t P q.1=some (d,a,v)) (hv:VOK t P q.1 (doM t q.2 d a v).1) :
 Calls prog 18 #[.pointer (some ⟨b,0,none⟩),.pointer (some ⟨bm,0,none⟩)] w fun e w'=>e= .returned (.bool true)/\(RXM t P z bm w' b (upd S w w') (nxt t P z q)/\Fr S w w'):=by
 obtain ⟨⟨S1,T1,h,h1,h2⟩,h3⟩:=h;refine zM (jeh h hr hn (ms_u64 hr h.ms.1 hn) hv) ?_;rintro w' ⟨⟨S',T',h',hs,ht⟩,F⟩;obtain ⟨x,m⟩:=q;rw [VR hn];have hF:Fr S w w':=F.mono (fun k hk=>hk.elim (h1 k) (h2 k));have hlt:=h'.ms.2;have hlt2:=qT.lt h'.pm;refine ⟨rfl,⟨⟨S',T',h',fun k hk=> ?_,fun k hk=> ?_⟩,fun k hk=> ?_⟩,hF⟩
 ·rcases hs k hk with hk2 | hk2
  ·exact .inl (h1 k hk2)
  ·exact .inr ⟨hk2,hlt k hk⟩
 ·rcases ht k hk with hk2 | hk2
  ·exact .inl (h2 k hk2)
  ·exact .inr ⟨hk2,hlt2 k hk⟩
 ·rcases hk with hk | hk
  ·exact Nat.lt_of_lt_of_le (h3 k hk) hF.size
  ·exact hk.2
theorem jbJ (h:RXM t P z bm w b S q) (g:GI t z P vs s0 k q.1 q.2) (hp:q.1.ph≠19) :
 Calls prog 18 #[.pointer (some ⟨b,0,none⟩),.pointer (some ⟨bm,0,none⟩)] w fun e w'=>e= .returned (.bool true)/\(RXM t P z bm w' b (upd S w w') (nxt t P z q)/\Fr S w w'):=by
 obtain ⟨d,a,v,hn⟩:=g.next hp;exact rxm_st h g.sh.right hn (g.vok hn)
theorem jbK (h:RXM t P z bm w b S q) (hr:jq t P z=true) (hp:q.1.ph=19) :
 Calls prog 18 #[.pointer (some ⟨b,0,none⟩),.pointer (some ⟨bm,0,none⟩)] w (zW (.bool false) w):=by
 obtain ⟨⟨S1,T1,h,-,-⟩,-⟩:=h;exact (jcK h hr hp).mono fun e w' hh=>⟨hh.1,hh.2.2⟩
theorem Yg (h:RXM t P z bm w b S q):Calls prog 20 #[.pointer (some ⟨bm,0,none⟩)] w (RowW w q.2.W.length q.2.W):=by
 obtain ⟨⟨S1,T1,h,-,-⟩,-⟩:=h;exact jc0 bm w T1 q.2 h.pm
theorem jbM (h:RXM t P z bm w b S q):Calls prog 21 #[.pointer (some ⟨bm,0,none⟩)] w (RowW w q.2.W.length q.2.K):=by
 obtain ⟨⟨S1,T1,h,-,-⟩,-⟩:=h;exact jeU bm w T1 q.2 h.pm
theorem VH {S T:Nat->Prop} {x:TS} {m:NM} (hm:MSA w S b t P z x) (hp:PM w bm T m) (hd:∀k,S k->¬T k):RXM t P z bm w b (fun k=>S k\/T k) (x,m):=
 ⟨⟨S,T,⟨hm,hp,hd⟩,fun _ hk=> .inl hk,fun _ hk=> .inr hk⟩,fun k hk=>hk.elim (hm.2 k) (qT.lt hp k)⟩
end

def rowF (n:Nat) (f:Nat->Value):List Value:=(List.range n).map f
theorem ja6 (n:Nat) (f:Nat->Value):(rowF n f).length=n:=by simp [rowF]
def knowF (s:VS) (i:Nat):Value:= .bool (s.known i).isSome
def valF (s:VS) (i:Nat):Value:= .int .u32 ((s.known i).getD 0)
def isF (s:VS) (i:Nat):Value:= .bool (s.wr i).isSome
def toF (s:VS) (i:Nat):Value:= .int .u32 ((s.wr i).getD 0)
class AllF where
 all:Bool
structure RVs [AllF] (w:World) (b:Nat) (S:Nat->Prop) (s:VS) (kv vv iv tv rv wv:Value) (all:Bool):Prop where
 cells:w.heap[b]? =some (.cells #[.int .i64 s.n,kv,vv,iv,tv,rv,wv,.int .i64 (QK s),.bool all] 167)
 kr:w.ownsRow 0 4 1 kv s.n (rowF s.n (knowF s))
 vr:w.ownsRow 0 44 1 vv s.n (rowF s.n (valF s))
 ir:w.ownsRow 0 4 1 iv s.n (rowF s.n (isF s))
 tr:w.ownsRow 0 44 1 tv s.n (rowF s.n (toF s))
 rr:w.ownsRow 0 3 1 rv s.reads.length (kO s.reads)
 wr:w.ownsRow 0 3 1 wv s.writes.length (kO (s.writes.map (·.1)))
 d1:∀k,kv.ownBlock=some k->iv.ownBlock≠some k
 d2:∀k,vv.ownBlock=some k->tv.ownBlock≠some k
 d3:∀k,rv.ownBlock=some k->wv.ownBlock≠some k
 inb:S b
 ink:∀k,kv.ownBlock=some k->S k
 inv':∀k,vv.ownBlock=some k->S k
 ini:∀k,iv.ownBlock=some k->S k
 int:∀k,tv.ownBlock=some k->S k
 inr:∀k,rv.ownBlock=some k->S k
 inw:∀k,wv.ownBlock=some k->S k
 lt:∀k,S k->k < w.heap.size
 inv:s.Inv
 tot:all=true->∀i,i < s.n->∃v,s.known i=some v
 al:all=AllF.all
def RV [AllF] (w:World) (b:Nat) (S:Nat->Prop) (s:VS):Prop:=∃kv vv iv tv rv wv all,RVs w b S s kv vv iv tv rv wv all
theorem RVs.cell [AllF] {w:World} {b:Nat} {S:Nat->Prop} {s:VS} {kv vv iv tv rv wv:Value} {all:Bool} (h:RVs w b S s kv vv iv tv rv wv all) (o:Nat) :
 w.cell? ⟨b,o,none⟩=(#[.int .i64 s.n,kv,vv,iv,tv,rv,wv,.int .i64 (QK s),.bool all]:Array Value)[o]? :=jd h.cells
theorem Vk {w:World} {e e2 sz sz2:Nat} {v v2:Value} {n n2:Nat} {xs xs2:List Value} (h:w.ownsRow 0 e sz v n xs) (h2:w.ownsRow 0 e2 sz2 v2 n2 xs2) (hne:e≠e2) {k:Nat} (hk:v2.ownBlock=some k):v.ownBlock≠some k:=by
 rcases h2.2 with ⟨rfl,-⟩ | ⟨g,cap,cur,rfl,-,hg,-⟩
 ·simp [Value.ownBlock] at hk
 ·simp [Value.ownBlock] at hk;subst hk;exact jA h hg hne

structure RQ (w:World) (b:Nat) (S:Nat->Prop) (W K:List Int) (wv kv:Value) (pv:Nat->Value) (k:Nat) (rows:Nat->List Value):Prop where
 box:∃cs:Array Value,w.heap[b]? =some (.cells cs 63)/\cs.size=19/\cs[0]? =some wv/\cs[1]? =some kv/\∀i,i < 17->cs[2+i]? =some (pv i)
 wr:w.ownsRow 0 38 1 wv W.length (yG W)
 kr:w.ownsRow 0 38 1 kv K.length (yG K)
 pr:∀i,i < k->w.ownsRow 0 4 1 (pv i) (W.length / 8) (rows i)
 ne:∀x,wv.ownBlock=some x->kv.ownBlock≠some x
 pd:∀i,i < k->∀j,j < k->i≠j->∀x,(pv i).ownBlock=some x->(pv j).ownBlock≠some x
 inb:S b
 inw:∀x,wv.ownBlock=some x->S x
 ink:∀x,kv.ownBlock=some x->S x
 inp:∀i,i < k->∀x,(pv i).ownBlock=some x->S x
 lt:∀x,S x->x < w.heap.size
section
variable {w w':World} {b:Nat} {S:Nat->Prop} {W K:List Int} {wv kv:Value} {pv:Nat->Value} {k:Nat} {rows:Nat->List Value}
theorem RQ.wb (h:RQ w b S W K wv kv pv k rows):wv.ownBlock≠some b:=by
 obtain ⟨cs,h1,-⟩:=h.box;exact jA h.wr h1 zd
theorem RQ.kb (h:RQ w b S W K wv kv pv k rows):kv.ownBlock≠some b:=by
 obtain ⟨cs,h1,-⟩:=h.box;exact jA h.kr h1 zd
theorem RQ.pb (h:RQ w b S W K wv kv pv k rows) {i:Nat} (hi:i < k):(pv i).ownBlock≠some b:=by
 obtain ⟨cs,h1,-⟩:=h.box;exact jA (h.pr i hi) h1 zd
theorem RQ.wp (h:RQ w b S W K wv kv pv k rows) {i:Nat} (hi:i < k) {x:Nat} (hx:(pv i).ownBlock=some x):wv.ownBlock≠some x:=Vk h.wr (h.pr i hi) zd hx
theorem RQ.kp (h:RQ w b S W K wv kv pv k rows) {i:Nat} (hi:i < k) {x:Nat} (hx:(pv i).ownBlock=some x):kv.ownBlock≠some x:=Vk h.kr (h.pr i hi) zd hx
theorem RQ.move (h:RQ w b S W K wv kv pv k rows) {S':Nat->Prop} (hk:∀x,S x->w'.heap[x]? =w.heap[x]?) (hs:∀x,S x->S' x) (hl:∀x,S' x->x < w'.heap.size):RQ w' b S' W K wv kv pv k rows:=by
 obtain ⟨cs,h1,h2⟩:=h.box;exact ⟨⟨cs,(hk b h.inb).trans h1,h2⟩,jh h.wr fun x hx=>hk x (h.inw x hx),jh h.kr fun x hx=>hk x (h.ink x hx),fun i hi=>jh (h.pr i hi) fun x hx=>hk x (h.inp i hi x hx),h.ne,h.pd,hs _ h.inb,fun x hx=>hs x (h.inw x hx),fun x hx=>hs x (h.ink x hx),fun i hi x hx=>hs x (h.inp i hi x hx),hl⟩
theorem RQ.up (h:RQ w' b S W K wv kv pv k rows):RQ w' b (upd S w w') W K wv kv pv k rows:=
 h.move (fun _ _=>rfl) (fun _ hx=>Or.inl hx) (fun x hx=>by rcases hx with hx | hx;exact h.lt x hx;exact hx.2)
theorem RQ.drew (h:RQ w b S W K wv kv pv k rows):RQ w.drew b S W K wv kv pv k rows:=h.move (w':=w.drew) (fun _ _=>rfl) (fun _ hx=>hx) h.lt
end

def flagRow (s:NM) (i:Nat):List Value:=rowF (s.W.length / 8) fun l=> .bool (decide (((i:Int),(l:Int))∈s.P))
def RM (w:World) (b:Nat) (S:Nat->Prop) (s:NM):Prop:=s.Inv/\∃wv kv pv,RQ w b S s.W s.K wv kv pv 17 (flagRow s)
section
variable {w:World} {b:Nat} {S:Nat->Prop} {W K:List Int} {wv kv:Value} {pv:Nat->Value} {k:Nat} {rows:Nat->List Value}
theorem RQ.wform (h:RQ w b S W K wv kv pv k rows) (h0:0 < W.length):∃g c,wv= .slice (some ⟨g,0,none⟩) W.length c:=Joins.ownsRow_form h.wr h0
theorem RQ.kform (h:RQ w b S W K wv kv pv k rows) (h0:0 < K.length):∃g c,kv= .slice (some ⟨g,0,none⟩) K.length c:=Joins.ownsRow_form h.kr h0
end


theorem RM.same {w:World} {b:Nat} {S:Nat->Prop} {s:NM} (h:RM w b S s):RM w b (upd S w w) s/\Fr S w w:=by
 obtain ⟨hi,wv,kv,pv,hv⟩:=h;exact ⟨⟨hi,wv,kv,pv,hv.up⟩,Fr.refl _ _⟩

def jbh (n:Nat):List Value:=rowF n fun _=> .bool false
theorem made_row (w:World) (n:Nat) (h:n<=8192):(w.alloc (.cells (madeCells #[.bool false] n) 4)).ownsRow w.heap.size 4 1 (.slice (some ⟨w.heap.size,0,none⟩) n n) n (jbh n):=by
 have hl:(madeCells #[Value.bool false] n).toList=List.replicate n (.bool false):=toList_madeCells_one _ _;have hr:jbh n=List.replicate n (.bool false):=List.ext_getElem (by simp [jbh,rowF]) (by intros;simp [jbh,rowF]);have hs:(madeCells #[Value.bool false] n).size=n:=by
  have:=congrArg List.length hl;simpa using this
 refine ⟨by simp [jbh,ja6],Or.inr ⟨w.heap.size,n,_,rfl,Nat.le_refl _,heap_alloc_new w _,Nat.le_refl _,by unfold maxLen;omega,by rw [hs];omega,?_⟩⟩;rw [hl,hr];simp
theorem RQ.setRow {w:World} {b:Nat} {S S':Nat->Prop} {W K:List Int} {wv kv:Value} {pv:Nat->Value} {k:Nat} (h:RQ w b S W K wv kv pv k (fun _=>jbh (W.length / 8))) (hk:k < 17) (hn:W.length / 8<=8192)
 (hs:∀x,S x->S' x) (hs2:S' w.heap.size) (hl:∀x,S' x->x < w.heap.size+1) :
 RQ ((w.alloc (.cells (madeCells #[.bool false] (W.length / 8)) 4)).setCell ⟨b,2+k,none⟩ (.slice (some ⟨w.heap.size,0,none⟩) (W.length / 8) (W.length / 8))) b S' W K wv kv (fun j=>if j=k then .slice (some ⟨w.heap.size,0,none⟩) (W.length / 8) (W.length / 8) else pv j) (k+1) (fun _=>jbh (W.length / 8)):=by
 have hbl:=h.lt b h.inb;have ho:∀x,x≠b->x < w.heap.size->((w.alloc (.cells (madeCells #[.bool false] (W.length / 8)) 4)).setCell ⟨b,2+k,none⟩ (.slice (some ⟨w.heap.size,0,none⟩) (W.length / 8) (W.length / 8))).heap[x]? =w.heap[x]? :=fun x hx hx2=>(jg hx).trans (Below.heap_alloc _ _ _ hx2);have hnew:=made_row w (W.length / 8) hn;have hpl:∀i,i < k->∀x,(pv i).ownBlock=some x->x < w.heap.size:=fun i hi x hx=>h.lt x (h.inp i hi x hx);obtain ⟨cs,h1,h2,h3,h4,h5⟩:=h.box;refine ⟨⟨cs.setIfInBounds (2+k) (.slice (some ⟨w.heap.size,0,none⟩) (W.length / 8) (W.length / 8)),jR ((Below.heap_alloc _ _ _ hbl).trans h1),by simpa using h2,?_,?_,?_⟩,jh h.wr fun x hx=>ho x (fun e=>h.wb (e ▸ hx)) (jt h.wr hx),jh h.kr fun x hx=>ho x (fun e=>h.kb (e ▸ hx)) (jt h.kr hx),?_,h.ne,?_,hs _ h.inb,fun x hx=>hs x (h.inw x hx),fun x hx=>hs x (h.ink x hx),?_,fun x hx=>by simpa using hl x hx⟩
 ·rw [Array.getElem?_setIfInBounds,if_neg zo];exact h3
 ·rw [Array.getElem?_setIfInBounds,if_neg zo];exact h4
 ·intro i hi;rw [Array.getElem?_setIfInBounds];by_cases hik:i=k
  ·subst hik;rw [if_pos rfl,if_pos zo,if_pos rfl]
  ·rw [if_neg zo,if_neg hik];exact h5 i hi
 ·intro i hi;by_cases hik:i=k
  ·subst hik;rw [if_pos rfl];exact jh (Joins.ownsRow_le hnew (Nat.zero_le _)) fun x hx=>by
    simp [Value.ownBlock] at hx;subst hx;exact jg zo
  ·rw [if_neg hik];have hi2:i < k:=zo;exact jh (h.pr i hi2) fun x hx=>ho x (fun e=>h.pb hi2 (e ▸ hx)) (hpl i hi2 x hx)
 ·intro i hi j hj hij x hx;by_cases hik:i=k
  ·rw [if_pos hik] at hx;simp [Value.ownBlock] at hx;rw [if_neg zo];intro hx2;have:=hpl j zo x hx2;omega
  ·rw [if_neg hik] at hx;have hxl:=hpl i zo x hx;by_cases hjk:j=k
   ·rw [if_pos hjk];simp [Value.ownBlock];omega
   ·rw [if_neg hjk];exact h.pd i zo j zo hij x hx
 ·intro i hi x hx;by_cases hik:i=k
  ·rw [if_pos hik] at hx;simp [Value.ownBlock] at hx;subst hx;exact hs2
  ·rw [if_neg hik] at hx;exact hs x (h.inp i zo x hx)
end Go.Proofs.YtcnininelndjoaaGreat
namespace Go.Proofs.YtcnininelndjoaaGreat
open Go.Proofs.Tryz
open Go.ChangeShapes Go.RowKit

section
variable {H:Type} {enc:TypeId×Value->H} {w:World} {base:Nat} {spare:Nat->Bool} {held:Bool}
theorem u64_wf {n:Int} (h:(Lit.int .u64 n).wf=true):NM.U64 n:=by
 simp [Lit.wf] at h;have e1:IntKind.u64.min=0:=zd;have e2:IntKind.u64.max=18446744073709551615:=zd;exact ⟨zo,zo⟩
theorem rd_u64 {fuel:Nat} {cs:List Value} {x:DataW H×List MemPlace} (h:DataW.trod enc prog w base spare held fuel 24 cs=some x) :
 ∃v vals,cs=[v]/\Rd w v 1 vals.length (yG vals)/\∀u∈vals,NM.U64 u:=by
 rcases open_ints underlying24 underlying38 zk h with ⟨rfl,-⟩ | ⟨a,len,cap,zs,rfl,-,hl,-,hz,-,hc,hw⟩
 ·exact ⟨_,[],rfl,⟨rfl,Or.inl ⟨rfl,rfl⟩⟩,zT⟩
 ·have hle:len<=zs.length:=by rw [hz];split <;> omega
  have e:(zs.take len).length=len:=by simp;omega
  refine ⟨_,zs.take len,rfl,⟨by simp [yG],Or.inr ⟨a,cap,by rw [e],?_⟩⟩,?_⟩
  ·intro j u hj;have hjl:j < len:=by
    have:=(List.getElem?_eq_some_iff.1 hj).1;simp [yG] at this;omega
   rw [hc j zo,<-hj];simp [yG,hjl,show j < zs.length by omega]
  ·intro u hu;exact u64_wf (hw u (List.mem_of_mem_take hu))
end

end Go.Proofs.YtcnininelndjoaaGreat
namespace Go.Proofs.YtcnininelndjoaaGreat
open Go.Proofs.Tryz
open Go.RowKit

theorem Ks (a:List Int) (va vb:Value) (w:World) (ha:w.ownsRow 0 38 1 va a.length (yG a)) (hb:w.ownsRow 0 38 1 vb a.length (yG a)) (hn:a.length<=4294967296) :
 Calls prog 19 #[va,vb] w (zW (.bool true) w):=by
 have:=jck a a va vb w ha hb hn hn;simpa using this

def LvRel (w:World) (b bm:Nat) (vi:Value) (wr:World):Prop:=∃k:Nat,k<=10/\vi= .int .i64 k/\N2 (RXM 1 8 10 bm) RU w b 0 [w.heap.size] (Jf 1 8 10 (TS.begin,m8) k) () wr/\wr.heap[w.heap.size]? =some (.cells #[.int .i64 1,.int .i64 8,.int .i64 10] 23)
theorem jdz (w:World):Calls prog 34 #[.agg #[.int .i64 1,.int .i64 8,.int .i64 10]] w (jfK w WN8):=
 YS 1 8 10 xN8 344 82 frL8 w zd zd zd zd zd (by decide+kernel) (fun w=>jaZ 1 10 8 82 34 77 3 w zd zd zd zd (by decide+kernel) zo zo zo)
theorem Vr (w:World):Calls prog 8 #[] w (zW (.bool true) w):=by
 have B0:=zh ((Below.refl w.heap.size w).alloc (Nat.le_refl _) (.cells #[.int .i64 1,.int .i64 8,.int .i64 10] 23));go_enter func8,ntmps8;go_wp2_with fail;refine (jdz _).mono ?_;rintro e w1 ⟨v1,rfl,o1,f1,b1⟩;obtain ⟨g1,cap1,rfl⟩:=Joins.ownsRow_form o1 (by rw [JL];decide);have B1:=zh (B0.out.trans (b1.mono B0.out.size));have hc1:=(b1.block w.heap.size zT).trans (heap_alloc_new w (.cells #[.int .i64 1,.int .i64 8,.int .i64 10] 23));have HC1:=zh hc1;have hcw:∀j,j < WN8.length->w1.cell? ((⟨g1,0,none⟩:Addr).add j)=some (.int .u64 (WN8.getD j 0)):=fun j hj=>by
  rw [show (⟨g1,0,none⟩:Addr).add j=⟨g1,j,none⟩ by by_cases h0:j=0 <;> simp [Addr.add,h0]];exact (o1.cellAt j zo).trans (by simp [jW,hj])
 have HM:=zh (jb1 ⟨g1,0,none⟩ WN8.length cap1 WN8 w1 rfl (by rw [JL];decide) (by rw [JL]) (by rw [JL];omega) jaG hcw);have zc1:w.heap.size < w1.heap.size:=zL b1;clear o1 f1 b1 hc1 hcw;go_wp2_with fail;refine HM.out.mono ?_;rintro e w2 ⟨bm,rfl,hbm,⟨T,pT,gT⟩,b2⟩;have B2:=zh (B1.out.trans (b2.mono B1.out.size));have HC2:=zh ((b2.block w.heap.size zc1).trans HC1.out);have zc2:w.heap.size < w2.heap.size:=Nat.lt_of_lt_of_le zc1 b2.size;have c0:=jd (o:=0) HC2.out;have c1:=jd (o:=1) HC2.out;have c2:=jd (o:=2) HC2.out;simp at c0 c1 c2;have HT:=zh (And.intro pT (And.intro gT b2.size));clear pT gT b2 hbm HM;go_wp2_with fail;refine (Yq (t:=1) (p:=8) (s:=10) _ zd).mono ?_;rintro e w3 ⟨⟨b,rfl,S,mS,gS⟩,b3⟩;have B3:=zh (B2.out.trans (b3.mono B2.out.size));have HC3:=zh ((b3.block w.heap.size zc2).trans HC2.out);have pT3:=qT.keep (T:=fun _=>False) HT.out.1 (Fr.of_below b3) (fun _ _ x=>x);have hN:N2 (RXM 1 8 10 bm) RU w b 0 [w.heap.size] (TS.begin,m8) () w3:=by
  have hz:=B1.out.size;have hz2:=HT.out.2.2;refine ⟨⟨fun k=>S k\/T k,fun _=>False,VH (P:=8) mS pT3 (fun k hs ht=>by have:=gS k hs;have:=qT.lt HT.out.1 k ht;omega),fun _ hf=>hf.elim,fun k hk=> ?_,fun _ hf=>hf.elim,fun _ _ hf=>hf.elim,fun L hL=>⟨fun hk=> ?_,fun hf=>hf.elim⟩⟩,B3.out,fun L hL=> ?_⟩
  ·rcases hk with hk | hk
   ·have:=gS k hk;omega
   ·have:=HT.out.2.1 k hk;omega
  ·simp at hL;subst hL;rcases hk with hk | hk
   ·have:=gS _ hk;omega
   ·have:=HT.out.2.1 _ hk;omega
  ·simp at hL;subst hL;exact ⟨Nat.lt_of_lt_of_le zc2 b3.size,Nat.le_refl _⟩
 have HN:=zh hN;clear hN pT3 mS gS b3 c0 c1 c2 zc1 zc2 B0 B1 B2 B3 HC1 HC2 HT;go_wp2_with fail;go_loopw [4] (fun vi wr=>LvRel w b bm vi wr) (fun vi _=>100 - (intOf vi).toNat);case atStart=>exact ⟨0,zo,rfl,HN.out,HC3.out⟩
 case round=>
  clear HN HC3;obtain ⟨k,hk,rfl,hn,hcb⟩:=hrel;have HN:=zh hn;have HCB:=zh hcb;clear hn hcb;by_cases hlt:k < 10
  ·have hk100:(k:Int) < 100:=zo;obtain ⟨⟨d,a,v⟩,hnx,-⟩:=Option.map_eq_some_iff.1 (run8 k hlt);have HSt:=zh (fun S1 (h1:RXM 1 8 10 bm wr b S1 (Jf 1 8 10 (TS.begin,m8) k))=>rxm_st (P:=8) h1 zd hnx (vok8 hlt hnx));clear hnx;go_wp2_with fail;refine zM (HN.out.fst qJ Yu HSt.out) ?_;rintro w4 ⟨n4,l4⟩;have HN4:=zh n4;have HC4:=zh ((l4 w.heap.size zT).trans HCB.out);clear n4 l4 HSt;go_wp2;go_roundw;case rel=>exact ⟨k+1,zo,by go_num,HN4.out,HC4.out⟩
   case measure=>simp [intOf];omega
  ·have hk10:k=10:=zo;subst hk10;obtain ⟨S1,S2,x1,-⟩:=HN.out.ex;have HX:=zh (fun (W:World) (hb:Below wr.heap.size wr W)=>qJ.keep (T:=fun _=>False) x1 (Fr.of_below hb) (fun _ _ x=>x));have HO:=zh (jbK (P:=8) x1 zd end8.1);have HBel:=zh HN.out.bel;have hzr:w.heap.size < wr.heap.size:=(HN.out.ls w.heap.size zT).1;have HSw:=zh (fun (W:World) (hb:Below wr.heap.size wr W)=>show Calls prog 16 #[.pointer (some ⟨b,0,none⟩)] W fun e w'=>e= .returned (.int .i64 8)/\Below W.heap.size W w' by
    have h1:=Xx (P:=8) (HX.out W hb);rw [end8.2.1] at h1;exact h1)
   have HMd:=zh (fun (W:World) (hb:Below wr.heap.size wr W)=>show Calls prog 17 #[.pointer (some ⟨b,0,none⟩)] W fun e w'=>e= .returned (.int .u32 0)/\Below W.heap.size W w' by
    have h1:=jbL (P:=8) (HX.out W hb);rw [end8.2.2] at h1;exact h1)
   have HWd:=zh (fun (W:World) (hb:Below wr.heap.size wr W)=>show Calls prog 20 #[.pointer (some ⟨bm,0,none⟩)] W (RowW W WN8.length WN8) by
    have h1:=Yg (P:=8) (HX.out W hb);rw [jdY 10 zo] at h1;exact h1)
   clear x1 HN HX;go_wp2_with fail;refine zM HO.out fun w4 b4=> ?_;have D0:=zh b4.drew;clear b4 HO;have kC:=fun (W:World) (hb:Below wr.heap.size wr W)=>show W.cell? ⟨w.heap.size,0,none⟩=some (.int .i64 1)/\W.cell? ⟨w.heap.size,1,none⟩=some (.int .i64 8)/\W.cell? ⟨w.heap.size,2,none⟩=some (.int .i64 10) by
    have hcb:=(hb.block w.heap.size hzr).trans HCB.out;exact ⟨jd (o:=0) hcb,jd (o:=1) hcb,jd (o:=2) hcb⟩
   have HKC:=zh kC;clear kC;go_wp2_with fail;refine wH (S:=fun w'=>w'.cell? ⟨w.heap.size,0,none⟩=some (.int .i64 1)/\w'.cell? ⟨w.heap.size,1,none⟩=some (.int .i64 8)/\w'.cell? ⟨w.heap.size,2,none⟩=some (.int .i64 10)) ((HKC.out _ D0.out)) fun hHeld=> ?_;refine wT 0 ?_;refine wY ?_;refine wR 4 fun K hK=> ?_;go_simp;refine zM (HSw.out _ D0.out) fun w5 b5=> ?_;have D5:=zh (D0.out.trans (b5.mono D0.out.size));refine wK hK (HKC.out _ D5.out) fun hHeld=> ?_;clear hK K;refine wY ?_;refine wR 9 fun K hK=> ?_;go_simp;refine zM (HMd.out _ D5.out) fun w6 b6=> ?_;have D6:=zh (D5.out.trans (b6.mono D5.out.size));refine wK hK (HKC.out _ D6.out) fun hHeld=> ?_;clear hK K;refine wY ?_;refine wR 14 fun K hK=> ?_;go_simp;refine (HWd.out _ D6.out).mono ?_;rintro e w7 ⟨v7,rfl,o7,-,b7⟩;have D7:=zh (D6.out.trans (b7.mono D6.out.size));have O7:=zh (Joins.ownsRow_le o7 (Nat.zero_le _));refine wK hK (HKC.out _ D7.out) fun hHeld=> ?_;clear hK K;refine wR 16 fun K hK=> ?_;go_simp;refine (jdz _).mono ?_;rintro e w8 ⟨v8,rfl,o8,-,b8⟩;have D8:=zh (D7.out.trans (b8.mono D7.out.size));have O78:=zh (jh (w':=w8) O7.out (fun k hk=>b8.block k (jt O7.out hk)));have O8:=zh o8;refine wK hK (HKC.out _ D8.out) fun hHeld=> ?_;clear hK K;refine wR 17 fun K hK=> ?_;go_simp;refine zM (Ks WN8 v7 v8 _ O78.out O8.out (by rw [JL];omega)) fun w9 b9=> ?_;have D9:=zh (D8.out.trans (b9.mono D8.out.size));refine wK hK (HKC.out _ D9.out) fun hHeld=> ?_;clear hK K;refine wY ?_;refine wD ?_;clear hHeld;go_wp2;go_ret;exact ⟨rfl,HBel.out.trans (D9.out.mono HBel.out.size)⟩

section
variable {t s:Int} {P:Nat}
theorem jb0 (hr:jq t P s=true) (w:World):Calls prog 13 #[.agg #[.int .i64 t,.int .i64 P,.int .i64 s]] w (zW (.int .i64 (Yr t P)) w):=by
 have hb:=jn hr;have hm:=jI hr;have HC:=zh (fun w=>ym t P s w);rw [show qb t P s=jk t P by simp [qb,hr]] at HC;have e:((Yr t P:Nat):Int)=400+(P:Int)*(410+jk t P):=by
  unfold Yr;have e1:((jk t P).toNat:Int)=jk t P:=zo;rw [Int.natCast_add,Int.natCast_mul,Int.natCast_add,e1];rfl
 have hx:(P:Int)*(410+jk t P)<=11000000:=by
  have:=jbj hr;omega
 have hx0:0<=(P:Int)*(410+jk t P):=Int.mul_nonneg zo zo;have w1h:IntKind.i64.wrap (410+jk t P)=410+jk t P:=jD _ zo;have w2h:IntKind.i64.wrap ((P:Int)*(410+jk t P))=(P:Int)*(410+jk t P):=jD _ zo;have w3h:IntKind.i64.wrap (400+(P:Int)*(410+jk t P))=400+(P:Int)*(410+jk t P):=jD _ zo;rw [e];generalize jk t P=N at*
 have B0:=zh ((Below.refl w.heap.size w).alloc (Nat.le_refl _) (.cells #[.int .i64 t,.int .i64 P,.int .i64 s] 23));have k0:=jd (o:=0) (heap_alloc_new w (.cells #[.int .i64 t,.int .i64 P,.int .i64 s] 23));have k1:=jd (o:=1) (heap_alloc_new w (.cells #[.int .i64 t,.int .i64 P,.int .i64 s] 23));have k2:=jd (o:=2) (heap_alloc_new w (.cells #[.int .i64 t,.int .i64 P,.int .i64 s] 23));clear hr hb hm e hx hx0;go_enter func13,ntmps13;go_wp2_with fail;refine wHn3 (zQ k0) (zQ k1) (zQ k2) fun hHeld=> ?_;refine wT 0 ?_;refine wY ?_;refine wR 3 fun K hK=> ?_;go_simp;refine zM (HC.out _) fun w1 b1=> ?_;have B1:=zh (B0.out.drew.trans (b1.mono B0.out.size));refine wK hK (⟨(b1.cell (p:=⟨w.heap.size,0,none⟩) zT).trans k0,(b1.cell (p:=⟨w.heap.size,1,none⟩) zT).trans k1,(b1.cell (p:=⟨w.heap.size,2,none⟩) zT).trans k2⟩) fun hHeld=> ?_;clear hK K;refine wY ?_;refine wD ?_;clear hHeld;go_wp2;go_ret;exact ⟨rfl,B1.out⟩
end

section
variable {t s:Int} {P:Nat} {vs xs:List Int} {w w':World}
theorem Xy {s0:Int} {q0:TS×NM} (h:GI t s P vs s0 0 q0.1 q0.2):∀k,(∀j,j < k->(Jf t P s q0 j).1.ph≠19)->GI t s P vs s0 k (Jf t P s q0 k).1 (Jf t P s q0 k).2
 | 0,_=>h
 | k+1,hk=>(Xy h k (fun j hj=>hk j zo)).step (hk k zo)
theorem fit_some (h:jfn t P s xs=some vs) (hu:∀v∈xs,U64 v):SH t s P vs vs 0/\(∃st u o,kQ t P s xs st u o vs/\0<=st/\st < 2147483648)/\xs.length≠0/\xs.length % 8=0/\xs.length<=65536/\(xs.length:Int)=qa t P:=by
 unfold jfn at h;split at h
 ·rename_i vs' hs;split at h
  ·rename_i hc;cases h;obtain ⟨hr,hn,hvn,hvu,st,u,o,hla⟩:=Qm hs;have hb:=jn hr;have hm:=jI hr;have h8:jG t P % 8=0:=by unfold jG;omega
   have hset:kQ t P s xs st u o vs:=⟨hu,hla,hs⟩
   obtain ⟨htip,-,hst0,-⟩:=hset.tip;have hst:st=hiW (xs.getD 8 0):=by
    unfold KC at htip;split at htip
    ·simp only [Option.some.injEq,Prod.mk.injEq] at htip;exact htip.1.symm
    ·cases htip
   exact ⟨SH.start hr (by rw [hvn];rfl) hvu hc.2.1,⟨st,u,o,hset,hst0.1,by rw [hst];exact hc.2.2⟩,zo,zo,zo,hn⟩
  ·cases h
 ·cases h
end
end Go.Proofs.YtcnininelndjoaaGreat

