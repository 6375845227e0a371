/- parts of the proof, merged by a program. -/
import Derived.Test.YtcnininelndjoaaGreatMma1
import Derived.Test.YtcnininelndjoaaGreatMma2
import Derived.Test.YtcnininelndjoaaGreatMma3
import Derived.Test.YtcnininelndjoaaGreatMma11
import Derived.Test.YtcnininelndjoaaGreatMma13
import Derived.Test.YtcnininelndjoaaGreatRows
import Derived.Shelf.Sort.AssemblyIn
import Derived.Sort.EveryDepth
import Derived.Sort.OwnSortedInts
import Derived.Deep.OwnRows
set_option linter.unusedSimpArgs false
set_option linter.unusedVariables false
set_option maxRecDepth 100000
set_option maxHeartbeats 4000000
namespace Go.Proofs.YtcnininelndjoaaGreat
open Go.Proofs.Tryz
open Go.RowKit

theorem jbT (a b:List Int) (va vb:Value) (w:World) (ha:w.ownsRow 0 38 1 va a.length (yl a)) (hb:w.ownsRow 0 38 1 vb b.length (yl b)) (hna:a.length<=4294967296) (hnb:b.length<=4294967296) :
 Calls prog 19 #[va,vb] w (zW (.bool (decide (a=b))) w):=by
 have hca:∀wr,Below w.heap.size w wr->∀k,k < a.length->∃g m c,va= .slice (some ⟨g,0,none⟩) m c/\wr.cell? ⟨g,k,none⟩=some (.int .u64 (a.getD k 0)):=by
  intro wr hb0 k hk;obtain ⟨g,cap,rfl⟩:=Joins.ownsRow_form ha zo;refine ⟨g,_,cap,rfl,?_⟩;have e0:w.cell? ⟨g,k,none⟩=some (.int .u64 (a.getD k 0)):=by
   rw [ha.cellAt k zo];simp [yl,hk]
  exact (hb0.cell (World.block_lt_of_cell? w _ e0)).trans e0
 have hcb:∀wr,Below w.heap.size w wr->∀k,k < b.length->∃g m c,vb= .slice (some ⟨g,0,none⟩) m c/\wr.cell? ⟨g,k,none⟩=some (.int .u64 (b.getD k 0)):=by
  intro wr hb0 k hk;obtain ⟨g,cap,rfl⟩:=Joins.ownsRow_form hb zo;refine ⟨g,_,cap,rfl,?_⟩;have e0:w.cell? ⟨g,k,none⟩=some (.int .u64 (b.getD k 0)):=by
   rw [hb.cellAt k zo];simp [yl,hk]
  exact (hb0.cell (World.block_lt_of_cell? w _ e0)).trans e0
 obtain ⟨pa,ca,rfl⟩:=jG ha;obtain ⟨pb,cb,rfl⟩:=jG hb;clear ha hb;generalize hr:decide (a=b)=r;have HR:=zh hr;clear hr;by_cases hl:a.length=b.length
 ·have hlb:((a.length:Int) != (b.length:Int))=false:=by simp [hl]
  have HL:=zh hl;clear hl;go_enter func19,ntmps19;go_wp2;go_loopw [5] (fun i wr=>ValsRel a b w i wr) (fun i _=>a.length - (intOf i).toNat);case atStart=>exact ⟨0,zo,rfl,zo,Below.refl _ _⟩
  case round=>
   obtain ⟨k,hk,rfl,hno,hbw⟩:=hrel;have HN:=zh hno;have HB:=zh hbw;have hca:=hca _ hbw;have hcb:=hcb _ hbw;clear hno hbw;by_cases hlt:k < a.length
   ·have hltb:k < b.length:=by have:=HL.out;omega
    obtain ⟨g,m,c',hv,c0⟩:=hca k hlt;obtain ⟨g2,m2,c2',hv2,c1⟩:=hcb k hltb;simp only [Value.slice.injEq] at hv hv2;obtain ⟨rfl,rfl,rfl⟩:=hv;obtain ⟨rfl,rfl,rfl⟩:=hv2;clear hca hcb;have HX:=zh (show a[k]? =some (a.getD k 0) by simp [hlt]);have HX2:=zh (show b[k]? =some (b.getD k 0) by simp [hltb]);generalize a.getD k 0=y at*
    generalize b.getD k 0=z at*
    by_cases hy:y=z
    ·have hb:(y != z)=false:=by simp [hy]
     have HY:=zh hy;clear hy;go_wp2;refine wQ ?_;go_wp2;go_roundw;case rel=>
      refine ⟨k+1,zo,by go_num,fun j hj=> ?_,HB.out.drew⟩;by_cases e:j=k
      ·subst e;rw [HX.out,HX2.out,HY.out]
      ·exact HN.out j zo
     case measure=>simp [intOf];omega
    ·have hb:(y != z)=true:=by simp [hy]
     have HY:=zh hy;clear hy;go_wp2;refine wQ ?_;go_wp2;go_ret;refine ⟨kO ?_,HB.out.drew⟩;rw [<-HR.out];symm;simp only [decide_eq_false_iff_not];intro hm;subst hm;have:=HX.out.symm.trans HX2.out;exact HY.out (Option.some.inj this)
   ·clear hca hcb;go_wp2;go_ret;refine ⟨kO ?_,HB.out⟩;rw [<-HR.out];symm;simp only [decide_eq_true_eq];apply List.ext_getElem?;intro j;by_cases hj:j < k
    ·exact HN.out j hj
    ·rw [List.getElem?_eq_none zo,List.getElem?_eq_none (by have:=HL.out;omega)]
 ·have hlb:((a.length:Int) != (b.length:Int))=true:=by simp;omega
  have HL:=zh hl;clear hl hca hcb;go_enter func19,ntmps19;go_wp2;go_ret;refine ⟨kO ?_,Below.refl _ _⟩;rw [<-HR.out];symm;simp only [decide_eq_false_iff_not];intro hm;exact HL.out (by rw [hm])
def sortRen:Go.Shelf.Ren:=⟨fun | 189=>154 | 125=>203 | 257=>202 | 128=>242 | 129=>243 | 294=>233 | 295=>234 | 296=>235 | 297=>236 | 298=>237 | 299=>238 | 216=>239 | 300=>240 | 301=>241 | 328=>256 | 329=>257 | 330=>258 | 331=>259 | 332=>260 | 215=>261 | 343=>270 | n=>n,fun | 28=>66 | 3=>3 | 46=>204 | 0=>0 | 51=>44 | 53=>38 | 4=>4 | 183=>236 | 182=>235 | 131=>134 | 5=>5 | 9=>9 | 218=>256 | 222=>259 | 228=>263 | 229=>264 | n=>n,fun | n=>n⟩
theorem sortLays:Go.Proofs.Lays.n189 prog sortRen where
 mixed:=by kernel_rfl
 f125:=func203.trans (congrArg some zk)
 f128:=func242.trans (congrArg some zk)
 f129:=func243.trans (congrArg some zk)
 f189:=func154.trans (congrArg some zk)
 f215:=func261.trans (congrArg some zk)
 f216:=func239.trans (congrArg some zk)
 f257:=func202.trans (congrArg some zk)
 f294:=func233.trans (congrArg some zk)
 f295:=func234.trans (congrArg some zk)
 f296:=func235.trans (congrArg some zk)
 f297:=func236.trans (congrArg some zk)
 f298:=func237.trans (congrArg some zk)
 f299:=func238.trans (congrArg some zk)
 f300:=func240.trans (congrArg some zk)
 f301:=func241.trans (congrArg some zk)
 f328:=func256.trans (congrArg some zk)
 f329:=func257.trans (congrArg some zk)
 f330:=func258.trans (congrArg some zk)
 f331:=func259.trans (congrArg some zk)
 f332:=func260.trans (congrArg some zk)
 f343:=func270.trans (congrArg some zk)
 t0:=underlying0
 a0:=Tryz.isAgg0
 z0:=Tryz.sizeOf0
 v0:=Tryz.zeroValue0
 t3:=underlying3
 a3:=Tryz.isAgg3
 z3:=Tryz.sizeOf3
 v3:=Tryz.zeroValue3
 t4:=underlying4
 a4:=Tryz.isAgg4
 z4:=Tryz.sizeOf4
 v4:=Tryz.zeroValue4
 t5:=underlying5
 a5:=Tryz.isAgg5
 z5:=Tryz.sizeOf5
 v5:=Tryz.zeroValue5
 t9:=underlying9
 a9:=Tryz.isAgg9
 z9:=Tryz.sizeOf9
 v9:=Tryz.zeroValue9
 t28:=underlying66
 a28:=Tryz.isAgg66
 z28:=Tryz.sizeOf66
 v28:=Tryz.zeroValue66
 t46:=underlying204
 a46:=Tryz.isAgg204
 z46:=Tryz.sizeOf204
 v46:=Tryz.zeroValue204
 t51:=underlying44
 a51:=Tryz.isAgg44
 z51:=Tryz.sizeOf44
 v51:=Tryz.zeroValue44
 t53:=underlying38
 a53:=Tryz.isAgg38
 z53:=Tryz.sizeOf38
 v53:=Tryz.zeroValue38
 t131:=underlying134
 a131:=Tryz.isAgg134
 z131:=Tryz.sizeOf134
 v131:=Tryz.zeroValue134
 t182:=underlying235
 a182:=Tryz.isAgg235
 z182:=Tryz.sizeOf235
 v182:=Tryz.zeroValue235
 t183:=underlying236
 a183:=Tryz.isAgg236
 z183:=Tryz.sizeOf236
 v183:=Tryz.zeroValue236
 t218:=underlying256
 a218:=Tryz.isAgg256
 z218:=Tryz.sizeOf256
 v218:=Tryz.zeroValue256
 t222:=underlying259
 a222:=Tryz.isAgg259
 z222:=Tryz.sizeOf259
 v222:=Tryz.zeroValue259
 t228:=underlying263
 a228:=Tryz.isAgg263
 z228:=Tryz.sizeOf263
 v228:=Tryz.zeroValue263
 t229:=underlying264
 a229:=Tryz.isAgg264
 z229:=Tryz.sizeOf264
 v229:=Tryz.zeroValue264
theorem sort_any (blk cap:Nat) (zs:List Int) (w:World) (hH:Go.Sort.Holds (Value.int .i64) w blk 0 zs.toArray) (hblk:blk < w.heap.size) (hsz:zs.length < 4611686018427387904) :
 Calls prog 154 #[.slice (some ⟨blk,0,none⟩) zs.length cap] w fun e w'=>
  e= .returned (.tuple #[])/\∃n os,w'=Go.Sort.grow (Go.Sort.putRow (Value.int .i64) (Go.Sort.ahead w n) blk 0 (zs.mergeSort fun x y=>decide (x<=y)).toArray) os:=
 calls_of_every_depth fun D=>AnyS.slices_Sort_int_in sortLays D blk 0 cap zs w hH hblk hsz

theorem NM.Inv.pcount {s:NM} (h:s.Inv):s.P.length<=17*8192:=by
 have h1:s.P.length<=((List.range 17).flatMap fun a:Nat=>(List.range 8192).map fun b:Nat=>((a:Int),(b:Int))).length:=by
  refine List.Nodup.length_le_of_subset h.nd fun p hp=> ?_;obtain ⟨a0,a1,a2,a3⟩:=h.pb p hp;have hs:=h.small;refine List.mem_flatMap.2 ⟨p.1.toNat,List.mem_range.2 zo,List.mem_map.2 ⟨p.2.toNat,List.mem_range.2 zo,?_⟩⟩;refine Prod.ext ?_ ?_
  ·show ((p.1.toNat:Nat):Int)=p.1;omega
  ·show ((p.2.toNat:Nat):Int)=p.2;omega
 have h2:((List.range 17).flatMap fun a:Nat=>(List.range 8192).map fun b:Nat=>((a:Int),(b:Int))).length=17*8192:=by rw [List.length_flatMap];simp only [List.length_map,List.length_range];rfl
 omega
structure jdb (P rem:List (Int×Int)) (who:Int) (ls:List Int):Prop where
 nd:ls.Nodup
 mem:∀l,l∈ls↔(who,l)∈P/\(who,l) ∉ rem
 len:ls.length+rem.length<=P.length
theorem jdb.start (P:List (Int×Int)) (who:Int):jdb P P who []:=⟨zT,zT,zT⟩
theorem K4 {rem:List (Int×Int)} {p:Int×Int} (hp:p∈rem):(rem.filter fun q=> !decide (q=p)).length < rem.length:=by
 have h1:=List.length_filter_lt_length_iff_exists (l:=rem) (p:=fun q=> !decide (q=p));exact h1.2 ⟨p,hp,zT⟩
theorem jdb.skip {P rem:List (Int×Int)} {who:Int} {ls:List Int} (h:jdb P rem who ls) {p:Int×Int} (hp:p∈rem) (hw:p.1≠who):jdb P (rem.filter fun q=> !decide (q=p)) who ls:=by
 refine ⟨h.nd,fun l=> ?_,?_⟩
 ·rw [h.mem l];have hne:(who,l)≠p:=fun e=>hw (by rw [<-e]);simp [List.mem_filter,hne]
 ·have:=K4 hp;have:=h.len;omega
theorem jdb.take {P rem:List (Int×Int)} {who:Int} {ls:List Int} (h:jdb P rem who ls) {p:Int×Int} (hp:p∈rem) (hw:p.1=who) (hP:p∈P):jdb P (rem.filter fun q=> !decide (q=p)) who (ls++[p.2]):=by
 have hpe:(who,p.2)=p:=by rw [<-hw]
 have hno:p.2 ∉ ls:=fun hm=>((h.mem _).1 hm).2 (by rw [hpe];exact hp);refine ⟨?_,fun l=> ?_,?_⟩
 ·rw [List.nodup_append];exact ⟨h.nd,zT,fun a ha b hb=>by simp at hb;subst hb;exact fun e=>hno (e ▸ ha)⟩
 ·rw [List.mem_append,h.mem l];by_cases hl:l=p.2
  ·subst hl;rw [hpe];simp [hP]
  ·have hne:(who,l)≠p:=fun e=>hl (by rw [<-e]);simp [List.mem_filter,hne,hl]
 ·have:=K4 hp;have:=h.len;rw [List.length_append];simp only [List.length_cons,List.length_nil];omega
theorem jeD (s:NM) (who:Int):jY (s.pend who)=V1 ((s.pend who).map fun (n:Nat)=>(n:Int)):=by simp [jY,V1]
theorem jdb.sorted {s:NM} (hi:s.Inv) {who:Int} {ls:List Int} (h:jdb s.P [] who ls):(ls.mergeSort fun x y=>decide (x<=y))=(s.pend who).map fun (n:Nat)=>(n:Int):=by
 have tr:∀a b c:Int,decide (a<=b)=true->decide (b<=c)=true->decide (a<=c)=true:=fun a b c h1 h2=>by simp at*;omega
 have to:∀a b:Int,(decide (a<=b) || decide (b<=a))=true:=fun a b=>by simp;omega
 have hnp:((s.pend who).map fun (n:Nat)=>(n:Int)).Nodup:=by
  unfold List.Nodup;rw [List.pairwise_map];exact (List.Pairwise.filter _ List.nodup_range).imp fun hne e=>hne (by exact_mod_cast e)
 have hp:ls.Perm ((s.pend who).map fun (n:Nat)=>(n:Int)):=by
  refine (List.perm_ext_iff_of_nodup h.nd hnp).2 fun l=> ?_;rw [h.mem l];constructor
  ·rintro ⟨h1,-⟩;obtain ⟨a0,a1,a2,a3⟩:=hi.pb _ h1;refine List.mem_map.2 ⟨l.toNat,?_,by show ((l.toNat:Nat):Int)=l;dsimp only at a2;omega⟩;have e:((l.toNat:Nat):Int)=l:=by dsimp only at a2;omega
   dsimp only at a3;simp only [NM.pend,List.mem_filter,List.mem_range,decide_eq_true_eq,e];exact ⟨zo,h1⟩
  ·intro hm;obtain ⟨n,hn,rfl⟩:=List.mem_map.1 hm;exact ⟨(NM.pend_lt hn).2,zT⟩
 refine List.Perm.eq_of_pairwise (le:=fun a b=>decide (a<=b)=true) (fun a b _ _ h1 h2=>by simp at h1 h2;omega) (List.pairwise_mergeSort tr to ls) ?_ ((List.mergeSort_perm ls _).trans hp);rw [List.pairwise_map];exact (List.Pairwise.filter _ List.pairwise_lt_range).imp fun hlt=>by simp;omega
theorem jad (w:World) (u:Value) (T:TypeId) (k:Nat) (hk:k=w.heap.size):∀(j:Nat) (x:Value),[u][j]? =some x->(w.alloc (.cells #[u] T)).cell? ((⟨k,0,none⟩:Addr).add j)=some x:=by
 subst hk;exact cell_one_new w u T
def PendP (w:World) (s:NM) (who:Int) (e:Ending) (w':World):Prop:=∃v,e= .returned v/\w'.ownsRow w.heap.size 3 1 v (s.pend who).length (jY (s.pend who))/\Below w.heap.size w w'
structure PeRel (w:World) (pb:Nat) (P:List (Int×Int)) (who:Int) (v5:Value) (wr:World) (rem:List (Int×Int)) (ls:List Int):Prop where
 rg:jai wr pb w.heap.size P rem
 row:wr.ownsRow 0 3 1 v5 ls.length (V1 ls)
 own:∀k,v5.ownBlock=some k->w.heap.size < k
 bel:Below w.heap.size w wr
 col:jdb P rem who ls
def PeRelE (w:World) (pb:Nat) (P:List (Int×Int)) (who:Int) (v5:Value) (wr:World):Prop:=∃rem ls,PeRel w pb P who v5 wr rem ls
noncomputable def remLen (w:World) (pb r:Nat):Nat:=match w.heap[r]? with
 | some (.mapIter _ _ seen _)=>(match w.heap[pb]? with | some (.map es _)=>(leftOf es seen).size | _=>0)
 | _=>0
theorem jai.rem_len {w:World} {pb r:Nat} {P rem:List (Int×Int)} (h:jai w pb r P rem):remLen w pb r=rem.length:=by
 obtain ⟨es,clk,s,n,c,h1,-,h2,-,-,-,h3,-⟩:=h;unfold remLen;rw [h2,h1];have:=congrArg List.length h3;simpa using this
theorem jcU (w:World):Calls prog 233 #[.slice none 0 0,.int .i64 0,.int .i64 0] w fun e w'=>e= .returned (.tuple #[])/\w=w':=by
 go_enter func233,ntmps233;go_wp2;refine wp_loop_rounds 1 ?_;rw [rounds_succ];go_wp2;go_end0;exact ⟨rfl,rfl⟩
theorem pdq_nil (w:World):Calls prog 202 #[.slice none 0 0,.int .i64 0,.int .i64 0,.int .i64 0] w fun e w'=>e= .returned (.tuple #[])/\w=w':=by
 go_enter func202,ntmps202;go_wp2;refine wp_loop_rounds 1 ?_;rw [rounds_succ];go_wp2_with fail;refine zM (jcU _) ?_;rintro w' rfl;go_wp2;refine bodyPost_ret (results_none rfl _ _ _) rfl ?_;exact ⟨rfl,rfl⟩
theorem jfa (w:World):Calls prog 243 #[.int .u64 0] w fun e w'=>e= .returned (.int .i64 0)/\w=w':=by
 have h8:Go.Lib.len8 0=0:=zk;go_enter func243,ntmps243;go_wp2;go_ret;exact ⟨rfl,rfl⟩
theorem len_nil (w:World):Calls prog 203 #[.int .u64 0] w fun e w'=>e= .returned (.int .i64 0)/\w=w':=by
 go_enter func203,ntmps203;go_wp2_with fail;refine zM (jfa _) ?_;rintro w' rfl;go_wp2;go_ret;exact ⟨rfl,rfl⟩
theorem sort_nil (w:World):Calls prog 154 #[.slice none 0 0] w fun e w'=>e= .returned (.tuple #[])/\w=w':=by
 go_enter func154,ntmps154;go_wp2_with fail;refine zM (len_nil _) ?_;rintro w' rfl;go_wp2_with fail;refine zM (pdq_nil _) ?_;rintro w' rfl;go_wp2;go_end0;exact ⟨rfl,rfl⟩
theorem jeV (b:Nat) (who:Int) (w:World) (S:Nat->Prop) (s:NM) (h:PM w b S s) :
 Calls prog 93 #[.pointer (some ⟨b,0,none⟩),.int .i64 who] w (PendP w s who):=by
 obtain ⟨wv,kv,pb,hv⟩:=h;have h2:=hv.cell 2;simp at h2;have hpl:=hv.lt pb hv.inp;have HM:=zh hv.mp;have HI:=zh hv.inv;have hcount:=hv.inv.pcount;have HCnt:=zh hcount;clear hv hcount;obtain ⟨i0,hi0,hi1,hi2,hi3⟩:=info_parts KC;have HT:=zh (And.intro hi0 (And.intro hi1 (And.intro hi2 hi3)));clear hi0 hi1 hi2 hi3;go_enter func93,ntmps93;go_wp2_with (at_range;refine jbW rfl _ rfl HM.out uPend rfl ?_;intro w1 hr1 hb1 hz1);have HR1:=zh hr1;have HB1:=zh hb1;clear hr1 hb1 hz1;go_frame;go_loopw [5] (fun v5 wr=>PeRelE w pb s.P who v5 wr) (fun _ wr=>remLen wr pb w.heap.size);case atStart=>exact ⟨s.P,[],HR1.out,⟨by simp [V1],Or.inl ⟨rfl,rfl⟩⟩,by simp [Value.ownBlock],HB1.out,jdb.start _ _⟩
 case round=>
  obtain ⟨rem,ls,hrg,hrow,hown,hbel,hcol⟩:=hrel;have HRg:=zh hrg;have HRow:=zh hrow;have HOwn:=zh hown;have HBel:=zh hbel;have HCol:=zh hcol;clear hrg hrow hown hbel hcol;go_wp2_with (at_next;refine jdg rfl _ rfl HRg.out rfl ?_ ?_)
  ·intro h0;subst h0;have HSo:=zh (HCol.out.sorted HI.out);have hlen:ls.length=(s.pend who).length:=by
    have:=congrArg List.length HSo.out;simpa using this
   rcases HRow.out.2 with ⟨rfl,hn⟩ | ⟨g,cap,cur,rfl,-,hbk,q1,q2,q3,q4⟩
   ·have HL:=zh hlen;have HN:=zh hn;clear hlen hn;go_wp2_with fail;refine zM (sort_nil _) ?_;rintro w3 rfl;go_wp2;go_ret;have hz:(s.pend who)=[]:=List.eq_nil_of_length_eq_zero (by have:=HL.out;have:=HN.out;omega);exact ⟨_,rfl,by rw [hz];exact ⟨by simp [jY],Or.inl ⟨rfl,rfl⟩⟩,HBel.out⟩
   ·have hg0:=HOwn.out g rfl;have hlb:ls.length<=17*8192:=by
     have:=HCol.out.len;have:=HCnt.out;omega
    have hso:=sort_any g cap ls wr (holds_of_blockI hbk (by simpa [V1] using q4)) (Array.getElem?_eq_some_iff.1 hbk).1 zo;have HS:=zh hso;have HOs:=fun n os=>ownsRow_sortedI (n:=n) (os:=os) (ss:=ls) (ts:=ls.mergeSort fun x y=>decide (x<=y)) (base:=w.heap.size) zT zo hbk q1 q2 q3;have HO2:=zh HOs;have HL:=zh hlen;clear hso HOs hbk q1 q2 q3 q4 hlb hlen;go_wp2_with fail;refine zM HS.out ?_;rintro w3 ⟨nn,os,rfl⟩;have ho:=HO2.out nn os;have hb3:Below w.heap.size w (Go.Sort.grow (Go.Sort.putRow (Value.int .i64) (Go.Sort.ahead wr nn) g 0 (ls.mergeSort fun x y=>decide (x<=y)).toArray) os):=HBel.out.grown (grownBy_sortedI _) HBel.out.size (fun k hk=>by cases hk;omega);generalize Go.Sort.grow (Go.Sort.putRow (Value.int .i64) (Go.Sort.ahead wr nn) g 0 (ls.mergeSort fun x y=>decide (x<=y)).toArray) os=w4 at ho hb3 ⊢;rw [HSo.out,HL.out] at ho;have HO3:=zh ho;have HB3:=zh hb3;clear ho hb3;go_wp2;go_ret;exact ⟨_,rfl,by rw [jeD,HL.out];exact HO3.out,HB3.out⟩
  ·intro p1 p2 w2 hp hr2 hg2 hs2 hen;have hen2:(Instr.entry (.pointer (some ⟨w.heap.size,0,none⟩))).run prog w2= .ok (.tuple #[.agg #[.int .i64 p1,.int .i64 p2],.int .i64 1]) w2:=hen;have hkey:j9 (p1,p2)= .agg #[.int .i64 p1,.int .i64 p2]:=rfl;rw [hkey];have HP:=zh hp;have HR2:=zh hr2;have HB2:=zh (HBel.out.grown hg2 HBel.out.size (fun k hk=>by cases hk;exact Nat.le_refl _));have HRow2:=zh (je (w':=w2) HRow.out fun k hk=>hg2.block k (jn HRow.out hk) (fun e=>by have:=HOwn.out k hk;cases e;omega));have hpP:(p1,p2)∈s.P:=by
    obtain ⟨_,_,_,_,_,_,_,_,_,_,_,_,hsub⟩:=HRg.out;exact hsub _ hp
   have HPP:=zh hpP;clear hp hr2 hg2 hs2 hen hkey hpP;have hlb:ls.length<=17*8192:=by
    have:=HCol.out.len;have:=HCnt.out;omega
   have hz2:w.heap.size < w2.heap.size:=HR2.out.lt;obtain ⟨pa,pc,rfl⟩:=jG HRow2.out;by_cases hw:p1=who
   ·subst hw;have HCo:=zh (HCol.out.take HP.out rfl HPP.out);go_wp2_with (at_builtin;go_must (refine jR rfl _ _ rfl 3 i0 (.int .i64 0) 1 8 underlying66 HT.out.1 HT.out.2.1 HT.out.2.2.1 HT.out.2.2.2 rfl zd (.slice pa ls.length pc) ls.length (V1 ls) rfl ((HRow2.out.alloc _).alloc _) ⟨_,0,none⟩ 1 1 [.int .i64 p2] rfl rfl (jad _ _ _ _ zT) ?c1 ?c2 ?c3 ?_);go_must (case c1=>(simp [Value.oneCell']));go_must (case c2=>(unfold maxLen;omega));go_must (case c3=>(omega));go_must (intro v' w5 hown5 hg5 hnew5 hnil5);clear hnil5;go_must (obtain ⟨g',cap',rfl⟩:=Joins.ownsRow_form hown5 zo));have hR5:=HR2.out.block (w':=w5) ((hg5.block pb (by simp;omega) (fun e=>by have:=HOwn.out pb e.symm;omega)).trans ((Below.heap_alloc _ _ _ (by simp;omega)).trans (Below.heap_alloc _ _ _ zo))) ((hg5.block w.heap.size (by simp;omega) (fun e=>by have:=HOwn.out _ e.symm;omega)).trans ((Below.heap_alloc _ _ _ (by simp;omega)).trans (Below.heap_alloc _ _ _ hz2)));have hl5:remLen w5 pb w.heap.size < remLen wr pb w.heap.size:=by
     rw [hR5.rem_len,HRg.out.rem_len];exact K4 HP.out
    have HR5:=zh hR5;have HL5:=zh hl5;have HRw:=zh (show w5.ownsRow 0 3 1 (.slice (some ⟨g',0,none⟩) (ls.length+1) cap') (ls++[p2]).length (V1 (ls++[p2])) by rw [List.length_append];simpa [V1] using hown5);have HOw:=zh (show∀k,(Value.slice (some ⟨g',0,none⟩) (ls.length+1) cap').ownBlock=some k->w.heap.size < k from fun k hk=>by
     rcases hnew5 k hk with h1 | h1
     ·exact HOwn.out k h1
     ·simp at h1;omega)
    have HB5:=zh (((HB2.out.alloc HB2.out.size _).alloc (by simp;omega) _).grown hg5 (by simp;omega) (fun k hk=>Nat.le_of_lt (HOwn.out k hk)));clear hR5 hl5 hown5 hg5 hnew5;go_wp2;go_roundw;case rel=>exact ⟨_,ls++[p2],HR5.out,HRw.out,HOw.out,HB5.out,HCo.out⟩
    case measure=>exact HL5.out
   ·have HCo:=zh (HCol.out.skip HP.out hw);have hwb:(p1 == who)=false:=by simpa using hw
    go_wp2;go_roundw;case rel=>exact ⟨_,ls,HR2.out.block (Below.heap_alloc _ _ _ zo) (Below.heap_alloc _ _ _ hz2),HRow2.out.alloc _,HOwn.out,HB2.out.alloc HB2.out.size _,HCo.out⟩
    case measure=>
     rw [(HR2.out.block (Below.heap_alloc _ _ _ zo) (Below.heap_alloc _ _ _ hz2)).rem_len,HRg.out.rem_len];exact K4 HP.out

theorem NSt.turn {α:Type} {R:World->Nat->(Nat->Prop)->α->Prop} {w0 w w':World} {b:Nat} {S S1:Nat->Prop} {Ls:List Nat} {s s':α} (h:NSt R w0 b S Ls s w) (hS:∀k,S1 k->S k\/w0.heap.size<=k) (hL:∀L∈Ls,¬S1 L) (h':R w' b S1 s') (F:Fr S1 w w'):NSt R w0 b S Ls s' w'/\∀L∈Ls,w'.heap[L]? =w.heap[L]? :=
 ⟨⟨⟨S1,h',hS,hL⟩,h.fr.trans F hS,fun L hm=>⟨Nat.lt_of_lt_of_le (h.ls L hm).1 F.size,(h.ls L hm).2⟩,h.s0⟩,fun L hm=>F.block L (h.ls L hm).1 (hL L hm)⟩
theorem NM.step_eq (who:Int) (s:NM) (l:Nat):NM.step who s l={ s with K:=NM.keepI s.W l 255 8 s.K,P:=NM.delP s.P (who,(l:Int)) }:=rfl
theorem jcX {α β:Type} (f:α->β->α) (a:α) (l:List β) {k:Nat} {x:β} (h:l[k]? =some x):(l.take (k+1)).foldl f a=f ((l.take k).foldl f a) x:=by
 rw [List.take_add_one,h];simp
structure FeRel (w:World) (b:Nat) (S:Nat->Prop) (s:NM) (who:Int) (v:Value) (vi:Value) (wr:World) (k:Nat):Prop where
 le:k<=(s.pend who).length
 eq:vi= .int .i64 k
 st:NSt PM w b S v.ownBlock.toList (((s.pend who).take k).foldl (NM.step who) s) wr
 row:wr.ownsRow 0 3 1 v (s.pend who).length (jY (s.pend who))
def FeRelE (w:World) (b:Nat) (S:Nat->Prop) (s:NM) (who:Int) (v:Value) (vi:Value) (wr:World):Prop:=∃k,FeRel w b S s who v vi wr k
theorem jcN (b:Nat) (who:Int) (w:World) (S:Nat->Prop) (s:NM) (h:PM w b S s) :
 Calls prog 53 #[.pointer (some ⟨b,0,none⟩),.int .i64 who] w fun e w'=>e= .returned (.int .i64 (s.fence who).1)/\(PM w' b (upd S w w') (s.fence who).2/\Fr S w w'):=by
 have HP:=zh (jeV b who w S s h);have HI:=zh h.inv;have HS:=zh (NSt.start yj h);have hpl:=NM.pend_le h.inv who;have hsm:=h.inv.small;clear h;go_enter func53,ntmps53;go_wp2_with fail;refine HP.out.mono ?_;rintro e w1 ⟨v,rfl,hr,hb⟩;obtain ⟨pa,pc,rfl⟩:=jG (Joins.ownsRow_le hr (Nat.zero_le _));have HN1:=zh (HS.out.row yj hb hr);have HR1:=zh (Joins.ownsRow_le hr (Nat.zero_le _));clear hr hb;go_wp2_with fail;go_loopw [13] (fun vi wr=>FeRelE w b S s who (.slice pa (s.pend who).length pc) vi wr) (fun vi _=>(s.pend who).length - (intOf vi).toNat);case atStart=>exact ⟨0,zo,rfl,by simpa using HN1.out,HR1.out⟩
 case round=>
  obtain ⟨k,hk,rfl,hst,hrow⟩:=hrel;by_cases hlt:k < (s.pend who).length
  ·obtain ⟨l,hl⟩:∃l,(s.pend who)[k]? =some l:=⟨_,List.getElem?_eq_getElem hlt⟩
   have hlw:=NM.pend_lt (List.mem_of_getElem? hl);have hwho:=(HI.out.pb _ hlw.2)
   have hfold:=jcX (NM.step who) s _ hl;obtain ⟨g,cap,hg⟩:=Joins.ownsRow_form hrow zo;simp only [Value.slice.injEq,true_and] at hg;obtain ⟨rfl,rfl⟩:=hg;have hc:wr.cell? ⟨g,k,none⟩=some (.int .i64 l):=by
    rw [hrow.cellAt k zo];simp [jY,hl]
   have hkl:(k:Int) < (s.pend who).length:=zo;have hinv:=NM.Inv.steps who ((s.pend who).take k) s HI.out;have hW:=NM.steps_W who ((s.pend who).take k) s;obtain ⟨st,hstt⟩:∃st,((s.pend who).take k).foldl (NM.step who) s=st:=⟨_,rfl⟩
   rw [hstt] at hst hfold hinv hW;have HSt:=zh hst;have HRow:=zh hrow;have HFo:=zh hfold;have HIn:=zh (hinv.step who l);have HK:=zh (fun S1 (h1:PM wr b S1 st)=>je3 b l 255 wr S1 st h1 (by rw [hW];exact hlw.1) zo);have hp:I64p (who,(l:Int)):=by
    obtain ⟨a0,a1,a2,a3⟩:=hwho;dsimp only at a0 a1 a2 a3;exact ⟨⟨by dsimp only;omega,by dsimp only;omega⟩,⟨by dsimp only;omega,by dsimp only;omega⟩⟩
   have HPr:=zh hp;clear hst hrow hfold hinv hW hstt hl hlw hwho hp;go_wp2_with fail;refine zM (yE HSt.out HK.out) ?_;rintro w2 ⟨hn2,hl2⟩;have hrow2:=je (w':=w2) HRow.out (fun j hj=>hl2 j (by simp [hj]));obtain ⟨S1,⟨wv,kv,pb,hps⟩,hS1,hL1⟩:=hn2.ex;have h2c:=hps.cell 2;simp at h2c;have HM:=zh hps.mp;have HPs:=zh hps;have HN2:=zh hn2;have HSL:=zh (And.intro hS1 hL1);have HRow2:=zh hrow2;clear hn2 hl2 hrow2 hps hS1 hL1;go_wp2_with (at_delete;refine jal rfl _ _ rfl HM.out fPair uPend (who,(l:Int)) HPr.out rfl rfl ?_;intro w3 hm3 hg3);obtain ⟨n1,n2⟩:=HPs.out.pendI (P':=NM.delP st.P (who,(l:Int))) hm3 hg3 HIn.out;obtain ⟨n3,n4⟩:=HN2.out.turn HSL.out.1 HSL.out.2 ⟨_,_,_,n1⟩ n2;have hrow3:=je (w':=w3) HRow2.out (fun j hj=>n4 j (by simp [hj]));have HN3:=zh n3;have HRow3:=zh hrow3;clear n1 n2 n3 n4 hrow3 hm3 hg3;go_wp2;go_roundw;case rel=>exact ⟨k+1,zo,by go_num,by rw [HFo.out];exact HN3.out,HRow3.out⟩
   case measure=>simp [intOf];omega
  ·have hke:k=(s.pend who).length:=zo;have hkl:¬(k:Int) < (s.pend who).length:=zo;have hd:=hst.done yj;rw [hke,List.take_length] at hd;have HD:=zh hd;clear hst hrow hd hke;go_wp2;go_ret;exact ⟨rfl,HD.out⟩

structure jbR (w:World) (S T:Nat->Prop) (b bm:Nat) (t p s:Int) (x:TS) (m:NM):Prop where
 ms:MSA w S b t p s x
 pm:PM w bm T m
 ap:∀k,S k->¬T k
section
variable {w w':World} {S T:Nat->Prop} {b bm:Nat} {t p s:Int} {x:TS} {m:NM}
theorem jbR.below (h:jbR w S T b bm t p s x m) (hb:Below w.heap.size w w'):jbR w' S T b bm t p s x m:=
 ⟨h.ms.keep (T:=fun _=>False) (Fr.of_below hb) (fun _ hf=>hf.elim),yj.keep h.pm (Fr.of_below (S:=fun _=>False) hb) (fun _ _ hf=>hf),h.ap⟩
theorem jar {m':NM} (h:jbR w S T b bm t p s x m) (hp:PM w' bm (upd T w w') m') (hf:Fr T w w'):jbR w' S (upd T w w') b bm t p s x m':=
 ⟨h.ms.keep hf (fun k ht hs=>h.ap k hs ht),hp,fun k hs ht=>by
  rcases ht with ht | ht
  ·exact h.ap k hs ht
  ·exact absurd (h.ms.2 k hs) zo⟩
theorem two_told {v:Int} {ok:Bool} (h:jbR w S T b bm t p s x m) (hr:jq t p s=true) (hp:x.ph≠19) (hv:VOK t p x v) :
 Calls prog 54 #[.pointer (some ⟨b,0,none⟩),.int .u64 v,.bool ok] w fun e w'=>e= .returned (.tuple #[])/\(∃S',jbR w' S' T b bm t p s (jv t p s v x) m/\∀k,S' k->S k\/w.heap.size<=k)/\Fr S w w':=by
 refine zM (msa_told h.ms hr hp hv) ?_;rintro w' ⟨⟨S',h1,h2⟩,hF⟩;refine ⟨rfl,⟨S',⟨h1,yj.keep h.pm hF (fun k ht hs=>h.ap k hs ht),fun k hs ht=> ?_⟩,h2⟩,hF⟩;rcases h2 k hs with h3 | h3
 ·exact h.ap k h3 ht
 ·exact absurd (yj.lt h.pm k ht) zo
def StepP (w:World) (S T:Nat->Prop) (b bm:Nat) (t p s:Int) (x:TS) (m:NM) (w':World):Prop:=
 (∃S' T',jbR w' S' T' b bm t p s x m/\(∀k,S' k->S k\/w.heap.size<=k)/\(∀k,T' k->T k\/w.heap.size<=k))/\Fr (fun k=>S k\/T k) w w'
theorem QG {w0 w1:World} {S':Nat->Prop} {T':Nat->Prop} (h:jbR w' S' T' b bm t p s x m) (hS:∀k,S' k->S k\/w1.heap.size<=k) (hT:∀k,T' k->T k\/w0.heap.size<=k) (h0:w.heap.size<=w0.heap.size) (h01:w0.heap.size<=w1.heap.size) (f0:Fr (fun _=>False) w w0) (f1:Fr T w0 w1) (f2:Fr S w1 w'):StepP w S T b bm t p s x m w':=
 ⟨⟨S',T',h,fun k hk=>(hS k hk).imp id (fun h=>by omega),fun k hk=>(hT k hk).imp id (fun h=>by omega)⟩,
  ((f0.mono (S1:=fun k=>S k\/T k) (fun _ hf=>hf.elim)).trans f1 (fun _ hk=> .inl (.inr hk))).trans f2 (fun _ hk=> .inl (.inl hk))⟩
theorem jem {d a v:Int} (h:jbR w S T b bm t p s x m) (hr:jq t p s=true) (hn:jN t p x=some (d,a,v)) (hvu:U64 v) (hv:VOK t p x (doM t m d a v).1) :
 Calls prog 18 #[.pointer (some ⟨b,0,none⟩),.pointer (some ⟨bm,0,none⟩)] w fun e w'=>e= .returned (.bool true)/\StepP w S T b bm t p s (jv t p s (doM t m d a v).1 x) (doM t m d a v).2 w':=by
 have hp:x.ph≠19:=fun e=>by rw [(Jm h.ms.1.inv).2 e] at hn;cases hn
 have hN:=VE h.ms hr;rw [hn] at hN;have HN:=zh hN;have hd:=jbC hn;have HW:=zh (fun (w1:World) (b1:Below w.heap.size w w1)=>h.below (b1.alloc b1.size (.cells #[.int .i64 d,.int .i64 t,.int .i64 a,.int .i64 0,.int .u64 0,.int .u64 v] 40)));have HT:=zh (fun (W:World) (S' T':Nat->Prop) (m':NM) (ok:Bool) (g:jbR W S' T' b bm t p s x m')=>two_told (ok:=ok) g hr hp hv);clear h hN hn hv hr hp;rcases hd with rfl | rfl | rfl | rfl
 ·simp only [doM,if_true] at HT ⊢;generalize jv t p s (m.load a).1 x=y at*
  go_enter func18,ntmps18;go_wp2_with fail;refine zM HN.out fun w1 b1=> ?_;have H1:=zh (HW.out w1 b1);have B1:=zh (b1.alloc b1.size (.cells #[.int .i64 1,.int .i64 t,.int .i64 a,.int .i64 0,.int .u64 0,.int .u64 v] 40));clear b1 HW HN;unfold j8;go_wp2_with fail;refine zM (je1 bm a _ T m H1.out.pm) ?_;rintro w2 rfl;go_wp2_with fail;refine zM (HT.out _ _ _ _ _ H1.out) ?_;rintro w3 ⟨⟨S',h3,hS⟩,hF⟩;have H3:=zh (QG h3 hS (fun k hk=> .inl hk) B1.out.size (Nat.le_refl _) (Fr.of_below B1.out) (Fr.refl T _) hF);clear h3 hS hF HT H1 B1;go_wp2;go_ret;exact ⟨rfl,H3.out⟩
 ·simp only [doM,show¬((2:Int)=1) from by decide,if_false,if_true] at HT ⊢;generalize jv t p s 0 x=y at*
  go_enter func18,ntmps18;go_wp2_with fail;refine zM HN.out fun w1 b1=> ?_;have H1:=zh (HW.out w1 b1);have B1:=zh (b1.alloc b1.size (.cells #[.int .i64 2,.int .i64 t,.int .i64 a,.int .i64 0,.int .u64 0,.int .u64 v] 40));clear b1 HW HN;unfold j8;go_wp2_with fail;refine zM (jcI bm a v _ T m H1.out.pm hvu) ?_;rintro w2 ⟨hp2,hf2⟩;have H2:=zh (jar H1.out hp2 hf2);have HF2:=zh hf2;clear hp2 hf2;go_wp2_with fail;refine zM (HT.out _ _ _ _ _ H2.out) ?_;rintro w3 ⟨⟨S',h3,hS⟩,hF⟩;have H3:=zh (QG h3 hS (fun k hk=>hk.imp id (fun h=>h.1)) B1.out.size HF2.out.size (Fr.of_below B1.out) HF2.out hF);clear h3 hS hF HT H1 H2 HF2 B1;go_wp2;go_ret;exact ⟨rfl,H3.out⟩
 ·simp only [doM,show¬((4:Int)=1) from by decide,show¬((4:Int)=2) from by decide,if_false,if_true] at HT ⊢;generalize jv t p s 0 x=y at*
  go_enter func18,ntmps18;go_wp2_with fail;refine zM HN.out fun w1 b1=> ?_;have H1:=zh (HW.out w1 b1);have B1:=zh (b1.alloc b1.size (.cells #[.int .i64 4,.int .i64 t,.int .i64 a,.int .i64 0,.int .u64 0,.int .u64 v] 40));clear b1 HW HN;unfold j8;go_wp2_with fail;refine zM (jcM bm t a _ T m H1.out.pm) ?_;rintro w2 ⟨hp2,hf2⟩;have H2:=zh (jar H1.out hp2 hf2);have HF2:=zh hf2;clear hp2 hf2;go_wp2_with fail;refine zM (HT.out _ _ _ _ _ H2.out) ?_;rintro w3 ⟨⟨S',h3,hS⟩,hF⟩;have H3:=zh (QG h3 hS (fun k hk=>hk.imp id (fun h=>h.1)) B1.out.size HF2.out.size (Fr.of_below B1.out) HF2.out hF);clear h3 hS hF HT H1 H2 HF2 B1;go_wp2;go_ret;exact ⟨rfl,H3.out⟩
 ·simp only [doM,show¬((5:Int)=1) from by decide,show¬((5:Int)=2) from by decide,show¬((5:Int)=4) from by decide,if_false] at HT ⊢;generalize jv t p s 0 x=y at*
  go_enter func18,ntmps18;go_wp2_with fail;refine zM HN.out fun w1 b1=> ?_;have H1:=zh (HW.out w1 b1);have B1:=zh (b1.alloc b1.size (.cells #[.int .i64 5,.int .i64 t,.int .i64 a,.int .i64 0,.int .u64 0,.int .u64 v] 40));clear b1 HW HN;unfold j8;go_wp2_with fail;refine zM (jcN bm t _ T m H1.out.pm) ?_;rintro w2 ⟨hp2,hf2⟩;have H2:=zh (jar H1.out hp2 hf2);have HF2:=zh hf2;clear hp2 hf2;go_wp2_with fail;refine zM (HT.out _ _ _ _ _ H2.out) ?_;rintro w3 ⟨⟨S',h3,hS⟩,hF⟩;have H3:=zh (QG h3 hS (fun k hk=>hk.imp id (fun h=>h.1)) B1.out.size HF2.out.size (Fr.of_below B1.out) HF2.out hF);clear h3 hS hF HT H1 H2 HF2 B1;go_wp2;go_ret;exact ⟨rfl,H3.out⟩
end

section
variable {w0 w:World} {S T:Nat->Prop} {b bm:Nat} {t p s:Int} {x:TS} {m:NM}
theorem jcu (h:jbR w S T b bm t p s x m) (hr:jq t p s=true) (hp:x.ph=19) :
 Calls prog 18 #[.pointer (some ⟨b,0,none⟩),.pointer (some ⟨bm,0,none⟩)] w fun e w'=>e= .returned (.bool false)/\jbR w' S T b bm t p s x m/\Below w.heap.size w w':=by
 have hN:=VE h.ms hr;rw [(Jm h.ms.1.inv).2 hp] at hN;have HN:=zh hN;have H:=zh h;clear h hN hr hp;go_enter func18,ntmps18;go_wp2_with fail;refine zM HN.out fun w1 b1=> ?_;have B1:=zh (b1.alloc b1.size (.cells #[.int .i64 0,.int .i64 0,.int .i64 0,.int .i64 0,.int .u64 0,.int .u64 0] 40));clear b1 HN;unfold j8;go_wp2;go_ret;exact ⟨rfl,H.out.below B1.out,B1.out⟩
theorem JZ {h l:Int} (hh:0<=h/\h < 4294967296) (hl:0<=l/\l < 4294967296):U64 (kg h l):=by
 unfold U64 kg;omega
theorem ms_u64 (hr:jq t p s=true) (h:MS w0 S b t p s x w) {d a v:Int} (hn:jN t p x=some (d,a,v)):U64 v:=by
 have hrb:=jt hr;have hmb:=jV hr;have hst:=h.st;have hmu:(0:Int)<=(mu t p x:Int):=Int.natCast_nonneg _;have hwr:=h.inv.wr;have hph:=h.inv.ph;have z0:U64 0:=by unfold U64;omega
 have hm:=h.mr;unfold MR at hm;unfold jN at hn;have hopen:U64 x.openN:=by unfold TS.openN kG;exact JZ zo (by simp;omega)
 have hc:x.ph=0\/x.ph=1\/x.ph=2\/x.ph=3\/x.ph=4\/x.ph=5\/x.ph=6\/x.ph=7\/x.ph=8\/x.ph=9\/x.ph=10\/x.ph=11\/x.ph=12\/x.ph=13\/x.ph=14\/x.ph=15\/x.ph=16\/x.ph=17\/x.ph=18\/x.ph=19:=zo;rcases hc with e | e | e | e | e | e | e | e | e | e | e | e | e | e | e | e | e | e | e | e <;> rw [e] at hm hn
 ·cases hn;exact z0
 ·cases hn;exact z0
 ·cases hn;exact z0
 ·cases hn;exact z0
 ·cases hn;obtain ⟨hd,Ls,k0,kl,kx,ku,kn,kb,y,r,js,jx,ja,jl,jb,hy,-⟩:=hm;have hy':x.l[x.i]? =some y:=by rw [<-List.head?_drop,hy];rfl
  have hg:x.l.getD x.i (0,0)=y:=by rw [List.getD_eq_getElem?_getD,hy'];rfl
  rw [hg];exact JZ (K1 hd.nv) (hd.l.2 y (List.mem_of_getElem? hy')).2
 ·cases hn;exact z0
 ·cases hn;exact z0
 ·cases hn;obtain ⟨hd,-⟩:=hm;obtain ⟨o,n,hw⟩:=hd.nw;have:=Jc hd.nv hw;rw [jaA hw];unfold kG;exact JZ (K1 hd.nv) (by simp;omega)
 ·cases hn;exact z0
 ·cases hn;exact z0
 ·cases hn;exact z0
 ·cases hn;obtain ⟨hW,-⟩:=hm;obtain ⟨y,hy'⟩:∃y,x.wr[x.i]? =some y:=⟨_,List.getElem?_eq_getElem (h.inv.hi zo)⟩
  have hg:x.wr.getD x.i (0,0)=y:=by rw [List.getD_eq_getElem?_getD,hy'];rfl
  rw [hg];have:=hW.2 y (List.mem_of_getElem? hy');exact JZ zo this.2
 ·cases hn;exact z0
 ·cases hn;exact hopen
 ·cases hn;exact z0
 ·cases hn;exact z0
 ·cases hn;exact JZ zo zo
 ·cases hn;exact z0
 ·cases hn;exact z0
 ·cases hn
end

structure TOK (t p:Int) (x:TS):Prop where
 inv:JG t p x
 st:0<=x.s/\x.s+1 < 4294967296
 u:x.ph=1->0<=x.u/\x.u<=t
 tu:2<=x.ph->x.ph<=9->TuD t p x
 nd:x.ph=10->(0<=x.need/\x.need < jo t p)/\jc8 x.known
 wr:11<=x.ph->x.ph<=18->WrOK t p x.wr
section
variable {t p s:Int} {w w' w0:World} {b:Nat} {S:Nat->Prop} {x:TS}
theorem MS.tok (h:MS w0 S b t p s x w):TOK t p x:=by
 have hmu:(0:Int)<=(mu t p x:Int):=Int.natCast_nonneg _;have hst:=h.st;have hm:=h.mr;have hph:=h.inv.ph;refine ⟨h.inv,⟨hst.1,zo⟩,fun e=> ?_,fun e1 e2=> ?_,fun e=> ?_,fun e1 e2=> ?_⟩
 ·unfold MR at hm;rw [e] at hm;exact hm.1
 ·unfold MR at hm;have hc:x.ph=2\/x.ph=3\/x.ph=4\/x.ph=5\/x.ph=6\/x.ph=7\/x.ph=8\/x.ph=9:=zo;rcases hc with e | e | e | e | e | e | e | e <;> rw [e] at hm <;> exact hm.1
 ·unfold MR at hm;rw [e] at hm;exact ⟨hm.1,hm.2.1⟩
 ·unfold MR at hm;have hc:x.ph=11\/x.ph=12\/x.ph=13\/x.ph=14\/x.ph=15\/x.ph=16\/x.ph=17\/x.ph=18:=zo;rcases hc with e | e | e | e | e | e | e | e <;> rw [e] at hm <;> exact hm.1
def YH (t p:Int) (x:TS):Value:=match jN t p x with | some (d,a,v)=> .tuple #[j8 d t a v,.bool true] | none=> .tuple #[j8 0 0 0 0,.bool false]
theorem kI {d a v:Int} (h:jN t p x=some (d,a,v)):YH t p x= .tuple #[j8 d t a v,.bool true]:=by unfold YH;rw [h]
end

def RXM (t p s:Int) (bm:Nat):World->Nat->(Nat->Prop)->TS×NM->Prop:=fun w b S q=>(∃S1 T1,jbR w S1 T1 b bm t p s q.1 q.2/\(∀k,S1 k->S k)/\(∀k,T1 k->S k))/\∀k,S k->k < w.heap.size
section
variable {t p s:Int} {bm:Nat}
theorem yi:qp (RXM t p s bm) where
 keep:=by
  rintro w w' b S T q ⟨⟨S1,T1,h,h1,h2⟩,h3⟩ F hd;exact ⟨⟨S1,T1,⟨h.ms.keep F (fun k ht hs=>hd k (h1 k hs) ht),yj.keep h.pm F (fun k hs ht=>hd k (h2 k hs) ht),h.ap⟩,h1,h2⟩,fun k hk=>Nat.lt_of_lt_of_le (h3 k hk) F.size⟩
 lt:=by rintro w b S q ⟨-,h⟩;exact h
 mono:=by
  rintro w b S S' q ⟨⟨S1,T1,h,h1,h2⟩,h3⟩ hs hl;exact ⟨⟨S1,T1,h,fun k hk=>hs k (h1 k hk),fun k hk=>hs k (h2 k hk)⟩,hl⟩
def RU:World->Nat->(Nat->Prop)->Unit->Prop:=fun w _ S _=>∀k,S k->k < w.heap.size
theorem keepsRU:qp RU where
 keep:=fun h F _ k hk=>Nat.lt_of_lt_of_le (h k hk) F.size
 lt:=fun h=>h
 mono:=fun _ _ hl=>hl
end
section
variable {w w':World} {S:Nat->Prop} {b bm:Nat} {t z:Int} {P:Nat} {vs:List Int} {s0:Int} {k:Nat} {q:TS×NM}
theorem rxm_next (h:RXM t P z bm w b S q) (hr:jq t P z=true) :
 Calls prog 14 #[.pointer (some ⟨b,0,none⟩)] w (zW (YH t P q.1) w):=by
 obtain ⟨⟨S1,T1,h,-,-⟩,-⟩:=h;have:=VE h.ms hr;unfold YH;revert this;cases jN t P q.1 <;> exact id
theorem jbm (h:RXM t P z bm w b S q):Calls prog 17 #[.pointer (some ⟨b,0,none⟩)] w (zW (.int .u32 q.1.made) w):=by
 obtain ⟨⟨S1,T1,h,-,-⟩,-⟩:=h;exact (msa_made h.ms).mono fun e w' hh=>⟨hh.1,by rw [<-hh.2];exact Below.refl _ _⟩
theorem Xe (h:RXM t P z bm w b S q):Calls prog 16 #[.pointer (some ⟨b,0,none⟩)] w (zW (.int .i64 q.1.page) w):=by
 obtain ⟨⟨S1,T1,h,-,-⟩,-⟩:=h;exact (jeT h.ms).mono fun e w' hh=>⟨hh.1,by rw [<-hh.2];exact Below.refl _ _⟩
theorem rxm_u64 (h:RXM t P z bm w b S q) (hr:jq t P z=true) {d a v:Int} (hn:jN t P q.1=some (d,a,v)):U64 v:=by
 obtain ⟨⟨S1,T1,h,-,-⟩,-⟩:=h;exact ms_u64 hr h.ms.1 hn
theorem rxm_st (h:RXM t P z bm w b S q) (hr:jq t P z=true) {d a v:Int} (hn:jN t P q.1=some (d,a,v)) (hv:VOK t P q.1 (doM t q.2 d a v).1) :
 Calls prog 18 #[.pointer (some ⟨b,0,none⟩),.pointer (some ⟨bm,0,none⟩)] w fun e w'=>e= .returned (.bool true)/\(RXM t P z bm w' b (upd S w w') (nxt t P z q)/\Fr S w w'):=by
 obtain ⟨⟨S1,T1,h,h1,h2⟩,h3⟩:=h;refine zM (jem h hr hn (ms_u64 hr h.ms.1 hn) hv) ?_;rintro w' ⟨⟨S',T',h',hs,ht⟩,F⟩;obtain ⟨x,m⟩:=q;rw [VD hn];have hF:Fr S w w':=F.mono (fun k hk=>hk.elim (h1 k) (h2 k));have hlt:=h'.ms.2;have hlt2:=yj.lt h'.pm;refine ⟨rfl,⟨⟨S',T',h',fun k hk=> ?_,fun k hk=> ?_⟩,fun k hk=> ?_⟩,hF⟩
 ·rcases hs k hk with hk2 | hk2
  ·exact .inl (h1 k hk2)
  ·exact .inr ⟨hk2,hlt k hk⟩
 ·rcases ht k hk with hk2 | hk2
  ·exact .inl (h2 k hk2)
  ·exact .inr ⟨hk2,hlt2 k hk⟩
 ·rcases hk with hk | hk
  ·exact Nat.lt_of_lt_of_le (h3 k hk) hF.size
  ·exact hk.2
theorem jbk (h:RXM t P z bm w b S q) (hr:jq t P z=true) (hp:q.1.ph=19) :
 Calls prog 18 #[.pointer (some ⟨b,0,none⟩),.pointer (some ⟨bm,0,none⟩)] w (zW (.bool false) w):=by
 obtain ⟨⟨S1,T1,h,-,-⟩,-⟩:=h;exact (jcu h hr hp).mono fun e w' hh=>⟨hh.1,hh.2.2⟩
theorem Xd (h:RXM t P z bm w b S q):Calls prog 20 #[.pointer (some ⟨bm,0,none⟩)] w (RowW w q.2.W.length q.2.W):=by
 obtain ⟨⟨S1,T1,h,-,-⟩,-⟩:=h;exact jcF bm w T1 q.2 h.pm
theorem rxm_kept (h:RXM t P z bm w b S q):Calls prog 21 #[.pointer (some ⟨bm,0,none⟩)] w (RowW w q.2.W.length q.2.K):=by
 obtain ⟨⟨S1,T1,h,-,-⟩,-⟩:=h;exact je2 bm w T1 q.2 h.pm
theorem jbl {S T:Nat->Prop} {x:TS} {m:NM} (hm:MSA w S b t P z x) (hp:PM w bm T m) (hd:∀k,S k->¬T k):RXM t P z bm w b (fun k=>S k\/T k) (x,m):=
 ⟨⟨S,T,⟨hm,hp,hd⟩,fun _ hk=> .inl hk,fun _ hk=> .inr hk⟩,fun k hk=>hk.elim (hm.2 k) (yj.lt hp k)⟩
end

def J2 (a:NM.A):Value:= .agg #[.int .i64 a.d,.int .i64 a.who,.int .i64 a.at_,.int .i64 a.mask,.int .u64 a.old,.int .u64 a.val]
def V2 (s:NM) (a:NM.A):Value:= .tuple #[.int .u64 (s.act a).1.1,.bool (s.act a).1.2]
theorem jdo (n:Nat) (h:n<=1000000):IntKind.u64.wrap (n:Int)=n:=IntWalk.u64_in _ ⟨zo,zo⟩

def HasRel (l:List Nat) (x:Nat) (i:Value):Prop:=∃k:Nat,k<=l.length/\i= .int .i64 k/\∀j,j < k->l[j]?≠some x
theorem jfo (l:List Nat) (x:Nat) (v:Value) (w:World) (h:w.ownsRow 0 3 1 v l.length (jY l)) (hn:l.length<=4294967296) :
 Calls prog 209 #[v,.int .i64 x] w fun e w'=>e= .returned (.bool (decide (x∈l)))/\w=w':=by
 have hc:∀k,k < l.length->∃a m c,v= .slice (some ⟨a,0,none⟩) m c/\w.cell? ⟨a,k,none⟩=some (.int .i64 (l.getD k 0)):=by
  intro k hk;obtain ⟨g,cap,rfl⟩:=Joins.ownsRow_form h zo;refine ⟨g,_,cap,rfl,?_⟩;rw [h.cellAt k zo];simp [jY,hk]
 obtain ⟨a,c,rfl⟩:=jG h;clear h;generalize hr:decide (x∈l)=r;have HR:=zh hr;clear hr;go_enter func209,ntmps209;go_wp2;go_loop [5] (fun i=>HasRel l x i) (fun i=>l.length - (intOf i).toNat);case atStart=>exact ⟨0,zo,rfl,zo⟩
 case round=>
  obtain ⟨k,hk,rfl,hno⟩:=hrel;have HN:=zh hno;clear hno;by_cases hlt:k < l.length
  ·obtain ⟨g,m,c',hv,c0⟩:=hc k hlt;simp only [Value.slice.injEq] at hv;obtain ⟨rfl,rfl,rfl⟩:=hv;clear hc;have hx:l[k]? =some (l.getD k 0):=by simp [hlt]
   have HX:=zh hx;clear hx;generalize l.getD k 0=y at*
   by_cases hy:y=x
   ·have hb:((y:Int) == (x:Int))=true:=by simp [hy]
    have HY:=zh hy;clear hy;go_wp2;go_ret;refine ⟨kO ?_,rfl⟩;rw [<-HR.out];have:=List.mem_of_getElem? HX.out;rw [HY.out] at this;simpa using this
   ·have hb:((y:Int) == (x:Int))=false:=by simp;omega
    have HY:=zh hy;clear hy;go_wp2;go_round;case rel=>
     refine ⟨k+1,zo,by go_num,fun j hj=> ?_⟩;by_cases e:j=k
     ·subst e;rw [HX.out];simpa using HY.out
     ·exact HN.out j zo
    case measure=>simp [intOf];omega
  ·clear hc;go_wp2;go_ret;refine ⟨kO ?_,rfl⟩;rw [<-HR.out];symm;simp only [decide_eq_false_iff_not];intro hm;obtain ⟨j,hj⟩:=List.mem_iff_getElem?.1 hm;have:=(List.getElem?_eq_some_iff.1 hj).1;exact HN.out j zo hj

def Js (n:Nat) (f:Nat->Value):List Value:=(List.range n).map f
theorem Jx (n:Nat) (f:Nat->Value):(Js n f).length=n:=by simp [Js]
theorem kB {n i:Nat} (f:Nat->Value) (h:i < n):(Js n f)[i]? =some (f i):=by simp [Js,h]
theorem J8 {n i:Nat} (f g:Nat->Value) (v:Value) (hi:g i=v) (hg:∀j,j≠i->g j=f j):(Js n f).set i v=Js n g:=by
 apply List.ext_getElem?;intro j;simp only [Js,List.getElem?_set,List.getElem?_map,List.length_map,List.length_range];by_cases hj:i=j
 ·subst hj;by_cases hn:i < n
  ·simp [hn,hi]
  ·simp [hn]
 ·rw [if_neg hj];by_cases hn:j < n
  ·simp [hn,hg j (fun e=>hj e.symm)]
  ·simp [hn]
def Jo (s:VS) (i:Nat):Value:= .bool (s.known i).isSome
def V0 (s:VS) (i:Nat):Value:= .int .u32 ((s.known i).getD 0)
def isF (s:VS) (i:Nat):Value:= .bool (s.wr i).isSome
def toF (s:VS) (i:Nat):Value:= .int .u32 ((s.wr i).getD 0)
class AllF where
 all:Bool
structure RVs [AllF] (w:World) (b:Nat) (S:Nat->Prop) (s:VS) (kv vv iv tv rv wv:Value) (all:Bool):Prop where
 cells:w.heap[b]? =some (.cells #[.int .i64 s.n,kv,vv,iv,tv,rv,wv,.int .i64 (qX s),.bool all] 167)
 kr:w.ownsRow 0 4 1 kv s.n (Js s.n (Jo s))
 vr:w.ownsRow 0 44 1 vv s.n (Js s.n (V0 s))
 ir:w.ownsRow 0 4 1 iv s.n (Js s.n (isF s))
 tr:w.ownsRow 0 44 1 tv s.n (Js s.n (toF s))
 rr:w.ownsRow 0 3 1 rv s.reads.length (jY s.reads)
 wr:w.ownsRow 0 3 1 wv s.writes.length (jY (s.writes.map (·.1)))
 d1:∀k,kv.ownBlock=some k->iv.ownBlock≠some k
 d2:∀k,vv.ownBlock=some k->tv.ownBlock≠some k
 d3:∀k,rv.ownBlock=some k->wv.ownBlock≠some k
 inb:S b
 ink:∀k,kv.ownBlock=some k->S k
 inv':∀k,vv.ownBlock=some k->S k
 ini:∀k,iv.ownBlock=some k->S k
 int:∀k,tv.ownBlock=some k->S k
 inr:∀k,rv.ownBlock=some k->S k
 inw:∀k,wv.ownBlock=some k->S k
 lt:∀k,S k->k < w.heap.size
 inv:s.Inv
 tot:all=true->∀i,i < s.n->∃v,s.known i=some v
 al:all=AllF.all
def RV [AllF] (w:World) (b:Nat) (S:Nat->Prop) (s:VS):Prop:=∃kv vv iv tv rv wv all,RVs w b S s kv vv iv tv rv wv all
theorem RVs.cell [AllF] {w:World} {b:Nat} {S:Nat->Prop} {s:VS} {kv vv iv tv rv wv:Value} {all:Bool} (h:RVs w b S s kv vv iv tv rv wv all) (o:Nat) :
 w.cell? ⟨b,o,none⟩=(#[.int .i64 s.n,kv,vv,iv,tv,rv,wv,.int .i64 (qX s),.bool all]:Array Value)[o]? :=jd h.cells
theorem jy {w:World} {e e2 sz sz2:Nat} {v v2:Value} {n n2:Nat} {xs xs2:List Value} (h:w.ownsRow 0 e sz v n xs) (h2:w.ownsRow 0 e2 sz2 v2 n2 xs2) (hne:e≠e2) {k:Nat} (hk:v2.ownBlock=some k):v.ownBlock≠some k:=by
 rcases h2.2 with ⟨rfl,-⟩ | ⟨g,cap,cur,rfl,-,hg,-⟩
 ·simp [Value.ownBlock] at hk
 ·simp [Value.ownBlock] at hk;subst hk;exact jm h hg hne
theorem jk [AllF]:YA RV where
 keep:=by
  rintro w w' b S T s ⟨kv,vv,iv,tv,rv,wv,all,h⟩ F hd;have blk:∀k,S k->w'.heap[k]? =w.heap[k]? :=fun k hk=>F.block k (h.lt k hk) (hd k hk);exact ⟨kv,vv,iv,tv,rv,wv,all,(blk b h.inb).trans h.cells,je h.kr fun k hk=>blk k (h.ink k hk),je h.vr fun k hk=>blk k (h.inv' k hk),je h.ir fun k hk=>blk k (h.ini k hk),je h.tr fun k hk=>blk k (h.int k hk),
   je h.rr fun k hk=>blk k (h.inr k hk),je h.wr fun k hk=>blk k (h.inw k hk),h.d1,h.d2,h.d3,h.inb,h.ink,h.inv',h.ini,h.int,h.inr,h.inw,fun k hk=>Nat.lt_of_lt_of_le (h.lt k hk) F.size,h.inv,h.tot,h.al⟩
 lt:=by rintro w b S s ⟨kv,vv,iv,tv,rv,wv,all,h⟩;exact h.lt
 inv:=by rintro w b S s ⟨kv,vv,iv,tv,rv,wv,all,h⟩;exact h.inv
 mono:=by
  rintro w b S S' s ⟨kv,vv,iv,tv,rv,wv,all,h⟩ hS hlt;exact ⟨kv,vv,iv,tv,rv,wv,all,h.cells,h.kr,h.vr,h.ir,h.tr,h.rr,h.wr,h.d1,h.d2,h.d3,hS _ h.inb,fun k hk=>hS _ (h.ink k hk),fun k hk=>hS _ (h.inv' k hk),fun k hk=>hS _ (h.ini k hk),fun k hk=>hS _ (h.int k hk),fun k hk=>hS _ (h.inr k hk),fun k hk=>hS _ (h.inw k hk),hlt,h.inv,h.tot,h.al⟩
def JQ [AllF] (w:World) (b:Nat) (S:Nat->Prop) (t:VS) (w':World):Prop:=RV w' b (upd S w w') t/\Fr S w w'
theorem JQ.refl [AllF] {w:World} {b:Nat} {S:Nat->Prop} {s:VS} (h:RV w b S s):JQ w b S s w:=
 ⟨jk.mono h (fun k hk=>Or.inl hk) (fun k hk=>by rcases hk with hk | hk;exact jk.lt h k hk;exact hk.2),Fr.refl _ _⟩
theorem rget_no [AllF] (b:Nat) (i:Int) (w:World) (S:Nat->Prop) (s:VS) (h:RV w b S s) (ht:s.there i=false) :
 Calls prog 162 #[.pointer (some ⟨b,0,none⟩),.int .i64 i] w fun e w'=>e= .returned (.int .u32 0)/\w=w':=by
 obtain ⟨kv,vv,iv,tv,rv,wv,all,hv⟩:=h;have h0:=hv.cell 0;have h7:=hv.cell 7;simp at h0 h7;clear hv;by_cases h1:i < 0
 ·clear h0 h7 ht;go_enter func162,ntmps162;go_wp2;go_ret;exact ⟨rfl,rfl⟩
 ·by_cases h2:(s.n:Int)<=i
  ·clear h7 ht;go_enter func162,ntmps162;go_wp2;go_ret;exact ⟨rfl,rfl⟩
  ·have h3:∃j,s.miss=some j:=by
    cases hm:s.miss with
    | none=>simp [VS.there,hm] at ht;omega
    | some j=>exact ⟨j,rfl⟩
   obtain ⟨j,hj⟩:=h3;have hm:qX s=(j:Int):=by simp [qX,hj]
   rw [hm] at h7;have h8:(0:Int)<=(j:Int):=zo;clear ht hj hm;go_enter func162,ntmps162;go_wp2;go_ret;exact ⟨rfl,rfl⟩
theorem rget_put [AllF] (b:Nat) (i:Int) (w:World) (S:Nat->Prop) (s:VS) (h:RV w b S s) (ht:s.there i=true) (v:Int) (hw:s.wr i.toNat=some v) :
 Calls prog 162 #[.pointer (some ⟨b,0,none⟩),.int .i64 i] w fun e w'=>e= .returned (.int .u32 v)/\w=w':=by
 obtain ⟨hi0,hi1,hm⟩:=VS.there_iff.1 ht;obtain ⟨n,rfl⟩:=Int.eq_ofNat_of_zero_le hi0;simp only [Int.toNat_natCast] at hw;obtain ⟨kv,vv,iv,tv,rv,wv,all,hv⟩:=h;have h0:=hv.cell 0;have h3:=hv.cell 3;have h4:=hv.cell 4;have h7:=hv.cell 7;have e7:qX s= -1:=by simp [qX,hm]
 simp [e7] at h0 h3 h4 h7;obtain ⟨gi,ci,rfl⟩:=Joins.ownsRow_form hv.ir zo;obtain ⟨gt,ct,rfl⟩:=Joins.ownsRow_form hv.tr zo;have ci0:w.cell? ⟨gi,n,none⟩=some (.bool true):=by rw [hv.ir.cellAt n zo,kB _ zo];simp [isF,hw]
 have ct0:w.cell? ⟨gt,n,none⟩=some (.int .u32 v):=by rw [hv.tr.cellAt n zo,kB _ zo];simp [toF,hw]
 clear hv hm ht hw e7;go_enter func162,ntmps162;go_wp2;go_ret;exact ⟨rfl,rfl⟩
theorem rget_old [AllF] (b:Nat) (i:Int) (w:World) (S:Nat->Prop) (s:VS) (h:RV w b S s) (ht:s.there i=true) (v:Int) (hw:s.wr i.toNat=none) (hk:s.known i.toNat=some v) (hr:i.toNat∈s.reads) :
 Calls prog 162 #[.pointer (some ⟨b,0,none⟩),.int .i64 i] w fun e w'=>e= .returned (.int .u32 v)/\w=w':=by
 obtain ⟨hi0,hi1,hm⟩:=VS.there_iff.1 ht;obtain ⟨n,rfl⟩:=Int.eq_ofNat_of_zero_le hi0;simp only [Int.toNat_natCast] at hw hk hr;obtain ⟨kv,vv,iv,tv,rv,wv,all,hv⟩:=h;have h0:=hv.cell 0;have h1:=hv.cell 1;have h2:=hv.cell 2;have h3:=hv.cell 3;have h5:=hv.cell 5;have h7:=hv.cell 7;have e7:qX s= -1:=by simp [qX,hm]
 simp [e7] at h0 h1 h2 h3 h5 h7;obtain ⟨gi,ci,rfl⟩:=Joins.ownsRow_form hv.ir zo;obtain ⟨gk,ck,rfl⟩:=Joins.ownsRow_form hv.kr zo;obtain ⟨gv,cv,rfl⟩:=Joins.ownsRow_form hv.vr zo;have ci0:w.cell? ⟨gi,n,none⟩=some (.bool false):=by rw [hv.ir.cellAt n zo,kB _ zo];simp [isF,hw]
 have ck0:w.cell? ⟨gk,n,none⟩=some (.bool true):=by rw [hv.kr.cellAt n zo,kB _ zo];simp [Jo,hk]
 have cv0:w.cell? ⟨gv,n,none⟩=some (.int .u32 v):=by rw [hv.vr.cellAt n zo,kB _ zo];simp [V0,hk]
 have hl:=hv.inv.reads_le;have hs:=hv.inv.small;have H:=jfo s.reads n rv w hv.rr zo;simp only [hr,decide_true] at H;have HH:=zh H;clear hv hm ht hw hk hr e7 H;go_enter func162,ntmps162;go_wp2_with (go_at_call 209;go_must (refine HH.out.mono ?_);rintro e w1 ⟨rfl,rfl⟩);go_ret;exact ⟨rfl,rfl⟩

structure RQ (w:World) (b:Nat) (S:Nat->Prop) (W K:List Int) (wv kv:Value) (pv:Nat->Value) (k:Nat) (rows:Nat->List Value):Prop where
 box:∃cs:Array Value,w.heap[b]? =some (.cells cs 63)/\cs.size=19/\cs[0]? =some wv/\cs[1]? =some kv/\∀i,i < 17->cs[2+i]? =some (pv i)
 wr:w.ownsRow 0 38 1 wv W.length (yl W)
 kr:w.ownsRow 0 38 1 kv K.length (yl K)
 pr:∀i,i < k->w.ownsRow 0 4 1 (pv i) (W.length / 8) (rows i)
 ne:∀x,wv.ownBlock=some x->kv.ownBlock≠some x
 pd:∀i,i < k->∀j,j < k->i≠j->∀x,(pv i).ownBlock=some x->(pv j).ownBlock≠some x
 inb:S b
 inw:∀x,wv.ownBlock=some x->S x
 ink:∀x,kv.ownBlock=some x->S x
 inp:∀i,i < k->∀x,(pv i).ownBlock=some x->S x
 lt:∀x,S x->x < w.heap.size
section
variable {w w':World} {b:Nat} {S:Nat->Prop} {W K:List Int} {wv kv:Value} {pv:Nat->Value} {k:Nat} {rows:Nat->List Value}
theorem RQ.cell0 (h:RQ w b S W K wv kv pv k rows):w.cell? ⟨b,0,none⟩=some wv:=by
 obtain ⟨cs,h1,-,h2,-⟩:=h.box;rw [jd h1,h2]
theorem RQ.cell1 (h:RQ w b S W K wv kv pv k rows):w.cell? ⟨b,1,none⟩=some kv:=by
 obtain ⟨cs,h1,-,-,h2,-⟩:=h.box;rw [jd h1,h2]
theorem RQ.cellP (h:RQ w b S W K wv kv pv k rows) {i:Nat} (hi:i < 17):w.cell? ⟨b,2+i,none⟩=some (pv i):=by
 obtain ⟨cs,h1,-,-,-,h2⟩:=h.box;rw [jd h1,h2 i hi]
theorem RQ.froz (h:RQ w b S W K wv kv pv k rows) (o:Nat):w.frozen? ⟨b,o,none⟩=false:=by
 obtain ⟨cs,h1,-⟩:=h.box;exact jh h1
theorem RQ.wb (h:RQ w b S W K wv kv pv k rows):wv.ownBlock≠some b:=by
 obtain ⟨cs,h1,-⟩:=h.box;exact jm h.wr h1 zd
theorem RQ.kb (h:RQ w b S W K wv kv pv k rows):kv.ownBlock≠some b:=by
 obtain ⟨cs,h1,-⟩:=h.box;exact jm h.kr h1 zd
theorem RQ.pb (h:RQ w b S W K wv kv pv k rows) {i:Nat} (hi:i < k):(pv i).ownBlock≠some b:=by
 obtain ⟨cs,h1,-⟩:=h.box;exact jm (h.pr i hi) h1 zd
theorem RQ.wp (h:RQ w b S W K wv kv pv k rows) {i:Nat} (hi:i < k) {x:Nat} (hx:(pv i).ownBlock=some x):wv.ownBlock≠some x:=jy h.wr (h.pr i hi) zd hx
theorem RQ.kp (h:RQ w b S W K wv kv pv k rows) {i:Nat} (hi:i < k) {x:Nat} (hx:(pv i).ownBlock=some x):kv.ownBlock≠some x:=jy h.kr (h.pr i hi) zd hx
theorem RQ.move (h:RQ w b S W K wv kv pv k rows) {S':Nat->Prop} (hk:∀x,S x->w'.heap[x]? =w.heap[x]?) (hs:∀x,S x->S' x) (hl:∀x,S' x->x < w'.heap.size):RQ w' b S' W K wv kv pv k rows:=by
 obtain ⟨cs,h1,h2⟩:=h.box;exact ⟨⟨cs,(hk b h.inb).trans h1,h2⟩,je h.wr fun x hx=>hk x (h.inw x hx),je h.kr fun x hx=>hk x (h.ink x hx),fun i hi=>je (h.pr i hi) fun x hx=>hk x (h.inp i hi x hx),h.ne,h.pd,hs _ h.inb,fun x hx=>hs x (h.inw x hx),fun x hx=>hs x (h.ink x hx),fun i hi x hx=>hs x (h.inp i hi x hx),hl⟩
theorem RQ.up (h:RQ w' b S W K wv kv pv k rows):RQ w' b (upd S w w') W K wv kv pv k rows:=
 h.move (fun _ _=>rfl) (fun _ hx=>Or.inl hx) (fun x hx=>by rcases hx with hx | hx;exact h.lt x hx;exact hx.2)
theorem RQ.drew (h:RQ w b S W K wv kv pv k rows):RQ w.drew b S W K wv kv pv k rows:=h.move (w':=w.drew) (fun _ _=>rfl) (fun _ hx=>hx) h.lt
theorem RQ.storeW {g c:Nat} (h:RQ w b S W K (.slice (some ⟨g,0,none⟩) W.length c) kv pv k rows) (n:Nat) (v:Int) :
 RQ (w.setCell ⟨g,n,none⟩ (.int .u64 v)) b S (W.set n v) K (.slice (some ⟨g,0,none⟩) W.length c) kv pv k rows/\Fr S w (w.setCell ⟨g,n,none⟩ (.int .u64 v)):=by
 have hW:=(h.wr.stored n (.int .u64 v)).1;rw [QE] at hW;have hb:=h.wb;simp [Value.ownBlock] at hb;have ho:∀x,x≠g->(w.setCell ⟨g,n,none⟩ (.int .u64 v)).heap[x]? =w.heap[x]? :=fun x hx=>ji hx;obtain ⟨cs,h1,h2⟩:=h.box;refine ⟨⟨⟨cs,(ho b (fun e=>hb e.symm)).trans h1,h2⟩,?_,je h.kr fun x hx=>ho x (fun e=>h.ne g rfl (e ▸ hx)),?_,?_,h.pd,h.inb,h.inw,h.ink,h.inp,fun x hx=>by simpa using h.lt x hx⟩,(Fr.refl _ _).setCell _ _ (Or.inl (h.inw g rfl))⟩
 ·show World.ownsRow _ 0 _ 1 _ (W.set n v).length _;rw [List.length_set];exact hW
 ·intro i hi;rw [List.length_set];exact je (h.pr i hi) fun x hx=>ho x (fun e=>h.wp hi hx (by simp [Value.ownBlock,e]))
 ·exact h.ne
theorem RQ.storeK {g c:Nat} (h:RQ w b S W K wv (.slice (some ⟨g,0,none⟩) K.length c) pv k rows) (n:Nat) (v:Int) :
 RQ (w.setCell ⟨g,n,none⟩ (.int .u64 v)) b S W (K.set n v) wv (.slice (some ⟨g,0,none⟩) K.length c) pv k rows/\Fr S w (w.setCell ⟨g,n,none⟩ (.int .u64 v)):=by
 have hK:=(h.kr.stored n (.int .u64 v)).1;rw [QE] at hK;have hb:=h.kb;simp [Value.ownBlock] at hb;have ho:∀x,x≠g->(w.setCell ⟨g,n,none⟩ (.int .u64 v)).heap[x]? =w.heap[x]? :=fun x hx=>ji hx;obtain ⟨cs,h1,h2⟩:=h.box;refine ⟨⟨⟨cs,(ho b (fun e=>hb e.symm)).trans h1,h2⟩,je h.wr fun x hx=>ho x (fun e=>h.ne x hx (by simp [Value.ownBlock,e])),?_,?_,h.ne,h.pd,h.inb,h.inw,h.ink,h.inp,fun x hx=>by simpa using h.lt x hx⟩,(Fr.refl _ _).setCell _ _ (Or.inl (h.ink g rfl))⟩
 ·show World.ownsRow _ 0 _ 1 _ (K.set n v).length _;rw [List.length_set];exact hK
 ·intro i hi;exact je (h.pr i hi) fun x hx=>ho x (fun e=>h.kp hi hx (by simp [Value.ownBlock,e]))
theorem RQ.storeP (h:RQ w b S W K wv kv pv k rows) {i g c:Nat} (hi:i < k) (hp:pv i= .slice (some ⟨g,0,none⟩) (W.length / 8) c) (n:Nat) (v:Bool) :
 RQ (w.setCell ⟨g,n,none⟩ (.bool v)) b S W K wv kv pv k (fun j=>if j=i then (rows i).set n (.bool v) else rows j)/\Fr S w (w.setCell ⟨g,n,none⟩ (.bool v)):=by
 have hr:=h.pr i hi;rw [hp] at hr;have hR:=(hr.stored n (.bool v)).1;have hb:=h.pb hi;rw [hp] at hb;simp [Value.ownBlock] at hb;have hg:(pv i).ownBlock=some g:=by rw [hp];rfl
 have ho:∀x,x≠g->(w.setCell ⟨g,n,none⟩ (.bool v)).heap[x]? =w.heap[x]? :=fun x hx=>ji hx;obtain ⟨cs,h1,h2⟩:=h.box;refine ⟨⟨⟨cs,(ho b (fun e=>hb e.symm)).trans h1,h2⟩,je h.wr fun x hx=>ho x (fun e=>h.wp hi hg (e ▸ hx)),je h.kr fun x hx=>ho x (fun e=>h.kp hi hg (e ▸ hx)),?_,h.ne,h.pd,h.inb,h.inw,h.ink,h.inp,fun x hx=>by simpa using h.lt x hx⟩,(Fr.refl _ _).setCell _ _ (Or.inl (h.inp i hi g hg))⟩;intro j hj;by_cases hji:j=i
 ·subst hji;rw [if_pos rfl,hp];exact hR
 ·rw [if_neg hji];exact je (h.pr j hj) fun x hx=>ho x (fun e=>h.pd i hi j hj (fun e2=>hji e2.symm) g hg (e ▸ hx))
end

def kU (s:NM) (i:Nat):List Value:=Js (s.W.length / 8) fun l=> .bool (decide (((i:Int),(l:Int))∈s.P))
def RM (w:World) (b:Nat) (S:Nat->Prop) (s:NM):Prop:=s.Inv/\∃wv kv pv,RQ w b S s.W s.K wv kv pv 17 (kU s)
theorem ke:qp RM where
 keep:=by
  rintro w w' b S T s ⟨hi,wv,kv,pv,h⟩ F hd;exact ⟨hi,wv,kv,pv,h.move (fun x hx=>F.block x (h.lt x hx) (hd x hx)) (fun _ hx=>hx) (fun x hx=>Nat.lt_of_lt_of_le (h.lt x hx) F.size)⟩
 lt:=fun ⟨_,_,_,_,h⟩=>h.lt;mono:=fun ⟨hi,wv,kv,pv,h⟩ hs hl=>⟨hi,wv,kv,pv,h.move (fun _ _=>rfl) hs hl⟩
section
variable {w:World} {b:Nat} {S:Nat->Prop} {W K:List Int} {wv kv:Value} {pv:Nat->Value} {k:Nat} {rows:Nat->List Value}
theorem RQ.wform (h:RQ w b S W K wv kv pv k rows) (h0:0 < W.length):∃g c,wv= .slice (some ⟨g,0,none⟩) W.length c:=Joins.ownsRow_form h.wr h0
theorem RQ.kform (h:RQ w b S W K wv kv pv k rows) (h0:0 < K.length):∃g c,kv= .slice (some ⟨g,0,none⟩) K.length c:=Joins.ownsRow_form h.kr h0
theorem RQ.pform (h:RQ w b S W K wv kv pv k rows) {i:Nat} (hi:i < k) (h0:0 < W.length / 8):∃g c,pv i= .slice (some ⟨g,0,none⟩) (W.length / 8) c:=Joins.ownsRow_form (h.pr i hi) h0
end

theorem Xo (b:Nat) (i:Int) (w:World) (S:Nat->Prop) (s:NM) (h:RM w b S s) :
 Calls prog 95 #[.pointer (some ⟨b,0,none⟩),.int .i64 i] w fun e w'=>e= .returned (.tuple #[.int .u64 (s.load i).1,.bool (s.load i).2])/\w=w':=by
 obtain ⟨hi,wv,kv,pv,hv⟩:=h;obtain ⟨g,c,rfl⟩:=hv.wform hi.pos;have h0:=hv.cell0;unfold NM.load;by_cases h1:i < 0
 ·have ht:s.th i=false:=by simp [NM.th];omega
  rw [ht];clear hv;go_enter func95,ntmps95;go_wp2;exact bodyPost_ret (v:= .tuple #[.int .u64 0,.bool false]) (by simp [results,results95,go_sem]) rfl ⟨rfl,rfl⟩
 ·by_cases h2:(s.W.length:Int)<=i
  ·have ht:s.th i=false:=by simp [NM.th];omega
   rw [ht];clear hv;go_enter func95,ntmps95;go_wp2;exact bodyPost_ret (v:= .tuple #[.int .u64 0,.bool false]) (by simp [results,results95,go_sem]) rfl ⟨rfl,rfl⟩
  ·have ht:s.th i=true:=by simp [NM.th];omega
   rw [ht];obtain ⟨n,rfl⟩:=Int.eq_ofNat_of_zero_le (show 0<=i by omega);have hc:=(hv.wr.cellAt n zo).trans (qS zo);have hlt:(n:Int) < s.W.length:=zo;have hd:decide ((s.W.length:Int)<=n)=false:=by simp;omega
   simp only [Int.toNat_natCast,if_true];clear hv ht;go_enter func95,ntmps95;go_wp2;exact bodyPost_ret (v:= .tuple #[.int .u64 (s.W.getD n 0),.bool true]) (by simp [results,results95,go_sem]) rfl ⟨rfl,rfl⟩

theorem RM.same {w:World} {b:Nat} {S:Nat->Prop} {s:NM} (h:RM w b S s):RM w b (upd S w w) s/\Fr S w w:=by
 obtain ⟨hi,wv,kv,pv,hv⟩:=h;exact ⟨⟨hi,wv,kv,pv,hv.up⟩,Fr.refl _ _⟩
theorem jfr (s:NM) (n:Nat) (v:Int):kU { s with W:=s.W.set n v }=kU s:=by
 funext i;unfold kU;dsimp only;rw [List.length_set]
theorem YO (b:Nat) (i v:Int) (w:World) (S:Nat->Prop) (s:NM) (h:RM w b S s) (hu:NM.U64 v) :
 Calls prog 96 #[.pointer (some ⟨b,0,none⟩),.int .i64 i,.int .u64 v] w fun e w'=>e= .returned (.bool (s.store i v).1)/\(RM w' b (upd S w w') (s.store i v).2/\Fr S w w'):=by
 have HS:=zh h;obtain ⟨hi,wv,kv,pv,hv⟩:=h;obtain ⟨g,c,rfl⟩:=hv.wform hi.pos;have h0:=hv.cell0;have hst:=hi.store i hu;unfold NM.store at hst ⊢;by_cases h1:i < 0
 ·have ht:s.th i=false:=by simp [NM.th];omega
  rw [ht];simp only [Bool.false_eq_true,if_false];clear hv hst ht;go_enter func96,ntmps96;go_wp2;go_ret;exact ⟨rfl,HS.out.same⟩
 ·by_cases h2:(s.W.length:Int)<=i
  ·have ht:s.th i=false:=by simp [NM.th];omega
   rw [ht];simp only [Bool.false_eq_true,if_false];clear hv hst ht;go_enter func96,ntmps96;go_wp2;go_ret;exact ⟨rfl,HS.out.same⟩
  ·have ht:s.th i=true:=by simp [NM.th];omega
   rw [ht] at hst ⊢;obtain ⟨n,rfl⟩:=Int.eq_ofNat_of_zero_le (show 0<=i by omega);have hc:=(hv.wr.cellAt n zo).trans (qS zo);have hf:=hv.wr.frozenAt n;have hlt:(n:Int) < s.W.length:=zo;have hd:decide ((s.W.length:Int)<=n)=false:=by simp;omega
   simp only [Int.toNat_natCast,if_true] at hst ⊢;obtain ⟨n1,n2⟩:=hv.storeW n v;have HN:=zh n1;have HF:=zh n2;have HI:=zh hst;clear hv ht n1 n2 hst;go_enter func96,ntmps96;go_wp2;go_ret;have hq:=HN.out.up (w:=w);rw [<-jfr s n v] at hq;exact ⟨rfl,⟨HI.out,_,kv,pv,hq⟩,HF.out⟩
theorem jdY (b:Nat) (i o v:Int) (w:World) (S:Nat->Prop) (s:NM) (h:RM w b S s) (hu:NM.U64 v) :
 Calls prog 97 #[.pointer (some ⟨b,0,none⟩),.int .i64 i,.int .u64 o,.int .u64 v] w fun e w'=>e= .returned (.bool (s.swap i o v).1)/\(RM w' b (upd S w w') (s.swap i o v).2/\Fr S w w'):=by
 have HL:=zh (Xo b i w S s h);have HSt:=zh (YO b i v w S s h hu);have HS:=zh h;clear h;unfold NM.swap;cases ht:s.th i
 ·have e1:s.load i=(0,false):=by simp [NM.load,ht]
  rw [e1] at HL;simp only [Bool.false_eq_true,false_and,if_false];clear ht e1;go_enter func97,ntmps97;go_wp2_with fail;refine zM HL.out ?_;rintro w1 rfl;go_wp2;go_ret;exact ⟨rfl,HS.out.same⟩
 ·have e1:s.load i=(s.W.getD i.toNat 0,true):=by simp [NM.load,ht]
  have e2:s.store i v=(true,{ s with W:=s.W.set i.toNat v }):=by simp [NM.store,ht]
  rw [e1] at HL;rw [e2] at HSt;simp only [true_and];generalize ({ s with W:=s.W.set i.toNat v }:NM)=s2 at*
  generalize s.W.getD i.toNat 0=x at*
  clear ht e1 e2;by_cases hx:x=o
  ·subst hx;simp only [if_true];have hxx:(x == x)=true:=zT;go_enter func97,ntmps97;go_wp2_with fail;refine zM HL.out ?_;rintro w1 rfl;go_wp2_with fail;refine zM HSt.out fun w1 hn=> ?_;have HN:=zh hn;clear hn;go_wp2;go_ret;exact ⟨rfl,HN.out⟩
  ·rw [if_neg hx];have hx3:(x == o)=false:=by simpa using hx
   clear hx;go_enter func97,ntmps97;go_wp2_with fail;refine zM HL.out ?_;rintro w1 rfl;go_wp2;go_ret;exact ⟨rfl,HS.out.same⟩
theorem jba {s:NM} (who n:Nat) (i:Nat):kU { s with P:=NM.addP s.P ((who:Int),(n:Int)) } i=if i=who then (kU s who).set n (.bool true) else kU s i:=by
 unfold kU;dsimp only;by_cases hi:i=who
 ·subst hi;rw [if_pos rfl];symm;refine J8 _ _ _ (by simp [NM.mem_addP]) fun j hj=> ?_;congr 1;have:((i:Int),(j:Int))≠((i:Int),(n:Int)):=fun e=>hj (by simp at e;exact_mod_cast e);simp [NM.mem_addP,this]
 ·rw [if_neg hi];congr 1;funext l;have:((i:Int),(l:Int))≠((who:Int),(n:Int)):=fun e=>hi (by simp at e;exact_mod_cast e.1);simp [NM.mem_addP,this]
theorem ja9 {s:NM} (who n:Nat) (K':List Int) (i:Nat):kU { s with K:=K',P:=NM.delP s.P ((who:Int),(n:Int)) } i=if i=who then (kU s who).set n (.bool false) else kU s i:=by
 unfold kU;dsimp only;by_cases hi:i=who
 ·subst hi;rw [if_pos rfl];symm;refine J8 _ _ _ (by simp [NM.mem_delP]) fun j hj=> ?_;congr 1;have:((i:Int),(j:Int))≠((i:Int),(n:Int)):=fun e=>hj (by simp at e;exact_mod_cast e);simp [NM.mem_delP,this]
 ·rw [if_neg hi];congr 1;funext l;have:((i:Int),(l:Int))≠((who:Int),(n:Int)):=fun e=>hi (by simp at e;exact_mod_cast e.1);simp [NM.mem_delP,this]
theorem jcl (b:Nat) (who i:Int) (w:World) (S:Nat->Prop) (s:NM) (h:RM w b S s) :
 Calls prog 98 #[.pointer (some ⟨b,0,none⟩),.int .i64 who,.int .i64 i] w fun e w'=>e= .returned (.bool (s.flush who i).1)/\(RM w' b (upd S w w') (s.flush who i).2/\Fr S w w'):=by
 have HS:=zh h;obtain ⟨hi,wv,kv,pv,hv⟩:=h;obtain ⟨g,c,rfl⟩:=hv.wform hi.pos;have h0:=hv.cell0;have hfl:=hi.flush who i;unfold NM.flush at hfl ⊢;by_cases hok:0<=who/\who<=16/\0<=i/\i < s.W.length
 ·obtain ⟨k1,k2,k3,k4⟩:=hok;have ht:s.th i=true:=NM.th_iff.2 ⟨k3,k4⟩;have hs:NM.som who=true:=by simp [NM.som];omega
  rw [ht,hs] at hfl ⊢;obtain ⟨u,rfl⟩:=Int.eq_ofNat_of_zero_le k1;obtain ⟨n,rfl⟩:=Int.eq_ofNat_of_zero_le k3;have hoct:=hi.oct;have hsm:=hi.small;have hn8:n / 8 < s.W.length / 8:=zo;obtain ⟨gp,cp,hpv⟩:=hv.pform (i:=u) zo zo;have hcp:=hv.cellP (i:=u) zo;rw [hpv] at hcp;have hr:=hv.pr u zo;rw [hpv] at hr;have hc:w.cell? ⟨gp,n / 8,none⟩=some (.bool (decide (((u:Int),((n / 8:Nat):Int))∈s.P))):=by
   rw [hr.cellAt (n / 8) zo];exact kB _ hn8
  have hf:=hr.frozenAt (n / 8);obtain ⟨n1,n2⟩:=hv.storeP (i:=u) zo hpv (n / 8) true;have hdv:((n:Int) / 8)=((n / 8:Nat):Int):=zo;rw [hdv] at hfl ⊢;have e1:(fun j=>if j=u then (kU s u).set (n / 8) (.bool true) else kU s j)=kU { s with P:=NM.addP s.P ((u:Int),((n / 8:Nat):Int)) }:=by
   funext j;exact (jba u (n / 8) j).symm
  rw [e1] at n1;have HN:=zh n1;have HF:=zh n2;simp only [and_self,if_true] at hfl;have HI:=zh hfl;have hd1:decide ((s.W.length:Int)<=n)=false:=by simp;omega
  have hd2:decide ((16:Int) < u)=false:=by simp;omega
  have hu17:(u:Int) < 17:=zo;have hlt8:((n / 8:Nat):Int) < (s.W.length / 8:Nat):=zo;simp only [true_and,if_true];clear hv ht hs n1 n2 hfl hr e1 hpv hi;generalize n / 8=m at*
  generalize s.W.length / 8=q at*
  go_enter func98,ntmps98;go_wp2;go_ret;exact ⟨rfl,⟨HI.out,_,kv,pv,HN.out.up⟩,HF.out⟩
 ·have hno:¬(s.th i=true/\NM.som who=true):=by
   rintro ⟨ht,hs⟩;obtain ⟨t1,t2⟩:=NM.th_iff.1 ht;simp [NM.som] at hs;omega
  rw [if_neg hno];clear hv hfl hno;by_cases a1:who < 0
  ·skip;go_enter func98,ntmps98;go_wp2;go_ret;exact ⟨rfl,HS.out.same⟩
  ·by_cases a2:16 < who
   ·skip;go_enter func98,ntmps98;go_wp2;go_ret;exact ⟨rfl,HS.out.same⟩
   ·by_cases a3:i < 0
    ·have a2b:who<=16:=zo;go_enter func98,ntmps98;go_wp2;go_ret;exact ⟨rfl,HS.out.same⟩
    ·have a4:(s.W.length:Int)<=i:=zo;have a2b:who<=16:=zo;go_enter func98,ntmps98;go_wp2;go_ret;exact ⟨rfl,HS.out.same⟩

theorem bit_mod (n k:Nat):(((n:Int) / 2 ^ k).tmod 2 == 1)=NM.bitB (n:Int) k:=by
 have e:((n:Int) / 2 ^ k)=((n / 2 ^ k:Nat):Int):=zT;rw [e];unfold NM.bitB;rw [Int.toNat_natCast,Nat.testBit_eq_decide_div_mod_eq];generalize n / 2 ^ k=x;rw [Int.tmod_eq_emod_of_nonneg zo];rcases Nat.mod_two_eq_zero_or_one x with h | h
 ·have:(x:Int) % 2=0:=zo;rw [this,h];rfl
 ·have:(x:Int) % 2=1:=zo;rw [this,h];rfl
theorem ebit_any (m i:Nat) (w:World) (h:m<=255) (hi:i < 8) :
 Calls prog 155 #[.int .u32 m,.int .i64 i] w fun e w'=>e= .returned (.bool (NM.bitB m i))/\w=w':=by
 have hb:=bit_mod m i;generalize NM.bitB (m:Int) i=r at*
 go_enter func155,ntmps155;go_wp2;go_ret;exact ⟨rfl,rfl⟩
structure KqRel (w:World) (b:Nat) (S:Nat->Prop) (s:NM) (l:Nat) (m:Int) (wv kv:Value) (pv:Nat->Value) (vi:Value) (wr:World) (k:Nat):Prop where
 le:k<=8
 eq:vi= .int .i64 k
 ps:RQ wr b S s.W (NM.keepI s.W l m k s.K) wv kv pv 17 (kU s)
 fr:Fr S w wr
def KqRelE (w:World) (b:Nat) (S:Nat->Prop) (s:NM) (l:Nat) (m:Int) (wv kv:Value) (pv:Nat->Value) (vi:Value) (wr:World):Prop:=∃k,KqRel w b S s l m wv kv pv vi wr k
theorem jdp (n:Nat) (h:n<=255):IntKind.u32.wrap (n:Int)=n:=by rw [IntKind.wrap_u32];omega
theorem YS (b l m:Nat) (w:World) (S:Nat->Prop) (s:NM) (h:RM w b S s) (hl:l < s.W.length / 8) (hm1:1<=m) (hm2:m<=255) :
 Calls prog 100 #[.pointer (some ⟨b,0,none⟩),.int .i64 l,.int .i64 m] w fun e w'=>e= .returned (.bool true)/\(RM w' b (upd S w w') { s with K:=NM.keepI s.W l m 8 s.K }/\Fr S w w'):=by
 obtain ⟨hi,wv,kv,pv,hv⟩:=h;obtain ⟨g,c,rfl⟩:=hv.wform hi.pos;obtain ⟨gk,ck,rfl⟩:=hv.kform (by rw [hi.kl];exact hi.pos);have h0:=hv.cell0;have hs:=hi.small;have hkl:=hi.kl;have hku:∀v∈s.W,NM.U64 v:=hi.wu;have hev:=hi.evict (l:Int) (m:Int);have hok:s.okE l m=true:=by simp [NM.okE];omega
 unfold NM.evict at hev;rw [if_pos hok] at hev;have HI:=zh hev;have HV:=zh hv;have hwm:=jdp m hm2;have hdv:((s.W.length:Int) / 8)=((s.W.length / 8:Nat):Int):=zo;have hlq:(l:Int) < ((s.W.length / 8:Nat):Int):=zo;have h2m:=hm2;have hm1i:(1:Int)<=m:=zo;have hm2i:(m:Int)<=255:=zo;clear hv hi hev hok;generalize s.W.length / 8=q at*
 go_enter func100,ntmps100;go_wp2;go_loopw [7] (fun i wr=>KqRelE w b S s l m (.slice (some ⟨g,0,none⟩) s.W.length c) (.slice (some ⟨gk,0,none⟩) s.K.length ck) pv i wr) (fun i _=>8 - (intOf i).toNat);case atStart=>exact ⟨0,zo,rfl,HV.out,Fr.refl _ _⟩
 case round=>
  obtain ⟨k,hk,rfl,hp,hf⟩:=hrel;by_cases hlt:k < 8
  ·have q0:=hp.cell0;have q1:=hp.cell1;have hc:=(hp.wr.cellAt (8*l+k) zo).trans (qS zo);have hlen:(NM.keepI s.W l m k s.K).length=s.K.length:=NM.keepI_len _ _ _ _ _;have hkr:=hp.kr;rw [hlen] at hkr;have hc2:=(hkr.cellAt (8*l+k) zo).trans (qS zo);have hf2:=hkr.frozenAt (8*l+k);have hw1:IntKind.i64.wrap (8*(l:Int))=((8*l:Nat):Int):=jr _ zo;have hw2:IntKind.i64.wrap (((8*l:Nat):Int)+k)=((8*l+k:Nat):Int):=jr _ zo;have hw3:IntKind.i64.wrap (8*(l:Int)+k)=((8*l+k:Nat):Int):=jr _ zo;have hx1:((8*l+k:Nat):Int) < s.W.length:=zo;have hx2:((8*l+k:Nat):Int) < s.K.length:=zo;have hkl8:(k:Int) < 8:=zo;have hpd:=hp.drew;obtain ⟨x,hx⟩:∃x,s.W.getD (8*l+k) 0=x:=⟨_,rfl⟩
   rw [hx] at hc;generalize (NM.keepI s.W l m k s.K).getD (8*l+k) 0=y at*
   have hst:NM.bitB (m:Int) k=true->NM.keepI s.W l m (k+1) s.K=(NM.keepI s.W l m k s.K).set (8*l+k) x:=fun h=>by
    rw [show NM.keepI s.W l m (k+1) s.K=if NM.bitB (m:Int) k=true then (NM.keepI s.W l m k s.K).set (8*l+k) (s.W.getD (8*l+k) 0) else NM.keepI s.W l m k s.K from rfl,if_pos h,hx]
   have hno:NM.bitB (m:Int) k=false->NM.keepI s.W l m (k+1) s.K=NM.keepI s.W l m k s.K:=fun h=>by simp [NM.keepI,h]
   have HSt:=zh hst;have HNo:=zh hno;have HPd:=zh hpd;have HP:=zh hp;have HLn:=zh hlen;have hfd:=zh hf;have HB:=zh (fun W=>ebit_any m k W h2m hlt);obtain ⟨r,hr⟩:∃r,NM.bitB (m:Int) k=r:=⟨_,rfl⟩
   rw [hr] at HB HSt HNo;clear hst hno hpd hp hx hkr hlen hf hku hr;cases r
   ·have HE:=zh (HNo.out rfl);clear HNo HSt;go_wp2_with fail;refine zM (HB.out _) ?_;rintro w1 rfl;go_wp2;go_roundw;case rel=>exact ⟨k+1,zo,by go_num,by rw [HE.out];exact HP.out,hfd.out⟩
    case measure=>simp [intOf];omega
   ·have HE:=zh (HSt.out rfl);clear HNo HSt;go_wp2_with fail;refine zM (HB.out _) ?_;rintro w1 rfl;go_wp2;go_region;have h9:=HPd.out;rw [<-HLn.out] at h9;obtain ⟨n1,n2⟩:=h9.storeK (8*l+k) x;rw [HLn.out] at n1;have n3:Fr S w (wr.drew.setCell ⟨gk,8*l+k,none⟩ (.int .u64 x)):=hfd.out.drew.trans n2 (fun i hi=>Or.inl hi);rw [<-HE.out] at n1;have HN1:=zh n1;have HN3:=zh n3;clear n1 n2 n3 h9;go_wp2;go_roundw;case rel=>exact ⟨k+1,zo,by go_num,HN1.out,HN3.out⟩
    case measure=>simp [intOf];omega
  ·have hke:k=8:=zo;have hp8:=hp;rw [hke] at hp8;have hkl8:¬(k:Int) < 8:=zo;have HP:=zh hp8;have HF:=zh hf;clear hp hf hp8 hke;go_wp2;go_ret;exact ⟨rfl,⟨HI.out,_,_,pv,HP.out.up⟩,HF.out⟩
theorem jco (b:Nat) (l m:Int) (w:World) (S:Nat->Prop) (s:NM) (h:RM w b S s) :
 Calls prog 100 #[.pointer (some ⟨b,0,none⟩),.int .i64 l,.int .i64 m] w fun e w'=>e= .returned (.bool (s.evict l m).1)/\(RM w' b (upd S w w') (s.evict l m).2/\Fr S w w'):=by
 unfold NM.evict;cases ht:s.okE l m
 ·have hno:l < 0\/((s.W.length / 8:Nat):Int)<=l\/m < 1\/255 < m:=by
   simp only [NM.okE,Bool.and_eq_false_iff,decide_eq_false_iff_not] at ht;omega
  have hs:=h.1.small;have hpos:=h.1.pos;have HV:=zh h;obtain ⟨hi,wv,kv,pv,hv⟩:=h;obtain ⟨g,c,rfl⟩:=hv.wform hi.pos;have h0:=hv.cell0;have hdv:((s.W.length:Int) / 8)=((s.W.length / 8:Nat):Int):=zo;simp only [Bool.false_eq_true,if_false];clear hv ht hi;generalize s.W.length / 8=q at*
  by_cases h1:l < 0
  ·skip;go_enter func100,ntmps100;go_wp2;go_ret;exact ⟨rfl,HV.out.same⟩
  ·by_cases h2:(q:Int)<=l
   ·skip;go_enter func100,ntmps100;go_wp2;go_ret;exact ⟨rfl,HV.out.same⟩
   ·by_cases h3:m < 1
    ·have h2b:l < q:=zo;go_enter func100,ntmps100;go_wp2;go_ret;exact ⟨rfl,HV.out.same⟩
    ·have h4:255 < m:=zo;have h2b:l < q:=zo;go_enter func100,ntmps100;go_wp2;go_ret;exact ⟨rfl,HV.out.same⟩
 ·have hyes:0<=l/\l < ((s.W.length / 8:Nat):Int)/\1<=m/\m<=255:=by
   simp only [NM.okE,Bool.and_eq_true,decide_eq_true_eq] at ht;omega
  obtain ⟨y1,y2,y3,y4⟩:=hyes;obtain ⟨l',rfl⟩:=Int.eq_ofNat_of_zero_le y1;obtain ⟨m',rfl⟩:=Int.eq_ofNat_of_zero_le (show 0<=m by omega);exact YS b l' m' w S s h zo zo zo

theorem NM.steps_P (who:Int):∀(l:List Nat) (s:NM) (p:Int×Int),p∈(l.foldl (NM.step who) s).P↔p∈s.P/\∀x∈l,p≠(who,(x:Int))
 | [],s,p=>by simp
 | a :: l,s,p=>by
  rw [List.foldl_cons,NM.steps_P who l,NM.step_eq];dsimp only;rw [NM.mem_delP];simp only [List.mem_cons,forall_eq_or_imp,and_assoc]
def yT (s:NM) (who:Int) (k:Nat):List Nat:=(List.range k).filter fun l=>decide ((who,(l:Int))∈s.P)
theorem jeE {s:NM} {who:Int} {k:Nat} (h:(who,(k:Int))∈s.P):yT s who (k+1)=yT s who k++[k]:=by
 unfold yT;rw [List.range_succ,List.filter_append];simp [h]
theorem pendK_no {s:NM} {who:Int} {k:Nat} (h:(who,(k:Int)) ∉ s.P):yT s who (k+1)=yT s who k:=by
 unfold yT;rw [List.range_succ,List.filter_append];simp [h]
theorem jeF (s:NM) (who:Int) (k:Nat):(yT s who k).length<=k:=by
 unfold yT;have:=List.length_filter_le (fun l:Nat=>decide ((who,(l:Int))∈s.P)) (List.range k);simpa using this
theorem jcC {s:NM} {who:Int} {k:Nat}:(who,(k:Int))∈((yT s who k).foldl (NM.step who) s).P↔(who,(k:Int))∈s.P:=by
 rw [NM.steps_P];refine ⟨fun h=>h.1,fun h=>⟨h,fun x hx e=> ?_⟩⟩;have hx2:x < k:=by
  unfold yT at hx;have:=(List.mem_filter.1 hx).1;simpa using this
 simp at e;omega
theorem NM.fence_out {s:NM} (h:s.Inv) {who:Int} (hw:¬(0<=who/\who<=16)):s.pend who=[]:=by
 unfold NM.pend;refine List.filter_eq_nil_iff.2 fun l _=> ?_;simp only [decide_eq_true_eq];intro hm;obtain ⟨a0,a1,-,-⟩:=h.pb _ hm;exact hw ⟨a0,a1⟩
structure FqRel (w:World) (b:Nat) (S:Nat->Prop) (s:NM) (who:Int) (vn vl:Value) (wr:World) (k:Nat):Prop where
 le:k<=s.W.length / 8
 eq:vl= .int .i64 k
 en:vn= .int .i64 ((yT s who k).length:Nat)
 st:NSt RM w b S [] ((yT s who k).foldl (NM.step who) s) wr
def FqRelE (w:World) (b:Nat) (S:Nat->Prop) (s:NM) (who:Int) (vn vl:Value) (wr:World):Prop:=∃k,FqRel w b S s who vn vl wr k
theorem jcm (b:Nat) (who:Int) (w:World) (S:Nat->Prop) (s:NM) (h:RM w b S s) (hw:¬(0<=who/\who<=16)) :
 Calls prog 99 #[.pointer (some ⟨b,0,none⟩),.int .i64 who] w fun e w'=>e= .returned (.int .i64 (s.fence who).1)/\(RM w' b (upd S w w') (s.fence who).2/\Fr S w w'):=by
 have e1:s.fence who=(0,s):=by simp [NM.fence,NM.fence_out h.1 hw]
 rw [e1];have HS:=zh h;clear e1 h;by_cases a1:who < 0
 ·skip;go_enter func99,ntmps99;go_wp2;go_ret;exact ⟨rfl,HS.out.same⟩
 ·have a2:16 < who:=zo;go_enter func99,ntmps99;go_wp2;go_ret;exact ⟨rfl,HS.out.same⟩
theorem jd8 (b u:Nat) (w:World) (S:Nat->Prop) (s:NM) (h:RM w b S s) (hu:u<=16) :
 Calls prog 99 #[.pointer (some ⟨b,0,none⟩),.int .i64 u] w fun e w'=>e= .returned (.int .i64 (s.fence u).1)/\(RM w' b (upd S w w') (s.fence u).2/\Fr S w w'):=by
 have HS:=zh (NSt.start ke h);have hsm:=h.1.small;have hpos:=h.1.pos;have hoct:=h.1.oct;have hu17:(u:Int) < 17:=zo;have hu16:(u:Int)<=16:=zo;have hu0:¬(16:Int) < u:=zo;clear h;obtain ⟨q,hq⟩:∃q,s.W.length / 8=q:=⟨_,rfl⟩
 have HQ:=zh hq;go_enter func99,ntmps99;go_wp2;go_loopw [5,6] (fun vn vl wr=>FqRelE w b S s u vn vl wr) (fun _ vl _=>q - (intOf vl).toNat);case atStart=>exact ⟨0,zo,rfl,rfl,by simpa [yT] using HS.out⟩
 case round=>
  obtain ⟨k,hk,rfl,rfl,hst⟩:=hrel;rw [HQ.out] at hk;obtain ⟨S1,⟨hinv,wv,kv,pv,hrq⟩,hS1,hL1⟩:=hst.ex;have hW:=NM.steps_W (u:Int) (yT s u k) s;have hflag:=jcC (s:=s) (who:=(u:Int)) (k:=k);have hq8:((yT s u k).foldl (NM.step u) s).W.length / 8=q:=by rw [hW];exact HQ.out
  obtain ⟨gp,cp,hpv⟩:=hrq.pform (i:=u) zo (by rw [hq8,<-HQ.out];omega);have hcp:=hrq.cellP (i:=u) zo;rw [hpv,hq8] at hcp;have hlen:=jeF s u k;by_cases hlt:k < q
  ·have hkl:(k:Int) < q:=zo;have hr:=hrq.pr u zo;rw [hpv] at hr;have hc:wr.cell? ⟨gp,k,none⟩=some (.bool (decide (((u:Int),(k:Int))∈s.P))):=by
    rw [hr.cellAt k zo];rw [kU,kB _ zo];simp [hflag]
   by_cases hm:((u:Int),(k:Int))∈s.P
   ·have hmd:decide (((u:Int),(k:Int))∈s.P)=true:=by simpa using hm
    rw [hmd] at hc;have hK1:=jeE hm;have hfo:((yT s u (k+1)).foldl (NM.step u) s)=NM.step u ((yT s u k).foldl (NM.step u) s) k:=by rw [hK1,List.foldl_append];rfl
    have hl1:(yT s u (k+1)).length=(yT s u k).length+1:=by rw [hK1];simp
    obtain ⟨st,hstt⟩:∃st,(yT s u k).foldl (NM.step u) s=st:=⟨_,rfl⟩
    obtain ⟨z,hz⟩:∃z,(yT s u k).length=z:=⟨_,rfl⟩
    rw [hstt] at hst hfo hW hq8 hinv hrq;rw [hz] at hl1 hlen ⊢;have HSt:=zh hst;have HFo:=zh hfo;have HL1:=zh hl1;have HIn:=zh (hinv.step u k);have hW8:=zh hq8;have HE:=zh (fun S1 (h1:RM wr b S1 st)=>YS b k 255 wr S1 st h1 (by rw [hq8];exact hlt) zo zo);clear hst hrq hr hpv hflag hm hmd hK1 hfo hl1 hstt hz hq8 hinv hW hS1 hL1;go_wp2_with fail;refine zM (yE HSt.out HE.out) ?_;rintro w2 ⟨hn2,-⟩;obtain ⟨S2,⟨hi2,wv2,kv2,pv2,hr2⟩,hS2,hL2⟩:=hn2.ex;obtain ⟨gq,cq,hpv2⟩:=hr2.pform (i:=u) zo (by show 0 < st.W.length / 8;rw [hW8.out];omega);have hcp2:=hr2.cellP (i:=u) zo;have hrow2:=hr2.pr u zo;rw [hpv2] at hcp2 hrow2;have hW8b:st.W.length / 8=q:=hW8.out;rw [show ({ W:=st.W,K:=NM.keepI st.W k ((255:Nat):Int) 8 st.K,P:=st.P }:NM).W.length / 8=q from hW8b] at hcp2;have hc2:∃bb,w2.cell? ⟨gq,k,none⟩=some (.bool bb):=by
     have h1:=hrow2.cellAt k (by show k < st.W.length / 8*1;omega);unfold kU at h1;rw [kB _ (by show k < st.W.length / 8;omega)] at h1;exact ⟨_,h1⟩
    obtain ⟨bb,hc2⟩:=hc2;have hf2:=hrow2.frozenAt k;obtain ⟨n1,n2⟩:=hr2.storeP (i:=u) zo hpv2 k false;have e1:(fun j=>if j=u then (kU { W:=st.W,K:=NM.keepI st.W k ((255:Nat):Int) 8 st.K,P:=st.P } u).set k (.bool false) else kU { W:=st.W,K:=NM.keepI st.W k ((255:Nat):Int) 8 st.K,P:=st.P } j)=kU (NM.step u st k):=by
     funext j;exact (ja9 (s:={ W:=st.W,K:=NM.keepI st.W k ((255:Nat):Int) 8 st.K,P:=st.P }) u k _ j).symm
    rw [e1] at n1;obtain ⟨n3,-⟩:=hn2.turn (s':=NM.step u st k) hS2 hL2 ⟨HIn.out,_,_,_,n1⟩ n2;have HN3:=zh n3;clear hn2 hr2 hrow2 hi2 hS2 hL2 n1 n2 n3 e1 hpv2;go_wp2;go_roundw;case rel=>exact ⟨k+1,by rw [HQ.out];omega,by go_num,by rw [HL1.out];go_num,by rw [HFo.out];exact HN3.out⟩
    case measure=>simp [intOf];omega
   ·have hmd:decide (((u:Int),(k:Int))∈s.P)=false:=by simpa using hm
    rw [hmd] at hc;have HK1:=zh (pendK_no hm);have HSt:=zh hst;clear hst hrq hr hpv hflag hm hmd hq8 hinv hW hS1 hL1;go_wp2;go_roundw;case rel=>exact ⟨k+1,by rw [HQ.out];omega,by go_num,by rw [HK1.out],by rw [HK1.out];exact HSt.out⟩
    case measure=>simp [intOf];omega
  ·have hke:k=s.W.length / 8:=by rw [HQ.out];omega
   have hkl:¬(k:Int) < q:=zo;have hd:=hst.done ke;have hfe:s.fence u=((((yT s u k).length:Nat):Int),(yT s u k).foldl (NM.step u) s):=by rw [hke];rfl
   have HFe:=zh hfe;have HD:=zh hd;clear hst hrq hpv hflag hd hke hfe hq8 hinv hW hS1 hL1;go_wp2;go_ret;rw [HFe.out];exact ⟨rfl,HD.out⟩
theorem jcn (b:Nat) (who:Int) (w:World) (S:Nat->Prop) (s:NM) (h:RM w b S s) :
 Calls prog 99 #[.pointer (some ⟨b,0,none⟩),.int .i64 who] w fun e w'=>e= .returned (.int .i64 (s.fence who).1)/\(RM w' b (upd S w w') (s.fence who).2/\Fr S w w'):=by
 by_cases hw:0<=who/\who<=16
 ·obtain ⟨u,rfl⟩:=Int.eq_ofNat_of_zero_le hw.1;exact jd8 b u w S s h zo
 ·exact jcm b who w S s h hw
theorem XG {w:World} {B e sz n:Nat} {v:Value} {xs:List Value} (h:w.ownsRow 0 e sz v n xs) (hB:∀x,v.ownBlock=some x->B<=x):w.ownsRow B e sz v n xs:=by
 rcases h.2 with ⟨h0,h1⟩ | ⟨g,cap,cur,rfl,h1,h2⟩
 ·exact ⟨h.1,Or.inl ⟨h0,h1⟩⟩
 ·exact ⟨h.1,Or.inr ⟨g,cap,cur,rfl,hB g rfl,h2⟩⟩

theorem jfg:(prog.info? 4).map (fun i=>(i.zero,i.size,i.bytes))=some (some (.bool false),1,1):=by kernel_rfl
def Ky (n:Nat):List Value:=Js n fun _=> .bool false
theorem made_row (w:World) (n:Nat) (h:n<=8192):(w.alloc (.cells (madeCells #[.bool false] n) 4)).ownsRow w.heap.size 4 1 (.slice (some ⟨w.heap.size,0,none⟩) n n) n (Ky n):=by
 have hl:(madeCells #[Value.bool false] n).toList=List.replicate n (.bool false):=toList_madeCells_one _ _;have hr:Ky n=List.replicate n (.bool false):=List.ext_getElem (by simp [Ky,Js]) (by intros;simp [Ky,Js]);have hs:(madeCells #[Value.bool false] n).size=n:=by
  have:=congrArg List.length hl;simpa using this
 refine ⟨by simp [Ky,Jx],Or.inr ⟨w.heap.size,n,_,rfl,Nat.le_refl _,heap_alloc_new w _,Nat.le_refl _,by unfold maxLen;omega,by rw [hs];omega,?_⟩⟩;rw [hl,hr];simp
theorem RQ.setRow {w:World} {b:Nat} {S S':Nat->Prop} {W K:List Int} {wv kv:Value} {pv:Nat->Value} {k:Nat} (h:RQ w b S W K wv kv pv k (fun _=>Ky (W.length / 8))) (hk:k < 17) (hn:W.length / 8<=8192)
 (hs:∀x,S x->S' x) (hs2:S' w.heap.size) (hl:∀x,S' x->x < w.heap.size+1) :
 RQ ((w.alloc (.cells (madeCells #[.bool false] (W.length / 8)) 4)).setCell ⟨b,2+k,none⟩ (.slice (some ⟨w.heap.size,0,none⟩) (W.length / 8) (W.length / 8))) b S' W K wv kv (fun j=>if j=k then .slice (some ⟨w.heap.size,0,none⟩) (W.length / 8) (W.length / 8) else pv j) (k+1) (fun _=>Ky (W.length / 8)):=by
 have hbl:=h.lt b h.inb;have ho:∀x,x≠b->x < w.heap.size->((w.alloc (.cells (madeCells #[.bool false] (W.length / 8)) 4)).setCell ⟨b,2+k,none⟩ (.slice (some ⟨w.heap.size,0,none⟩) (W.length / 8) (W.length / 8))).heap[x]? =w.heap[x]? :=fun x hx hx2=>(ji hx).trans (Below.heap_alloc _ _ _ hx2);have hnew:=made_row w (W.length / 8) hn;have hpl:∀i,i < k->∀x,(pv i).ownBlock=some x->x < w.heap.size:=fun i hi x hx=>h.lt x (h.inp i hi x hx);obtain ⟨cs,h1,h2,h3,h4,h5⟩:=h.box;refine ⟨⟨cs.setIfInBounds (2+k) (.slice (some ⟨w.heap.size,0,none⟩) (W.length / 8) (W.length / 8)),jH ((Below.heap_alloc _ _ _ hbl).trans h1),by simpa using h2,?_,?_,?_⟩,je h.wr fun x hx=>ho x (fun e=>h.wb (e ▸ hx)) (jn h.wr hx),je h.kr fun x hx=>ho x (fun e=>h.kb (e ▸ hx)) (jn h.kr hx),?_,h.ne,?_,hs _ h.inb,fun x hx=>hs x (h.inw x hx),fun x hx=>hs x (h.ink x hx),?_,fun x hx=>by simpa using hl x hx⟩
 ·rw [Array.getElem?_setIfInBounds,if_neg zo];exact h3
 ·rw [Array.getElem?_setIfInBounds,if_neg zo];exact h4
 ·intro i hi;rw [Array.getElem?_setIfInBounds];by_cases hik:i=k
  ·subst hik;rw [if_pos rfl,if_pos zo,if_pos rfl]
  ·rw [if_neg zo,if_neg hik];exact h5 i hi
 ·intro i hi;by_cases hik:i=k
  ·subst hik;rw [if_pos rfl];exact je (Joins.ownsRow_le hnew (Nat.zero_le _)) fun x hx=>by
    simp [Value.ownBlock] at hx;subst hx;exact ji zo
  ·rw [if_neg hik];have hi2:i < k:=zo;exact je (h.pr i hi2) fun x hx=>ho x (fun e=>h.pb hi2 (e ▸ hx)) (hpl i hi2 x hx)
 ·intro i hi j hj hij x hx;by_cases hik:i=k
  ·rw [if_pos hik] at hx;simp [Value.ownBlock] at hx;rw [if_neg zo];intro hx2;have:=hpl j zo x hx2;omega
  ·rw [if_neg hik] at hx;have hxl:=hpl i zo x hx;by_cases hjk:j=k
   ·rw [if_pos hjk];simp [Value.ownBlock];omega
   ·rw [if_neg hjk];exact h.pd i zo j zo hij x hx
 ·intro i hi x hx;by_cases hik:i=k
  ·rw [if_pos hik] at hx;simp [Value.ownBlock] at hx;subst hx;exact hs2
  ·rw [if_neg hik] at hx;exact hs x (h.inp i zo x hx)
structure QuRel (w:World) (b:Nat) (S:Nat->Prop) (W K:List Int) (wv kv:Value) (vi:Value) (wr:World) (k:Nat) (pv:Nat->Value):Prop where
 le:k<=17
 eq:vi= .int .i64 k
 rq:RQ wr b (upd S w wr) W K wv kv pv k (fun _=>Ky (W.length / 8))
 fr:Fr S w wr
def QuRelE (w:World) (b:Nat) (S:Nat->Prop) (W K:List Int) (wv kv:Value) (vi:Value) (wr:World):Prop:=∃k pv,QuRel w b S W K wv kv vi wr k pv
theorem YP (b:Nat) (w:World) (S:Nat->Prop) (W K:List Int) (wv kv:Value) (pv:Nat->Value) (rows:Nat->List Value) (h:RQ w b S W K wv kv pv 0 rows) (h1:W.length<=65536) (h0:0 < W.length) :
 Calls prog 36 #[.pointer (some ⟨b,0,none⟩)] w fun e w'=>e= .returned (.tuple #[])/\((∃pv',RQ w' b (upd S w w') W K wv kv pv' 17 (fun _=>Ky (W.length / 8)))/\Fr S w w'):=by
 obtain ⟨g,c,rfl⟩:=h.wform h0;have H0:=zh (show RQ w b S W K (.slice (some ⟨g,0,none⟩) W.length c) kv pv 0 (fun _=>Ky (W.length / 8)) from ⟨h.box,h.wr,h.kr,fun i hi=>absurd hi zo,h.ne,fun i hi=>absurd hi zo,h.inb,h.inw,h.ink,fun i hi=>absurd hi zo,h.lt⟩);clear h;go_enter func36,ntmps36;go_wp2;go_loopw [2] (fun vi wr=>QuRelE w b S W K (.slice (some ⟨g,0,none⟩) W.length c) kv vi wr) (fun vi _=>17 - (intOf vi).toNat);case atStart=>exact ⟨0,pv,zo,rfl,H0.out.up,Fr.refl _ _⟩
 case round=>
  obtain ⟨k,pv',hk,rfl,hrq,hfr⟩:=hrel;have hdv:(W.length:Int) / 8=((W.length / 8:Nat):Int):=zo;by_cases hlt:k < 17
  ·have hkl:(k:Int) < 17:=zo;have q0:=hrq.cell0;have qk:=hrq.cellP hlt;have qf:=hrq.froz (2+k);have hset:=RQ.setRow hrq.drew (S':=upd S w ((wr.drew.alloc (.cells (madeCells #[.bool false] (W.length / 8)) 4)).setCell ⟨b,2+k,none⟩ (.slice (some ⟨wr.drew.heap.size,0,none⟩) (W.length / 8) (W.length / 8)))) hlt zo (fun x hx=>by rcases hx with hx | hx;exact Or.inl hx;exact Or.inr ⟨hx.1,by simp;omega⟩) (Or.inr ⟨hfr.size,zT⟩) (fun x hx=>by
    rcases hx with hx | hx
    ·have h2:=H0.out.lt x hx;have h3:=hfr.size;show x < wr.heap.size+1;omega
    ·have:=hx.2;simpa using this)
   have hF:Fr S w ((wr.drew.alloc (.cells (madeCells #[.bool false] (W.length / 8)) 4)).setCell ⟨b,2+k,none⟩ (.slice (some ⟨wr.drew.heap.size,0,none⟩) (W.length / 8) (W.length / 8))):=(hfr.drew.alloc _).setCell _ _ (Or.inl H0.out.inb);have hbs:b < wr.heap.size:=hrq.lt b hrq.inb;have hcm:(wr.drew.alloc (.cells (madeCells #[.bool false] (W.length / 8)) 4)).setCell ⟨b,2+k,none⟩ (.slice (some ⟨wr.heap.size,0,none⟩) (W.length / 8) (W.length / 8))=((wr.setCell ⟨b,2+k,none⟩ (.slice (some ⟨wr.heap.size,0,none⟩) (W.length / 8) (W.length / 8))).alloc (.cells (madeCells #[.bool false] (W.length / 8)) 4)).drew:=by
    exact World.setCell_alloc_past (w:=wr.drew) _ _ _ _ hbs
   rw [show wr.drew.heap.size=wr.heap.size from rfl,hcm] at hset hF;clear hcm;have HSet:=zh hset;have HF:=zh hF;have hn8:W.length / 8<=8192:=zo;clear hrq hset hF hfr;have hmk:∀w:World,(Instr.makeSlice 60 (.int .i64 ((W.length / 8:Nat):Int)) (.int .i64 ((W.length / 8:Nat):Int))).run prog w= .ok (.slice (some ⟨w.heap.size,0,none⟩) (W.length / 8) (W.length / 8)) (w.alloc (.cells (madeCells #[.bool false] (W.length / 8)) 4)):=run_make_row' (P:=prog) 60 4 (.bool false) 1 underlying60 jfg rfl .i64 .i64 (W.length / 8) zo zo;generalize hq:W.length / 8=q at*
   have HQ:=zh hq;clear hq;go_wp2;go_region;go_wp2;go_roundw;case rel=>exact ⟨k+1,_,zo,by go_num,by have h:=HSet.out;rw [HQ.out];exact h,HF.out⟩
   case measure=>simp [intOf];omega
  ·have hke:k=17:=zo;have hkl:¬(k:Int) < 17:=zo;rw [hke] at hrq;have HQ:=zh hrq;have HF:=zh hfr;clear hrq hfr hke hdv;go_wp2;go_end0;exact ⟨rfl,⟨pv',HQ.out⟩,HF.out⟩

theorem RQ.newW {w w2:World} {b:Nat} {S:Nat->Prop} {W K X:List Int} {wv kv v:Value} {pv:Nat->Value} {k:Nat} {rows rows':Nat->List Value} (h:RQ w b S W K wv kv pv k rows) (hb:Below w.heap.size w w2)
 (hr:w2.ownsRow 0 38 1 v X.length (yl X)) (ho:∀x,v.ownBlock=some x->w.heap.size<=x) :
 RQ (w2.setCell ⟨b,0,none⟩ v) b (upd S w (w2.setCell ⟨b,0,none⟩ v)) X K v kv pv 0 rows'/\Fr S w (w2.setCell ⟨b,0,none⟩ v):=by
 have hz:=hb.size;have F:Fr S w (w2.setCell ⟨b,0,none⟩ v):=((Fr.refl S w).trans (S1:=fun _=>False) (Fr.of_below hb) (fun _ x=>x.elim)).setCell _ _ (Or.inl h.inb);have hbl:=h.lt b h.inb;obtain ⟨cs,h1,h2,h3,h4,h5⟩:=h.box;have hs:(w2.setCell ⟨b,0,none⟩ v).heap.size=w2.heap.size:=zT;refine ⟨⟨⟨cs.setIfInBounds 0 v,jH ((hb.block b hbl).trans h1),by simpa using h2,?_,?_,?_⟩,?_,?_,fun i hi=>absurd hi zo,?_,fun i hi=>absurd hi zo,Or.inl h.inb,?_,?_,fun i hi=>absurd hi zo,?_⟩,F⟩
 ·rw [Array.getElem?_setIfInBounds,if_pos rfl,if_pos zo]
 ·rw [Array.getElem?_setIfInBounds,if_neg zo];exact h4
 ·intro i hi;rw [Array.getElem?_setIfInBounds,if_neg zo];exact h5 i hi
 ·exact je hr fun x hx=>ji (fun e=>by have:=ho x hx;omega)
 ·exact je h.kr fun x hx=>(ji (fun e=>h.kb (by rw [<-e];exact hx))).trans (hb.block x (jn h.kr hx))
 ·intro x hx hx2;have:=ho x hx;have:=jn h.kr hx2;omega
 ·intro x hx;have:=jn hr hx;exact Or.inr ⟨ho x hx,zo⟩
 ·intro x hx;exact Or.inl (h.ink x hx)
 ·intro x hx;rcases hx with hx | hx
  ·have:=h.lt x hx;omega
  ·exact hx.2
theorem RM.of_quiet {w:World} {b:Nat} {S:Nat->Prop} {s:NM} {wv kv:Value} {pv:Nat->Value} (h:RQ w b S s.W s.K wv kv pv 17 (fun _=>Ky (s.W.length / 8))) (hi:s.Inv) (hp:s.P=[]):RM w b S s:=by
 refine ⟨hi,wv,kv,pv,?_⟩;have e:kU s=fun _=>Ky (s.W.length / 8):=by
  funext i;simp [kU,Ky,hp]
 rw [e];exact h
theorem jcp (b:Nat) (w:World) (S:Nat->Prop) (s:NM) (h:RM w b S s) :
 Calls prog 101 #[.pointer (some ⟨b,0,none⟩)] w fun e w'=>e= .returned (.tuple #[])/\(RM w' b (upd S w w') s.crash/\Fr S w w'):=by
 obtain ⟨hi,wv,kv,pv,hv⟩:=h;obtain ⟨gk,ck,rfl⟩:=hv.kform (by rw [hi.kl];exact hi.pos);have h0:=hv.cell0;have h1:=hv.cell1;have hf:=hv.froz 0;have hbl:=hv.lt b hv.inb;have hgl:=jn hv.kr rfl;have hs:s.K.length<=65536:=by rw [hi.kl];exact hi.small
 have hpos:0 < s.K.length:=by rw [hi.kl];exact hi.pos
 have HV:=zh hv;have HI:=zh hi.crash;obtain ⟨i0,hi0,hi1,hi2,hi3⟩:=info_parts VO;have HT:=zh (And.intro hi0 (And.intro hi1 (And.intro hi2 hi3)));have HC:=zh (fun j u (hj:(yl s.K)[j]? =some u)=>(hv.kr.cells (g:=gk) rfl j u hj));have HC1:=zh (fun u (hu:u∈yl s.K)=>(by obtain ⟨z,-,rfl⟩:=List.mem_map.1 hu;rfl:u.oneCell'=true));clear hv hi hi0 hi1 hi2 hi3;go_enter func101,ntmps101;go_wp2_with (at_builtin;go_must (refine jR rfl _ _ rfl 38 i0 (.int .u64 0) 1 8 underlying24 HT.out.1 HT.out.2.1 HT.out.2.2.1 HT.out.2.2.2 rfl zd (.slice (some ⟨w.heap.size,0,none⟩) 0 0) 0 [] rfl (qC w 38 1) ⟨gk,0,none⟩ s.K.length ck (yl s.K) rfl (by rw [yH,Nat.mul_one]) ?c0 HC1.out ?c2 ?c3 ?_);go_must (case c0=>(exact fun j u hj=>(World.cell?_alloc_lt (w:=w) (a:=(⟨gk,0,none⟩:Addr).add j) _ (World.block_lt_of_cell? w _ (HC.out j u hj))).trans (HC.out j u hj)));go_must (case c2=>(unfold maxLen;omega));go_must (case c3=>(omega));go_must (intro v' w5 hown5 hg5 hnew5 hnil5);clear hnil5;go_must (obtain ⟨g',cap',rfl⟩:=Joins.ownsRow_form hown5 zo);go_must (have hB5:Below w.heap.size w w5:=((Below.refl w.heap.size w).alloc (Nat.le_refl _) _).grown hg5 zT (fun x hx=>by simp [Value.ownBlock] at hx;omega));go_must (rw [Nat.zero_add] at hown5 hnew5 ⊢);go_must (rw [List.nil_append] at hown5);go_must (have HCr:=zh (HV.out.newW (rows':=fun _=>Ky (s.K.length / 8)) hB5 hown5 (fun x hx=>by rcases hnew5 x hx with h1 | h1;(simp [Value.ownBlock] at h1;omega);(simp at h1;omega))));go_must (have q0:=(hB5.cell (p:=⟨b,0,none⟩) hbl).trans h0);go_must (have qf:w5.frozen? ⟨b,0,none⟩=false:=(World.frozen?_of_block (hB5.block b hbl)).trans hf);clear hg5 hnew5 hB5 hown5);have HN1:=zh HCr.out.1;have HN2:=zh HCr.out.2;clear HCr;refine zM (YP b _ _ s.K s.K _ _ _ _ HN1.out hs hpos) ?_;rintro w6 ⟨⟨pv',h6⟩,f6⟩;have H6:=zh (show RM w6 b (upd S w w6) s.crash from RM.of_quiet (s:=s.crash) (h6.move (fun _ _=>rfl) (fun x hx=>by
  have hz:=HN2.out.size;rcases hx with (hx | hx) | hx
  ·exact Or.inl hx
  ·exact Or.inr ⟨hx.1,Nat.lt_of_lt_of_le hx.2 f6.size⟩
  ·exact Or.inr ⟨zo,hx.2⟩) (fun x hx=>by
  have hz:=HN2.out.size;have hz2:=f6.size;rcases hx with hx | hx
  ·have:=HV.out.lt x hx;omega
  ·exact hx.2)) HI.out rfl)
 have F6:=zh (show Fr S w w6 from HN2.out.trans f6 (fun x hx=>by
  rcases hx with hx | hx
  ·exact Or.inl hx
  ·exact Or.inr hx.1))
 clear h6 f6;go_wp2;go_end0;exact ⟨rfl,H6.out,F6.out⟩

def NewRP (w:World) (s:NM) (e:Ending) (w':World):Prop:=∃b,e= .returned (.pointer (some ⟨b,0,none⟩))/\w.heap.size<=b/\(∃S,RM w' b S s/\∀k,S k->w.heap.size<=k)/\Below w.heap.size w w'
structure Vi (w w':World) (v:Value) (n:Nat) (xs:List Int):Prop where
 row:w'.ownsRow w.heap.size 38 1 v n (yl xs)
 bel:Below w.heap.size w w'
theorem Vi.of {w w1 w5:World} {v:Value} {n:Nat} {xs:List Int} (hw:Below w.heap.size w w1) (hown:w5.ownsRow 0 38 1 v n (yl xs)) (hg:(w1.alloc (.cells #[] 38)).grownBy w5 (some w1.heap.size)) (hn:∀k,v.ownBlock=some k->(Value.slice (some ⟨w1.heap.size,0,none⟩) 0 0).ownBlock=some k\/(w1.alloc (.cells #[] 38)).heap.size<=k) :
 Vi w1 w5 v n xs/\Below w.heap.size w w5:=by
 have hz:=hw.size;have hb:Below w1.heap.size w1 w5:=((Below.refl w1.heap.size w1).alloc (Nat.le_refl _) _).grown hg zT (fun x hx=>by simp at hx;omega);refine ⟨⟨XG hown fun x hx=> ?_,hb⟩,hw.trans (hb.mono hz)⟩;rcases hn x hx with h1 | h1
 ·simp [Value.ownBlock] at h1;omega
 ·simp at h1;omega
def nilM (v1 v2:Value):Array Value:=#[v1,v2,.slice none 0 0,.slice none 0 0,.slice none 0 0,.slice none 0 0,.slice none 0 0,.slice none 0 0,.slice none 0 0,.slice none 0 0,.slice none 0 0,.slice none 0 0,.slice none 0 0,.slice none 0 0,.slice none 0 0,.slice none 0 0,.slice none 0 0,.slice none 0 0,.slice none 0 0]
theorem rq_made {w w1 w2:World} {v1 v2:Value} {W K:List Int} {rows:Nat->List Value} (h1:Vi w w1 v1 W.length W) (h2:Vi w1 w2 v2 K.length K) :
 RQ (w2.alloc (.cells (nilM v1 v2) 63)) w2.heap.size (fun k=>w.heap.size<=k/\k < w2.heap.size+1) W K v1 v2 (fun _=> .slice none 0 0) 0 rows/\Below w.heap.size w (w2.alloc (.cells (nilM v1 v2) 63)):=by
 have z1:=h1.bel.size;have z2:=h2.bel.size;have hw1:w2.ownsRow w.heap.size 38 1 v1 W.length (yl W):=y9 h1.row fun k hk=>h2.bel.block k (h1.row.lt k hk).2;have hw2:w2.ownsRow w.heap.size 38 1 v2 K.length (yl K):=Joins.ownsRow_le h2.row z1;refine ⟨⟨⟨nilM v1 v2,heap_alloc_new w2 _,rfl,rfl,rfl,?_⟩,Joins.ownsRow_le (hw1.alloc _) (Nat.zero_le _),Joins.ownsRow_le (hw2.alloc _) (Nat.zero_le _),fun i hi=>absurd hi zo,?_,fun i hi=>absurd hi zo,⟨zo,zo⟩,?_,?_,fun i hi=>absurd hi zo,fun x hx=>by simpa using hx.2⟩,(h1.bel.trans (h2.bel.mono z1)).alloc zo _⟩
 ·intro i hi;have:i=0\/i=1\/i=2\/i=3\/i=4\/i=5\/i=6\/i=7\/i=8\/i=9\/i=10\/i=11\/i=12\/i=13\/i=14\/i=15\/i=16:=zo;rcases this with rfl | rfl | rfl | rfl | rfl | rfl | rfl | rfl | rfl | rfl | rfl | rfl | rfl | rfl | rfl | rfl | rfl <;> rfl
 ·intro x hx hx2;have:=(h1.row.lt x hx).2;have:=(h2.row.lt x hx2).1;omega
 ·intro x hx;have:=hw1.lt x hx;exact ⟨this.1,zo⟩
 ·intro x hx;have:=hw2.lt x hx;exact ⟨this.1,zo⟩
theorem rnew_any (ad:Addr) (n c:Nat) (xs:List Int) (w:World) (hl:xs.length=n) (h1:n≠0) (h2:n % 8=0) (h3:n<=65536) (hu:∀v∈xs,NM.U64 v) (hc:∀j,j < n->w.cell? (ad.add j)=some (.int .u64 (xs.getD j 0))) :
 Calls prog 10 #[.slice (some ad) n c] w (NewRP w ⟨xs,xs,[]⟩):=by
 have h1b:¬(n:Int) < 8:=zo;have h2b:((n:Int) % 8 != 0)=false:=by simp;omega
 have h3b:¬(65536:Int) < n:=zo;have HI:=zh (NM.new_inv (xs:=xs) zo zo zo hu);have HL:=zh hl;have HN0:=zh (show 0 < n by omega);obtain ⟨i0,hi0,hi1,hi2,hi3⟩:=info_parts VO;have HT:=zh (And.intro hi0 (And.intro hi1 (And.intro hi2 hi3)));have HC:=zh (fun j u (hj:(yl xs)[j]? =some u)=>show w.cell? (ad.add j)=some u by
  have hjl:j < xs.length:=by
   by_cases hjl:j < xs.length
   ·exact hjl
   ·rw [List.getElem?_eq_none (by rw [yH];omega)] at hj;cases hj
  rw [hc j zo];rw [qS hjl] at hj;exact hj)
 have HC1:=zh (fun u (hu:u∈yl xs)=>(by obtain ⟨z,-,rfl⟩:=List.mem_map.1 hu;rfl:u.oneCell'=true));clear hc hu h1 h2 hl hi0 hi1 hi2 hi3;go_enter func10,ntmps10;have T0:=zh (Below.refl w.heap.size w);go_wp2_with (first | (have tok:=T0;at_builtin;go_must (refine jR rfl _ _ rfl 38 i0 (.int .u64 0) 1 8 underlying24 HT.out.1 HT.out.2.1 HT.out.2.2.1 HT.out.2.2.2 rfl zd (.slice (some ⟨w.heap.size,0,none⟩) 0 0) 0 [] rfl (qC w 38 1) ad n c (yl xs) rfl (by rw [yH,HL.out,Nat.mul_one]) ?c0 HC1.out ?c2 ?c3 ?_);go_must (case c0=>(exact fun j u hj=>(World.cell?_alloc_lt (w:=w) (a:=ad.add j) _ (World.block_lt_of_cell? w _ (HC.out j u hj))).trans (HC.out j u hj)));go_must (case c2=>(unfold maxLen;omega));go_must (case c3=>(omega));go_must (intro v' w1 hown hg hnew hnil);clear hnil;go_must (obtain ⟨g',cap',rfl⟩:=Joins.ownsRow_form hown (by have:=HN0.out;omega));go_must (rw [Nat.zero_add] at hown hnew ⊢);go_must (rw [List.nil_append] at hown);go_must (have R1:=zh (Vi.of T0.out hown hg hnew));clear hown hg hnew tok T0;go_must (have T1:=zh R1.out.2)) | (have tok:=T1;at_builtin;go_must (refine jR rfl _ _ rfl 38 i0 (.int .u64 0) 1 8 underlying24 HT.out.1 HT.out.2.1 HT.out.2.2.1 HT.out.2.2.2 rfl zd (.slice (some ⟨w1.heap.size,0,none⟩) 0 0) 0 [] rfl (qC w1 38 1) ad n c (yl xs) rfl (by rw [yH,HL.out,Nat.mul_one]) ?c0 HC1.out ?c2 ?c3 ?_);go_must (case c0=>(exact fun j u hj=>((T1.out.alloc T1.out.size _).cell (World.block_lt_of_cell? w _ (HC.out j u hj))).trans (HC.out j u hj)));go_must (case c2=>(unfold maxLen;omega));go_must (case c3=>(omega));go_must (intro v' w2 hown hg hnew hnil);clear hnil;go_must (obtain ⟨g',cap',rfl⟩:=Joins.ownsRow_form hown (by have:=HN0.out;omega));go_must (rw [Nat.zero_add] at hown hnew ⊢);go_must (rw [List.nil_append] at hown);go_must (have R2:=zh (Vi.of T1.out hown hg hnew));clear hown hg hnew tok T1));obtain ⟨n1,n2⟩:=rq_made (rows:=fun _=>Ky (xs.length / 8)) (w:=w) (w1:=w1) (w2:=w2) (W:=xs) (K:=xs) (by rw [HL.out];exact R1.out.1) (by rw [HL.out];exact R2.out.1);have N1:=zh n1;have N2:=zh n2;have hz2:=R2.out.2.size;clear n1 n2;refine zM (YP _ _ _ xs xs _ _ _ _ N1.out (by rw [HL.out];exact h3) (by rw [HL.out];exact HN0.out)) ?_;rintro w6 ⟨⟨pv',h6⟩,f6⟩;have hz6:=f6.size;rw [World.size_alloc] at hz6;have H6:=zh (show RM w6 w2.heap.size (fun k=>w.heap.size<=k/\k < w6.heap.size) ⟨xs,xs,[]⟩ from RM.of_quiet (s:=⟨xs,xs,[]⟩) (h6.move (fun _ _=>rfl) (fun x hx=>by
  rcases hx with hx | hx
  ·exact ⟨hx.1,zo⟩
  ·have h1:=hx.1;rw [World.size_alloc] at h1;exact ⟨zo,hx.2⟩) (fun x hx=>hx.2)) HI.out rfl)
 have B6:=zh (show Below w.heap.size w w6 from N2.out.trans (f6.below N2.out.size (fun x hx=>hx.1)));clear h6 f6 hz6;go_wp2;go_ret;exact ⟨_,rfl,hz2,⟨_,H6.out,fun k hk=>hk.1⟩,B6.out⟩

theorem rdo_load (b:Nat) (who at_ mask old val:Int) (w:World) (S:Nat->Prop) (s:NM) (h:RM w b S s) (hu:NM.U64 val) :
 Calls prog 55 #[.pointer (some ⟨b,0,none⟩),J2 ⟨1,who,at_,mask,old,val⟩] w fun e w'=>e= .returned (V2 s ⟨1,who,at_,mask,old,val⟩)/\(RM w' b (upd S w w') (s.act ⟨1,who,at_,mask,old,val⟩).2/\Fr S w w'):=by
 have HS:=zh ((NSt.start ke h).alloc ke (.cells #[.int .i64 1,.int .i64 who,.int .i64 at_,.int .i64 mask,.int .u64 old,.int .u64 val] 40));have HC:=zh (fun W S1 (h1:RM W b S1 s)=>Xo b at_ W S1 s h1);have ha:s.act ⟨1,who,at_,mask,old,val⟩=(s.load at_,s):=rfl;unfold J2 V2;rw [ha];dsimp only;clear ha h hu;go_enter func55,ntmps55;go_wp2_with fail;obtain ⟨S1,h1⟩:=HS.out.get;refine zM (HC.out _ S1 h1) ?_;rintro w2 rfl;clear h1;go_wp2;exact bodyPost_ret (v:= .tuple #[.int .u64 (s.load at_).1,.bool (s.load at_).2]) (by simp [results,results55,go_sem]) rfl ⟨rfl,HS.out.done ke⟩
theorem jec (b:Nat) (who at_ mask old val:Int) (w:World) (S:Nat->Prop) (s:NM) (h:RM w b S s) (hu:NM.U64 val) :
 Calls prog 55 #[.pointer (some ⟨b,0,none⟩),J2 ⟨2,who,at_,mask,old,val⟩] w fun e w'=>e= .returned (V2 s ⟨2,who,at_,mask,old,val⟩)/\(RM w' b (upd S w w') (s.act ⟨2,who,at_,mask,old,val⟩).2/\Fr S w w'):=by
 have HS:=zh ((NSt.start ke h).alloc ke (.cells #[.int .i64 2,.int .i64 who,.int .i64 at_,.int .i64 mask,.int .u64 old,.int .u64 val] 40));have HC:=zh (fun W S1 (h1:RM W b S1 s)=>YO b at_ val W S1 s h1 hu);have ha:s.act ⟨2,who,at_,mask,old,val⟩=((0,(s.store at_ val).1),(s.store at_ val).2):=rfl;unfold J2 V2;rw [ha];dsimp only;clear ha h hu;go_enter func55,ntmps55;go_wp2_with fail;refine zM (yE HS.out (HC.out _)) ?_;rintro w2 ⟨hn,-⟩;have HN:=zh hn;clear hn;go_wp2;exact bodyPost_ret (v:= .tuple #[.int .u64 0,.bool (s.store at_ val).1]) (by simp [results,results55,go_sem]) rfl ⟨rfl,HN.out.done ke⟩
theorem rdo_swap (b:Nat) (who at_ mask old val:Int) (w:World) (S:Nat->Prop) (s:NM) (h:RM w b S s) (hu:NM.U64 val) :
 Calls prog 55 #[.pointer (some ⟨b,0,none⟩),J2 ⟨3,who,at_,mask,old,val⟩] w fun e w'=>e= .returned (V2 s ⟨3,who,at_,mask,old,val⟩)/\(RM w' b (upd S w w') (s.act ⟨3,who,at_,mask,old,val⟩).2/\Fr S w w'):=by
 have HS:=zh ((NSt.start ke h).alloc ke (.cells #[.int .i64 3,.int .i64 who,.int .i64 at_,.int .i64 mask,.int .u64 old,.int .u64 val] 40));have HC:=zh (fun W S1 (h1:RM W b S1 s)=>jdY b at_ old val W S1 s h1 hu);have ha:s.act ⟨3,who,at_,mask,old,val⟩=((0,(s.swap at_ old val).1),(s.swap at_ old val).2):=rfl;unfold J2 V2;rw [ha];dsimp only;clear ha h hu;go_enter func55,ntmps55;go_wp2_with fail;refine zM (yE HS.out (HC.out _)) ?_;rintro w2 ⟨hn,-⟩;have HN:=zh hn;clear hn;go_wp2;exact bodyPost_ret (v:= .tuple #[.int .u64 0,.bool (s.swap at_ old val).1]) (by simp [results,results55,go_sem]) rfl ⟨rfl,HN.out.done ke⟩
theorem jed (b:Nat) (who at_ mask old val:Int) (w:World) (S:Nat->Prop) (s:NM) (h:RM w b S s) (hu:NM.U64 val) :
 Calls prog 55 #[.pointer (some ⟨b,0,none⟩),J2 ⟨4,who,at_,mask,old,val⟩] w fun e w'=>e= .returned (V2 s ⟨4,who,at_,mask,old,val⟩)/\(RM w' b (upd S w w') (s.act ⟨4,who,at_,mask,old,val⟩).2/\Fr S w w'):=by
 have HS:=zh ((NSt.start ke h).alloc ke (.cells #[.int .i64 4,.int .i64 who,.int .i64 at_,.int .i64 mask,.int .u64 old,.int .u64 val] 40));have HC:=zh (fun W S1 (h1:RM W b S1 s)=>jcl b who at_ W S1 s h1);have ha:s.act ⟨4,who,at_,mask,old,val⟩=((0,(s.flush who at_).1),(s.flush who at_).2):=rfl;unfold J2 V2;rw [ha];dsimp only;clear ha h hu;go_enter func55,ntmps55;go_wp2_with fail;refine zM (yE HS.out (HC.out _)) ?_;rintro w2 ⟨hn,-⟩;have HN:=zh hn;clear hn;go_wp2;exact bodyPost_ret (v:= .tuple #[.int .u64 0,.bool (s.flush who at_).1]) (by simp [results,results55,go_sem]) rfl ⟨rfl,HN.out.done ke⟩
theorem jee (b:Nat) (who at_ mask old val:Int) (w:World) (S:Nat->Prop) (s:NM) (h:RM w b S s) (hu:NM.U64 val) :
 Calls prog 55 #[.pointer (some ⟨b,0,none⟩),J2 ⟨5,who,at_,mask,old,val⟩] w fun e w'=>e= .returned (V2 s ⟨5,who,at_,mask,old,val⟩)/\(RM w' b (upd S w w') (s.act ⟨5,who,at_,mask,old,val⟩).2/\Fr S w w'):=by
 have HS:=zh ((NSt.start ke h).alloc ke (.cells #[.int .i64 5,.int .i64 who,.int .i64 at_,.int .i64 mask,.int .u64 old,.int .u64 val] 40));have HC:=zh (fun W S1 (h1:RM W b S1 s)=>jcn b who W S1 s h1);have hw:IntKind.u64.wrap (s.fence who).1=(s.fence who).1:=by
  have h1:=NM.pend_le h.1 who;have h2:=h.1.small;exact jdo _ zo
 have ha:s.act ⟨5,who,at_,mask,old,val⟩=(((s.fence who).1,true),(s.fence who).2):=rfl;unfold J2 V2;rw [ha];dsimp only;clear ha h hu;generalize (s.fence who).1=z at*
 generalize (s.fence who).2=s2 at*
 go_enter func55,ntmps55;go_wp2_with fail;refine zM (yE HS.out (HC.out _)) ?_;rintro w2 ⟨hn,-⟩;have HN:=zh hn;clear hn;go_wp2;exact bodyPost_ret (v:= .tuple #[.int .u64 z,.bool true]) (by simp [results,results55,go_sem]) rfl ⟨rfl,HN.out.done ke⟩
theorem jef (b:Nat) (who at_ mask old val:Int) (w:World) (S:Nat->Prop) (s:NM) (h:RM w b S s) (hu:NM.U64 val) :
 Calls prog 55 #[.pointer (some ⟨b,0,none⟩),J2 ⟨6,who,at_,mask,old,val⟩] w fun e w'=>e= .returned (V2 s ⟨6,who,at_,mask,old,val⟩)/\(RM w' b (upd S w w') (s.act ⟨6,who,at_,mask,old,val⟩).2/\Fr S w w'):=by
 have HS:=zh ((NSt.start ke h).alloc ke (.cells #[.int .i64 6,.int .i64 who,.int .i64 at_,.int .i64 mask,.int .u64 old,.int .u64 val] 40));have HC:=zh (fun W S1 (h1:RM W b S1 s)=>jco b at_ mask W S1 s h1);have ha:s.act ⟨6,who,at_,mask,old,val⟩=((0,(s.evict at_ mask).1),(s.evict at_ mask).2):=rfl;unfold J2 V2;rw [ha];dsimp only;clear ha h hu;go_enter func55,ntmps55;go_wp2_with fail;refine zM (yE HS.out (HC.out _)) ?_;rintro w2 ⟨hn,-⟩;have HN:=zh hn;clear hn;go_wp2;exact bodyPost_ret (v:= .tuple #[.int .u64 0,.bool (s.evict at_ mask).1]) (by simp [results,results55,go_sem]) rfl ⟨rfl,HN.out.done ke⟩
theorem jeg (b:Nat) (who at_ mask old val:Int) (w:World) (S:Nat->Prop) (s:NM) (h:RM w b S s) (hu:NM.U64 val) :
 Calls prog 55 #[.pointer (some ⟨b,0,none⟩),J2 ⟨7,who,at_,mask,old,val⟩] w fun e w'=>e= .returned (V2 s ⟨7,who,at_,mask,old,val⟩)/\(RM w' b (upd S w w') (s.act ⟨7,who,at_,mask,old,val⟩).2/\Fr S w w'):=by
 have HS:=zh ((NSt.start ke h).alloc ke (.cells #[.int .i64 7,.int .i64 who,.int .i64 at_,.int .i64 mask,.int .u64 old,.int .u64 val] 40));have HC:=zh (fun W S1 (h1:RM W b S1 s)=>jcp b W S1 s h1);have ha:s.act ⟨7,who,at_,mask,old,val⟩=((0,true),s.crash):=rfl;unfold J2 V2;rw [ha];dsimp only;clear ha h hu;go_enter func55,ntmps55;go_wp2_with fail;refine zM (yE HS.out (HC.out _)) ?_;rintro w2 ⟨hn,-⟩;have HN:=zh hn;clear hn;go_wp2;exact bodyPost_ret (v:= .tuple #[.int .u64 0,.bool true]) (by simp [results,results55,go_sem]) rfl ⟨rfl,HN.out.done ke⟩
theorem rdo_none (b:Nat) (d who at_ mask old val:Int) (w:World) (S:Nat->Prop) (s:NM) (h:RM w b S s) (hd:¬(1<=d/\d<=7)) :
 Calls prog 55 #[.pointer (some ⟨b,0,none⟩),J2 ⟨d,who,at_,mask,old,val⟩] w fun e w'=>e= .returned (V2 s ⟨d,who,at_,mask,old,val⟩)/\(RM w' b (upd S w w') (s.act ⟨d,who,at_,mask,old,val⟩).2/\Fr S w w'):=by
 have HS:=zh ((NSt.start ke h).alloc ke (.cells #[.int .i64 d,.int .i64 who,.int .i64 at_,.int .i64 mask,.int .u64 old,.int .u64 val] 40));have ha:s.act ⟨d,who,at_,mask,old,val⟩=((0,true),s):=by
  unfold NM.act;dsimp only;rw [if_neg zo,if_neg zo,if_neg zo,if_neg zo,if_neg zo,if_neg zo,if_neg zo]
 have e1:(d == 1)=false:=by simp;omega
 have e2:(d == 2)=false:=by simp;omega
 have e3:(d == 3)=false:=by simp;omega
 have e4:(d == 4)=false:=by simp;omega
 have e5:(d == 5)=false:=by simp;omega
 have e6:(d == 6)=false:=by simp;omega
 have e7:(d == 7)=false:=by simp;omega
 unfold J2 V2;rw [ha];dsimp only;clear ha h hd;go_enter func55,ntmps55;go_wp2;exact bodyPost_ret (v:= .tuple #[.int .u64 0,.bool true]) (by simp [results,results55,go_sem]) rfl ⟨rfl,HS.out.done ke⟩
theorem rdo_any (b:Nat) (a:NM.A) (w:World) (S:Nat->Prop) (s:NM) (h:RM w b S s) (hu:NM.U64 a.val) :
 Calls prog 55 #[.pointer (some ⟨b,0,none⟩),J2 a] w fun e w'=>e= .returned (V2 s a)/\(RM w' b (upd S w w') (s.act a).2/\Fr S w w'):=by
 obtain ⟨d,who,at_,mask,old,val⟩:=a;by_cases hd:1<=d/\d<=7
 ·have:d=1\/d=2\/d=3\/d=4\/d=5\/d=6\/d=7:=zo;rcases this with rfl | rfl | rfl | rfl | rfl | rfl | rfl
  ·exact rdo_load b who at_ mask old val w S s h hu
  ·exact jec b who at_ mask old val w S s h hu
  ·exact rdo_swap b who at_ mask old val w S s h hu
  ·exact jed b who at_ mask old val w S s h hu
  ·exact jee b who at_ mask old val w S s h hu
  ·exact jef b who at_ mask old val w S s h hu
  ·exact jeg b who at_ mask old val w S s h hu
 ·exact rdo_none b d who at_ mask old val w S s h hd

def lv0:NM:=⟨List.replicate 8 0,List.replicate 8 0,[]⟩
def lv1:NM:=(lv0.store 3 9).2
def lv2:NM:=lv1.crash
def lv3:NM:=(lv2.store 3 9).2
def lv4:NM:=(lv3.flush 0 3).2
def lv5:NM:=(lv4.fence 0).2
end Go.Proofs.YtcnininelndjoaaGreat
namespace Go.Proofs.YtcnininelndjoaaGreat
open Go.Proofs.Tryz
open Go.ChangeShapes Go.RowKit

section
variable {H:Type} {enc:TypeId×Value->H} {w:World} {base:Nat} {spare:Nat->Bool} {held:Bool}
theorem u64_wf {n:Int} (h:(Lit.int .u64 n).wf=true):NM.U64 n:=by
 simp [Lit.wf] at h;have e1:IntKind.u64.min=0:=zd;have e2:IntKind.u64.max=18446744073709551615:=zd;exact ⟨zo,zo⟩
theorem rd_u64 {fuel:Nat} {cs:List Value} {x:DataW H×List MemPlace} (h:DataW.trod enc prog w base spare held fuel 24 cs=some x) :
 ∃v vals,cs=[v]/\Rd w v 1 vals.length (yl vals)/\∀u∈vals,NM.U64 u:=by
 rcases open_ints underlying24 underlying38 zk h with ⟨rfl,-⟩ | ⟨a,len,cap,zs,rfl,-,hl,-,hz,-,hc,hw⟩
 ·exact ⟨_,[],rfl,⟨rfl,Or.inl ⟨rfl,rfl⟩⟩,zT⟩
 ·have hle:len<=zs.length:=by rw [hz];split <;> omega
  have e:(zs.take len).length=len:=by simp;omega
  refine ⟨_,zs.take len,rfl,⟨by simp [yl],Or.inr ⟨a,cap,by rw [e],?_⟩⟩,?_⟩
  ·intro j u hj;have hjl:j < len:=by
    have:=(List.getElem?_eq_some_iff.1 hj).1;simp [yl] at this;omega
   rw [hc j zo,<-hj];simp [yl,hjl,show j < zs.length by omega]
  ·intro u hu;exact u64_wf (hw u (List.mem_of_mem_take hu))
end

end Go.Proofs.YtcnininelndjoaaGreat
namespace Go.Proofs.YtcnininelndjoaaGreat
open Go.Proofs.Tryz
open Go.RowKit

theorem Ku (a:List Int) (va vb:Value) (w:World) (ha:w.ownsRow 0 38 1 va a.length (yl a)) (hb:w.ownsRow 0 38 1 vb a.length (yl a)) (hn:a.length<=4294967296) :
 Calls prog 19 #[va,vb] w (zW (.bool true) w):=by
 have:=jbT a a va vb w ha hb hn hn;simpa using this

def LvRel (w:World) (b bm:Nat) (vi:Value) (wr:World):Prop:=∃k:Nat,k<=10/\vi= .int .i64 k/\N2 (RXM 1 8 10 bm) RU w b 0 [w.heap.size] (jbn 1 8 10 (TS.begin,m8) k) () wr/\wr.heap[w.heap.size]? =some (.cells #[.int .i64 1,.int .i64 8,.int .i64 10] 23)
theorem jdh (w:World):Calls prog 34 #[.agg #[.int .i64 1,.int .i64 8,.int .i64 10]] w (jfJ w WN8):=
 YD 1 8 10 xN8 344 82 frL8 w zd zd zd zd zd (by decide+kernel) (fun w=>jaF 1 10 8 82 34 77 3 w zd zd zd zd (by decide+kernel) zo zo zo)
theorem Va (w:World):Calls prog 8 #[] w (zW (.bool true) w):=by
 have B0:=zh ((Below.refl w.heap.size w).alloc (Nat.le_refl _) (.cells #[.int .i64 1,.int .i64 8,.int .i64 10] 23));go_enter func8,ntmps8;go_wp2_with fail;refine (jdh _).mono ?_;rintro e w1 ⟨v1,rfl,o1,f1,b1⟩;obtain ⟨g1,cap1,rfl⟩:=Joins.ownsRow_form o1 (by rw [JR];decide);have B1:=zh (B0.out.trans (b1.mono B0.out.size));have hc1:=(b1.block w.heap.size zT).trans (heap_alloc_new w (.cells #[.int .i64 1,.int .i64 8,.int .i64 10] 23));have HC1:=zh hc1;have hcw:∀j,j < WN8.length->w1.cell? ((⟨g1,0,none⟩:Addr).add j)=some (.int .u64 (WN8.getD j 0)):=fun j hj=>by
  rw [show (⟨g1,0,none⟩:Addr).add j=⟨g1,j,none⟩ by by_cases h0:j=0 <;> simp [Addr.add,h0]];exact (o1.cellAt j zo).trans (by simp [kA,hj])
 have HM:=zh (jbD ⟨g1,0,none⟩ WN8.length cap1 WN8 w1 rfl (by rw [JR];decide) (by rw [JR]) (by rw [JR];omega) jam hcw);have zc1:w.heap.size < w1.heap.size:=zL b1;clear o1 f1 b1 hc1 hcw;go_wp2_with fail;refine HM.out.mono ?_;rintro e w2 ⟨bm,rfl,hbm,⟨T,pT,gT⟩,b2⟩;have B2:=zh (B1.out.trans (b2.mono B1.out.size));have HC2:=zh ((b2.block w.heap.size zc1).trans HC1.out);have zc2:w.heap.size < w2.heap.size:=Nat.lt_of_lt_of_le zc1 b2.size;have c0:=jd (o:=0) HC2.out;have c1:=jd (o:=1) HC2.out;have c2:=jd (o:=2) HC2.out;simp at c0 c1 c2;have HT:=zh (And.intro pT (And.intro gT b2.size));clear pT gT b2 hbm HM;go_wp2_with fail;refine (XK (t:=1) (p:=8) (s:=10) _ zd).mono ?_;rintro e w3 ⟨⟨b,rfl,S,mS,gS⟩,b3⟩;have B3:=zh (B2.out.trans (b3.mono B2.out.size));have HC3:=zh ((b3.block w.heap.size zc2).trans HC2.out);have pT3:=yj.keep (T:=fun _=>False) HT.out.1 (Fr.of_below b3) (fun _ _ x=>x);have hN:N2 (RXM 1 8 10 bm) RU w b 0 [w.heap.size] (TS.begin,m8) () w3:=by
  have hz:=B1.out.size;have hz2:=HT.out.2.2;refine ⟨⟨fun k=>S k\/T k,fun _=>False,jbl (P:=8) mS pT3 (fun k hs ht=>by have:=gS k hs;have:=yj.lt HT.out.1 k ht;omega),fun _ hf=>hf.elim,fun k hk=> ?_,fun _ hf=>hf.elim,fun _ _ hf=>hf.elim,fun L hL=>⟨fun hk=> ?_,fun hf=>hf.elim⟩⟩,B3.out,fun L hL=> ?_⟩
  ·rcases hk with hk | hk
   ·have:=gS k hk;omega
   ·have:=HT.out.2.1 k hk;omega
  ·simp at hL;subst hL;rcases hk with hk | hk
   ·have:=gS _ hk;omega
   ·have:=HT.out.2.1 _ hk;omega
  ·simp at hL;subst hL;exact ⟨Nat.lt_of_lt_of_le zc2 b3.size,Nat.le_refl _⟩
 have HN:=zh hN;clear hN pT3 mS gS b3 c0 c1 c2 zc1 zc2 B0 B1 B2 B3 HC1 HC2 HT;go_wp2_with fail;go_loopw [4] (fun vi wr=>LvRel w b bm vi wr) (fun vi _=>100 - (intOf vi).toNat);case atStart=>exact ⟨0,zo,rfl,HN.out,HC3.out⟩
 case round=>
  clear HN HC3;obtain ⟨k,hk,rfl,hn,hcb⟩:=hrel;have HN:=zh hn;have HCB:=zh hcb;clear hn hcb;by_cases hlt:k < 10
  ·have hk100:(k:Int) < 100:=zo;obtain ⟨⟨d,a,v⟩,hnx,-⟩:=Option.map_eq_some_iff.1 (run8 k hlt);have HSt:=zh (fun S1 (h1:RXM 1 8 10 bm wr b S1 (jbn 1 8 10 (TS.begin,m8) k))=>rxm_st (P:=8) h1 zd hnx (vok8 hlt hnx));clear hnx;go_wp2_with fail;refine zM (HN.out.fst yi keepsRU HSt.out) ?_;rintro w4 ⟨n4,l4⟩;have HN4:=zh n4;have HC4:=zh ((l4 w.heap.size zT).trans HCB.out);clear n4 l4 HSt;go_wp2;go_roundw;case rel=>exact ⟨k+1,zo,by go_num,HN4.out,HC4.out⟩
   case measure=>simp [intOf];omega
  ·have hk10:k=10:=zo;subst hk10;obtain ⟨S1,S2,x1,-⟩:=HN.out.ex;have HX:=zh (fun (W:World) (hb:Below wr.heap.size wr W)=>yi.keep (T:=fun _=>False) x1 (Fr.of_below hb) (fun _ _ x=>x));have HO:=zh (jbk (P:=8) x1 zd end8.1);have HBel:=zh HN.out.bel;have hzr:w.heap.size < wr.heap.size:=(HN.out.ls w.heap.size zT).1;have HSw:=zh (fun (W:World) (hb:Below wr.heap.size wr W)=>show Calls prog 16 #[.pointer (some ⟨b,0,none⟩)] W fun e w'=>e= .returned (.int .i64 8)/\Below W.heap.size W w' by
    have h1:=Xe (P:=8) (HX.out W hb);rw [end8.2.1] at h1;exact h1)
   have HMd:=zh (fun (W:World) (hb:Below wr.heap.size wr W)=>show Calls prog 17 #[.pointer (some ⟨b,0,none⟩)] W fun e w'=>e= .returned (.int .u32 0)/\Below W.heap.size W w' by
    have h1:=jbm (P:=8) (HX.out W hb);rw [end8.2.2] at h1;exact h1)
   have HWd:=zh (fun (W:World) (hb:Below wr.heap.size wr W)=>show Calls prog 20 #[.pointer (some ⟨bm,0,none⟩)] W (RowW W WN8.length WN8) by
    have h1:=Xd (P:=8) (HX.out W hb);rw [jdW 10 zo] at h1;exact h1)
   clear x1 HN HX;go_wp2_with fail;refine zM HO.out fun w4 b4=> ?_;have D0:=zh b4.drew;clear b4 HO;have kC:=fun (W:World) (hb:Below wr.heap.size wr W)=>show W.cell? ⟨w.heap.size,0,none⟩=some (.int .i64 1)/\W.cell? ⟨w.heap.size,1,none⟩=some (.int .i64 8)/\W.cell? ⟨w.heap.size,2,none⟩=some (.int .i64 10) by
    have hcb:=(hb.block w.heap.size hzr).trans HCB.out;exact ⟨jd (o:=0) hcb,jd (o:=1) hcb,jd (o:=2) hcb⟩
   have HKC:=zh kC;clear kC;go_wp2_with fail;refine wH (S:=fun w'=>w'.cell? ⟨w.heap.size,0,none⟩=some (.int .i64 1)/\w'.cell? ⟨w.heap.size,1,none⟩=some (.int .i64 8)/\w'.cell? ⟨w.heap.size,2,none⟩=some (.int .i64 10)) ((HKC.out _ D0.out)) fun hHeld=> ?_;refine wT 0 ?_;refine wY ?_;refine wR 4 fun K hK=> ?_;go_simp;refine zM (HSw.out _ D0.out) fun w5 b5=> ?_;have D5:=zh (D0.out.trans (b5.mono D0.out.size));refine wK hK (HKC.out _ D5.out) fun hHeld=> ?_;clear hK K;refine wY ?_;refine wR 9 fun K hK=> ?_;go_simp;refine zM (HMd.out _ D5.out) fun w6 b6=> ?_;have D6:=zh (D5.out.trans (b6.mono D5.out.size));refine wK hK (HKC.out _ D6.out) fun hHeld=> ?_;clear hK K;refine wY ?_;refine wR 14 fun K hK=> ?_;go_simp;refine (HWd.out _ D6.out).mono ?_;rintro e w7 ⟨v7,rfl,o7,-,b7⟩;have D7:=zh (D6.out.trans (b7.mono D6.out.size));have O7:=zh (Joins.ownsRow_le o7 (Nat.zero_le _));refine wK hK (HKC.out _ D7.out) fun hHeld=> ?_;clear hK K;refine wR 16 fun K hK=> ?_;go_simp;refine (jdh _).mono ?_;rintro e w8 ⟨v8,rfl,o8,-,b8⟩;have D8:=zh (D7.out.trans (b8.mono D7.out.size));have O78:=zh (je (w':=w8) O7.out (fun k hk=>b8.block k (jn O7.out hk)));have O8:=zh o8;refine wK hK (HKC.out _ D8.out) fun hHeld=> ?_;clear hK K;refine wR 17 fun K hK=> ?_;go_simp;refine zM (Ku WN8 v7 v8 _ O78.out O8.out (by rw [JR];omega)) fun w9 b9=> ?_;have D9:=zh (D8.out.trans (b9.mono D8.out.size));refine wK hK (HKC.out _ D9.out) fun hHeld=> ?_;clear hK K;refine wY ?_;refine wD ?_;clear hHeld;go_wp2;go_ret;exact ⟨rfl,HBel.out.trans (D9.out.mono HBel.out.size)⟩

section
variable {t s:Int} {P:Nat}
theorem most_any (hr:jq t P s=true) (w:World):Calls prog 13 #[.agg #[.int .i64 t,.int .i64 P,.int .i64 s]] w (zW (.int .i64 (VG t P)) w):=by
 have hb:=jt hr;have hm:=jV hr;have HC:=zh (fun w=>qT t P s w);rw [show kY t P s=jo t P by simp [kY,hr]] at HC;have e:((VG t P:Nat):Int)=400+(P:Int)*(410+jo t P):=by
  unfold VG;have e1:((jo t P).toNat:Int)=jo t P:=zo;rw [Int.natCast_add,Int.natCast_mul,Int.natCast_add,e1];rfl
 have hx:(P:Int)*(410+jo t P)<=11000000:=by
  have:=jeX hr;omega
 have hx0:0<=(P:Int)*(410+jo t P):=Int.mul_nonneg zo zo;have w1h:IntKind.i64.wrap (410+jo t P)=410+jo t P:=jr _ zo;have w2h:IntKind.i64.wrap ((P:Int)*(410+jo t P))=(P:Int)*(410+jo t P):=jr _ zo;have w3h:IntKind.i64.wrap (400+(P:Int)*(410+jo t P))=400+(P:Int)*(410+jo t P):=jr _ zo;rw [e];generalize jo t P=N at*
 have B0:=zh ((Below.refl w.heap.size w).alloc (Nat.le_refl _) (.cells #[.int .i64 t,.int .i64 P,.int .i64 s] 23));have k0:=jd (o:=0) (heap_alloc_new w (.cells #[.int .i64 t,.int .i64 P,.int .i64 s] 23));have k1:=jd (o:=1) (heap_alloc_new w (.cells #[.int .i64 t,.int .i64 P,.int .i64 s] 23));have k2:=jd (o:=2) (heap_alloc_new w (.cells #[.int .i64 t,.int .i64 P,.int .i64 s] 23));clear hr hb hm e hx hx0;go_enter func13,ntmps13;go_wp2_with fail;refine wHn3 (zQ k0) (zQ k1) (zQ k2) fun hHeld=> ?_;refine wT 0 ?_;refine wY ?_;refine wR 3 fun K hK=> ?_;go_simp;refine zM (HC.out _) fun w1 b1=> ?_;have B1:=zh (B0.out.drew.trans (b1.mono B0.out.size));refine wK hK (⟨(b1.cell (p:=⟨w.heap.size,0,none⟩) zT).trans k0,(b1.cell (p:=⟨w.heap.size,1,none⟩) zT).trans k1,(b1.cell (p:=⟨w.heap.size,2,none⟩) zT).trans k2⟩) fun hHeld=> ?_;clear hK K;refine wY ?_;refine wD ?_;clear hHeld;go_wp2;go_ret;exact ⟨rfl,B1.out⟩
end

section
variable {t s:Int} {P:Nat} {vs xs:List Int} {w w':World}
theorem fit_st (h:jfs t P s xs=some vs) (hu:∀v∈xs,U64 v):jq t P s=true/\(∃st u o,Kl t P s xs st u o vs/\0<=st/\st < 2147483648)/\xs.length≠0/\xs.length % 8=0/\xs.length<=65536/\(xs.length:Int)=qM t P:=by
 unfold jfs at h;split at h
 ·rename_i vs' hs;split at h
  ·rename_i hc;cases h;obtain ⟨hr,hn,hvn,hvu,st,u,o,hla⟩:=Qf hs;have hb:=jt hr;have hm:=jV hr;have h8:jO t P % 8=0:=by unfold jO;omega
   have hset:Kl t P s xs st u o vs:=⟨hu,hla,hs⟩
   obtain ⟨htip,-,hst0,-⟩:=hset.tip;have hst:st=hiW (xs.getD 8 0):=by
    unfold QF at htip;split at htip
    ·simp only [Option.some.injEq,Prod.mk.injEq] at htip;exact htip.1.symm
    ·cases htip
   exact ⟨hr,⟨st,u,o,hset,hst0.1,by rw [hst];exact hc.2.2⟩,zo,zo,zo,hn⟩
  ·cases h
 ·cases h
end
end Go.Proofs.YtcnininelndjoaaGreat

