/- parts of the proof, merged by a program. -/
import Derived.Test.YtcnininelndjoaaGreatMmt8
import Derived.Test.YtcnininelndjoaaGreatMmt9
import Derived.Test.YtcnininelndjoaaGreatMmt10
import Derived.Test.YtcnininelndjoaaGreatMmt11
import Derived.Deep.RegionHeld3
set_option linter.unusedSimpArgs false
set_option linter.unusedVariables false
set_option maxRecDepth 100000
set_option maxHeartbeats 4000000
namespace Go.Proofs.YtcnininelndjoaaGreat
open Go.Proofs.Tryz
open Go.RowKit

def jK (nd:Int) (wv:Value):Array Value:=#[.int .i64 nd,wv,.int .i64 0,.int .i64 0,.int .i64 0,.slice none 0 0,.slice none 0 0,.slice none 0 0,.slice none 0 0,.slice none 0 0,.slice none 0 0,.slice none 0 0,.slice none 0 0,.slice none 0 0]
def res0:Value:= .agg #[.int .i64 0,.int .i64 0,.int .i64 0]
def pk0:Value:= .agg #[.slice none 0 0,.slice none 0 0,.slice none 0 0,.slice none 0 0,.slice none 0 0,.slice none 0 0,.slice none 0 0,.slice none 0 0,.slice none 0 0]
theorem sw1_any (t p z page:Int) (kc kp b:Nat) (S:Nat->Prop) (st:VS) (w:World) (h:PV w b S st) (hp:p<=1024) (c0:w.cell? ⟨kc,0,none⟩=some (.int .i64 t)) (c1:w.cell? ⟨kc,1,none⟩=some (.int .i64 p)) (c2:w.cell? ⟨kc,2,none⟩=some (.int .i64 z)) (cp:w.cell? ⟨kp,0,none⟩=some (.int .i64 page)) :
 Calls prog 188 #[.pointer (some ⟨b,0,none⟩),.pointer (some ⟨kc,0,none⟩),.pointer (some ⟨kp,0,none⟩)] w fun e w'=>e= .returned (.tuple #[res0,pk0])/\Now w b S (jP t p z page st).2 w':=by
 have hV:=((VSt.start je h).alloc je (.cells #[.int .i64 0,.int .i64 0,.int .i64 0] 48)).alloc je (.cells #[.slice none 0 0,.slice none 0 0,.slice none 0 0,.slice none 0 0,.slice none 0 0,.slice none 0 0,.slice none 0 0,.slice none 0 0,.slice none 0 0] 51);have HV:=zh hV;have HP:=zh (fun (w:World) (S1:Nat->Prop) (h1:PV w b S1 st)=>jdS b t p z page w S1 st h1 hp);have z0:=World.block_lt_of_cell? w _ c0;have z1:=World.block_lt_of_cell? w _ cp;dsimp only at z0 z1;clear h hV hp;go_enter func188,ntmps188;go_wp2_with fail;refine zM (ji HV.out (HP.out _)) ?_;rintro w1 ⟨hV1,hl1⟩;have ha:((w.alloc (.cells #[.int .i64 0,.int .i64 0,.int .i64 0] 48)).alloc (.cells #[.slice none 0 0,.slice none 0 0,.slice none 0 0,.slice none 0 0,.slice none 0 0,.slice none 0 0,.slice none 0 0,.slice none 0 0,.slice none 0 0] 51)).heap[w.heap.size]? =some (.cells #[.int .i64 0,.int .i64 0,.int .i64 0] 48):=by
  rw [heap_alloc_old _ _ zT];exact heap_alloc_new w _
 have hb:((w.alloc (.cells #[.int .i64 0,.int .i64 0,.int .i64 0] 48)).alloc (.cells #[.slice none 0 0,.slice none 0 0,.slice none 0 0,.slice none 0 0,.slice none 0 0,.slice none 0 0,.slice none 0 0,.slice none 0 0,.slice none 0 0] 51)).heap[w.heap.size+1]? =some (.cells #[.slice none 0 0,.slice none 0 0,.slice none 0 0,.slice none 0 0,.slice none 0 0,.slice none 0 0,.slice none 0 0,.slice none 0 0,.slice none 0 0] 51):=Ja _ _ _ zT;have e1:=(hl1 w.heap.size zT).trans ha;have e2:=(hl1 (w.heap.size+1) zT).trans hb;have k1:=fun o:Nat=>jd (o:=o) e1;have k2:=fun o:Nat=>jd (o:=o) e2;have f1:=fun o:Nat=>jj (o:=o) e1;have f2:=fun o:Nat=>jj (o:=o) e2;have hE:=((((((((((((hV1.setCell je (L:=w.heap.size) zT 0 (.int .i64 0)).setCell je (L:=w.heap.size) zT 1 (.int .i64 0)).setCell je (L:=w.heap.size) zT 2 (.int .i64 0)).setCell je (L:=w.heap.size+1) zT 0 (.slice none 0 0)).setCell je (L:=w.heap.size+1) zT 1 (.slice none 0 0)).setCell je (L:=w.heap.size+1) zT 2 (.slice none 0 0)).setCell je (L:=w.heap.size+1) zT 3 (.slice none 0 0)).setCell je (L:=w.heap.size+1) zT 4 (.slice none 0 0)).setCell je (L:=w.heap.size+1) zT 5 (.slice none 0 0)).setCell je (L:=w.heap.size+1) zT 6 (.slice none 0 0)).setCell je (L:=w.heap.size+1) zT 7 (.slice none 0 0)).setCell je (L:=w.heap.size+1) zT 8 (.slice none 0 0))
 have HE:=zh hE;clear hE hV1 hl1 HP HV e1 e2 ha hb;go_wp2;refine bodyPost_ret (v:= .tuple #[res0,pk0]) (by simp [results,results188,go_sem,k1,k2,res0,pk0]) rfl ⟨rfl,HE.out.done je⟩
def ThQ (w:World) (r:Int×List (Int×Int)) (e:Ending) (w':World):Prop:=∃wv,e= .returned (.agg (jK r.1 wv))/\w'.ownsRow 0 106 2 wv r.2.length (j8 r.2)/\(∀k,wv.ownBlock=some k->w.heap.size<=k)/\(∀x∈r.2,VS.U32 x.2)/\Below w.heap.size w w'
theorem pairs_of (l:List (Nat×Int)):jN l=j8 (l.map fun x=>((x.1:Int),x.2)):=by
 unfold jN j8;rw [List.flatMap_map]
theorem jaM (t p z:Int) (page:Nat) (kc kp:Nat) (a:Option Addr) (m c:Nat) (kn:List (Int×Int)) (w:World) (hr:jq t p z=true) (hk:jdv w (.slice a m c) kn) (hl:kn.length<=1000000) (hu:∀x∈kn,VS.U32 x.2)
 (c0:w.cell? ⟨kc,0,none⟩=some (.int .i64 t)) (c1:w.cell? ⟨kc,1,none⟩=some (.int .i64 p)) (c2:w.cell? ⟨kc,2,none⟩=some (.int .i64 z)) (cp:w.cell? ⟨kp,0,none⟩=some (.int .i64 page)) :
 Calls prog 187 #[.agg #[.int .i64 t,.int .i64 p,.int .i64 z],.slice a m c,.func (.func 188) #[] #[.pointer (some ⟨kc,0,none⟩),.pointer (some ⟨kp,0,none⟩)]] w (ThQ w (thF t p z page kn)):=by
 have hp:p<=1024:=(jn hr).2.2.2.1;have hcb:=(jI hr)
 have HC:=zh (fun w=>jfv t p z w);rw [show qb t p z=(((jk t p).toNat:Nat):Int) by simp [qb,hr];omega] at HC;have HK:=zh (fun (W:World) (hb:Below w.heap.size w W)=>je9 (jk t p).toNat a m c kn W (hk.keep hb) zo hl hu);generalize hN:(jk t p).toNat=N at*
 have HS:=zh (fun (W:World) (b:Nat) (S:Nat->Prop) (h:PV W b S (knV N kn)) (d0:W.cell? ⟨kc,0,none⟩=some (.int .i64 t)) (d1:W.cell? ⟨kc,1,none⟩=some (.int .i64 p)) (d2:W.cell? ⟨kc,2,none⟩=some (.int .i64 z)) (dp:W.cell? ⟨kp,0,none⟩=some (.int .i64 page))=>sw1_any t p z page kc kp b S (knV N kn) W h hp d0 d1 d2 dp);have hth:thF t p z page kn=match (jP t p z page (knV N kn)).2.miss with
  | some i=>((i:Int),[])
  | none=>(-1,(jP t p z page (knV N kn)).2.writes.map fun x=>((x.1:Int),x.2)):=by unfold thF;rw [hN];rfl
 have HTH:=zh hth;generalize (jP t p z page (knV N kn)).2=sf at*
 generalize thF t p z page kn=r at*
 have S0:=((Below.refl w.heap.size w).alloc (Nat.le_refl _) (.cells #[.int .i64 t,.int .i64 p,.int .i64 z] 23)).alloc zT (.cells (jK 0 (.slice none 0 0)) 53);have HB0:=zh S0;have z0:=World.block_lt_of_cell? w _ c0;have z1:=World.block_lt_of_cell? w _ cp;dsimp only at z0 z1;have HKC:=zh (fun (W:World) (hb:Below w.heap.size w W)=>And.intro ((hb.cell (p:=⟨kc,0,none⟩) z0).trans c0) (And.intro ((hb.cell (p:=⟨kc,1,none⟩) z0).trans c1) (And.intro ((hb.cell (p:=⟨kc,2,none⟩) z0).trans c2) ((hb.cell (p:=⟨kp,0,none⟩) z1).trans cp))));clear hk hl hu c0 c1 c2 cp hth hr hp hcb S0;go_enter func187,ntmps187;go_wp2_with fail;refine zM (HC.out _) fun w1 b1=> ?_;have HB1:Hid (Below w.heap.size w w1):=zh (HB0.out.trans (b1.mono HB0.out.size));have e1:w1.heap[w.heap.size]? =some (.cells #[.int .i64 t,.int .i64 p,.int .i64 z] 23):=(b1.block _ (by simp only [World.size_alloc];omega)).trans (by rw [heap_alloc_old _ _ zT];exact heap_alloc_new w _);have e2:w1.heap[w.heap.size+1]? =some (.cells (jK 0 (.slice none 0 0)) 53):=(b1.block _ (by simp only [World.size_alloc];omega)).trans (Ja _ _ _ zT);go_wp2_with fail;refine (HK.out _ HB1.out).mono ?_;rintro e w2 ⟨b,rfl,hP,b2⟩;have zw1:=HB1.out.size;have hz1:w.heap.size+1 < w1.heap.size:=(Array.getElem?_eq_some_iff.1 e2).1;have HB2:Hid (Below w.heap.size w w2):=zh (HB1.out.trans (b2.mono zw1));have e3:w2.heap[w.heap.size+1]? =some (.cells (jK 0 (.slice none 0 0)) 53):=(b2.block _ hz1).trans e2;obtain ⟨d0,d1,d2,dp⟩:=HKC.out _ HB2.out;have HP:=zh hP;clear hP HK HC HB0 b1 e1 e2;go_wp2_with fail;refine zM (HS.out w2 b _ HP.out d0 d1 d2 dp) ?_;rintro w3 ⟨hP3,hF3⟩;have b3:Below w1.heap.size w2 w3:=hF3.below b2.size (fun k hk=>hk.1);have HB3:Hid (Below w.heap.size w w3):=zh (HB2.out.trans (b3.mono zw1));have e4:w3.heap[w.heap.size+1]? =some (.cells (jK 0 (.slice none 0 0)) 53):=(b3.block _ hz1).trans e3;have HP3:=zh hP3;have HU:=zh (show∀x∈sf.writes,VS.U32 x.2 from by
  obtain ⟨_,_,_,_,_,_,hh⟩:=hP3;exact hh.inv.wu)
 have HM:=zh (fun (W:World) (hb:Below w3.heap.size w3 W)=>jbk b W _ sf (hP3.keep (T:=fun _=>False) (Fr.of_below hb) (fun _ _ x=>x)));have HW:=zh (fun (W:World) (hb:Below w3.heap.size w3 W)=>jcl b W _ sf (hP3.keep (T:=fun _=>False) (Fr.of_below hb) (fun _ _ x=>x)));clear hP3 hF3 HP HS HKC e3 d0 d1 d2 dp;unfold res0 pk0;go_wp2_with fail;have hB4:=((Below.refl w3.heap.size w3).alloc (Nat.le_refl _) (.cells #[.int .i64 0,.int .i64 0,.int .i64 0] 48)).alloc zT (.cells #[.slice none 0 0,.slice none 0 0,.slice none 0 0,.slice none 0 0,.slice none 0 0,.slice none 0 0,.slice none 0 0,.slice none 0 0,.slice none 0 0] 51);have HB4:=zh hB4;have hz3:w.heap.size+1 < w3.heap.size:=(Array.getElem?_eq_some_iff.1 e4).1;refine zM (HM.out _ hB4) ?_;rintro w4 rfl;have e5:=(hB4.block _ hz3).trans e4;clear hB4;have k4:=fun o:Nat=>jd (o:=o) e5;have g4:=fun o:Nat=>jj (o:=o) e5;unfold jK at k4;cases hm:sf.miss with
 | some i=>
  rw [show QK sf=(i:Int) by simp [QK,hm]];rw [hm] at HTH;have HB5:=zh (HB3.out.trans (HB4.out.mono HB3.out.size));clear HM HW HP3 hm;go_wp2;refine bodyPost_ret (v:= .agg (jK i (.slice none 0 0))) (by simp [results,results187,go_sem,k4,jK]) rfl ?_;have hr:=HTH.out;subst hr;refine ⟨.slice none 0 0,rfl,World.ownsRow_nil _ _ _ _,by simp [Value.ownBlock],zT,?_⟩;iterate 14 refine Below.setCell ?_ (Nat.le_succ _) _
  exact HB5.out
 | none=>
  rw [show QK sf= -1 by simp [QK,hm]];rw [hm] at HTH;have HB5:=zh (HB3.out.trans (HB4.out.mono HB3.out.size));clear HM hm;go_wp2_with fail;have l1:((w3.alloc (.cells #[.int .i64 0,.int .i64 0,.int .i64 0] 48)).alloc (.cells #[.slice none 0 0,.slice none 0 0,.slice none 0 0,.slice none 0 0,.slice none 0 0,.slice none 0 0,.slice none 0 0,.slice none 0 0,.slice none 0 0] 51)).heap[w3.heap.size]? =some (.cells #[.int .i64 0,.int .i64 0,.int .i64 0] 48):=by
   rw [heap_alloc_old _ _ zT];exact heap_alloc_new w3 _
  have l2:((w3.alloc (.cells #[.int .i64 0,.int .i64 0,.int .i64 0] 48)).alloc (.cells #[.slice none 0 0,.slice none 0 0,.slice none 0 0,.slice none 0 0,.slice none 0 0,.slice none 0 0,.slice none 0 0,.slice none 0 0,.slice none 0 0] 51)).heap[w3.heap.size+1]? =some (.cells #[.slice none 0 0,.slice none 0 0,.slice none 0 0,.slice none 0 0,.slice none 0 0,.slice none 0 0,.slice none 0 0,.slice none 0 0,.slice none 0 0] 51):=Ja _ _ _ zT;have HWr:=zh (HW.out _ HB4.out.drew);have zB:=HB5.out.size;refine jT ?_;intro w5 hw5;rw [<-hw5] at l1 l2 HWr HB5 e5 zB;clear hw5 k4 g4 HW HP3 HB4 e4;have ne1:w3.heap.size≠w.heap.size+1:=zo;have ne2:w3.heap.size+1≠w.heap.size+1:=zo;have zn:=(Array.getElem?_eq_some_iff.1 l2).1;generalize w3.heap.size=n5 at*
  have q1:=fun o:Nat=>jd (w:=w5.drew) (o:=o) l1;have q2:=fun o:Nat=>jd (w:=w5.drew) (o:=o) l2;refine wHn2 (zP q1) (zP q2) fun hHeld=> ?_;refine wT 0 ?_;refine wY ?_;refine wR 1 fun K hK=> ?_;go_simp;refine (HWr.out).mono ?_;rintro e w6 ⟨wv,rfl,ow,gw,b6⟩;obtain ⟨pa,pc,rfl⟩:=kK ow;have i1:=fun o:Nat=>jd (w:=w6) (o:=o) ((b6.block _ (show n5 < w5.drew.heap.size by show n5 < w5.heap.size;omega)).trans l1);have i2:=fun o:Nat=>jd (w:=w6) (o:=o) ((b6.block _ (show n5+1 < w5.drew.heap.size from zn)).trans l2);have e6:=(b6.block (w.heap.size+1) (show _ < w5.drew.heap.size from (Array.getElem?_eq_some_iff.1 e5).1)).trans e5;have k6:=fun o:Nat=>jd (w:=w6) (o:=o) e6;have g6:=fun o:Nat=>jj (w:=w6) (o:=o) e6;unfold jK at k6;refine wK hK (⟨i1,i2⟩) fun hHeld=> ?_;clear hK K;refine wY ?_;refine wR 5 fun K hK=> ?_;go_simp;refine wK hK (⟨fun o:Nat ↦ (by rw [<-i1 o];apply World.cell?_of_block;dsimp only;iterate 14 rw [jg ne1]),fun o:Nat ↦ (by rw [<-i2 o];apply World.cell?_of_block;dsimp only;iterate 14 rw [jg ne2])⟩) fun hHeld=> ?_;clear hK K;refine wD ?_;have HB6:=zh (HB5.out.trans ((show Below w5.heap.size w5 w6 from ⟨b6.os,b6.tape,b6.output,b6.size,b6.block⟩).mono zB));have HO:=zh ow;have HG:=zh gw;clear hHeld b6 ow gw HWr HB5 l1 l2 i1 i2 q1 q2 ne1 ne2 e5;go_wp2;refine bodyPost_ret (v:= .agg (jK (-1) (.slice pa sf.writes.length pc))) (by simp [results,results187,go_sem,k6,jK]) rfl ?_;have hr:=HTH.out;subst hr;refine ⟨.slice pa sf.writes.length pc,rfl,?_,fun j hj=>Nat.le_trans zB (HG.out j hj),fun x hx=>by obtain ⟨y,hy,rfl⟩:=List.mem_map.1 hx;exact HU.out y hy,?_⟩
  ·rw [<-pairs_of,List.length_map];have hne:∀j,(Value.slice pa sf.writes.length pc).ownBlock=some j->j≠w.heap.size+1:=fun j hj=>by
    have:=HG.out j hj;simp only [World.size_drew] at this;omega
   refine jh HO.out fun j hj=> ?_;iterate 14 rw [jg (hne j hj)]
  ·iterate 14 refine Below.setCell ?_ (Nat.le_succ _) _
   exact HB6.out
theorem jdN (t p z:Int) (page:Nat) (a:Option Addr) (m c:Nat) (kn:List (Int×Int)) (w:World) (hr:jq t p z=true) (hk:jdv w (.slice a m c) kn) (hl:kn.length<=1000000) (hu:∀x∈kn,VS.U32 x.2) :
 Calls prog 142 #[.agg #[.int .i64 t,.int .i64 p,.int .i64 z],.int .i64 page,.slice a m c] w (ThQ w (thF t p z page kn)):=by
 have HT:=zh (fun (W:World) (kc kp:Nat) (hb:Below w.heap.size w W)=>jaM t p z page kc kp a m c kn W hr (hk.keep hb) hl hu);have hB:=(((Below.refl w.heap.size w).alloc (Nat.le_refl _) (.cells #[.int .i64 t,.int .i64 p,.int .i64 z] 23)).alloc zT (.cells #[.int .i64 page] 3)).alloc (by simp;omega) (.cells (jK 0 (.slice none 0 0)) 53);have HB:=zh hB;clear hB hk hl hu hr;generalize thF t p z page kn=r at*
 go_enter func142,ntmps142;go_wp2_with fail;have hc:=heap_alloc_new w (.cells #[.int .i64 t,.int .i64 p,.int .i64 z] 23);have e0:(((w.alloc (.cells #[.int .i64 t,.int .i64 p,.int .i64 z] 23)).alloc (.cells #[.int .i64 page] 3)).alloc (.cells (jK 0 (.slice none 0 0)) 53)).heap[w.heap.size]? =some (.cells #[.int .i64 t,.int .i64 p,.int .i64 z] 23):=by
  rw [heap_alloc_old _ _ (by simp only [World.size_alloc];omega),heap_alloc_old _ _ zT];exact hc
 have e1:(((w.alloc (.cells #[.int .i64 t,.int .i64 p,.int .i64 z] 23)).alloc (.cells #[.int .i64 page] 3)).alloc (.cells (jK 0 (.slice none 0 0)) 53)).heap[w.heap.size+1]? =some (.cells #[.int .i64 page] 3):=by
  rw [heap_alloc_old _ _ zT];exact Ja _ _ _ zT
 have e2:(((w.alloc (.cells #[.int .i64 t,.int .i64 p,.int .i64 z] 23)).alloc (.cells #[.int .i64 page] 3)).alloc (.cells (jK 0 (.slice none 0 0)) 53)).heap[w.heap.size+1+1]? =some (.cells (jK 0 (.slice none 0 0)) 53):=Ja _ _ _ zT;refine (HT.out _ w.heap.size (w.heap.size+1) HB.out (jd e0) (jd e0) (jd e0) (jd e1)).mono ?_;rintro e w1 ⟨wv,rfl,ow,gw,uw,b1⟩;have HUw:=zh uw;clear uw;have HB1:=zh (HB.out.trans (b1.mono HB.out.size));have e3:=(b1.block _ (Array.getElem?_eq_some_iff.1 e2).1).trans e2;have k3:=fun o:Nat=>jd (w:=w1) (o:=o) e3;have g3:=fun o:Nat=>jj (w:=w1) (o:=o) e3;obtain ⟨pa,pc,rfl⟩:=kK ow;have HO:=zh ow;have HG:=zh gw;unfold jK at k3;clear ow gw b1 e0 e1 e2 e3 hc HT;unfold jK;go_wp2;refine bodyPost_ret (v:= .agg (jK r.1 (.slice pa r.2.length pc))) (by simp [results,results142,go_sem,k3,jK]) rfl ?_;have hj:∀j,(Value.slice pa r.2.length pc).ownBlock=some j->w.heap.size+1+1+1<=j:=fun j hj=>by
  have:=HG.out j hj;simpa using this
 refine ⟨.slice pa r.2.length pc,rfl,?_,fun j h=>by have:=hj j h;omega,HUw.out,?_⟩
 ·refine jh HO.out fun j h=> ?_;have hne:j≠w.heap.size+1+1:=by have:=hj j h;omega
  iterate 14 rw [jg hne]
 ·iterate 14 refine Below.setCell ?_ (by show w.heap.size<=w.heap.size+1+1;omega) _
  exact HB1.out

def r1V (kl ki:Nat):Value:= .func (.func 148) #[] #[pB kl,pB ki]
def r2V (kx ku kn kl:Nat):Value:= .func (.func 151) #[] #[pB kx,pB ku,pB kn,pB kl]
def ldF (t p u:Int) (kl:Nat) (bs:List Nat):List Stp:=bs.zipIdx.map fun x=>⟨1,jJ t p u x.2,0,r1V kl x.1⟩
theorem ldF_snoc (t p u:Int) (kl:Nat) (bs:List Nat) (k:Nat):ldF t p u kl (bs++[k])=ldF t p u kl bs++[⟨1,jJ t p u bs.length,0,r1V kl k⟩]:=by
 simp [ldF,List.zipIdx_append]
section
variable {w0 w:World} {S:Nat->Prop} {b:Nat} {t p s:Int} {Ls:List (Nat×Obj)} {rest:Value} {st md pg:Int} {q:List Stp}
def ReRel (w0:World) (S:Nat->Prop) (b:Nat) (t p s:Int) (Ls:List (Nat×Obj)) (rest:Value) (st md pg:Int) (u:Int) (kl N:Nat) (v:Value) (wr:World):Prop:=
 ∃bs:List Nat,∃Ls',bs.length<=N/\v= .int .i64 (bs.length:Int)/\(∀z∈Ls,z∈Ls')/\(∀j k:Nat,bs[j]? =some k->(k,oN (j:Int))∈Ls')/\QW w0 S b t p s Ls' rest st md pg (ldF t p u kl bs) wr
theorem jei (h:QW w0 S b t p s Ls rest st md pg [] w) (hr:jq t p s=true) {u v:Int} {N:Nat} (hu0:0<=u) (hu:u<=t) (hN:N<=96) :
 Calls prog 86 #[.pointer (some ⟨b,0,none⟩),.int .i64 u,.int .u64 v,.int .i64 N] w fun e w'=>e= .returned (.tuple #[])/\
  ∃kx ku kn kl g bs Ls',bs.length=N/\(∀z∈Ls,z∈Ls')/\(kx,oX b)∈Ls'/\(ku,oN u)∈Ls'/\(kn,oW v)∈Ls'/\(kl,oL (.slice (some ⟨g,0,none⟩) N N))∈Ls'/\(g,Obj.cells (j8 (yg N [])).toArray 106)∈Ls'/\(∀z∈Ls,z.1≠g)/\
   (∀j k:Nat,bs[j]? =some k->(k,oN (j:Int))∈Ls')/\QW w0 S b t p s Ls' (r2V kx ku kn kl) st md pg (ldF t p u kl bs) w':=by
 have hmk:∀w:World,(Instr.makeSlice 45 (.int .i64 (N:Int)) (.int .i64 (N:Int))).run prog w= .ok (.slice (some ⟨w.heap.size,0,none⟩) N N) (w.alloc (.cells (j8 (yg N [])).toArray 106)):=fun w=>by
  obtain ⟨i0,hi0,hi1,hi2,hi3⟩:=info_parts QX;have:=run_make (P:=prog) w 45 106 i0 _ underlying45 hi0 hi1 .i64 .i64 N N zo (Int.le_refl _) (by rw [hi3];omega) zo;rw [hi2] at this;simpa [jdc] using this
 have HLg:=zh (fun (i:Int) w (h3:0<=i) (h4:i < 96)=>jbX hr u i w hu0 hu h3 h4);have HT:=zh (fun (W:World) (Ls':List (Nat×Obj)) (q':List Stp) (kx ku kn kl:Nat) (g:QW w0 S b t p s Ls' rest st md pg q' W)=>KT g 151 #[] #[pB kx,pB ku,pB kn,pB kl]);have H5:=((((h.alloc (oX b)).alloc (oN u)).alloc (oW v)).alloc (.cells (j8 (yg N [])).toArray 106)).alloc (oL (.slice (some ⟨w.heap.size+1+1+1,0,none⟩) N N));simp only [World.size_alloc] at H5;have hfr:∀z∈Ls,z.1≠w.heap.size+1+1+1:=fun z hz=>by have:=h.llt z hz;omega
 have HQ:=zh H5;clear h H5 hr;go_enter func86,ntmps86;go_wp2_with fail;have H0:=zh (show QW w0 S b t p s _ rest st md pg [] _ from HQ.out);generalize hj0:w.heap.size=j0 at*
 generalize hj1:j0+1=j1 at*
 generalize hj2:j1+1=j2 at*
 generalize hj3:j2+1=j3 at*
 generalize hj4:j3+1=j4 at*
 have HFr:=zh hfr;clear hfr HQ;go_loopw [9,13] (fun _ v13 wr=>ReRel w0 S b t p s ((j4,oL (.slice (some ⟨j3,0,none⟩) N N)) :: (j3,Obj.cells (j8 (yg N [])).toArray 106) :: (j2,oW v) :: (j1,oN u) :: (j0,oX b) :: Ls) rest st md pg u j4 N v13 wr) (fun _ v13 _=>N - (intOf v13).toNat);case atStart=>exact ⟨[],_,Nat.zero_le _,rfl,fun z hz=>hz,zT,H0.out⟩
 case round=>
  obtain ⟨bs,Ls',hk,rfl,hs,hbx,h1⟩:=hrel;clear H0;have HS:=zh hs;have HB:=zh hbx;by_cases hlt:bs.length < N
  ·have H1:=zh ((h1.alloc (oN (bs.length:Int))).drew);have hw1:=h1.llt;have s1:=(H1.out.gX (k:=j0) (a:=b) (List.mem_cons_of_mem _ (hs _ zT))).1;have s2:=(H1.out.gN (k:=j1) (a:=u) (List.mem_cons_of_mem _ (hs _ zT))).1;have s3:=(H1.out.gN (k:=wr.heap.size) (a:=(bs.length:Int)) zT).1;have s4:=H1.out.c012;have KS:=zh (fun (W:World) (q':List Stp) (g:QW w0 S b t p s ((wr.heap.size,oN (bs.length:Int)) :: Ls') rest st md pg q' W)=>And.intro (g.gX (k:=j0) (a:=b) (List.mem_cons_of_mem _ (hs _ zT))).1 (And.intro (g.gN (k:=j1) (a:=u) (List.mem_cons_of_mem _ (hs _ zT))).1 (And.intro (g.gN (k:=wr.heap.size) (a:=(bs.length:Int)) zT).1 g.c012)));have hln:((bs.length:Nat):Int) < N:=zo;have hlz:((bs.length:Nat):Int) < 96:=zo;have HL:=zh (HLg.out (bs.length:Int));clear hs hbx h1 hw1 HLg;generalize hbl:bs.length=k at*
   have HBl:=zh hbl;clear hbl;go_wp2_with fail;refine wH (S:=fun w'=>w'.cell? ⟨j0,0,none⟩=some (.pointer (some ⟨b,0,none⟩))/\w'.cell? ⟨j1,0,none⟩=some (.int .i64 u)/\w'.cell? ⟨wr.heap.size,0,none⟩=some (.int .i64 k)/\w'.cell? ⟨b,0,none⟩=some (.int .i64 t)/\w'.cell? ⟨b,1,none⟩=some (.int .i64 p)/\w'.cell? ⟨b,2,none⟩=some (.int .i64 s)) (⟨s1,s2,s3,s4⟩) fun hHeld=> ?_;refine wT 0 ?_;refine wY ?_;refine wR 7 fun K hK=> ?_;go_simp;refine zM (HL.out _ zo hlz) fun w3 b3=> ?_;have H3:=zh (H1.out.below b3);refine wK hK (KS.out _ _ H3.out) fun hHeld=> ?_;clear hK K;refine wR 9 fun K hK=> ?_;go_simp;refine zM (JQ H3.out (by have:=HBl.out;first | (simp [ldF];done) | (simp [ldF];omega)) _ _ _ _) fun w4 h4=> ?_;have H4:=zh h4;clear h4;refine wK hK (KS.out _ _ H4.out) fun hHeld=> ?_;clear hK K;refine wD ?_;clear H1 H3 s1 s2 s3 s4 HT;go_wp2;go_roundw;case rel=>
    have e:=HBl.out;subst e;refine ⟨bs++[wr.heap.size],(wr.heap.size,oN (bs.length:Int)) :: Ls',by rw [List.length_append];exact hlt,zT,fun z hz=>List.mem_cons_of_mem _ (HS.out z hz),fun j x hx=> ?_,?_⟩
    ·by_cases hj:j < bs.length
     ·rw [List.getElem?_append_left hj] at hx;exact List.mem_cons_of_mem _ (HB.out j x hx)
     ·rw [List.getElem?_append_right zo] at hx;have hj2:j - bs.length=0:=by
       false_or_by_contra;rename_i hne;rw [List.getElem?_eq_none (by simp;omega)] at hx;cases hx
      rw [hj2] at hx;simp at hx;subst hx;have:j=bs.length:=zo;subst this;exact List.mem_cons_self
    ·rw [ldF_snoc];exact H4.out
   case measure=>simp [intOf];omega
  ·have he:bs.length=N:=zo;have H1:=zh h1;have s1:=(h1.gX (k:=j0) (a:=b) (hs _ zT)).1;clear h1 hs hbx HLg;have hnl:¬((bs.length:Nat):Int) < N:=zo;have HE:=zh he;clear he;generalize hbl:bs.length=k at*
   have HBl:=zh hbl;clear hbl;go_wp2_with fail;refine zM (HT.out _ _ _ j0 j1 j2 j4 H1.out) fun w4 h4=> ?_;have H4:=zh h4;clear h4 H1 s1;go_wp2;go_end0;have hS:=HS.out;exact ⟨rfl,j0,j1,j2,j4,j3,bs,Ls',by rw [HBl.out];exact HE.out,fun z hz=>hS z (by simp [hz]),hS _ zT,hS _ zT,hS _ zT,hS _ zT,hS _ zT,HFr.out,HB.out,H4.out⟩
end

def ch1V (kx:Nat):Value:= .func (.func 196) #[] #[pB kx]
def Vw (kx kz kn kl:Nat):Value:= .func (.func 197) #[] #[pB kx,pB kz,pB kn,pB kl]
def lgF (t p:Int) (l:List (Int×Int)):List Stp:=l.zipIdx.map fun x=>⟨2,jJ t p t x.2,jH x.1.1 x.1.2,.nilFunc⟩
def fsF (t p:Int) (k:Nat):List Stp:=(List.range k).map fun j=>⟨4,jJ t p t (8*j:Nat),0,.nilFunc⟩
def tlF (t p:Int) (nw tw:Int) (tv:Value):List Stp:=[⟨2,jo t p t,nw,.nilFunc⟩,⟨4,jo t p t,0,.nilFunc⟩,⟨5,0,0,.nilFunc⟩,⟨2,8,tw,tv⟩,⟨4,8,0,.nilFunc⟩,⟨5,0,0,.nilFunc⟩]
theorem lgF_snoc (t p:Int) {l:List (Int×Int)} {k:Nat} {x:Int×Int} (h:l[k]? =some x):lgF t p (l.take (k+1))=lgF t p (l.take k)++[⟨2,jJ t p t k,jH x.1 x.2,.nilFunc⟩]:=by
 have hk:k < l.length:=(List.getElem?_eq_some_iff.1 h).1;rw [List.take_add_one,h];simp [lgF,List.zipIdx_append,Nat.min_eq_left (Nat.le_of_lt hk)]
theorem fsF_snoc (t p:Int) (k:Nat):fsF t p (k+1)=fsF t p k++[⟨4,jJ t p t (8*k:Nat),0,.nilFunc⟩]:=by simp [fsF,List.range_succ]
section
variable {w0 w:World} {S:Nat->Prop} {b:Nat} {t p s:Int} {Ls:List (Nat×Obj)} {rest:Value} {st md pg:Int} {q:List Stp}
theorem QW.last {x:Stp} (h:QW w0 S b t p s Ls rest st md pg (q++[x]) w):∃g off cap,w.cell? ⟨b,3,none⟩=some (.slice (some ⟨g,off,none⟩) (q.length+1) cap)/\w.cell? ⟨g,off+q.length*7+6,none⟩=some x.told/\w.frozen? ⟨g,off+q.length*7+6,none⟩=false/\g≠b/\
 ∀tv:Value,QW w0 S b t p s Ls rest st md pg (q++[⟨x.d,x.at_,x.v,tv⟩]) (w.setCell ⟨g,off+q.length*7+6,none⟩ tv):=by
 obtain ⟨⟨lv,h1,h2⟩,h3,h4,h5⟩:=h;have hlen:(q++[x]).length=q.length+1:=zT;rw [hlen] at h1;have hr:=h1.row;have hr2:=hr.2;obtain ⟨g,off,cap,rfl⟩:=hr.form zo;rw [Qj] at hr;have hql:(Kw t q).length=q.length*7:=by
  have:=hr.1;simp [kT] at this;omega
 have hc:=hr.cell (q.length*7+6) x.told (by
  rw [List.getElem?_append_right zo,hql,show q.length*7+6 - q.length*7=6 by omega];rfl)
 have hne:g≠b:=fun e=>h1.ne (by rw [<-e];rfl);rcases hr.2 with ⟨e,-⟩ | ⟨g',off',cap',cur,e,hg,ho1,ho2,ho3,ht⟩
 ·cases e
 simp only [Value.slice.injEq,Option.some.injEq,Addr.mk.injEq,and_true,true_and] at e;obtain ⟨⟨rfl,rfl⟩,rfl⟩:=e;have hsz:off+q.length*7+6 < cur.size:=by
  have:(q.length+1)*7<=cap*7:=Nat.mul_le_mul_right _ ho1;omega
 refine ⟨g,off,cap,by rw [jd h1.box];rfl,by rw [Nat.add_assoc];exact hc,jj hg,hne,fun tv=> ?_⟩;refine ⟨⟨.slice (some ⟨g,off,none⟩) (q.length+1) cap,⟨(jg (Ne.symm hne)).trans h1.box,?_,h1.ne⟩,fun k hk=>h2 k hk⟩,fun l hl=>⟨(jg ?_).trans (h3 l hl).1,(h3 l hl).2⟩,h4,h5.setCell ⟨g,off+q.length*7+6,none⟩ tv (h2 g rfl).1⟩
 ·rw [Qj];have hl2:(q++[(⟨x.d,x.at_,x.v,tv⟩:Stp)]).length=q.length+1:=zT;rw [hl2];refine ⟨by have:=hr.1;simpa [kT] using this,.inr ⟨g,off,cap,_,rfl,jR hg,ho1,ho2,by simpa using ho3,?_⟩⟩;rw [Array.toList_setIfInBounds,List.drop_set,if_neg zo,show off+q.length*7+6 - off=q.length*7+6 by omega,List.take_set,ht,List.set_append_right _ _ zo,hql,show q.length*7+6 - q.length*7=6 by omega];rfl
 ·exact fun e=>(h2 g rfl).2 l hl e
end
end Go.Proofs.YtcnininelndjoaaGreat
namespace Go.Proofs.YtcnininelndjoaaGreat
open Go.Proofs.Tryz

section
variable {P:Program} {ops:Array Oper} {Q:Exit->Act->World->Prop} {md:Region.Mode}

theorem Vg {A1 A2 A3 A4 A5:Type} {F:A1->A2->A3->A4->A5->Act} {id:Nat} {b:Bool} {a:Act} {w:World} (Φ:A1->A2->A3->A4->A5->World->Prop)
 (h1:(Code.region id ops b).wp P (fun e a' w'=>e= .normal/\∃x1 x2 x3 x4 x5,a'=F x1 x2 x3 x4 x5/\Φ x1 x2 x3 x4 x5 w') a w)
 (h2:∀x1 x2 x3 x4 x5 w',Φ x1 x2 x3 x4 x5 w'->Q .normal (F x1 x2 x3 x4 x5) w'):(Code.region id ops b).wp P Q a w:=
 Code.wp_mono (by
  rintro e a' w' ⟨rfl,x1,x2,x3,x4,x5,rfl,h⟩;exact h2 _ _ _ _ _ _ h) h1
end
end Go.Proofs.YtcnininelndjoaaGreat
namespace Go.Proofs.YtcnininelndjoaaGreat
open Go.Proofs.Tryz
open Go.RowKit

section
variable {w0 w:World} {S:Nat->Prop} {b:Nat} {t p s:Int} {Ls:List (Nat×Obj)} {rest:Value} {st md pg:Int} {q:List Stp}
def C1Rel (w0:World) (S:Nat->Prop) (b:Nat) (t p s:Int) (Ls:List (Nat×Obj)) (rest:Value) (st md pg:Int) (l:List (Int×Int)) (v:Value) (wr:World):Prop:=
 ∃k:Nat,k<=l.length/\v= .int .i64 k/\QW w0 S b t p s Ls rest st md pg (lgF t p (l.take k)) wr
def C2Rel (w0:World) (S:Nat->Prop) (b:Nat) (t p s:Int) (Ls:List (Nat×Obj)) (rest:Value) (st md pg:Int) (l:List (Int×Int)) (v:Value) (wr:World):Prop:=
 ∃k:Nat,8*k<=l.length+7/\v= .int .i64 (8*k:Nat)/\QW w0 S b t p s Ls rest st md pg (lgF t p l++fsF t p k) wr
theorem jcj (h:QW w0 S b t p s Ls rest st md pg q w):Calls prog 80 #[.pointer (some ⟨b,0,none⟩)] w fun e w'=>e= .returned (.int .i64 t)/\w=w':=qR b t w h.c012.1
theorem jbc (h:QW w0 S b t p s Ls rest st md pg [] w) (hr:jq t p s=true) {a:Option Addr} {c:Nat} {l:List (Int×Int)} (hl:KB Ls (.slice a l.length c) l) (hlen:l.length<=96) (hlr:∀x∈l,(0<=x.1/\x.1 < jk t p)/\0<=x.2/\x.2 < 4294967296) (hst:0<=st/\st+1 < 4294967296) :
 Calls prog 146 #[.pointer (some ⟨b,0,none⟩),.slice a l.length c] w fun e w'=>e= .returned (.tuple #[])/\
  ∃kx kz kn kl Ls',(∀z∈Ls,z∈Ls')/\(kx,oX b)∈Ls'/\(kz,oN t)∈Ls'/\(kn,oW (j9 (st+1) l.length true))∈Ls'/\(kl,oL (.slice a l.length c))∈Ls'/\
   QW w0 S b t p s Ls' (Vw kx kz kn kl) st md pg (lgF t p l++fsF t p ((l.length+7) / 8)++tlF t p (j9 (st+1) l.length true) (jH (st+1) t) (ch1V kx)) w':=by
 have hrb:=jn hr;have hmb:=jI hr;have HLg:=zh (fun (i:Int) w (h3:0<=i) (h4:i < 96)=>jbX hr t i w zo (Int.le_refl _) h3 h4);have HEn:=zh (fun (x:Int×Int) (hx:x∈l) w=>jbl x.1 x.2 w (hlr x hx).1.1 (by have:=(hlr x hx).1.2;omega) (hlr x hx).2);have HNo:=zh (fun w=>jad (st+1) (l.length:Int) true w zo zo zo);have HTp:=zh (fun w=>jeL (st+1) t w zo zo zo);have HAt:=zh (fun w=>Ym hr t w zo (Int.le_refl _));have HMk:=zh (fun (W:World) (Ls':List (Nat×Obj)) (g:QW w0 S b t p s Ls' rest st md pg [] W)=>jcj g);have HL:=zh hl;have HLen:=zh hlen;have hws:IntKind.u32.wrap (st+1)=st+1:=IntWalk.u32_in _ zo;have HQ:=zh ((h.alloc (oX b)).alloc (oL (.slice a l.length c)));have hnw:∀x:Int,j9 (st+1) x true=j9 (st+1) x true:=fun _=>rfl;clear hnw;generalize hnt:jo t p t=na at*
 have HNt:=zh hnt;generalize hnwd:j9 (st+1) (l.length:Int) true=nw at*
 generalize htw:jH (st+1) t=tw at*
 clear h hr hl hlr hst hrb hmb hnt hnwd htw hlen;go_enter func146,ntmps146;go_wp2_with fail;refine (HMk.out _ _ HQ.out).mono ?_;rintro e w1 ⟨rfl,hw1⟩;have H1:=HQ.out;simp only [World.size_alloc] at H1;rw [hw1] at H1;clear hw1 HQ HMk;generalize hj0:w.heap.size=j0 at*
 generalize hj1:j0+1=j1 at*
 have s0:=(H1.gX (k:=j0) (a:=b) zT)
 have s1:=(H1.gL (k:=j1) (a:= .slice a l.length c) zT)
 obtain ⟨s0,-,z0,-⟩:=s0;obtain ⟨s1,-,z1,-⟩:=s1;have H2:=zh (H1.alloc (oN t));clear H1;go_wp2_with fail;generalize hj2:w1.heap.size=j2 at*
 go_loopw [5,6,7,8,19] (fun _ _ _ _ v20 wr=>C1Rel w0 S b t p s ((j2,oN t) :: (j1,oL (.slice a l.length c)) :: (j0,oX b) :: Ls) rest st md pg l v20 wr) (fun _ _ _ _ v20 _=>l.length - (intOf v20).toNat);case atStart=>exact ⟨0,Nat.zero_le _,rfl,H2.out⟩
 case round=>
  obtain ⟨k,hk,rfl,h1⟩:=hrel;have hl96:=HLen.out;by_cases hlt:k < l.length
  ·clear H2 s0 s1;obtain ⟨x,hx⟩:∃x,l[k]? =some x:=⟨_,List.getElem?_eq_getElem hlt⟩
   have hF:=lgF_snoc t p hx;obtain ⟨ad,rfl,c1,c2⟩:=(HL.out.sub (Ls':=((j2,oN t) :: (j1,oL (.slice a l.length c)) :: (j0,oX b) :: Ls)) (fun z hz=>by simp [hz])).cells h1 hx;have HE:=zh (HEn.out x (List.mem_of_getElem? hx));have HF:=zh hF;have HLk:=zh (fun w=>HLg.out (k:Int) w zo zo);obtain ⟨xc,xv⟩:=x;dsimp only at c1 c2 HE HF;have H1:=zh (h1.alloc (.cells #[.int .i64 xc,.int .u32 xv] 106));clear hx hF h1 HEn HLg HNo HTp HAt;go_wp2_with fail;refine (HE.out _).mono ?_;rintro e w2 ⟨rfl,b2⟩;have h2:=H1.out.below b2;have HH2:=zh h2.drew;obtain ⟨d0,-,y0,-⟩:=h2.drew.gX (k:=j0) (a:=b) zT;obtain ⟨d2,-,y2,-⟩:=h2.drew.gN (k:=j2) (a:=t) zT;have d3:=h2.drew.c012;clear h2 H1 HE b2 c1 c2;go_wp2_with fail;refine wH (S:=fun w'=>w'.cell? ⟨j0,0,none⟩=some (.pointer (some ⟨b,0,none⟩))/\w'.cell? ⟨j2,0,none⟩=some (.int .i64 t)/\w'.cell? ⟨b,0,none⟩=some (.int .i64 t)/\w'.cell? ⟨b,1,none⟩=some (.int .i64 p)/\w'.cell? ⟨b,2,none⟩=some (.int .i64 s)) (⟨d0,d2,d3⟩) fun hHeld=> ?_;refine wT 0 ?_;refine wY ?_;refine wR 7 fun K hK=> ?_;go_simp;refine (HLk.out _).mono ?_;rintro e w3 ⟨rfl,b3⟩;have H3:=zh (HH2.out.below b3);refine wK hK (⟨(H3.out.gX (k:=j0) (a:=b) zT).1,(H3.out.gN (k:=j2) (a:=t) zT).1,H3.out.c012⟩) fun hHeld=> ?_;clear hK K;refine wR 9 fun K hK=> ?_;go_simp;refine (Jk H3.out (by simp [lgF];omega) _ _).mono ?_;rintro e w4 ⟨rfl,h4⟩;have H4:=zh h4;clear h4;refine wK hK (⟨(H4.out.gX (k:=j0) (a:=b) zT).1,(H4.out.gN (k:=j2) (a:=t) zT).1,H4.out.c012⟩) fun hHeld=> ?_;clear hK K;refine wD ?_;clear HH2 H3 d0 d2 d3 HLk hHeld;go_wp2;go_roundw;case rel=>exact ⟨k+1,zo,by go_num,by rw [HF.out];exact H4.out.sub (fun z hz=>List.mem_cons_of_mem _ hz)⟩
   case measure=>simp [intOf];omega
  ·have he:k=l.length:=zo;subst he;rw [List.take_length] at h1;have H1:=zh h1;obtain ⟨s1,-,z1,-⟩:=h1.gL (k:=j1) (a:= .slice a l.length c) zT;clear H2 h1 HEn hlt hk;generalize hln:l.length=n at*
   have HN:=zh hln;clear hln;go_wp2_with fail;go_loopw [9] (fun v9 wr=>C2Rel w0 S b t p s ((j2,oN t) :: (j1,oL (.slice a n c)) :: (j0,oX b) :: Ls) rest st md pg l v9 wr) (fun v9 _=>n+7 - (intOf v9).toNat);case atStart=>exact ⟨0,zo,rfl,by simpa [fsF] using H1.out⟩
   case round=>
    clear H1 s1;obtain ⟨k,hk,rfl,h1⟩:=hrel;rw [HN.out] at hk;obtain ⟨s1,-,-,-⟩:=h1.gL (k:=j1) (a:= .slice a n c) zT;obtain ⟨s0,-,-,-⟩:=h1.gX (k:=j0) (a:=b) zT;have H1:=zh h1;clear h1;have hk8:((8*k:Nat):Int)=8*(k:Int):=zo;by_cases hlt:8*k < n
    ·have hlI:((8*k:Nat):Int) < (n:Int):=zo;have HLk:=zh (fun w=>HLg.out ((8*k:Nat):Int) w zo zo);have HF:=zh (fsF_snoc t p k);have hw8:IntKind.i64.wrap (((8*k:Nat):Int)+8)=((8*(k+1):Nat):Int):=by rw [jD _ zo];omega
     generalize h8:8*k=k8 at*
     obtain ⟨d0,-,y0,-⟩:=H1.out.drew.gX (k:=j0) (a:=b) zT;obtain ⟨d2,-,y2,-⟩:=H1.out.drew.gN (k:=j2) (a:=t) zT;have d3:=H1.out.drew.c012;clear HNo HTp HAt HLg hk8;go_wp2_with fail;refine wH (S:=fun w'=>w'.cell? ⟨j0,0,none⟩=some (.pointer (some ⟨b,0,none⟩))/\w'.cell? ⟨j2,0,none⟩=some (.int .i64 t)/\w'.cell? ⟨b,0,none⟩=some (.int .i64 t)/\w'.cell? ⟨b,1,none⟩=some (.int .i64 p)/\w'.cell? ⟨b,2,none⟩=some (.int .i64 s)) (⟨d0,d2,d3⟩) fun hHeld=> ?_;refine wT 0 ?_;refine wY ?_;refine wR 7 fun K hK=> ?_;go_simp;refine (HLk.out _).mono ?_;rintro e w3 ⟨rfl,b3⟩;have H3:=zh (H1.out.drew.below b3);refine wK hK (⟨(H3.out.gX (k:=j0) (a:=b) zT).1,(H3.out.gN (k:=j2) (a:=t) zT).1,H3.out.c012⟩) fun hHeld=> ?_;clear hK K;refine wR 8 fun K hK=> ?_;go_simp;refine (Jl H3.out (by have:=HN.out;simp [lgF,fsF];omega) _).mono ?_;rintro e w4 ⟨rfl,h4⟩;have H4:=zh h4;clear h4;refine wK hK (⟨(H4.out.gX (k:=j0) (a:=b) zT).1,(H4.out.gN (k:=j2) (a:=t) zT).1,H4.out.c012⟩) fun hHeld=> ?_;clear hK K;refine wD ?_;clear H1 H3 d0 d2 d3 s0 s1 HLk hHeld;go_wp2;go_roundw;case rel=>
      exact ⟨k+1,by rw [HN.out];omega,zT,by rw [HF.out,<-List.append_assoc];exact H4.out⟩
     case measure=>simp [intOf];omega
    ·have hnl:¬((8*k:Nat):Int) < (n:Int):=zo;have hkk:k=(n+7) / 8:=zo;have hk2:k<=12:=zo;clear HLg;generalize h8:8*k=k8 at*
     have HKK:=zh hkk;clear hk8 hkk h8 hk;go_wp2_with fail;have HC:=zh H1.out.drew;clear H1;have d5:=HC.out.c4.2.1;apply Vg (fun (kn:Nat) (_:Nat) (_:Nat) (_:Nat) (_:Nat) (W:World)=>QW w0 S b t p s ((kn,oW nw) :: (j2,oN t) :: (j1,oL (.slice a n c)) :: (j0,oX b) :: Ls) rest st md pg (lgF t p l++fsF t p k) W)
     ·skip;refine wHn3 (zQ s0) (zQ s1) (zQ d5) fun hHeld=> ?_;refine wT 0 ?_;refine wY ?_;refine wpAnyH_ready (rs:=[8,12]) zk zT ?_;refine AllReadyH.cons (o:=_) rfl (fun K hK=> ?_) (AllReadyH.cons (o:=_) rfl (fun K hK=> ?_) AllReadyH.nil);go_simp;refine (HNo.out _).mono ?_;rintro e w3 ⟨rfl,b3⟩;have HC:=zh (HC.out.below b3);refine wK hK (⟨(HC.out.gX (k:=j0) (a:=b) zT).1,(HC.out.gL (k:=j1) (a:= .slice a n c) zT).1,HC.out.c4.2.1⟩) fun hHeld=> ?_;clear hK K;refine wT 9 ?_;refine wY ?_;refine wR 12 fun K hK=> ?_;have hfr:=HC.out.fresh;have HB:=zh (HC.out.alloc (oW nw));have HC:=zh (HC.out.alloc (oW 0));go_simp;refine wK hK (⟨(HC.out.gX (k:=j0) (a:=b) zT).1,(HC.out.gL (k:=j1) (a:= .slice a n c) zT).1,HC.out.c4.2.1⟩) fun hHeld=> ?_;clear hK K;refine wR 13 fun K hK=> ?_;have HD:=zh (HC.out.fill hfr (.int .u64 nw));obtain ⟨cw,fw,-,-⟩:=HC.out.b1 List.mem_cons_self;try simp only [World.size_drew] at cw fw HD
      go_simp;refine wK hK (by first | exact ⟨(HB.out.gX (k:=j0) (a:=b) zT).1,(HB.out.gL (k:=j1) (a:= .slice a n c) zT).1,HB.out.c4.2.1⟩ | exact ⟨(HD.out.gX (k:=j0) (a:=b) zT).1,(HD.out.gL (k:=j1) (a:= .slice a n c) zT).1,HD.out.c4.2.1⟩) fun hHeld=> ?_;clear hK K;refine wY ?_;refine wD ?_;rotate_left;have hfr:=HC.out.fresh;have HB:=zh (HC.out.alloc (oW nw));have HC:=zh (HC.out.alloc (oW 0));go_simp;refine wK hK (⟨(HC.out.gX (k:=j0) (a:=b) zT).1,(HC.out.gL (k:=j1) (a:= .slice a n c) zT).1,HC.out.c4.2.1⟩) fun hHeld=> ?_;clear hK K;refine wR 8 fun K hK=> ?_;go_simp;refine (HNo.out _).mono ?_;rintro e w3 ⟨rfl,b3⟩;have HC:=zh (HC.out.below b3);refine wK hK (⟨(HC.out.gX (k:=j0) (a:=b) zT).1,(HC.out.gL (k:=j1) (a:= .slice a n c) zT).1,HC.out.c4.2.1⟩) fun hHeld=> ?_;clear hK K;refine wY ?_;refine wR 13 fun K hK=> ?_;have HD:=zh (HC.out.fill hfr (.int .u64 nw));obtain ⟨cw,fw,-,-⟩:=HC.out.b1 List.mem_cons_self;try simp only [World.size_drew] at cw fw HD
      go_simp;refine wK hK (by first | exact ⟨(HB.out.gX (k:=j0) (a:=b) zT).1,(HB.out.gL (k:=j1) (a:= .slice a n c) zT).1,HB.out.c4.2.1⟩ | exact ⟨(HD.out.gX (k:=j0) (a:=b) zT).1,(HD.out.gL (k:=j1) (a:= .slice a n c) zT).1,HD.out.c4.2.1⟩) fun hHeld=> ?_;clear hK K;refine wY ?_;refine wD ?_;all_goals
       refine ⟨rfl,?_⟩;obtain ⟨u1,-⟩:∃u:Nat,True:=⟨0,trivial⟩
       obtain ⟨u2,-⟩:∃u:Nat,True:=⟨0,trivial⟩
       obtain ⟨u3,-⟩:∃u:Nat,True:=⟨0,trivial⟩
       obtain ⟨u4,-⟩:∃u:Nat,True:=⟨0,trivial⟩
       first
        | (obtain ⟨kn,hkn,hB⟩:∃kn,kn=w3.heap.size/\QW w0 S b t p s ((kn,oW nw) :: (j2,oN t) :: (j1,oL (.slice a n c)) :: (j0,oX b) :: Ls) rest st md pg (lgF t p l++fsF t p k) (w3.alloc (.cells #[.int .u64 nw] 38)):=⟨_,rfl,HB.out⟩;rw [<-hkn];exact ⟨kn,u1,u2,u3,u4,rfl,hB⟩)
        | (obtain ⟨kn,hkn,hB⟩:∃kn,kn=wr.heap.size/\QW w0 S b t p s ((kn,oW nw) :: (j2,oN t) :: (j1,oL (.slice a n c)) :: (j0,oX b) :: Ls) rest st md pg (lgF t p l++fsF t p k) (w3.setCell ⟨kn,0,none⟩ (.int .u64 nw)):=⟨_,rfl,HD.out⟩;rw [<-hkn];exact ⟨kn,u1,u2,u3,u4,rfl,hB⟩)
     intro kn _ _ _ _ w5 h5;try dsimp only
     clear HNo s0 s1;have H5:=zh h5;obtain ⟨a0,-,-,-⟩:=h5.drew.gX (k:=j0) (a:=b) zT;obtain ⟨a2,-,-,-⟩:=h5.drew.gN (k:=j2) (a:=t) zT;have a5:=h5.drew.c4.2.1;clear h5;go_wp2_with fail;refine wHn3 (zQ a0) (zQ a2) (zQ a5) fun hHeld=> ?_;refine wT 0 ?_;refine wY ?_;refine wR 6 fun K hK=> ?_;go_simp;refine (HTp.out _).mono ?_;rintro e w6 ⟨rfl,b6⟩;have H6:=zh (H5.out.drew.below b6);refine wK hK (⟨(H6.out.gX (k:=j0) (a:=b) zT).1,(H6.out.gN (k:=j2) (a:=t) zT).1,H6.out.c4.2.1⟩) fun hHeld=> ?_;clear hK K;refine wY ?_;refine wD ?_;clear hHeld HTp H5 a0 a2 a5;have HD:=zh H6.out.drew;obtain ⟨a0,-,-,-⟩:=H6.out.drew.gX (k:=j0) (a:=b) zT;obtain ⟨a2,-,-,-⟩:=H6.out.drew.gN (k:=j2) (a:=t) zT;have a3:=H6.out.drew.c012;clear H6;go_wp2_with fail;refine wH (S:=fun w'=>w'.cell? ⟨j0,0,none⟩=some (.pointer (some ⟨b,0,none⟩))/\w'.cell? ⟨j2,0,none⟩=some (.int .i64 t)/\w'.cell? ⟨b,0,none⟩=some (.int .i64 t)/\w'.cell? ⟨b,1,none⟩=some (.int .i64 p)/\w'.cell? ⟨b,2,none⟩=some (.int .i64 s)) (⟨a0,a2,a3⟩) fun hHeld=> ?_;refine wT 0 ?_;refine wY ?_;refine wR 5 fun K hK=> ?_;go_simp;refine (HAt.out _).mono ?_;rintro e w7 ⟨rfl,b7⟩;have H7:=zh (HD.out.below b7);refine wK hK (⟨(H7.out.gX (k:=j0) (a:=b) zT).1,(H7.out.gN (k:=j2) (a:=t) zT).1,H7.out.c012⟩) fun hHeld=> ?_;clear hK K;refine wY ?_;refine wD ?_;clear hHeld HAt HD a0 a2 a3;obtain ⟨e0,-⟩:=H7.out.gX (k:=j0) (a:=b) zT;obtain ⟨e1,-⟩:=H7.out.gW (k:=kn) (a:=nw) zT;go_wp2_with fail;refine (Jk H7.out (by have:=HN.out;simp [lgF,fsF];omega) _ _).mono ?_;rintro e w8 ⟨rfl,hx⟩;have H8:=zh hx;obtain ⟨e0,-⟩:=hx.gX (k:=j0) (a:=b) zT;obtain ⟨e1,-⟩:=hx.gW (k:=kn) (a:=nw) zT;clear hx H7;go_wp2_with fail;refine (Jl H8.out (by have:=HN.out;simp [lgF,fsF];omega) _).mono ?_;rintro e w9 ⟨rfl,hx⟩;have H9:=zh hx;clear e0 e1;obtain ⟨e0,-⟩:=hx.gX (k:=j0) (a:=b) zT;obtain ⟨e1,-⟩:=hx.gW (k:=kn) (a:=nw) zT;clear hx H8;go_wp2_with fail;refine (Kc H9.out (by have:=HN.out;simp [lgF,fsF];omega)).mono ?_;rintro e w10 ⟨rfl,hx⟩;have H10:=zh hx;clear e0 e1;obtain ⟨e0,-⟩:=hx.gX (k:=j0) (a:=b) zT;obtain ⟨e1,-⟩:=hx.gW (k:=kn) (a:=nw) zT;clear hx H9;go_wp2_with fail;refine (Jk H10.out (by have:=HN.out;simp [lgF,fsF];omega) _ _).mono ?_;rintro e w11 ⟨rfl,hx⟩;have H11:=zh hx;clear e0 e1;obtain ⟨e0,-⟩:=hx.gX (k:=j0) (a:=b) zT;obtain ⟨e1,-⟩:=hx.gW (k:=kn) (a:=nw) zT;clear hx H10;have HLast:Hid (∀tv:Value,∃g off cap,w11.cell? ⟨b,3,none⟩=some (.slice (some ⟨g,off,none⟩) (n+k+3+1) cap)/\w11.cell? ⟨g,off+(n+k+3)*7+6,none⟩=some .nilFunc/\w11.frozen? ⟨g,off+(n+k+3)*7+6,none⟩=false/\g≠b/\
      QW w0 S b t p s ((kn,oW nw) :: (j2,oN t) :: (j1,oL (.slice a n c)) :: (j0,oX b) :: Ls) rest st md pg (lgF t p l++fsF t p k++[⟨2,na,nw,.nilFunc⟩,⟨4,na,0,.nilFunc⟩,⟨5,0,0,.nilFunc⟩,⟨2,8,tw,tv⟩]) (w11.setCell ⟨g,off+(n+k+3)*7+6,none⟩ tv)):=zh (fun tv=>by
      obtain ⟨g,off,cap,l3,l6,lf,lg,ltv⟩:=H11.out.last;have he:(lgF t p l++fsF t p k++[(⟨2,na,nw,.nilFunc⟩:Stp)]++[(⟨4,na,0,.nilFunc⟩:Stp)]++[(⟨5,0,0,.nilFunc⟩:Stp)]).length=n+k+3:=by
       simp [lgF,fsF,HN.out];omega
      rw [he] at l3 l6 lf;have h2:=ltv tv;rw [he] at h2;exact ⟨g,off,cap,l3,l6,lf,lg,by simpa using h2⟩)
     obtain ⟨g,off,cap,l3,l6,lf,lg,h12⟩:=HLast.out (ch1V j0);unfold ch1V at h12;have H12:=zh h12;have hmm:n+k+3<=200:=zo;generalize hm:n+k+3=m at*
     have HM:=zh hm;have hsf:=fun mo=>run_store prog w11.drew ⟨g,off+m*7+6,none⟩ (.func (.func 196) #[] #[pB j0]) mo rfl;unfold pB at hsf H12;have hwm:IntKind.i64.wrap (m:Int)=(m:Int):=jD _ zo;have hm1:(m:Int) < (m:Int)+1:=zo;clear h12 HLast H11 e1 hm;go_wp2_with fail;refine wHn2 (zQ e0) (zQ l3) fun hHeld=> ?_;refine wT 0 ?_;refine wY ?_;refine wR 13 fun K hK=> ?_;have q6:w11.drew.cell? ⟨g,off+m*7+6,none⟩=some .nilFunc:=l6;have qf:w11.drew.frozen? ⟨g,off+m*7+6,none⟩=false:=lf;go_simp;refine wK hK (⟨(H12.out.drew.gX (k:=j0) (a:=b) zT).1,(World.cell?_of_block (jg (Ne.symm lg))).trans l3⟩) fun hHeld=> ?_;clear hK K;refine wD ?_;have HE:=zh H12.out.drew;clear hHeld l3 l6 lf lg hsf H12 hm1 hwm;refine jT ?_;intro w12 hw12;have hE:=HE.out;rw [<-hw12] at hE;clear HE hw12 e0;obtain ⟨e0,-⟩:=hE.gX (k:=j0) (a:=b) zT;have HE:=zh hE;clear hE;go_wp2_with fail;refine (Jl HE.out (by have:=HN.out;simp [lgF,fsF];omega) _).mono ?_;rintro e w13 ⟨rfl,hx⟩;have H13:=zh hx;clear e0;obtain ⟨e0,-⟩:=hx.gX (k:=j0) (a:=b) zT;clear hx HE;go_wp2_with fail;refine (Kc H13.out (by have:=HN.out;simp [lgF,fsF];omega)).mono ?_;rintro e w14 ⟨rfl,hx⟩;have H14:=zh hx;clear e0;obtain ⟨e0,-⟩:=hx.gX (k:=j0) (a:=b) zT;clear hx H13;go_wp2_with fail;refine (KT H14.out _ _ _).mono ?_;rintro e w15 ⟨rfl,hx⟩;have H15:=zh hx;clear hx H14 e0;go_wp2;go_end0;refine ⟨rfl,j0,j2,kn,j1,(kn,oW nw) :: (j2,oN t) :: (j1,oL (.slice a n c)) :: (j0,oX b) :: Ls,fun z hz=>by simp [hz],zT,zT,zT,by simp [HN.out],?_⟩;have h15:=H15.out;have hk:=HKK.out;have hna:=HNt.out;have hnn:=HN.out;subst hnn hna hk;simpa [tlF,ch1V,Vw,pB] using h15
end

def KnV (Ls:List (Nat×Obj)) (kv:Value) (kn:List (Int×Int)):Prop:=(kv= .slice none 0 0/\kn=[])\/
 ∃g cap cur,kv= .slice (some ⟨g,0,none⟩) kn.length cap/\(g,Obj.cells cur 106)∈Ls/\kn.length<=cap/\cap<=maxLen/\cur.size=cap*2/\cur.toList.take (kn.length*2)=j8 kn
theorem KnV.nil (Ls:List (Nat×Obj)):KnV Ls (.slice none 0 0) []:= .inl ⟨rfl,rfl⟩
theorem KnV.sub {Ls Ls':List (Nat×Obj)} {kv:Value} {kn:List (Int×Int)} (h:KnV Ls kv kn) (hs:∀l∈Ls,l∈Ls'):KnV Ls' kv kn:=by
 rcases h with h | ⟨g,cap,cur,h1,h2,h3⟩
 ·exact .inl h
 ·exact .inr ⟨g,cap,cur,h1,hs _ h2,h3⟩
theorem KnV.shape {Ls:List (Nat×Obj)} {kv:Value} {kn:List (Int×Int)} (h:KnV Ls kv kn):∃a c,kv= .slice a kn.length c:=by
 rcases h with ⟨h1,h2⟩ | ⟨g,cap,cur,h1,-⟩
 ·exact ⟨none,0,by rw [h1,h2];rfl⟩
 ·exact ⟨_,_,h1⟩
section
variable {w0 w w':World} {S:Nat->Prop} {b:Nat} {t p s:Int} {Ls:List (Nat×Obj)} {rest:Value} {st md pg:Int} {q:List Stp}
theorem KnV.row {kv:Value} {kn:List (Int×Int)} (h:QW w0 S b t p s Ls rest st md pg q w) (hk:KnV Ls kv kn):w.ownsRow 0 106 2 kv kn.length (j8 kn):=by
 refine ⟨by rw [Qo,Nat.mul_comm],?_⟩;rcases hk with ⟨h1,h2⟩ | ⟨g,cap,cur,h1,h2,h3,h4,h5,h6⟩
 ·exact .inl ⟨h1,by rw [h2];rfl⟩
 ·exact .inr ⟨g,cap,cur,h1,Nat.zero_le _,(h.ls _ h2).1,h3,h4,h5,h6⟩
theorem jbW {kv:Value} {kn:List (Int×Int)} (h:w.ownsRow 0 106 2 kv kn.length (j8 kn)):jdv w kv kn:=by
 rcases h.2 with ⟨h1,h2⟩ | ⟨g,cap,cur,h1,-,h3,h4,h5,h6,h7⟩
 ·refine ⟨none,0,by rw [h1,h2],fun i x hx=> ?_⟩;have:=(List.getElem?_eq_some_iff.1 hx).1;omega
 ·refine ⟨_,_,h1,fun i x hx=>⟨_,rfl,?_⟩⟩;have hp:=Jo kn i;rw [hx] at hp;have e1:(⟨g,0,none⟩:Addr).add (i*2)=⟨g,2*i,none⟩:=by
   unfold Addr.add;split
   ·rename_i h0;have:i=0:=zo;subst this;rfl
   ·rw [Nat.mul_comm];simp
  rw [e1];rw [h1] at h;have ha:∀j,(⟨g,0,none⟩:Addr).add j=⟨g,j,none⟩:=fun j=>by unfold Addr.add;split <;> simp_all
  have c1:=h.cells (g:=g) rfl (2*i) _ hp.1;have c2:=h.cells (g:=g) rfl (2*i+1) _ hp.2;rw [ha] at c1 c2;exact ⟨c1,c2⟩
theorem QW.made_row (h:QW w0 S b t p s Ls rest st md pg q w) (hb:Below w.heap.size w w') {v:Value} {l:List (Int×Int)} (ho:w'.ownsRow 0 106 2 v l.length (j8 l)) (hg:∀k,v.ownBlock=some k->w.heap.size<=k) :
 ∃Lx,(∀z∈Lx,w.heap.size<=z.1)/\QW w0 S b t p s (Lx++Ls) rest st md pg q w'/\KB Lx v l/\KnV Lx v l:=by
 rcases ho.2 with ⟨h1,h2⟩ | ⟨g,cap,cur,h1,-,h3,h4,h5,h6,h7⟩
 ·have hl:l=[]:=List.eq_nil_of_length_eq_zero h2;subst hl;exact ⟨[],zT,h.below hb,⟨none,0,h1,Nat.le_refl _,fun hn=>absurd rfl hn⟩,.inl ⟨h1,rfl⟩⟩
 ·have hgs:=hg g (by rw [h1];rfl);refine ⟨[(g,Obj.cells cur 106)],fun z hz=>by simp at hz;subst hz;exact hgs,?_,⟨_,_,h1,h4,fun hn=>⟨g,0,cur,rfl,zT,fun i x hx=> ?_⟩⟩,.inr ⟨g,cap,cur,h1,zT,h4,h5,h6,h7⟩⟩
  ·refine h.grown (row:=none) ⟨hb.os,hb.tape,hb.output,hb.size,fun k hk _=>hb.block k hk⟩ zT fun z hz=> ?_;rcases List.mem_append.1 hz with hz | hz
   ·simp at hz;subst hz;exact .inr ⟨h3,.inr hgs⟩
   ·exact .inl ⟨hz,zT⟩
  ·have hp:=Jo l i;rw [hx,<-h7] at hp;have hil:=(List.getElem?_eq_some_iff.1 hx).1;rw [List.getElem?_take,if_pos zo,List.getElem?_take,if_pos zo] at hp;simpa using hp
theorem QW.put1 {k:Nat} {cs:Array Value} {T:TypeId} (h:QW w0 S b t p s ((k,Obj.cells cs T) :: Ls) rest st md pg q w) (hf:∀l∈Ls,l.1≠k) (i:Nat) (u:Value):QW w0 S b t p s ((k,Obj.cells (cs.setIfInBounds i u) T) :: Ls) rest st md pg q (w.setCell ⟨k,i,none⟩ u):=
 h.box List.mem_cons_self rfl fun l hl=>by
  rcases List.mem_cons.1 hl with rfl | hl
  ·exact .inl rfl
  ·exact .inr ⟨List.mem_cons_of_mem _ hl,hf l hl⟩
theorem QW.thought {k:Nat} (h:QW w0 S b t p s ((k,Obj.cells (jK 0 (.slice none 0 0)) 53) :: Ls) rest st md pg q w) (hf:∀l∈Ls,l.1≠k) (nd:Int) (wv:Value):QW w0 S b t p s ((k,Obj.cells (jK nd wv) 53) :: Ls) rest st md pg q
 ((((((((((((((w.setCell ⟨k,0,none⟩ (.int .i64 nd)).setCell ⟨k,1,none⟩ wv).setCell ⟨k,2,none⟩ (.int .i64 0)).setCell ⟨k,3,none⟩ (.int .i64 0)).setCell ⟨k,4,none⟩ (.int .i64 0)).setCell ⟨k,5,none⟩ (.slice none 0 0)).setCell ⟨k,6,none⟩ (.slice none 0 0)).setCell ⟨k,7,none⟩ (.slice none 0 0)).setCell ⟨k,8,none⟩ (.slice none 0 0)).setCell ⟨k,9,none⟩ (.slice none 0 0)).setCell ⟨k,10,none⟩ (.slice none 0 0)).setCell ⟨k,11,none⟩ (.slice none 0 0)).setCell ⟨k,12,none⟩ (.slice none 0 0)).setCell ⟨k,13,none⟩ (.slice none 0 0)):=by
 have a:QW w0 S b t p s ((k,Obj.cells #[.int .i64 0,.slice none 0 0,.int .i64 0,.int .i64 0,.int .i64 0,.slice none 0 0,.slice none 0 0,.slice none 0 0,.slice none 0 0,.slice none 0 0,.slice none 0 0,.slice none 0 0,.slice none 0 0,.slice none 0 0] 53) :: Ls) rest st md pg q w:=h;have a0:QW w0 S b t p s ((k,Obj.cells #[.int .i64 nd,.slice none 0 0,.int .i64 0,.int .i64 0,.int .i64 0,.slice none 0 0,.slice none 0 0,.slice none 0 0,.slice none 0 0,.slice none 0 0,.slice none 0 0,.slice none 0 0,.slice none 0 0,.slice none 0 0] 53) :: Ls) rest st md pg q _:=a.put1 hf 0 (.int .i64 nd);have a1:QW w0 S b t p s ((k,Obj.cells #[.int .i64 nd,wv,.int .i64 0,.int .i64 0,.int .i64 0,.slice none 0 0,.slice none 0 0,.slice none 0 0,.slice none 0 0,.slice none 0 0,.slice none 0 0,.slice none 0 0,.slice none 0 0,.slice none 0 0] 53) :: Ls) rest st md pg q _:=a0.put1 hf 1 wv;have a2:QW w0 S b t p s ((k,Obj.cells #[.int .i64 nd,wv,.int .i64 0,.int .i64 0,.int .i64 0,.slice none 0 0,.slice none 0 0,.slice none 0 0,.slice none 0 0,.slice none 0 0,.slice none 0 0,.slice none 0 0,.slice none 0 0,.slice none 0 0] 53) :: Ls) rest st md pg q _:=a1.put1 hf 2 (.int .i64 0);have a3:QW w0 S b t p s ((k,Obj.cells #[.int .i64 nd,wv,.int .i64 0,.int .i64 0,.int .i64 0,.slice none 0 0,.slice none 0 0,.slice none 0 0,.slice none 0 0,.slice none 0 0,.slice none 0 0,.slice none 0 0,.slice none 0 0,.slice none 0 0] 53) :: Ls) rest st md pg q _:=a2.put1 hf 3 (.int .i64 0);have a4:QW w0 S b t p s ((k,Obj.cells #[.int .i64 nd,wv,.int .i64 0,.int .i64 0,.int .i64 0,.slice none 0 0,.slice none 0 0,.slice none 0 0,.slice none 0 0,.slice none 0 0,.slice none 0 0,.slice none 0 0,.slice none 0 0,.slice none 0 0] 53) :: Ls) rest st md pg q _:=a3.put1 hf 4 (.int .i64 0);have a5:QW w0 S b t p s ((k,Obj.cells #[.int .i64 nd,wv,.int .i64 0,.int .i64 0,.int .i64 0,.slice none 0 0,.slice none 0 0,.slice none 0 0,.slice none 0 0,.slice none 0 0,.slice none 0 0,.slice none 0 0,.slice none 0 0,.slice none 0 0] 53) :: Ls) rest st md pg q _:=a4.put1 hf 5 (.slice none 0 0);have a6:QW w0 S b t p s ((k,Obj.cells #[.int .i64 nd,wv,.int .i64 0,.int .i64 0,.int .i64 0,.slice none 0 0,.slice none 0 0,.slice none 0 0,.slice none 0 0,.slice none 0 0,.slice none 0 0,.slice none 0 0,.slice none 0 0,.slice none 0 0] 53) :: Ls) rest st md pg q _:=a5.put1 hf 6 (.slice none 0 0);have a7:QW w0 S b t p s ((k,Obj.cells #[.int .i64 nd,wv,.int .i64 0,.int .i64 0,.int .i64 0,.slice none 0 0,.slice none 0 0,.slice none 0 0,.slice none 0 0,.slice none 0 0,.slice none 0 0,.slice none 0 0,.slice none 0 0,.slice none 0 0] 53) :: Ls) rest st md pg q _:=a6.put1 hf 7 (.slice none 0 0);have a8:QW w0 S b t p s ((k,Obj.cells #[.int .i64 nd,wv,.int .i64 0,.int .i64 0,.int .i64 0,.slice none 0 0,.slice none 0 0,.slice none 0 0,.slice none 0 0,.slice none 0 0,.slice none 0 0,.slice none 0 0,.slice none 0 0,.slice none 0 0] 53) :: Ls) rest st md pg q _:=a7.put1 hf 8 (.slice none 0 0);have a9:QW w0 S b t p s ((k,Obj.cells #[.int .i64 nd,wv,.int .i64 0,.int .i64 0,.int .i64 0,.slice none 0 0,.slice none 0 0,.slice none 0 0,.slice none 0 0,.slice none 0 0,.slice none 0 0,.slice none 0 0,.slice none 0 0,.slice none 0 0] 53) :: Ls) rest st md pg q _:=a8.put1 hf 9 (.slice none 0 0);have a10:QW w0 S b t p s ((k,Obj.cells #[.int .i64 nd,wv,.int .i64 0,.int .i64 0,.int .i64 0,.slice none 0 0,.slice none 0 0,.slice none 0 0,.slice none 0 0,.slice none 0 0,.slice none 0 0,.slice none 0 0,.slice none 0 0,.slice none 0 0] 53) :: Ls) rest st md pg q _:=a9.put1 hf 10 (.slice none 0 0);have a11:QW w0 S b t p s ((k,Obj.cells #[.int .i64 nd,wv,.int .i64 0,.int .i64 0,.int .i64 0,.slice none 0 0,.slice none 0 0,.slice none 0 0,.slice none 0 0,.slice none 0 0,.slice none 0 0,.slice none 0 0,.slice none 0 0,.slice none 0 0] 53) :: Ls) rest st md pg q _:=a10.put1 hf 11 (.slice none 0 0);have a12:QW w0 S b t p s ((k,Obj.cells #[.int .i64 nd,wv,.int .i64 0,.int .i64 0,.int .i64 0,.slice none 0 0,.slice none 0 0,.slice none 0 0,.slice none 0 0,.slice none 0 0,.slice none 0 0,.slice none 0 0,.slice none 0 0,.slice none 0 0] 53) :: Ls) rest st md pg q _:=a11.put1 hf 12 (.slice none 0 0);have a13:QW w0 S b t p s ((k,Obj.cells #[.int .i64 nd,wv,.int .i64 0,.int .i64 0,.int .i64 0,.slice none 0 0,.slice none 0 0,.slice none 0 0,.slice none 0 0,.slice none 0 0,.slice none 0 0,.slice none 0 0,.slice none 0 0,.slice none 0 0] 53) :: Ls) rest st md pg q _:=a12.put1 hf 13 (.slice none 0 0);exact a13
end

def s1V (kx kk kt:Nat):Value:= .func (.func 144) #[] #[pB kx,pB kk,pB kt]
def oT (nd:Int) (wv:Value):Obj:= .cells (jK nd wv) 53
def KnOK (kn:List (Int×Int)):Prop:=kn.length<=1000000/\∀x∈kn,VS.U32 x.2
def WrOK (t p:Int) (l:List (Int×Int)):Prop:=l.length<=96/\∀x∈l,(0<=x.1/\x.1 < jk t p)/\0<=x.2/\x.2 < 4294967296
def SwR (w0:World) (S:Nat->Prop) (b:Nat) (t p s:Int) (Ls:List (Nat×Obj)) (rest:Value) (st md:Int) (y:TS) (w':World):Prop:=
 ∃Ls',(∀z∈Ls,z∈Ls')/\
 ((y.ph=19/\QW w0 S b t p s Ls' rest st md y.page [] w')\/
  (y.ph=10/\(0<=y.need/\y.need < jk t p)/\KnOK y.known/\∃kx kk kt kv wv,(kx,oX b)∈Ls'/\(kk,oL kv)∈Ls'/\(kt,oT y.need wv)∈Ls'/\KnV Ls' kv y.known/\QW w0 S b t p s Ls' rest st md y.page [⟨1,16+y.need,0,s1V kx kk kt⟩] w')\/
  (y.ph=11/\WrOK t p y.wr/\∃kx kz kn kl a c,(kx,oX b)∈Ls'/\(kz,oN t)∈Ls'/\(kn,oW (j9 (st+1) y.wr.length true))∈Ls'/\(kl,oL (.slice a y.wr.length c))∈Ls'/\KB Ls' (.slice a y.wr.length c) y.wr/\
   QW w0 S b t p s Ls' (Vw kx kz kn kl) st md y.page (lgF t p y.wr++fsF t p ((y.wr.length+7) / 8)++tlF t p (j9 (st+1) y.wr.length true) (jH (st+1) t) (ch1V kx)) w'))
def pageAt (w:World) (b:Nat):Nat:=match w.cell? ⟨b,7,none⟩ with | some (.int _ n)=>n.toNat | _=>0
theorem Xs {t p z:Int} {x:TS} (h:¬(x.page:Int) < p):jL t p z x=x.to 19:=by
 unfold jL;rw [show p.toNat - x.page=0 by omega];rfl
theorem Xt {t p z:Int} {x:TS} (h:(x.page:Int) < p) (h0:0<=(thF t p z x.page x.known).1):jL t p z x=({ x with need:=(thF t p z x.page x.known).1,wr:=(thF t p z x.page x.known).2 }:TS).to 10:=by
 unfold jL;rw [show p.toNat - x.page=(p.toNat - x.page - 1)+1 by omega];show (if _ then _ else _)=_;rw [if_pos h0]
theorem Xq {t p z:Int} {x:TS} (h:(x.page:Int) < p) (h0:¬0<=(thF t p z x.page x.known).1) (h1:(thF t p z x.page x.known).2=[]):jL t p z x=jL t p z { x with need:=(thF t p z x.page x.known).1,wr:=[],page:=x.page+1,known:=[] }:=by
 unfold jL;rw [show p.toNat - x.page=(p.toNat - x.page - 1)+1 by omega];show (if _ then _ else _)=_;rw [if_neg h0,if_pos h1];rfl
theorem VF {t p z:Int} {x:TS} (h:(x.page:Int) < p) (h0:¬0<=(thF t p z x.page x.known).1) (h1:(thF t p z x.page x.known).2≠[]):jL t p z x=({ x with need:=(thF t p z x.page x.known).1,wr:=(thF t p z x.page x.known).2 }:TS).to 11:=by
 unfold jL;rw [show p.toNat - x.page=(p.toNat - x.page - 1)+1 by omega];show (if _ then _ else _)=_;rw [if_neg h0,if_neg h1]
theorem thF_keys (t p z:Int) (page:Nat) (kn:List (Int×Int)):∀x∈(thF t p z page kn).2,0<=x.1/\x.1.toNat < (jk t p).toNat:=by
 have h:=QM (n:=(jk t p).toNat) (K:=knK kn) (s:=knV (jk t p).toNat kn) ⟨rfl,rfl,by simp [knV],by simp [knV]⟩ t p z page;unfold thF;intro x hx;split at hx
 ·simp at hx
 ·obtain ⟨y,hy,rfl⟩:=List.mem_map.1 hx;have:=h.2.2.2 y hy;exact ⟨zT,by simpa using this⟩
theorem QW.pageAt {w0 w:World} {S:Nat->Prop} {b:Nat} {t p s:Int} {Ls:List (Nat×Obj)} {rest:Value} {st md pg:Int} {q:List Stp} (h:QW w0 S b t p s Ls rest st md pg q w):pageAt w b=pg.toNat:=by
 unfold Go.Proofs.YtcnininelndjoaaGreat.pageAt;rw [h.c4.2.2.2]
def ThR (w0:World) (S:Nat->Prop) (b:Nat) (t p s:Int) (j0 j1:Nat) (Ls:List (Nat×Obj)) (kv rest:Value) (st md pg:Int) (r:Int×List (Int×Int)) (kt:Nat) (pa:Option Addr) (pc:Nat) (W:World):Prop:=
 ∃L2,(∀z∈Ls,z∈L2)/\(∀z∈L2,z.1≠j1/\z.1≠j0)/\(kt,oT r.1 (.slice pa r.2.length pc))∈L2/\KB L2 (.slice pa r.2.length pc) r.2/\(∀x∈r.2,VS.U32 x.2)/\QW w0 S b t p s ((j1,oL kv) :: (j0,oX b) :: L2) rest st md pg [] W
def setTh (w:World) (k:Nat) (nd:Int) (wv:Value):World:=
 ((((((((((((((w.setCell ⟨k,0,none⟩ (.int .i64 nd)).setCell ⟨k,1,none⟩ wv).setCell ⟨k,2,none⟩ (.int .i64 0)).setCell ⟨k,3,none⟩ (.int .i64 0)).setCell ⟨k,4,none⟩ (.int .i64 0)).setCell ⟨k,5,none⟩ (.slice none 0 0)).setCell ⟨k,6,none⟩ (.slice none 0 0)).setCell ⟨k,7,none⟩ (.slice none 0 0)).setCell ⟨k,8,none⟩ (.slice none 0 0)).setCell ⟨k,9,none⟩ (.slice none 0 0)).setCell ⟨k,10,none⟩ (.slice none 0 0)).setCell ⟨k,11,none⟩ (.slice none 0 0)).setCell ⟨k,12,none⟩ (.slice none 0 0)).setCell ⟨k,13,none⟩ (.slice none 0 0))
section
variable {w0 W:World} {S:Nat->Prop} {b:Nat} {t p s:Int} {j0 j1:Nat} {Ls Lx:List (Nat×Obj)} {kv rest:Value} {st md pg:Int} {r:Int×List (Int×Int)} {kt:Nat} {pa:Option Addr} {pc n1:Nat}
theorem ThR.held (h:ThR w0 S b t p s j0 j1 Ls kv rest st md pg r kt pa pc W):W.cell? ⟨j0,0,none⟩=some (.pointer (some ⟨b,0,none⟩))/\W.cell? ⟨j1,0,none⟩=some kv/\W.cell? ⟨b,0,none⟩=some (.int .i64 t)/\W.cell? ⟨b,1,none⟩=some (.int .i64 p)/\W.cell? ⟨b,2,none⟩=some (.int .i64 s)/\W.cell? ⟨b,7,none⟩=some (.int .i64 pg):=by
 obtain ⟨L2,-,-,-,-,-,h⟩:=h;exact ⟨(h.gX (k:=j0) (a:=b) zT).1,(h.gL (k:=j1) (a:=kv) zT).1,h.c012.1,h.c012.2.1,h.c012.2.2,h.c4.2.2.2⟩
theorem ThR.late (hq:QW w0 S b t p s ((kt,oT r.1 (.slice pa r.2.length pc)) :: (Lx++((j1,oL kv) :: (j0,oX b) :: Ls))) rest st md pg [] W) (hl:KB Lx (.slice pa r.2.length pc) r.2) (hu:∀x∈r.2,VS.U32 x.2) (hf:∀z∈Ls,z.1≠j1/\z.1≠j0)
 (z0:j0 < n1) (z1:j1 < n1) (hx:∀z∈Lx,n1<=z.1) (hk:n1<=kt):ThR w0 S b t p s j0 j1 Ls kv rest st md pg r kt pa pc W:=by
 refine ⟨(kt,oT r.1 (.slice pa r.2.length pc)) :: (Lx++Ls),fun z hz=>by simp [hz],fun z hz=> ?_,List.mem_cons_self,hl.sub (fun z hz=>by simp [hz]),hu,hq.sub fun z hz=> ?_⟩
 ·rcases List.mem_cons.1 hz with rfl | hz
  ·dsimp only;omega
  ·rcases List.mem_append.1 hz with hz | hz
   ·have:=hx z hz;omega
   ·exact hf z hz
 ·simp only [List.mem_cons,List.mem_append] at hz ⊢;rcases hz with h | h | h | h | h
  ·exact .inr (.inr (.inl h))
  ·exact .inr (.inr (.inr (.inl h)))
  ·exact .inl h
  ·exact .inr (.inl h)
  ·exact .inr (.inr (.inr (.inr h)))
theorem ThR.early (hq:QW w0 S b t p s (Lx++((kt,oT 0 (.slice none 0 0)) :: (j1,oL kv) :: (j0,oX b) :: Ls)) rest st md pg [] W) (hl:KB Lx (.slice pa r.2.length pc) r.2) (hu:∀x∈r.2,VS.U32 x.2) (hf:∀z∈Ls,z.1≠j1/\z.1≠j0)
 (z0:j0 < kt) (z1:j1 < kt) (hx:∀z∈Lx,kt+1<=z.1) (hfr:∀z∈((j1,oL kv) :: (j0,oX b) :: Ls),z.1≠kt):ThR w0 S b t p s j0 j1 Ls kv rest st md pg r kt pa pc (setTh W kt r.1 (.slice pa r.2.length pc)):=by
 have hfx:∀l∈(Lx++((j1,oL kv) :: (j0,oX b) :: Ls)),l.1≠kt:=fun z hz=>by
  rcases List.mem_append.1 hz with hz | hz
  ·have:=hx z hz;omega
  ·exact hfr z hz
 have h1:=QW.thought (hq.sub (Ls':=(kt,oT 0 (.slice none 0 0)) :: (Lx++((j1,oL kv) :: (j0,oX b) :: Ls))) (fun z hz=>by
  simp only [List.mem_cons,List.mem_append] at hz ⊢;rcases hz with h | h | h
  ·exact .inr (.inl h)
  ·exact .inl h
  ·exact .inr (.inr h))) hfx r.1 (.slice pa r.2.length pc)
 exact ThR.late (n1:=kt) h1 hl hu hf z0 z1 (fun z hz=>by have:=hx z hz;omega) (Nat.le_refl _)
end
def SwRel (w0:World) (S:Nat->Prop) (b:Nat) (t p s:Int) (j0 j1:Nat) (Ls:List (Nat×Obj)) (rest:Value) (st md:Int) (y:TS) (wr:World):Prop:=
 ∃x:TS,jL t p s x=y/\KnOK x.known/\(x.page:Int)<=p/\∃kv Ls',(∀z∈Ls,z∈Ls')/\(∀z∈Ls',z.1≠j1/\z.1≠j0)/\KnV Ls' kv x.known/\QW w0 S b t p s ((j1,oL kv) :: (j0,oX b) :: Ls') rest st md x.page [] wr
section
variable {w0 w:World} {S:Nat->Prop} {b:Nat} {t p s:Int} {Ls:List (Nat×Obj)} {rest:Value} {st md:Int}
theorem Kb {x:TS} (h:QW w0 S b t p s Ls rest st md x.page [] w) (hr:jq t p s=true) {kv:Value} (hk:KnV Ls kv x.known) (hok:KnOK x.known) (hpg:(x.page:Int)<=p) (hst:0<=st/\st+1 < 4294967296) :
 Calls prog 85 #[.pointer (some ⟨b,0,none⟩),kv] w fun e w'=>e= .returned (.tuple #[])/\SwR w0 S b t p s Ls rest st md (jL t p s x) w':=by
 have hrb:=jn hr;have hmb:=jI hr;have HTh:=zh (fun (page:Nat) (a:Option Addr) (m c:Nat) (kn:List (Int×Int)) (w:World) (h1:jdv w (.slice a m c) kn) (h2:kn.length<=1000000) (h3:∀x∈kn,VS.U32 x.2)=>jdN t p s page a m c kn w hr h1 h2 h3);have HWd:=zh (fun (c:Int) w (h0:0<=c) (h1:c < jk t p)=>Yl t p s c w hr h0 h1);have HCh:=zh (fun (Ls':List (Nat×Obj)) (pg:Int) (W:World) (a:Option Addr) (c:Nat) (l:List (Int×Int)) (g:QW w0 S b t p s Ls' rest st md pg [] W) (hl:KB Ls' (.slice a l.length c) l) (h1:l.length<=96) (h2:∀x∈l,(0<=x.1/\x.1 < jk t p)/\0<=x.2/\x.2 < 4294967296)=>jbc g hr hl h1 h2 hst);obtain ⟨ka,kc,rfl⟩:=hk.shape;have h2:=(h.alloc (oX b)).alloc (oL (.slice ka x.known.length kc));simp only [World.size_alloc] at h2;have hfr:=h.llt;have HR0:SwRel w0 S b t p s w.heap.size (w.heap.size+1) Ls rest st md (jL t p s x) ((w.alloc (oX b)).alloc (oL (.slice ka x.known.length kc))):=
  ⟨x,rfl,hok,hpg,.slice ka x.known.length kc,Ls,fun z hz=>hz,fun z hz=>by have:=hfr z hz;omega,hk,h2⟩
 have HR:=zh HR0;clear HR0 hfr h2 h hk hok hpg hst hr;generalize hy:jL t p s x=y at*
 clear hy;generalize x.known.length=kn0 at*
 clear x;go_enter func85,ntmps85;go_wp2_with fail;generalize hj0:w.heap.size=j0 at*
 generalize hj1:j0+1=j1 at*
 go_loopw [4] (fun _ wr=>SwRel w0 S b t p s j0 j1 Ls rest st md y wr) (fun _ wr=>p.toNat - pageAt wr b);case atStart=>exact HR.out
 case round=>
  clear HR hj0;obtain ⟨x,hx,hok,hpg,kv,Ls',hs,hf,hk,h1⟩:=hrel;obtain ⟨ka,kc,rfl⟩:=hk.shape;obtain ⟨s0,f0,z0,-⟩:=h1.gX (k:=j0) (a:=b) zT;obtain ⟨s1,f1,z1,-⟩:=h1.gL (k:=j1) (a:= .slice ka x.known.length kc) zT;obtain ⟨c0,c1,c2⟩:=h1.c012;have c7:=h1.c4.2.2.2;have HX:=zh hx;have H1:=zh h1;have HOk:=zh hok;have HS:=zh hs;have HF:=zh hf;have HC:=zh h1.drew;have HK:=zh hk;clear hok hs hf hk;by_cases hlt:(x.page:Int) < p
  ·have HTC:=jbG t p s x.page x.known;have HTK:=thF_keys t p s x.page x.known;have HGn:=fun h0=>Xt (t:=t) (p:=p) (z:=s) (x:=x) hlt h0;have HGs:=fun h0 h2=>Xq (t:=t) (p:=p) (z:=s) (x:=x) hlt h0 h2;have HGw:=fun h0 h2=>VF (t:=t) (p:=p) (z:=s) (x:=x) hlt h0 h2;have HTh:=zh (fun (W:World) h1=>HTh.out x.page ka x.known.length kc x.known W h1 HOk.out.1 HOk.out.2);generalize hth:thF t p s x.page x.known=r at*
   have HTC:=zh HTC;have HTK:=zh HTK;have HGn:=zh HGn;have HGs:=zh HGs;have HGw:=zh HGw;clear hth h1 hx;generalize x.known.length=kn at*
   go_wp2_with fail;refine wQ ?_;have HC:=zh HC.out.drew;go_wp2_with fail;apply Vg (fun (kt:Nat) (pa:Option Addr) (pc:Nat) (_:Nat) (_:Nat) (W:World)=>ThR w0 S b t p s j0 j1 Ls' (.slice ka kn kc) rest st md x.page r kt pa pc W)
   ·skip;refine wHn6 (zQ s0) (zQ s1) (zQ c0) (zQ c1) (zQ c2) (zQ c7) fun hHeld=> ?_;refine wT 0 ?_;refine wY ?_;refine wpAnyH_ready (rs:=[9,10]) zk zT ?_;refine AllReadyH.cons (o:=_) rfl (fun K hK=> ?_) (AllReadyH.cons (o:=_) rfl (fun K hK=> ?_) AllReadyH.nil);go_simp;refine (HTh.out _ (jbW (KnV.row HC.out (HK.out.sub (fun z hz=>by simp [hz]))))).mono ?_;rintro e w2 ⟨wv,rfl,ow,gw,uw,b2⟩;obtain ⟨pa,pc,rfl⟩:=kK ow;obtain ⟨Lx,hLx,hC,hLr,-⟩:=HC.out.made_row b2 ow gw;have HC:=zh hC;have HU:=zh uw;refine wK hK (⟨(HC.out.gX (k:=j0) (a:=b) zT).1,(HC.out.gL (k:=j1) (a:= .slice ka kn kc) zT).1,HC.out.c012.1,HC.out.c012.2.1,HC.out.c012.2.2,HC.out.c4.2.2.2⟩) fun hHeld=> ?_;clear hK K;refine wR 10 fun K hK=> ?_;have hfr:=HC.out.fresh;try have HB:=zh (HC.out.alloc (oT r.1 (.slice pa r.2.length pc)))
    have HC:=zh (HC.out.alloc (oT 0 (.slice none 0 0)));go_simp;refine wK hK (⟨(HC.out.gX (k:=j0) (a:=b) zT).1,(HC.out.gL (k:=j1) (a:= .slice ka kn kc) zT).1,HC.out.c012.1,HC.out.c012.2.1,HC.out.c012.2.2,HC.out.c4.2.2.2⟩) fun hHeld=> ?_;clear hK K;refine wR 11 fun K hK=> ?_;first | have kc:=HC.out.bx (cs:=jK 0 (.slice none 0 0)) (T:=53) List.mem_cons_self | have kc:=HC.out.bx (cs:=jK 0 (.slice none 0 0)) (T:=53) (List.mem_append_right _ List.mem_cons_self)
    first | have kf:=HC.out.fz (cs:=jK 0 (.slice none 0 0)) (T:=53) List.mem_cons_self | have kf:=HC.out.fz (cs:=jK 0 (.slice none 0 0)) (T:=53) (List.mem_append_right _ List.mem_cons_self)
    unfold jK at kc ⊢;try simp only [World.size_drew] at kc kf
    go_simp;first | have hT:=zh (ThR.late (r:=r) HB.out hLr HU.out HF.out z0 z1 hLx b2.size) | have hT:=zh (ThR.early (r:=r) HC.out hLr HU.out HF.out z0 z1 (fun z hz=>Nat.le_trans (Nat.le_of_eq (World.size_alloc _ _).symm) (hLx z hz)) hfr)
    refine wK hK (hT.out.held) fun hHeld=> ?_;clear hK K;refine wD ?_;rotate_left;have hfr:=HC.out.fresh;try have HB:=zh (HC.out.alloc (oT r.1 (.slice pa r.2.length pc)))
    have HC:=zh (HC.out.alloc (oT 0 (.slice none 0 0)));go_simp;refine wK hK (⟨(HC.out.gX (k:=j0) (a:=b) zT).1,(HC.out.gL (k:=j1) (a:= .slice ka kn kc) zT).1,HC.out.c012.1,HC.out.c012.2.1,HC.out.c012.2.2,HC.out.c4.2.2.2⟩) fun hHeld=> ?_;clear hK K;refine wR 9 fun K hK=> ?_;go_simp;refine (HTh.out _ (jbW (KnV.row HC.out (HK.out.sub (fun z hz=>by simp [hz]))))).mono ?_;rintro e w2 ⟨wv,rfl,ow,gw,uw,b2⟩;obtain ⟨pa,pc,rfl⟩:=kK ow;obtain ⟨Lx,hLx,hC,hLr,-⟩:=HC.out.made_row b2 ow gw;have HC:=zh hC;have HU:=zh uw;refine wK hK (⟨(HC.out.gX (k:=j0) (a:=b) zT).1,(HC.out.gL (k:=j1) (a:= .slice ka kn kc) zT).1,HC.out.c012.1,HC.out.c012.2.1,HC.out.c012.2.2,HC.out.c4.2.2.2⟩) fun hHeld=> ?_;clear hK K;refine wR 11 fun K hK=> ?_;first | have kc:=HC.out.bx (cs:=jK 0 (.slice none 0 0)) (T:=53) List.mem_cons_self | have kc:=HC.out.bx (cs:=jK 0 (.slice none 0 0)) (T:=53) (List.mem_append_right _ List.mem_cons_self)
    first | have kf:=HC.out.fz (cs:=jK 0 (.slice none 0 0)) (T:=53) List.mem_cons_self | have kf:=HC.out.fz (cs:=jK 0 (.slice none 0 0)) (T:=53) (List.mem_append_right _ List.mem_cons_self)
    unfold jK at kc ⊢;try simp only [World.size_drew] at kc kf
    go_simp;first | have hT:=zh (ThR.late (r:=r) HB.out hLr HU.out HF.out z0 z1 hLx b2.size) | have hT:=zh (ThR.early (r:=r) HC.out hLr HU.out HF.out z0 z1 (fun z hz=>Nat.le_trans (Nat.le_of_eq (World.size_alloc _ _).symm) (hLx z hz)) hfr)
    refine wK hK (hT.out.held) fun hHeld=> ?_;clear hK K;refine wD ?_;all_goals
     refine ⟨rfl,?_⟩;obtain ⟨u1,-⟩:∃u:Nat,True:=⟨0,trivial⟩
     obtain ⟨u2,-⟩:∃u:Nat,True:=⟨0,trivial⟩
     have hT2:=hT.out;clear hT;first
      | (obtain ⟨kt,hkt⟩:∃kt,kt=w2.heap.size:=⟨_,rfl⟩;simp only [<-hkt] at hT2 ⊢;exact ⟨kt,pa,pc,u1,u2,rfl,hT2⟩)
      | (obtain ⟨kt,hkt⟩:∃kt,kt=wr.heap.size:=⟨_,rfl⟩;simp only [World.size_drew,<-hkt] at hT2 ⊢;exact ⟨kt,pa,pc,u1,u2,rfl,hT2⟩)
   ·intro kt pa pc _ _ w5 h5;try dsimp only
    clear HTh HC s0 s1 c0 c1 c2 c7 f0 f1 z0 z1;obtain ⟨L2,hs2,hf2,hm,hl,hu,h6⟩:=h5;obtain ⟨s0,f0,z0,-⟩:=h6.gX (k:=j0) (a:=b) zT;obtain ⟨s1,f1,z1,-⟩:=h6.gL (k:=j1) (a:= .slice ka kn kc) zT;have kd:=h6.bx (k:=kt) (cs:=jK r.1 (.slice pa r.2.length pc)) (T:=53) (by simp only [List.mem_cons];exact .inr (.inr hm));have d0:=kd 0;have d1:=kd 1;simp [jK] at d0 d1;clear kd;have H6:=zh h6;have HM:=zh hm;have HL:=zh hl;have HU:=zh hu;have HS2:=zh hs2;have HF2:=zh hf2;clear hs2 hf2 hm hl hu h6;obtain ⟨rn,rl⟩:=r;dsimp only at*
    rcases HTC.out with ⟨i,e,hi,hne⟩ | ⟨e1,e2⟩
    ·obtain ⟨rfl,rfl⟩:=Prod.mk.inj e;clear e hne;have hi0:(0:Int)<=(i:Int):=Int.natCast_nonneg _;have hic:(i:Int) < jk t p:=Int.lt_toNat.1 hi;go_wp2_with fail;have H7:=zh H6.out.drew;obtain ⟨a0,-⟩:=H7.out.gX (k:=j0) (a:=b) zT;have a1:=H7.out.c012;have KD:=zh (fun (W:World) (q':List Stp) (g:QW w0 S b t p s ((j1,oL (.slice ka kn kc)) :: (j0,oX b) :: L2) rest st md x.page q' W)=>(show W.cell? ⟨kt,0,none⟩=some (.int .i64 (i:Int)) from (g.bx (k:=kt) (cs:=jK (i:Int) (.slice pa ([]:List (Int×Int)).length pc)) (T:=53) (by simp only [List.mem_cons];exact .inr (.inr HM.out))) 0));clear s0 s1 d1;have HWi:=zh (fun w=>HWd.out (i:Int) w hi0 hic);clear HWd HCh;refine wHn5 (zQ a0) (zQ a1.1) (zQ a1.2.1) (zQ a1.2.2) (zQ d0) fun hHeld=> ?_;refine wT 0 ?_;refine wY ?_;refine wR 7 fun K hK=> ?_;go_simp;refine zM (HWi.out _) fun w6 b6=> ?_;have H8:=zh (H7.out.below b6);refine wK hK (⟨(H8.out.gX (k:=j0) (a:=b) zT).1,H8.out.c012.1,H8.out.c012.2.1,H8.out.c012.2.2,KD.out _ _ H8.out⟩) fun hHeld=> ?_;clear hK K;refine wR 9 fun K hK=> ?_;go_simp;refine zM (JQ H8.out zT _ _ _ _) fun w7 h9=> ?_;have H9:=zh h9;clear h9;refine wK hK (⟨(H9.out.gX (k:=j0) (a:=b) zT).1,H9.out.c012.1,H9.out.c012.2.1,H9.out.c012.2.2,KD.out _ _ H9.out⟩) fun hHeld=> ?_;clear hK K;refine wD ?_;clear hHeld H7 H8 KD a0 a1 d0;go_wp2;refine bodyPost_ret (v:= .tuple #[]) (by simp [results,results85,go_sem]) rfl ?_;refine ⟨rfl,(j1,oL (.slice ka kn kc)) :: (j0,oX b) :: L2,fun z hz=>by simp [HS2.out z (HS.out z hz)],?_⟩;rw [<-HX.out,HGn.out hi0];refine .inr (.inl ⟨rfl,⟨hi0,hic⟩,HOk.out,j0,j1,kt,.slice ka kn kc,.slice pa 0 pc,zT,zT,?_,HK.out.sub (fun z hz=>by simp [HS2.out z hz]),H9.out⟩);simp only [List.mem_cons];exact .inr (.inr HM.out)
    ·subst e1;rcases Nat.eq_zero_or_pos rl.length with hz | hpos
     ·have hnil:rl=[]:=List.eq_nil_of_length_eq_zero hz;subst hnil;have hwp:IntKind.i64.wrap ((x.page:Int)+1)=((x.page+1:Nat):Int):=by rw [jD _ zo];omega
      have c7:=H6.out.c4.2.2.2;have f7:=H6.out.fzb 7;have HG:=zh (HGs.out zd rfl);clear HWd HCh HGn HGs HGw hmb;have HR7:=zh (H6.out.setPage ((x.page+1:Nat):Int));clear H6;go_wp2;go_roundw;case rel=>
       refine ⟨{ x with need:= -1,wr:=[],page:=x.page+1,known:=[] },by rw [<-HX.out,HG.out],⟨zT,zT⟩,by dsimp only;omega,.slice none 0 0,L2,fun z hz=>HS2.out z (HS.out z hz),HF2.out,.inl ⟨rfl,rfl⟩,?_⟩;exact HR7.out.box (k:=j1) (i:=0) (u:= .slice none 0 0) (cs:=#[.slice ka kn kc]) (cs':=#[.slice none 0 0]) (T:=45) List.mem_cons_self rfl (fun l hl=>by
        rcases List.mem_cons.1 hl with rfl | hl
        ·exact .inl rfl
        ·refine .inr ⟨List.mem_cons_of_mem _ hl,?_⟩;rcases List.mem_cons.1 hl with rfl | hl
         ·dsimp only;omega
         ·exact (HF2.out l hl).1)
      case measure=>
       have e:=(HR7.out.box (k:=j1) (i:=0) (u:= .slice none 0 0) (cs:=#[.slice ka kn kc]) (cs':=#[.slice none 0 0]) (T:=45) (Ls':=[]) List.mem_cons_self rfl zT).pageAt;have e':pageAt ((w5.setCell ⟨b,7,none⟩ (.int .i64 ((x.page:Int)+1))).setCell ⟨j1,0,none⟩ (.slice none 0 0)) b=x.page+1:=e;rw [H1.out.pageAt,e'];omega
     ·have hposI:(0:Int) < (rl.length:Int):=zo;clear HWd;have hne:rl≠[]:=fun e=>by rw [e] at hpos;exact absurd hpos zd
      have hwr:WrOK t p rl:=⟨e2,fun z hz=>⟨⟨(HTK.out z hz).1,by have:=(HTK.out z hz).1;have:=Int.lt_toNat.1 (HTK.out z hz).2;omega⟩,HU.out z hz⟩⟩
      have HWr:=zh hwr;have HG:=zh (HGw.out zd hne);have HL':=zh (HL.out.sub (Ls':=(j1,oL (.slice ka kn kc)) :: (j0,oX b) :: L2) (fun z hz=>by simp [hz]));clear HL HTK HTC HGn HGs HGw hne hwr e2 hmb;generalize hlen:rl.length=m at*
      have HM':=zh hlen;have HCl:=zh (fun W g h1=>HCh.out ((j1,oL (.slice ka kn kc)) :: (j0,oX b) :: L2) x.page W pa pc rl g h1 HWr.out.1 HWr.out.2);rw [hlen] at HCl;clear hlen HCh;go_wp2_with fail;refine zM (HCl.out _ H6.out HL'.out) ?_;rintro w7 ⟨kx,kz,kn',kl,L3,q1,q2,q3,q4,q5,q6⟩;have Q5:=zh q5;have Q6:=zh q6;have Q1:=zh q1;have Q24:=zh (And.intro q2 (And.intro q3 q4));clear q1 q2 q3 q4 q5 q6 HCl H6;go_wp2;refine bodyPost_ret (v:= .tuple #[]) (by simp [results,results85,go_sem]) rfl ?_;have hm:=HM'.out;subst hm;refine ⟨rfl,L3,fun z hz=>Q1.out z (by simp [HS2.out z (HS.out z hz)]),?_⟩;rw [<-HX.out,HG.out];exact .inr (.inr ⟨rfl,HWr.out,kx,kz,kn',kl,pa,pc,Q24.out.1,Q24.out.2.1,Q24.out.2.2,Q5.out,HL'.out.sub Q1.out,Q6.out⟩)
  ·clear HTh HWd HCh;go_wp2_with fail;refine wQ ?_;go_wp2;go_end0;refine ⟨rfl,(j1,oL (.slice ka x.known.length kc)) :: (j0,oX b) :: Ls',fun z hz=>by simp [HS.out z hz],?_⟩;rw [<-HX.out,Xs (x:=x) (p:=p) zo];exact .inl ⟨rfl,HC.out⟩
end

section
variable {w0 w:World} {S:Nat->Prop} {b:Nat} {t p s:Int} {Ls:List (Nat×Obj)} {rest:Value} {st md pg:Int} {q:List Stp}
theorem qch1_any (h:QW w0 S b t p s Ls rest st md pg q w) {kx:Nat} (mx:(kx,oX b)∈Ls) (hst:0<=st/\st+1 < 4294967296) (v:Int) :
 Calls prog 196 #[.int .u64 v,pB kx] w fun e w'=>e= .returned (.tuple #[])/\QW w0 S b t p s Ls rest (st+1) (st+1) pg q w':=by
 have hws:IntKind.u32.wrap (st+1)=st+1:=IntWalk.u32_in _ zo;have c1:=(h.gX mx).1;have c5:=h.c4.2.1;have f5:=h.fzb 5;have H1:=zh (h.setStamp (st+1));have d1:=(H1.out.drew.gX mx).1;have d5:=H1.out.drew.c4.2.1;have g6:=H1.out.drew.fzb 6;have d6:=H1.out.drew.c4.2.2.1;have g6b:=H1.out.fzb 6;have d6b:=H1.out.c4.2.2.1;have HM:=zh mx;clear h mx hst;unfold pB;go_enter func196,ntmps196;go_wp2_with fail;have H2:=zh H1.out.drew;refine wHn2 (zQ d1) (zQ d5) fun hHeld=> ?_;refine wT 0 ?_;refine wY ?_;refine wR 7 fun K hK=> ?_;go_simp;have H3:=zh (H2.out.setMade (st+1));refine wK hK (⟨(H3.out.gX HM.out).1,H3.out.c4.2.1⟩) fun hHeld=> ?_;clear hK K;refine wD ?_;clear hHeld;go_end0;exact ⟨rfl,H3.out⟩
theorem jek {x:TS} (h:QW w0 S b t p s Ls rest st md x.page [] w) (hr:jq t p s=true) {kx:Nat} (mx:(kx,oX b)∈Ls) (hpg:(x.page:Int) < p) (hst:0<=st/\st+1 < 4294967296) :
 Calls prog 198 #[pB kx] w fun e w'=>e= .returned (.tuple #[])/\SwR w0 S b t p s Ls rest st md (jL t p s { x with page:=x.page+1,known:=[] }) w':=by
 have hrb:=jn hr;have hwp:IntKind.i64.wrap ((x.page:Int)+1)=((x.page+1:Nat):Int):=by rw [jD _ zo];omega
 have c1:=(h.gX mx).1;have c7:=h.c4.2.2.2;have f7:=h.fzb 7;have H1:=h.setPage ((x.page+1:Nat):Int);have d1:=(H1.gX mx).1;have HS:=zh (Kb (x:={ x with page:=x.page+1,known:=[] }) H1 hr (KnV.nil _) ⟨zT,zT⟩ (by dsimp only;omega) hst);clear h mx hst H1 hrb hr hpg;unfold pB;generalize jL t p s { x with page:=x.page+1,known:=[] }=y at*
 go_enter func198,ntmps198;go_wp2_with fail;refine zM HS.out fun w1 h1=> ?_;have H1:=zh h1;clear h1 HS;go_wp2;go_end0;exact ⟨rfl,H1.out⟩
theorem jba {x:TS} (h:QW w0 S b t p s Ls rest st md x.page [] w) (hr:jq t p s=true) {kx:Nat} (mx:(kx,oX b)∈Ls) (hpg:(x.page:Int)<=p) (hst:0<=st/\st+1 < 4294967296) :
 Calls prog 153 #[pB kx] w fun e w'=>e= .returned (.tuple #[])/\SwR w0 S b t p s Ls rest st md (jL t p s { x with known:=[] }) w':=by
 have c1:=(h.gX mx).1;have HS:=zh (Kb (x:={ x with known:=[] }) h hr (KnV.nil _) ⟨zT,zT⟩ hpg hst);clear h mx hst hr hpg;unfold pB;generalize jL t p s { x with known:=[] }=y at*
 go_enter func153,ntmps153;go_wp2_with fail;refine zM HS.out fun w1 h1=> ?_;have H1:=zh h1;clear h1 HS;go_wp2;go_end0;exact ⟨rfl,H1.out⟩
theorem qch2_any (h:QW w0 S b t p s Ls rest st md pg q w) {kx ku kn kl m c:Nat} {u v:Int} {a:Option Addr} (mx:(kx,oX b)∈Ls) (mu:(ku,oN u)∈Ls) (mn:(kn,oW v)∈Ls) (ml:(kl,oL (.slice a m c))∈Ls) {Φ:World->Prop}
 (hT:Calls prog 152 #[.pointer (some ⟨b,0,none⟩),.int .i64 u,.int .u64 v,.slice a m c,.func (.func 198) #[] #[pB kx]] w fun e w'=>e= .returned (.tuple #[])/\Φ w') :
 Calls prog 197 #[pB kx,pB ku,pB kn,pB kl] w fun e w'=>e= .returned (.tuple #[])/\Φ w':=by
 have c1:=(h.gX mx).1;have c2:=(h.gN mu).1;have c3:=(h.gW mn).1;have c4:=(h.gL ml).1;have HT:=zh hT;clear h mx mu mn ml hT;unfold pB at HT ⊢;go_enter func197,ntmps197;go_wp2_with fail;refine zM HT.out fun w1 h1=> ?_;have H1:=zh h1;clear h1;go_wp2;go_end0;exact ⟨rfl,H1.out⟩
theorem qtip1_no {x:TS} (h:QW w0 S b t p s Ls rest st md x.page [] w) (hr:jq t p s=true) {ks kx ku:Nat} {u s0 v:Int} (ms:(ks,oH s0)∈Ls) (mx:(kx,oX b)∈Ls) (hv:U64 v) (ho:qg v s0=none) (hk:x.known=[]) (hpg:(x.page:Int)<=p) (hst:0<=st/\st+1 < 4294967296) :
 Calls prog 83 #[.int .u64 v,pB ks,pB kx,pB ku] w fun e w'=>e= .returned (.tuple #[])/\SwR w0 S b t p s Ls rest st md (jL t p s x) w':=by
 have c1:=(h.gH ms).1;have HO:=zh (fun w=>mopen_no v s0 w hv ho);have HS:=zh (fun (W:World) (g:QW w0 S b t p s Ls rest st md x.page [] W)=>And.intro (g.gX mx).1 (Kb (x:=x) g hr (by rw [hk];exact KnV.nil _) (by rw [hk];exact ⟨zT,zT⟩) hpg hst));have HQ:=zh h;clear h ms mx hv ho hk hpg hst hr;unfold pB;generalize jL t p s x=y at*
 go_enter func83,ntmps83;go_wp2_with fail;refine zM (HO.out _) fun w1 b1=> ?_;obtain ⟨c2,hs⟩:=HS.out _ (HQ.out.below b1);have HS2:=zh hs;clear hs HS HQ b1 HO c1;go_wp2_with fail;refine zM HS2.out fun w2 h2=> ?_;have H2:=zh h2;clear h2 HS2;go_wp2;refine bodyPost_ret (v:= .tuple #[]) (by simp [results,results83,go_sem]) rfl ?_;exact ⟨rfl,H2.out⟩
theorem jeg (h:QW w0 S b t p s Ls rest st md pg [] w) {ks kx ku:Nat} {u s0 v n:Int} (ms:(ks,oH s0)∈Ls) (mx:(kx,oX b)∈Ls) (mu:(ku,oN u)∈Ls) (hv:U64 v) (ho:qg v s0=some n) {Φ:World->Prop}
 (hR:∀W,QW w0 S b t p s Ls rest st md pg [] W->Calls prog 86 #[.pointer (some ⟨b,0,none⟩),.int .i64 u,.int .u64 v,.int .i64 n] W fun e w'=>e= .returned (.tuple #[])/\Φ w') :
 Calls prog 83 #[.int .u64 v,pB ks,pB kx,pB ku] w fun e w'=>e= .returned (.tuple #[])/\Φ w':=by
 have c1:=(h.gH ms).1;have HO:=zh (fun w=>jeR v s0 n w hv ho);have HS:=zh (fun (W:World) (g:QW w0 S b t p s Ls rest st md pg [] W)=>And.intro (g.gX mx).1 (And.intro (g.gN mu).1 (hR W g)));have HQ:=zh h;clear h ms mx mu hv ho hR;unfold pB;go_enter func83,ntmps83;go_wp2_with fail;refine zM (HO.out _) fun w1 b1=> ?_;obtain ⟨c2,c3,hs⟩:=HS.out _ (HQ.out.below b1);have HS2:=zh hs;clear hs HS HQ b1 HO c1;go_wp2_with fail;refine zM HS2.out fun w2 h2=> ?_;have H2:=zh h2;clear h2 HS2;go_wp2;go_end0;exact ⟨rfl,H2.out⟩
end

theorem jbf (l:List (Int×Int)) (x:Int×Int):j8 (l++[x])=j8 l++[.int .i64 x.1,.int .u32 x.2]:=by simp [j8]
section
variable {w0 w w':World} {S:Nat->Prop} {b:Nat} {t p s:Int} {Ls:List (Nat×Obj)} {rest:Value} {st md pg:Int} {q:List Stp}
theorem SwR.qw {y:TS} (h:SwR w0 S b t p s Ls rest st md y w):∃Ls' rest' pg' q',(∀z∈Ls,z∈Ls')/\QW w0 S b t p s Ls' rest' st md pg' q' w:=by
 obtain ⟨Ls',hs,h⟩:=h;rcases h with ⟨-,h⟩ | ⟨-,-,-,kx,kk,kt,kv,wv,-,-,-,-,h⟩ | ⟨-,-,kx,kz,kn,kl,a,c,-,-,-,-,-,h⟩
 ·exact ⟨_,_,_,_,hs,h⟩
 ·exact ⟨_,_,_,_,hs,h⟩
 ·exact ⟨_,_,_,_,hs,h⟩
theorem SwR.less {y:TS} (h:SwR w0 S b t p s Ls rest st md y w):SwR w0 S b t p s [] rest st md y w:=by
 obtain ⟨Ls',hs,h⟩:=h;exact ⟨Ls',zT,h⟩
theorem QW.known_grown (h:QW w0 S b t p s Ls rest st md pg q w) {kv v' u wv:Value} {kn kn':List (Int×Int)} {kx kk kt:Nat} {nd:Int} (hk:KnV Ls kv kn) (hg:w.grownBy w' kv.ownBlock) (ho:w'.ownsRow 0 106 2 v' kn'.length (j8 kn')) (hnew:∀k,v'.ownBlock=some k->kv.ownBlock=some k\/w.heap.size<=k) (hne:0 < kn'.length)
 (mx:(kx,oX b)∈Ls) (mk:(kk,oL u)∈Ls) (mt:(kt,oT nd wv)∈Ls):∃L2,KnV L2 v' kn'/\QW w0 S b t p s ((kx,oX b) :: (kk,oL u) :: (kt,oT nd wv) :: L2) rest st md pg q w':=by
 rcases ho.2 with ⟨h1,h2⟩ | ⟨g,cap,cur,h1,-,h3,h4,h5,h6,h7⟩
 ·omega
 ·refine ⟨[(g,Obj.cells cur 106)],.inr ⟨g,cap,cur,h1,zT,h4,h5,h6,h7⟩,?_⟩;have hrow:∀k,kv.ownBlock=some k->∃cu,(k,Obj.cells cu 106)∈Ls:=fun k e=>by
   rcases hk with ⟨e1,-⟩ | ⟨g2,cap2,cur2,e1,e2,-⟩
   ·rw [e1] at e;cases e
   ·rw [e1] at e;simp only [Value.ownBlock,Option.some.injEq] at e;subst e;exact ⟨_,e2⟩
  have hd:∀(k:Nat) (cs:Array Value) (T:TypeId),T≠106->(k,Obj.cells cs T)∈Ls->kv.ownBlock≠some k:=fun k cs T hT hm e=>by
   obtain ⟨cu,e2⟩:=hrow k e;have a1:=(h.ls _ hm).1;have a2:=(h.ls _ e2).1;dsimp only at a1 a2;rw [a1] at a2;simp only [Option.some.injEq,Obj.cells.injEq] at a2;exact hT a2.2.1
  refine h.grown hg (fun k e=>by obtain ⟨cu,e2⟩:=hrow k e;exact ⟨_,e2,rfl⟩) fun l hl=> ?_;simp only [List.mem_cons,List.not_mem_nil,or_false] at hl;rcases hl with rfl | rfl | rfl | rfl
  ·exact .inl ⟨mx,hd _ _ _ zd mx⟩
  ·exact .inl ⟨mk,hd _ _ _ zd mk⟩
  ·exact .inl ⟨mt,hd _ _ _ zd mt⟩
  ·refine .inr ⟨h3,?_⟩;rcases hnew g (by rw [h1];rfl) with e | e
   ·obtain ⟨cu,e2⟩:=hrow g e;exact .inl ⟨_,e2,rfl⟩
   ·exact .inr e
theorem ja9 {x:TS} (h:QW w0 S b t p s Ls rest st md x.page [] w) (hr:jq t p s=true) {kx kk kt:Nat} {kv wv:Value} {v:Int} (mx:(kx,oX b)∈Ls) (mk:(kk,oL kv)∈Ls) (mt:(kt,oT x.need wv)∈Ls) (hk:KnV Ls kv x.known) (hok:KnOK (x.known++[(x.need,loW v)])) (hv:U64 v) (hpg:(x.page:Int)<=p) (hst:0<=st/\st+1 < 4294967296) :
 Calls prog 144 #[.int .u64 v,pB kx,pB kk,pB kt] w fun e w'=>e= .returned (.tuple #[])/\SwR w0 S b t p s [] rest st md (jL t p s { x with known:=x.known++[(x.need,loW v)] }) w':=by
 obtain ⟨ka,kc,rfl⟩:=hk.shape;obtain ⟨i0,hi0,hi1,hi2,hi3⟩:=info_parts QX;have HI:=zh (And.intro hi0 (And.intro hi1 (And.intro hi2 hi3)));have HV:=zh (fun w=>mval_any v w hv);have HS:=zh (fun (W:World) (L2:List (Nat×Obj)) (v':Value) (g:QW w0 S b t p s L2 rest st md x.page [] W) (hk2:KnV L2 v' (x.known++[(x.need,loW v)]))=>Kb (x:={ x with known:=x.known++[(x.need,loW v)] }) g hr hk2 hok hpg hst);have HK:=zh (fun (W:World) (L2:List (Nat×Obj)) (hs:∀z∈Ls,z∈L2) (g:QW w0 S b t p s L2 rest st md x.page [] W)=>KnV.row g (hk.sub hs));have HG:=zh (fun (W W':World) (L2:List (Nat×Obj)) (v':Value) (hs:∀z∈Ls,z∈L2) (g:QW w0 S b t p s L2 rest st md x.page [] W) hg ho hnew=>g.known_grown (w':=W') (v':=v') (kn':=x.known++[(x.need,loW v)]) (hk.sub hs) hg ho hnew zT (hs _ mx) (hs _ mk) (hs _ mt));have HM:=zh (fun (W:World) (L2:List (Nat×Obj)) (hs:∀z∈Ls,z∈L2) (g:QW w0 S b t p s L2 rest st md x.page [] W)=>And.intro (g.gX (hs _ mx)).1 (And.intro (g.gL (hs _ mk)).1 (show W.cell? ⟨kt,0,none⟩=some (.int .i64 x.need) from (g.bx (hs _ mt)) 0)));have HQ:=zh h.drew;have hle:=hok.1;have HP:=zh (jbf x.known (x.need,loW v));have hlen:(x.known++[(x.need,loW v)]).length=x.known.length+1:=zT;rw [hlen] at HG hle;dsimp only at HP;generalize jL t p s { x with known:=x.known++[(x.need,loW v)] }=y at*
 generalize loW v=lv at*
 generalize x.need=nd at*
 generalize hkn:x.known++[(nd,lv)]=kn' at*
 generalize x.page=pg at*
 generalize hxk:x.known=kn at*
 clear h mx mk mt hk hok hv hpg hst hr hi0 hi1 hi2 hi3 hlen hkn hxk x;generalize hn:kn.length=n at*
 unfold pB;obtain ⟨c1,c2,c3⟩:=HM.out _ _ (fun z hz=>hz) HQ.out;go_enter func144,ntmps144;go_wp2_with fail;refine wHn3 (zQ c1) (zQ c2) (zQ c3) fun hHeld=> ?_;refine wT 0 ?_;refine wY ?_;refine wR 5 fun K hK=> ?_;go_simp;refine zM (HV.out _) fun w1 b1=> ?_;have H1:=zh (HQ.out.below b1);refine wK hK (HM.out _ _ (fun z hz ↦ hz) H1.out) fun hHeld=> ?_;clear hK K;refine wY ?_;refine wR 7 fun K hK=> ?_;go_simp;have H2:=zh (H1.out.alloc (.cells #[.int .i64 nd,.int .u32 lv] 106));refine wK hK (HM.out _ _ (fun z hz ↦ List.mem_cons_of_mem _ hz) H2.out) fun hHeld=> ?_;clear hK K;refine wR 8 fun K hK=> ?_;refine kA rfl (.tmp 6) (.tmp 12) rfl 106 i0 (.agg #[.int .i64 0,.int .u32 0]) 2 16 underlying45 HI.out.1 HI.out.2.1 HI.out.2.2.1 HI.out.2.2.2 rfl zd (.slice ka n kc) n (j8 kn) rfl (HK.out _ _ (fun z hz ↦ List.mem_cons_of_mem _ hz) H2.out) ⟨w1.heap.size,0,none⟩ 1 1 [.int .i64 nd,.int .u32 lv] rfl rfl (ky w1 _ _ _ rfl) ?c1 ?c2 ?c3 ?_;case c1=>(intro u hu;simp at hu;rcases hu with rfl | rfl <;> rfl)
 case c2=>(unfold maxLen;omega)
 case c3=>(omega)
 intro v' w5 hown5 hg5 hnew5 hnil5;clear hnil5;rw [<-HP.out] at hown5;obtain ⟨L2,hk5,h5⟩:=HG.out _ _ _ _ (fun z hz ↦ List.mem_cons_of_mem _ hz) H2.out hg5 hown5 hnew5;have H5:=zh h5;have HK5:=zh hk5;clear h5 hk5 hg5 hown5 hnew5;refine wK hK (⟨(H5.out.gX zT).1,(H5.out.gL zT).1,H5.out.bx (k:=kt) (List.mem_cons_of_mem _ (List.mem_cons_of_mem _ List.mem_cons_self)) 0⟩) fun hHeld=> ?_;clear hK K;refine wR 9 fun K hK=> ?_;go_simp;refine zM (HS.out _ _ _ H5.out (HK5.out.sub (fun z hz ↦ by simp [hz]))) fun w6 h6=> ?_;have H6:=zh h6;clear h6;refine wK hK ((by obtain ⟨Lz,rz,pz,qz,hz1,hz2⟩:=H6.out.qw;exact ⟨(hz2.gX (hz1 _ zT)).1,(hz2.gL (hz1 _ zT)).1,hz2.bx (k:=kt) (hz1 _ (List.mem_cons_of_mem _ (List.mem_cons_of_mem _ List.mem_cons_self))) 0⟩)) fun hHeld=> ?_;clear hK K;refine wD ?_;go_end0;exact ⟨rfl,H6.out.less⟩
end

theorem to_s (x:TS) (k:Nat):(x.to k).s=x.s:=rfl
theorem Jt (t p z:Int):∀(k:Nat) (x:TS),(kH t p z k x).s=x.s/\(kH t p z k x).made=x.made/\(kH t p z k x).own=x.own
 | 0,x=>⟨rfl,rfl,rfl⟩
 | k+1,x=>by
  unfold kH;split
  ·exact ⟨rfl,rfl,rfl⟩
  ·split
   ·exact Jt t p z k _
   ·exact ⟨rfl,rfl,rfl⟩
theorem skipT_s (x:TS):(jY x).s=x.s/\(jY x).made=x.made:=by
 unfold jY;have h1:∀x:TS,(qt x).s=x.s/\(qt x).made=x.made:=fun x=>by unfold qt;split <;> exact ⟨rfl,rfl⟩
 have h2:∀x:TS,(yc x).s=x.s/\(yc x).made=x.made:=fun x=>by unfold yc;split <;> exact ⟨rfl,rfl⟩
 have h3:∀x:TS,(yb x).s=x.s/\(yb x).made=x.made:=fun x=>by unfold yb;split <;> exact ⟨rfl,rfl⟩
 have h4:∀x:TS,(ya x).s=x.s/\(ya x).made=x.made:=fun x=>by unfold ya;split <;> exact ⟨rfl,rfl⟩
 have h5:∀x:TS,(q8 x).s=x.s/\(q8 x).made=x.made:=fun x=>by unfold q8;split <;> exact ⟨rfl,rfl⟩
 refine ⟨?_,?_⟩
 ·rw [(h5 _).1,(h4 _).1,(h3 _).1,(h2 _).1,(h1 _).1]
 ·rw [(h5 _).2,(h4 _).2,(h3 _).2,(h2 _).2,(h1 _).2]
theorem told_s (t p z v:Int) (x:TS) (h:1<=x.ph):x.s<=(jy t p z v x).s/\(jy t p z v x).s<=x.s+1:=by
 unfold jy;rw [(skipT_s _).1];unfold kI;split
 ·omega
 ·split
  ·rw [jL,(Jt t p z _ _).1];omega
  ·rw [to_s];dsimp only;omega
 ·dsimp only;omega
 ·split <;> (dsimp only;omega)
 ·dsimp only;omega
 ·dsimp only;omega
 ·rw [to_s];omega
 ·rw [to_s];omega
 ·rw [to_s];omega
 ·rw [jL,(Jt t p z _ _).1];dsimp only;omega
 ·rw [jL,(Jt t p z _ _).1];dsimp only;omega
 ·dsimp only;omega
 ·dsimp only;omega
 ·rw [to_s];omega
 ·rw [to_s];omega
 ·rw [to_s];omega
 ·rw [to_s];dsimp only;omega
 ·rw [to_s];omega
 ·rw [to_s];omega
 ·omega
def jcf (own:Bool):FuncId:=if own then 198 else 153
def behV (own:Bool) (k0:Nat):Value:= .func (.func (jcf own)) #[] #[pB k0]
def tipV (b:Nat):Value:= .func (.func 39) #[pB b] #[]
def tip1V (ks kx ku:Nat):Value:= .func (.func 83) #[] #[pB ks,pB kx,pB ku]
def flC (t p:Int) (x:TS):List Stp:=flF x.l++[⟨5,0,0,.nilFunc⟩]++clF (jo t p x.u) (Jv x.note)
def lgC (t p:Int) (st:Int) (wr:List (Int×Int)) (kx:Nat):List Stp:=lgF t p wr++fsF t p ((wr.length+7) / 8)++tlF t p (j9 (st+1) wr.length true) (jH (st+1) t) (ch1V kx)
structure TuD (t p:Int) (x:TS):Prop where
 u0:0<=x.u
 u1:x.u<=t
 nv:U64 x.note
 nw:∃o n,qo x.note=some (hiW x.note,o,n)
 l:WrOK t p x.l
def TuB (Ls:List (Nat×Obj)) (b:Nat) (x:TS) (k0 kl kx ku kn kb:Nat):Prop:=
 (k0,oX b)∈Ls/\∃lv,KB Ls lv x.l/\TC Ls b x.u x.note lv (jcf x.own) #[] #[pB k0] kl kx ku kn kb
def CeB (Ls:List (Nat×Obj)) (b:Nat) (x:TS) (y:Int×Int) (r:List (Int×Int)) (js jx ja jl jb kl kx ku kn kb:Nat):Prop:=
 (js,oH (hiW x.note))∈Ls/\(jx,oX b)∈Ls/\(ja,oN (16+y.1))∈Ls/\(jb,oF (t1V kl kx ku kn kb))∈Ls/\∃ad c,(jl,oL (.slice (some ad) (r.length+1) c))∈Ls/\KB Ls (.slice (some ad) (r.length+1) c) (y :: r)
def MR (w0:World) (S:Nat->Prop) (b:Nat) (t p s:Int) (x:TS) (w:World):Prop:=match x.ph with
 | 0=>∃Ls,QW w0 S b t p s Ls .nilFunc x.s x.made x.page [⟨1,8,0,tipV b⟩] w
 | 1=>(0<=x.u/\x.u<=t)/\∃Ls ks kx ku,(ks,oH x.s)∈Ls/\(kx,oX b)∈Ls/\(ku,oN x.u)∈Ls/\QW w0 S b t p s Ls .nilFunc x.s x.made x.page [⟨1,jo t p x.u,0,tip1V ks kx ku⟩] w
 | 2=>TuD t p x/\∃Ls kx ku kn kl g,∃N:Nat,∃bs:List Nat,x.n=(N:Int)/\bs.length=N/\(kx,oX b)∈Ls/\(ku,oN x.u)∈Ls/\(kn,oW x.note)∈Ls/\(kl,oL (.slice (some ⟨g,0,none⟩) N N))∈Ls/\(g,Obj.cells (j8 (yg N x.l)).toArray 106)∈Ls/\
  (∀j k:Nat,bs[j]? =some k->(k,oN (j:Int))∈Ls)/\QW w0 S b t p s Ls (r2V kx ku kn kl) x.s x.made x.page ((ldF t p x.u kl bs).drop x.i) w
 | 3=>TuD t p x/\∃Ls k0 kl kx ku kn kb y r js jx ja jl jb,x.l.drop x.i=y :: r/\TuB Ls b x k0 kl kx ku kn kb/\CeB Ls b x y r js jx ja jl jb kl kx ku kn kb/\QW w0 S b t p s Ls .nilFunc x.s x.made x.page [⟨1,16+y.1,0,c1V js jx ja jl jb⟩] w
 | 4=>TuD t p x/\∃Ls k0 kl kx ku kn kb y r js jx ja jl jb,x.l.drop x.i=y :: r/\TuB Ls b x k0 kl kx ku kn kb/\CeB Ls b x y r js jx ja jl jb kl kx ku kn kb/\QW w0 S b t p s Ls (c11V jx js jl jb) x.s x.made x.page [⟨2,16+y.1,jH (hiW x.note) y.2,.nilFunc⟩] w
 | 5=>TuD t p x/\∃Ls k0,(k0,oX b)∈Ls/\QW w0 S b t p s Ls (behV x.own k0) x.s x.made x.page ((flC t p x).drop x.i) w
 | 6=>TuD t p x/\∃Ls k0,(k0,oX b)∈Ls/\QW w0 S b t p s Ls (behV x.own k0) x.s x.made x.page ((flC t p x).drop x.l.length) w
 | 7=>TuD t p x/\∃Ls k0,(k0,oX b)∈Ls/\QW w0 S b t p s Ls (behV x.own k0) x.s x.made x.page ((flC t p x).drop (x.l.length+1)) w
 | 8=>TuD t p x/\∃Ls k0,(k0,oX b)∈Ls/\QW w0 S b t p s Ls (behV x.own k0) x.s x.made x.page ((flC t p x).drop (x.l.length+2)) w
 | 9=>TuD t p x/\∃Ls k0,(k0,oX b)∈Ls/\QW w0 S b t p s Ls (behV x.own k0) x.s x.made x.page ((flC t p x).drop (x.l.length+3)) w
 | 10=>(0<=x.need/\x.need < jk t p)/\KnOK x.known/\∃Ls kx kk kt kv wv,(kx,oX b)∈Ls/\(kk,oL kv)∈Ls/\(kt,oT x.need wv)∈Ls/\KnV Ls kv x.known/\QW w0 S b t p s Ls .nilFunc x.s x.made x.page [⟨1,16+x.need,0,s1V kx kk kt⟩] w
 | 19=>∃Ls,QW w0 S b t p s Ls .nilFunc x.s x.made x.page [] w
 | k=>WrOK t p x.wr/\∃Ls kx kz kn kl a c st,(kx,oX b)∈Ls/\(kz,oN t)∈Ls/\(kn,oW (j9 (st+1) x.wr.length true))∈Ls/\(kl,oL (.slice a x.wr.length c))∈Ls/\KB Ls (.slice a x.wr.length c) x.wr/\
  (0<=st/\st+1 < 4294967296)/\(if k<=16 then st=x.s else x.s=st+1/\x.note=j9 (st+1) x.wr.length true/\x.u=t/\x.l=x.wr/\x.own=true)/\(k=12->x.i % 8=0)/\
  QW w0 S b t p s Ls (Vw kx kz kn kl) x.s x.made x.page ((lgC t p st x.wr kx).drop (match k with | 11=>x.i | 12=>x.wr.length+x.i / 8 | k+13=>x.wr.length+(x.wr.length+7) / 8+k | _=>0)) w
structure MS (w0:World) (S:Nat->Prop) (b:Nat) (t p s:Int) (x:TS) (w:World):Prop where
 inv:yJ t p x
 st:0<=x.s/\x.s+mu t p x<=2200000000
 mr:MR w0 S b t p s x w

def StB (t p:Int) (x:TS):Prop:=0<=x.s/\x.s+mu t p x<=2200000000
theorem KJ (t p z:Int):∀(k:Nat) (x:TS),(kH t p z k x).i=0
 | 0,_=>rfl
 | k+1,x=>by
  unfold kH;split
  ·rfl
  ·split
   ·exact KJ t p z k _
   ·rfl
section
variable {w0 w:World} {S:Nat->Prop} {b:Nat} {t p s:Int} {Ls:List (Nat×Obj)}
theorem QU {y:TS} (h:SwR w0 S b t p s Ls .nilFunc y.s y.made y w) (hi:yJ t p y) (hs:StB t p y) (hi0:y.i=0):jaB w0 S b t p s (MS w0 S b t p s y) w:=by
 have hmu:(0:Int)<=(mu t p y:Int):=Int.natCast_nonneg _;have hs':=hs;unfold StB at hs';obtain ⟨Ls',-,h⟩:=h;rcases h with ⟨h1,h2⟩ | ⟨h1,h2,h3,kx,kk,kt,kv,wv,m1,m2,m3,m4,h4⟩ | ⟨h1,h2,kx,kz,kn,kl,a,c,m1,m2,m3,m4,m5,h4⟩
 ·refine ⟨⟨hi,hs,?_⟩,_,_,_,_,_,_,h2,.inr rfl⟩;unfold MR;rw [h1];exact ⟨_,h2⟩
 ·refine ⟨⟨hi,hs,?_⟩,_,_,_,_,_,_,h4,.inl zT⟩;unfold MR;rw [h1];exact ⟨h2,h3,_,kx,kk,kt,kv,wv,m1,m2,m3,m4,h4⟩
 ·refine ⟨⟨hi,hs,?_⟩,_,_,_,_,_,_,h4,.inl (by simp [tlF])⟩;unfold MR;rw [h1];refine ⟨h2,_,kx,kz,kn,kl,a,c,y.s,m1,m2,m3,m4,m5,⟨zo,zo⟩,rfl,fun e=>absurd e zd,?_⟩;show QW _ _ _ _ _ _ _ _ _ _ _ (List.drop y.i _) _;rw [hi0,List.drop_zero];exact h4
theorem jaT {v st n:Int} {o:Bool} (h:qo v=some (st,o,n)):Jv v=j9 st n false:=by
 unfold Jv;rw [h]
theorem VU {x:TS} (h:QW w0 S b t p s Ls .nilFunc x.s x.made x.page [] w) (hr:jq t p s=true) (hd:TuD t p x) {k0:Nat} {a:Option Addr} {c:Nat} (m0:(k0,oX b)∈Ls) (hl:KB Ls (.slice a x.l.length c) x.l) (hi:yJ t p (jY (x.to 3))) (hs:StB t p (jY (x.to 3))) :
 Calls prog 152 #[.pointer (some ⟨b,0,none⟩),.int .i64 x.u,.int .u64 x.note,.slice a x.l.length c,.func (.func (jcf x.own)) #[] #[pB k0]] w fun e w'=>e= .returned (.tuple #[])/\jaB w0 S b t p s (MS w0 S b t p s (jY (x.to 3))) w':=by
 obtain ⟨o,n,hw⟩:=hd.nw;rw [Vu] at hi hs ⊢;refine jef h hd.nv hw (fun W Ls' kl kx ku kn kb hsub tc g=> ?_);by_cases hx:x.l=[]
 ·rw [if_pos hx] at hi hs ⊢;have e0:x.l.length=0:=by rw [hx];rfl
  have hc:=Vi (sv:=hiW x.note) (a:=a) (c:=c) g zT hr tc (hl.sub hsub) hd.l.1 (fun z hz=>(hd.l.2 z hz).1) hd.u0 hd.u1 hd.nv hw;rw [e0];refine zM hc fun w' h1=> ?_;refine ⟨rfl,⟨hi,hs,?_⟩,_,_,_,_,_,_,h1,.inl (by simp [clF])⟩;unfold MR;show _/\_;refine ⟨⟨hd.u0,hd.u1,hd.nv,⟨o,n,hw⟩,hd.l⟩,Ls',k0,hsub _ m0,?_⟩;show QW _ _ _ _ _ _ _ _ _ _ _ (List.drop x.l.length _) _;rw [e0,List.drop_zero];unfold flC;show QW _ _ _ _ _ _ _ _ _ _ _ (flF x.l++_++clF (jo t p x.u) (Jv x.note)) _;rw [jaT hw];exact h1
 ·rw [if_neg hx] at hi hs ⊢;obtain ⟨y,r,hyr⟩:∃y r,x.l=y :: r:=by
   cases hh:x.l with
   | nil=>exact absurd hh hx
   | cons y r=>exact ⟨y,r,rfl⟩
  have hl':=hl.sub hsub;have hwr:=hd.l;rw [hyr] at hl' hwr;obtain ⟨a',c',e1,-,hn⟩:=id hl';obtain ⟨gg,off,cur,e2,-⟩:=hn zT;simp only [Value.slice.injEq,true_and] at e1;obtain ⟨rfl,rfl⟩:=e1;subst e2;have hlen:x.l.length=r.length+1:=by rw [hyr];rfl
  have hc:=Yk (kl:=kl) (kx:=kx) (ku:=ku) (kn:=kn) (kb:=kb) (sv:=hiW x.note) g zT hr (show KB Ls' (.slice (some ⟨gg,off,none⟩) (r.length+1) c) (y :: r) from hl') (by have:=hwr.1;simp at this;omega) (hwr.2 y zT).1;rw [hlen];refine zM hc ?_;rintro w' ⟨jx,js,ja,jl,jb,h1⟩;refine ⟨rfl,⟨hi,hs,?_⟩,_,_,_,_,_,_,h1,.inl zT⟩;unfold MR;show _/\_;refine ⟨⟨hd.u0,hd.u1,hd.nv,⟨o,n,hw⟩,hd.l⟩,_,k0,kl,kx,ku,kn,kb,y,r,js,jx,ja,jl,jb,hyr,⟨by simp [hsub _ m0],_,hl.sub (fun z hz=>by simp [hsub z hz]),tc.sub (fun z hz=>by simp [hz])⟩,⟨by simp [TS.to],zT,zT,zT,⟨gg,off,none⟩,c,zT,?_⟩,h1⟩;have:=KB.sub (Ls':=(ja,oN (16+y.1)) :: (jb,oF (t1V kl kx ku kn kb)) :: (jl,oL (.slice (some ⟨gg,off,none⟩) (r.length+1) c)) :: (js,oH (hiW x.note)) :: (jx,oX b) :: Ls') hl' (fun z hz=>by simp [hz]);exact this
end
end Go.Proofs.YtcnininelndjoaaGreat

