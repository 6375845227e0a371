/- parts of the proof, merged by a program. -/
import Derived.Test.YtcnininelndjoaaGreatMmo1
import Derived.Test.YtcnininelndjoaaGreatMmo2
import Derived.Test.YtcnininelndjoaaGreatMmo3
import Derived.Test.YtcnininelndjoaaGreatMmo4
import Derived.Test.YtcnininelndjoaaGreatMmo8
import Derived.Test.YtcnininelndjoaaGreatMmo11
import Derived.Test.YtcnininelndjoaaGreatMmo14
import Derived.Deep.RegionHeld3
set_option linter.unusedSimpArgs false
set_option linter.unusedVariables false
set_option maxRecDepth 100000
set_option maxHeartbeats 4000000
namespace Go.Proofs.YtcnininelndjoaaGreat
open Go.Proofs.Tryz
open Go.RowKit

def CutQ (w:World) (bm:Nat) (T:Nat->Prop) (t s:Int) (P:Nat) (vs:List Int) (s0:Int) (w':World):Prop:=
 ∃m:NM,PM w' bm (upd T w w') m/\m.Inv/\m.K=m.W/\∃st u o j,j<=P/\qm t P s m.W st u o (SP t P s vs j)/\st<=s0+3000
def CuB (w0:World) (t p s:Int) (nv ev:Value) (W:World):Prop:=W.heap[w0.heap.size]? =some (.cells #[.int .i64 t,.int .i64 p,.int .i64 s] 23)/\W.heap[w0.heap.size+1]? =some (.cells #[nv,ev] 69)
def CuRel (w:World) (b bm:Nat) (T:Nat->Prop) (t s:Int) (P:Nat) (vs:List Int) (s0:Int) (nv ev:Value) (vi:Value) (wr:World):Prop:=
 ∃(k:Nat) (q:TS×NM),vi= .int .i64 k/\k<=3000/\GI t s P vs s0 k q.1 q.2/\NSt (RXM t P s bm) w b T [w.heap.size,w.heap.size+1] q wr/\CuB w t P s nv ev wr
def CiRel (w:World) (b bm:Nat) (T:Nat->Prop) (t s:Int) (P:Nat) (vs:List Int) (s0:Int) (nv ev:Value) (k l:Nat) (vk:Value) (wr:World):Prop:=
 ∃(j:Nat) (q:TS×NM),vk= .int .i64 j/\j<=l/\GI t s P vs s0 k q.1 q.2/\NSt (RXM t P s bm) w b T [w.heap.size,w.heap.size+1] q wr/\CuB w t P s nv ev wr
section
variable {w w':World} {S T:Nat->Prop} {bm:Nat} {t s:Int} {P:Nat} {vs:List Int} {s0:Int} {m:NM}
theorem CuB.on {w0 W W':World} {t p s:Int} {nv ev:Value} (h:CuB w0 t p s nv ev W) (hl:∀L∈[w0.heap.size,w0.heap.size+1],W'.heap[L]? =W.heap[L]?):CuB w0 t p s nv ev W':=
 ⟨(hl _ zT).trans h.1,(hl _ zT).trans h.2⟩
theorem cut_end {b k:Nat} {q:TS×NM} {Ls:List Nat} {wr w':World} (g:GI t s P vs s0 k q.1 q.2) (hk:k<=3000) (h:NSt (RXM t P s bm) w b T Ls (q.1,q.2.crash) w') (hm:∀k,T k->k < w.heap.size):CutQ w bm T t s P vs s0 w'/\Fr T w w':=by
 obtain ⟨S1,⟨⟨Sx,Tx,h2,-,h3⟩,-⟩,hS,-⟩:=h.ex;obtain ⟨g1,g2,st,u,o,j,hj,hs,hle⟩:=g.crash;refine ⟨⟨q.2.crash,qg.mono h2.pm (fun k hk=> ?_) (fun k hk=> ?_),g1,g2,st,u,o,j,hj,hs,zo⟩,h.fr⟩
 ·rcases hS k (h3 k hk) with h4 | h4
  ·exact .inl h4
  ·exact .inr ⟨h4,qg.lt h2.pm k hk⟩
 ·rcases hk with hk | hk
  ·exact Nat.lt_of_lt_of_le (hm k hk) h.fr.size
  ·exact hk.2
theorem cut_any {n:Int} {aN aE:Option Addr} {nN cN cE:Nat} {acts:List NM.A} (hp:PM w bm T m) (g:GI t s P vs s0 0 TS.begin m) (hE:∀W,Fr T w W->Rd W (.slice aE acts.length cE) 6 acts.length (acts.flatMap jeL)) (hl:acts.length<=60) :
 Calls prog 24 #[.agg #[.int .i64 t,.int .i64 P,.int .i64 s],.pointer (some ⟨bm,0,none⟩),.int .i64 n,.agg #[.slice aN nN cN,.slice aE acts.length cE]] w fun e w'=>e= .returned (.tuple #[])/\CutQ w bm T t s P vs s0 w'/\Fr T w w':=by
 have hr:=g.sh.right;have HR:=zh hr;have HGI:=zh g;have HEv:=zh hE;have HTl:=zh (qg.lt hp);have HP:=zh hp;clear hp g hE hr;go_enter func24,ntmps24;go_wp2_with fail;refine (VD _ HR.out).mono ?_;rintro e w1 ⟨⟨b,rfl,S,mS,gS⟩,b1⟩;have hN:NSt (RXM t P s bm) w b T [w.heap.size,w.heap.size+1] (TS.begin,m) w1/\CuB w t P s (.slice aN nN cN) (.slice aE acts.length cE) w1:=by
  have h0:=((Below.refl w.heap.size w).alloc (Nat.le_refl _) (.cells #[.int .i64 t,.int .i64 P,.int .i64 s] 23)).alloc zT (.cells #[.slice aN nN cN,.slice aE acts.length cE] 69);have h1:=h0.trans (b1.mono h0.size);have z1:=b1.size;simp at z1 gS;have P1:=qg.keep (T:=fun _=>False) HP.out (Fr.of_below h1) (fun _ _ x=>x);refine ⟨⟨⟨fun k=>S k\/T k,XP (P:=P) mS P1 (fun k hs ht=>by have:=gS k hs;have:=HTl.out k ht;omega),fun k hk=> ?_,fun L hL=> ?_⟩,Fr.of_below h1,fun L hL=> ?_,HTl.out⟩,?_,?_⟩
  ·rcases hk with hk | hk
   ·exact .inr (by have:=gS k hk;omega)
   ·exact .inl hk
  ·simp at hL;intro hk;rcases hk with hk | hk
   ·have:=gS L hk;omega
   ·have:=HTl.out L hk;omega
  ·simp at hL;omega
  ·exact (b1.block w.heap.size (by simp;omega)).trans ((heap_alloc_old _ _ zT).trans (heap_alloc_new w _))
  ·have e2:=heap_alloc_new (w.alloc (.cells #[.int .i64 t,.int .i64 P,.int .i64 s] 23)) (.cells #[.slice aN nN cN,.slice aE acts.length cE] 69);simp only [World.size_alloc] at e2;exact (b1.block (w.heap.size+1) zT).trans e2
 have HN:=zh hN;clear hN mS gS b1 HP;go_wp2_with fail;go_loopw [9] (fun vi wr=>CuRel w b bm T t s P vs s0 (.slice aN nN cN) (.slice aE acts.length cE) vi wr) (fun vi _=>3001 - (intOf vi).toNat);case atStart=>exact ⟨0,_,rfl,zo,HGI.out,HN.out.1,HN.out.2⟩
 case round=>
  clear HN HGI;obtain ⟨k,q,rfl,hk,hg,hn,hcb⟩:=hrel;have HG:=zh hg;have HN:=zh hn;have HCB:=zh hcb;clear hg hn hcb;have HEnd:=zh (fun (W:World) (h:NSt (RXM t P s bm) w b T [w.heap.size,w.heap.size+1] (q.1,q.2.crash) W)=>cut_end (wr:=W) HG.out hk h HTl.out);have HCr:=zh (fun W S1 (h1:RXM t P s bm W b S1 q)=>jfq h1);by_cases hkn:(k:Int) < n
  ·by_cases hk3:(k:Int) < 3000
   ·by_cases hph:q.1.ph=19
    ·obtain ⟨S1,x1,-⟩:=HN.out.ex;have HOv:=zh (XO x1 HR.out hph);clear x1;go_wp2_with fail;refine zM HOv.out fun w2 b2=> ?_;have N2:=zh (HN.out.below J6 b2);clear b2 HOv HN;go_wp2_with fail;all_goals
      refine zM (JW N2.out (HCr.out _)) ?_;rintro w3 ⟨n3,-⟩;have HE:=zh (HEnd.out _ n3);clear n3;go_wp2;go_end0;exact ⟨rfl,HE.out.1,HE.out.2⟩
    ·have HSt:=zh (fun S1 (h1:RXM t P s bm wr b S1 q)=>jcR h1 HG.out hph);have hk':k+1<=3000:=zo;go_wp2_with fail;refine zM (JW HN.out HSt.out) ?_;rintro w2 ⟨n2,l2⟩;have N2:=zh n2;have CB2:=zh (HCB.out.on l2);have G2:=zh (show GI t s P vs s0 (k+1) (nxt t P s q).1 (nxt t P s q).2 from HG.out.step hph);clear n2 l2 HSt HEnd HCr HN HCB HG;generalize nxt t P s q=q2 at*
     clear hph;go_wp2_with fail;go_loopw [10] (fun vk wr2=>CiRel w b bm T t s P vs s0 (.slice aN nN cN) (.slice aE acts.length cE) (k+1) acts.length vk wr2) (fun vk _=>acts.length+1 - (intOf vk).toNat);case atStart=>exact ⟨0,q2,rfl,Nat.zero_le _,G2.out,N2.out,CB2.out⟩
     case round=>
      rename_i wr2;clear G2 N2 CB2;obtain ⟨j,q3,rfl,hj,g3,n3,cb3⟩:=hrel;have G3:=zh g3;have N3:=zh n3;have CB3:=zh cb3;have d1:=jd (o:=1) cb3.2;simp at d1;clear g3 cb3;by_cases hjl:j < acts.length
      ·have hjI:(j:Int) < acts.length:=zo;obtain ⟨a,ha⟩:∃a,acts[j]? =some a:=⟨_,List.getElem?_eq_getElem hjl⟩
       obtain ⟨ad,c',he,-⟩:=jbJ (HEv.out _ n3.fr) ha;simp only [Value.slice.injEq,true_and] at he;obtain ⟨rfl,rfl⟩:=he;have hq:=fun W (F:Fr T w W)=>act_at (HEv.out W F) ha;obtain ⟨-,q1,-⟩:=hq _ n3.fr;have HQ:=zh hq;clear n3 hq ha;by_cases hw:a.who=(k:Int)
       ·rw [hw] at q1;have HEvt:=zh (fun W S1 (h1:RXM t P s bm W b S1 q3)=>jfp h1 a.at_ a.mask);have hxb:=fun (W:World) (N:NSt (RXM t P s bm) w b T [w.heap.size,w.heap.size+1] q3 W\/NSt (RXM t P s bm) w b T [w.heap.size,w.heap.size+1] (q3.1,(q3.2.evict a.at_ a.mask).2) W) (C:CuB w t P s (.slice aN nN cN) (.slice (some ad) acts.length cE) W)=>show W.cell? ⟨w.heap.size+1,1,none⟩=some (.slice (some ad) acts.length cE)/\W.cell? ⟨(ad.add (j*6)).block,(ad.add (j*6)).off+2,none⟩=some (.int .i64 a.at_)/\W.cell? ⟨(ad.add (j*6)).block,(ad.add (j*6)).off+3,none⟩=some (.int .i64 a.mask) from by
         have hF:Fr T w W:=N.elim (fun h=>h.fr) (fun h=>h.fr);obtain ⟨-,-,r2,r3,-⟩:=HQ.out W hF;exact ⟨jd (o:=1) C.2,r2,r3⟩
        have HXB:=zh hxb;clear hxb;go_wp2_with fail;have N3d:=zh (N3.out.drew J6);refine wH (S:=fun w'=>w'.cell? ⟨w.heap.size+1,1,none⟩=some (.slice (some ad) acts.length cE)/\w'.cell? ⟨(ad.add (j*6)).block,(ad.add (j*6)).off+2,none⟩=some (.int .i64 a.at_)/\w'.cell? ⟨(ad.add (j*6)).block,(ad.add (j*6)).off+3,none⟩=some (.int .i64 a.mask)) (HXB.out _ (.inl N3d.out) CB3.out) fun hHeld=> ?_;refine wT 0 ?_;refine wY ?_;refine wR 13 fun K hK=> ?_;go_simp;refine zM (JW N3d.out (HEvt.out _)) ?_;rintro w4 ⟨n4,l4⟩;have N4:=zh n4;have CB4:=zh (CB3.out.on l4);clear n4 l4;refine wK hK (HXB.out _ (.inr N4.out) CB4.out) fun hHeld=> ?_;clear hK K;refine wD ?_;clear hHeld;have G4:=zh (G3.out.evict a.at_ a.mask);clear HXB HEvt N3d N3 CB3 G3;go_wp2;go_roundw;case rel=>exact ⟨j+1,_,by go_num,zo,G4.out,N4.out,CB4.out⟩
        case measure=>simp [intOf];omega
       ·have hwb:(a.who == (k:Int))=false:=by rw [beq_eq_false_iff_ne];exact hw
        go_wp2;go_roundw;case rel=>exact ⟨j+1,q3,by go_num,zo,G3.out,N3.out,CB3.out⟩
        case measure=>simp [intOf];omega
      ·have hjI:¬(j:Int) < acts.length:=zo;clear n3;go_wp2;go_roundw;case rel=>exact ⟨k+1,q3,by go_num,hk',G3.out,N3.out,CB3.out⟩
       case measure=>simp [intOf];omega
   ·go_wp2_with fail;all_goals
     refine zM (JW HN.out (HCr.out _)) ?_;rintro w3 ⟨n3,-⟩;have HE:=zh (HEnd.out _ n3);clear n3;go_wp2;go_end0;exact ⟨rfl,HE.out.1,HE.out.2⟩
  ·go_wp2_with fail;all_goals
    refine zM (JW HN.out (HCr.out _)) ?_;rintro w3 ⟨n3,-⟩;have HE:=zh (HEnd.out _ n3);clear n3;go_wp2;go_end0;exact ⟨rfl,HE.out.1,HE.out.2⟩
end

theorem YZ {i:Nat}:∀{l l':List (Nat×Int)},l.map (·.1)=l'.map (·.1)->wix l i=wix l' i
 | [],[],_=>rfl
 | [],_ :: _,h=>by simp at h
 | _ :: _,[],h=>by simp at h
 | p :: r,p' :: r',h=>by
  simp only [List.map_cons,List.cons.injEq] at h;simp only [wix,h.1,YZ (i:=i) h.2]
theorem jbT (i k:Nat) (v:Int):∀l:List (Nat×Int),wix (l++[(i,v)]) k=match wix l k with | some j=>some j | none=>if i=k then some l.length else none
 | []=>by simp [wix]
 | p :: r=>by
  simp only [List.cons_append,wix,jbT i k v r];split
  ·rfl
  ·cases wix r k with
   | some j=>rfl
   | none=>by_cases h:i=k <;> simp [h]
theorem wr_put (s:VS) (i:Nat) (v:Int):({ s with writes:=VS.setW s.writes i v }:VS).wr i=some v/\∀j,j≠i->({ s with writes:=VS.setW s.writes i v }:VS).wr j=s.wr j:=by
 unfold VS.wr VS.setW;cases hw:wix s.writes i with
 | some m=>
  obtain ⟨h1,u,h2⟩:=yO hw;have hk:=VS.setW_keys_some (v:=v) hw;simp only;refine ⟨?_,fun j hj=> ?_⟩
  ·rw [YZ hk,hw];simp [h1]
  ·rw [YZ hk];cases hj2:wix s.writes j with
   | none=>rfl
   | some m2=>
    obtain ⟨h3,u2,h4⟩:=yO hj2;have hne:m≠m2:=by
     rintro rfl;rw [h2] at h4;simp at h4;exact hj h4.1.symm
    simp [List.getElem?_set,hne]
 | none=>
  simp only;refine ⟨?_,fun j hj=> ?_⟩
  ·rw [jbT,hw];simp
  ·rw [jbT];cases hj2:wix s.writes j with
   | none=>simp only [if_neg (fun e:i=j=>hj e.symm)];rfl
   | some m2=>
    obtain ⟨h3,u2,h4⟩:=yO hj2;simp [List.getElem?_append_left h3]
theorem jeR {s:VS} {i:Nat}:s.wr i=none↔wix s.writes i=none:=by
 unfold VS.wr;cases hw:wix s.writes i with
 | none=>simp
 | some m=>obtain ⟨h1,u,h2⟩:=yO hw;simp [h2]
theorem RVs.blk [AllF] {w w2:World} {b:Nat} {S:Nat->Prop} {s:VS} {kv vv iv tv rv wv gv:Value} {all:Bool} (h:RVs w b S s kv vv iv tv rv wv all) (X:Obj) (hg:(w.alloc X).grownBy w2 gv.ownBlock) {k:Nat} (hk:S k) (hn:gv.ownBlock≠some k):w2.heap[k]? =w.heap[k]? :=by
 have hl:=h.lt k hk;rw [hg.block k (by simp;omega) (fun e=>hn e.symm),Below.heap_alloc _ _ _ hl]
theorem RVs.rebuild [AllF] {w w':World} {b:Nat} {S:Nat->Prop} {s s':VS} {kv vv iv tv rv wv rv' wv':Value} {all:Bool} (h:RVs w b S s kv vv iv tv rv wv all) (F:Fr S w w')
 (hc:w'.heap[b]? =some (.cells #[.int .i64 s'.n,kv,vv,iv,tv,rv',wv',.int .i64 (yB s'),.bool all] 167)) (hn:s'.n=s.n) (hk:s'.known=s.known)
 (bk:∀k,kv.ownBlock=some k->w'.heap[k]? =w.heap[k]?) (bv:∀k,vv.ownBlock=some k->w'.heap[k]? =w.heap[k]?)
 (ir:w'.ownsRow 0 4 1 iv s.n (JY s.n (isF s'))) (tr:w'.ownsRow 0 44 1 tv s.n (JY s.n (toF s')))
 (rr:w'.ownsRow 0 3 1 rv' s'.reads.length (jZ s'.reads)) (wr:w'.ownsRow 0 3 1 wv' s'.writes.length (jZ (s'.writes.map (·.1))))
 (d3:∀k,rv'.ownBlock=some k->wv'.ownBlock≠some k)
 (hr:∀k,rv'.ownBlock=some k->S k\/w.heap.size<=k) (hw:∀k,wv'.ownBlock=some k->S k\/w.heap.size<=k) (hi:s'.Inv):Kj w b S s' w':=by
 have su:∀k,S k->upd S w w' k:=fun k hk=>Or.inl hk;refine ⟨⟨kv,vv,iv,tv,rv',wv',all,hc,?_,?_,by rw [hn];exact ir,by rw [hn];exact tr,rr,wr,h.d1,h.d2,d3,su _ h.inb,fun k hk=>su k (h.ink k hk),fun k hk=>su k (h.inv' k hk),fun k hk=>su k (h.ini k hk),fun k hk=>su k (h.int k hk),?_,?_,?_,hi,by rw [hn,hk];exact h.tot,h.al⟩,F⟩
 ·have e:jai s'=jai s:=by funext i;simp [jai,hk]
  rw [hn,e];exact jf h.kr bk
 ·have e:valF s'=valF s:=by funext i;simp [valF,hk]
  rw [hn,e];exact jf h.vr bv
 ·intro k hk;rcases hr k hk with x | x
  ·exact Or.inl x
  ·exact Or.inr ⟨x,jq rr hk⟩
 ·intro k hk;rcases hw k hk with x | x
  ·exact Or.inl x
  ·exact Or.inr ⟨x,jq wr hk⟩
 ·intro k hk;rcases hk with hk | hk
  ·exact Nat.lt_of_lt_of_le (h.lt k hk) F.size
  ·exact hk.2
theorem jgh [AllF] {w w2:World} {b:Nat} {S:Nat->Prop} {s:VS} {kv vv iv tv rv wv:Value} {all:Bool} {n g' cap':Nat} {X:Obj} (h:RVs w b S s kv vv iv tv rv wv all) (hg:(w.alloc X).grownBy w2 rv.ownBlock)
 (hown:w2.ownsRow 0 3 1 (.slice (some ⟨g',0,none⟩) (s.reads.length+1) cap') (s.reads.length+1) (jZ s.reads++[.int .i64 n]))
 (hnew:∀k,(Value.slice (some ⟨g',0,none⟩) (s.reads.length+1) cap').ownBlock=some k->rv.ownBlock=some k\/(w.alloc X).heap.size<=k) (hi:VS.Inv { s with reads:=s.reads++[n] }) :
 Kj w b S { s with reads:=s.reads++[n] } (w2.setCell ⟨b,5,none⟩ (.slice (some ⟨g',0,none⟩) (s.reads.length+1) cap')):=by
 have rb:=jk h.rr h.cells zd;have bb:w2.heap[b]? =w.heap[b]? :=h.blk X hg h.inb rb;have hg':=hnew g' rfl;have hbl:∀k,S k->rv.ownBlock≠some k->k≠b->(w2.setCell ⟨b,5,none⟩ (.slice (some ⟨g',0,none⟩) (s.reads.length+1) cap')).heap[k]? =w.heap[k]? :=fun k hk h1 h2=>by
  rw [Below.heap_setCell _ _ _ _ (by simpa using h2)];exact h.blk X hg hk h1
 have hgb:g'≠b:=by
  rintro rfl;rcases hg' with x | x
  ·exact rb x
  ·have:=h.lt _ h.inb;simp at x;omega
 have F:Fr S w (w2.setCell ⟨b,5,none⟩ (.slice (some ⟨g',0,none⟩) (s.reads.length+1) cap')):=
  (((Fr.refl S w).alloc X).grown hg (fun k hk=>Or.inl (h.inr k hk))).setCell _ _ (Or.inl h.inb)
 refine h.rebuild (rv':= .slice (some ⟨g',0,none⟩) (s.reads.length+1) cap') (wv':=wv) F ?_ rfl rfl ?_ ?_ ?_ ?_ ?_ ?_ ?_ ?_ (fun k hk=>Or.inl (h.inw k hk)) hi
 ·have:=Joins.block_setCell (i:=5) (bb.trans h.cells) (.slice (some ⟨g',0,none⟩) (s.reads.length+1) cap');rw [this];rfl
 ·exact fun k hk=>hbl k (h.ink k hk) (jy h.rr h.kr zd hk) (fun e=>jk h.kr h.cells zd (by rw [hk,e]))
 ·exact fun k hk=>hbl k (h.inv' k hk) (jy h.rr h.vr zd hk) (fun e=>jk h.vr h.cells zd (by rw [hk,e]))
 ·exact jf h.ir fun k hk=>hbl k (h.ini k hk) (jy h.rr h.ir zd hk) (fun e=>jk h.ir h.cells zd (by rw [hk,e]))
 ·exact jf h.tr fun k hk=>hbl k (h.int k hk) (jy h.rr h.tr zd hk) (fun e=>jk h.tr h.cells zd (by rw [hk,e]))
 ·have:=jf (w':=w2.setCell ⟨b,5,none⟩ (.slice (some ⟨g',0,none⟩) (s.reads.length+1) cap')) hown (fun k hk=>Below.heap_setCell _ _ _ _ (by simp [Value.ownBlock] at hk;subst hk;simpa using hgb));simpa [jZ] using this
 ·exact jf h.wr fun k hk=>hbl k (h.inw k hk) (fun e=>h.d3 k e hk) (fun e=>jk h.wr h.cells zd (by rw [hk,e]))
 ·intro k hk hk2;rcases hnew k hk with x | x
  ·exact h.d3 k x hk2
  ·have:=jq h.wr hk2;simp at x;omega
 ·intro k hk;rcases hnew k hk with x | x
  ·exact Or.inl (h.inr k x)
  ·simp at x;exact Or.inr zo
theorem rget_new [AllF] (b:Nat) (i:Int) (w:World) (S:Nat->Prop) (s:VS) (h:RV w b S s) (ht:s.there i=true) (v:Int) (hw:s.wr i.toNat=none) (hk:s.known i.toNat=some v) (hr:i.toNat ∉ s.reads) :
 Calls prog 162 #[.pointer (some ⟨b,0,none⟩),.int .i64 i] w fun e w'=>e= .returned (.int .u32 v)/\Kj w b S { s with reads:=s.reads++[i.toNat] } w':=by
 have hinv:=(jj.inv h).get i;have e:s.get i=(v,{ s with reads:=s.reads++[i.toNat] }):=by simp [VS.get,ht,hw,hk,VS.read1,hr]
 rw [e] at hinv;obtain ⟨hi0,hi1,hm⟩:=VS.there_iff.1 ht;obtain ⟨n,rfl⟩:=Int.eq_ofNat_of_zero_le hi0;simp only [Int.toNat_natCast] at hw hk hr hinv ⊢;obtain ⟨kv,vv,iv,tv,rv,wv,all,hv⟩:=h;have h0:=hv.cell 0;have h1:=hv.cell 1;have h3:=hv.cell 3;have h5:=hv.cell 5;have h7:=hv.cell 7;have e7:yB s= -1:=by simp [yB,hm]
 simp [e7] at h0 h1 h3 h5 h7;obtain ⟨gi,ci,rfl⟩:=Joins.ownsRow_form hv.ir zo;obtain ⟨gk,ck,rfl⟩:=Joins.ownsRow_form hv.kr zo;obtain ⟨gv,cv,rfl⟩:=Joins.ownsRow_form hv.vr zo;have ci0:w.cell? ⟨gi,n,none⟩=some (.bool false):=by rw [hv.ir.cellAt n zo,kE _ zo];simp [isF,hw]
 have ck0:w.cell? ⟨gk,n,none⟩=some (.bool true):=by rw [hv.kr.cellAt n zo,kE _ zo];simp [jai,hk]
 have cv0:w.cell? ⟨gv,n,none⟩=some (.int .u32 v):=by rw [hv.vr.cellAt n zo,kE _ zo];simp [valF,hk]
 have hl:=hv.inv.reads_le;have hs:=hv.inv.small;have H:=jgW s.reads n rv w hv.rr zo;simp only [hr,decide_false] at H;have HH:=zh H;have HV:=zh hv;have HI:=zh hinv;have HC:=zh cv0;have hbv:b≠gv:=fun x=>jk hv.vr hv.cells zd (by rw [x];rfl);obtain ⟨i0,hi0,hi1,hi2,hi3⟩:=info_parts Qo;have HT:=zh (And.intro hi0 (And.intro hi1 (And.intro hi2 hi3)));clear hv hm ht hw hk hr e7 H hinv e cv0 hi0 hi1 hi2 hi3;go_enter func162,ntmps162;go_wp2_with (first | (go_at_call 209;go_must (refine HH.out.mono ?_);rintro e w1 ⟨rfl,rfl⟩) | (at_builtin;go_must (refine jV rfl _ _ rfl 3 i0 (.int .i64 0) 1 8 underlying66 HT.out.1 HT.out.2.1 HT.out.2.2.1 HT.out.2.2.2 rfl zd rv s.reads.length (jZ s.reads) rfl (HV.out.rr.alloc _) ⟨w.heap.size,0,none⟩ 1 1 [.int .i64 n] rfl rfl (cell_one_new _ _ _) ?c1 ?c2 ?c3 ?_);go_must (case c1=>(simp [Value.oneCell']));go_must (case c2=>(unfold maxLen;omega));go_must (case c3=>(omega));go_must (intro v' w2 hown2 hg2 hnew2 hnil2);clear hnil2;go_must (obtain ⟨g',cap',rfl⟩:=Joins.ownsRow_form hown2 zo);go_must (have bb:w2.heap[b]? =w.heap[b]? :=HV.out.blk _ hg2 HV.out.inb (jk HV.out.rr HV.out.cells zd));go_must (have e5:w2.cell? ⟨b,5,none⟩=some rv:=(World.cell?_of_block (a:=⟨b,5,none⟩) bb).trans h5);go_must (have f5:w2.frozen? ⟨b,5,none⟩=false:=jS _ _ _ (bb.trans HV.out.cells) _);go_must (have e2:w2.cell? ⟨b,2,none⟩=some (.slice (some ⟨gv,0,none⟩) s.n cv):=(World.cell?_of_block (a:=⟨b,2,none⟩) bb).trans ((HV.out.cell 2).trans rfl));go_must (have ev:w2.cell? ⟨gv,n,none⟩=some (.int .u32 v):=(World.cell?_of_block (a:=⟨gv,n,none⟩) (HV.out.blk _ hg2 (HV.out.inv' gv rfl) (jy HV.out.rr HV.out.vr zd rfl))).trans HC.out)));go_ret;exact ⟨rfl,jgh HV.out hg2 hown2 hnew2 HI.out⟩
theorem jfH [AllF] (b:Nat) (i:Int) (w:World) (S:Nat->Prop) (s:VS) (h:RV w b S s) (ht:s.there i=true) (hw:s.wr i.toNat=none) (hk:s.known i.toNat=none) :
 Calls prog 162 #[.pointer (some ⟨b,0,none⟩),.int .i64 i] w fun e w'=>e= .returned (.int .u32 0)/\Kj w b S { s with miss:=some i.toNat } w':=by
 obtain ⟨hi0,hi1,hm⟩:=VS.there_iff.1 ht;obtain ⟨n,rfl⟩:=Int.eq_ofNat_of_zero_le hi0;simp only [Int.toNat_natCast] at hw hk ⊢;obtain ⟨kv,vv,iv,tv,rv,wv,all,hv⟩:=h;have h0:=hv.cell 0;have h1:=hv.cell 1;have h3:=hv.cell 3;have h7:=hv.cell 7;have e7:yB s= -1:=by simp [yB,hm]
 simp [e7] at h0 h1 h3 h7;have f7:=jS w b _ hv.cells 7;obtain ⟨gi,ci,hiv⟩:=Joins.ownsRow_form hv.ir zo;obtain ⟨gk,ck,hkv⟩:=Joins.ownsRow_form hv.kr zo;have ci0:w.cell? ⟨gi,n,none⟩=some (.bool false):=by
  have:=hv.ir;rw [hiv] at this;rw [this.cellAt n zo,kE _ zo];simp [isF,hw]
 have ck0:w.cell? ⟨gk,n,none⟩=some (.bool false):=by
  have:=hv.kr;rw [hkv] at this;rw [this.cellAt n zo,kE _ zo];simp [jai,hk]
 have hs:=hv.inv.small;have HN:Hid (Kj w b S { s with miss:=some n } (w.setCell ⟨b,7,none⟩ (.int .i64 n))):=zh (by
  have hbl:∀k,k≠b->(w.setCell ⟨b,7,none⟩ (.int .i64 n)).heap[k]? =w.heap[k]? :=fun k hk=>Below.heap_setCell _ _ _ _ (by simpa using hk);refine hv.rebuild (rv':=rv) (wv':=wv) ((Fr.refl S w).setCell ⟨b,7,none⟩ _ (Or.inl hv.inb)) ?_ rfl rfl ?_ ?_ ?_ ?_ ?_ ?_ hv.d3 (fun k hk=>Or.inl (hv.inr k hk)) (fun k hk=>Or.inl (hv.inw k hk)) ⟨hv.inv.small,hv.inv.rnd,hv.inv.rlt,hv.inv.wnd,hv.inv.wlt,hv.inv.ku,hv.inv.wu⟩
  ·have:=Joins.block_setCell (i:=7) hv.cells (.int .i64 n);rw [this];rfl
  ·exact fun k hk=>hbl k (fun e=>jk hv.kr hv.cells zd (by rw [hk,e]))
  ·exact fun k hk=>hbl k (fun e=>jk hv.vr hv.cells zd (by rw [hk,e]))
  ·exact jf hv.ir fun k hk=>hbl k (fun e=>jk hv.ir hv.cells zd (by rw [hk,e]))
  ·exact jf hv.tr fun k hk=>hbl k (fun e=>jk hv.tr hv.cells zd (by rw [hk,e]))
  ·exact jf hv.rr fun k hk=>hbl k (fun e=>jk hv.rr hv.cells zd (by rw [hk,e]))
  ·exact jf hv.wr fun k hk=>hbl k (fun e=>jk hv.wr hv.cells zd (by rw [hk,e])))
 subst hiv hkv;clear hv hm ht hw hk e7;go_enter func162,ntmps162;go_wp2;go_ret;exact ⟨rfl,HN.out⟩
theorem yz [AllF] (b:Nat) (i:Int) (w:World) (S:Nat->Prop) (s:VS) (h:RV w b S s) :
 Calls prog 162 #[.pointer (some ⟨b,0,none⟩),.int .i64 i] w fun e w'=>e= .returned (.int .u32 (s.get i).1)/\Kj w b S (s.get i).2 w':=by
 cases ht:s.there i with
 | false=>
  have e:s.get i=(0,s):=by simp [VS.get,ht]
  rw [e];exact (rget_no b i w S s h ht).mono fun _ _ ⟨h1,h2⟩=>⟨h1,h2 ▸ Kj.refl h⟩
 | true=>
  obtain ⟨h0,h1,-⟩:=VS.there_iff.1 ht;cases hw:s.wr i.toNat with
  | some v=>
   have e:s.get i=(v,s):=by simp [VS.get,ht,hw]
   rw [e];exact (rget_put b i w S s h ht v hw).mono fun _ _ ⟨h1,h2⟩=>⟨h1,h2 ▸ Kj.refl h⟩
  | none=>
   cases hk:s.known i.toNat with
   | none=>
    have e:s.get i=(0,{ s with miss:=some i.toNat }):=by simp [VS.get,ht,hw,hk]
    rw [e];exact jfH b i w S s h ht hw hk
   | some v=>
    by_cases hr:i.toNat∈s.reads
    ·have e:s.get i=(v,s):=by simp [VS.get,ht,hw,hk,VS.read1,hr]
     rw [e];exact (rget_old b i w S s h ht v hw hk hr).mono fun _ _ ⟨h1,h2⟩=>⟨h1,h2 ▸ Kj.refl h⟩
    ·have e:s.get i=(v,{ s with reads:=s.reads++[i.toNat] }):=by simp [VS.get,ht,hw,hk,VS.read1,hr]
     rw [e];exact rget_new b i w S s h ht v hw hk hr

theorem rput_no [AllF] (b:Nat) (i v:Int) (w:World) (S:Nat->Prop) (s:VS) (h:RV w b S s) (ht:s.there i=false) :
 Calls prog 163 #[.pointer (some ⟨b,0,none⟩),.int .i64 i,.int .u32 v] w fun e w'=>e= .returned (.tuple #[])/\w=w':=by
 obtain ⟨kv,vv,iv,tv,rv,wv,all,hv⟩:=h;have h0:=hv.cell 0;have h7:=hv.cell 7;simp at h0 h7;clear hv;by_cases h1:i < 0
 ·clear h0 h7 ht;go_enter func163,ntmps163;go_wp2;refine bodyPost_ret (results_none rfl _ _ _) rfl ?_;exact ⟨rfl,rfl⟩
 ·by_cases h2:(s.n:Int)<=i
  ·clear h7 ht;go_enter func163,ntmps163;go_wp2;refine bodyPost_ret (results_none rfl _ _ _) rfl ?_;exact ⟨rfl,rfl⟩
  ·have h3:∃j,s.miss=some j:=by
    cases hm:s.miss with
    | none=>simp [VS.there,hm] at ht;omega
    | some j=>exact ⟨j,rfl⟩
   obtain ⟨j,hj⟩:=h3;have hm:yB s=(j:Int):=by simp [yB,hj]
   rw [hm] at h7;have h8:(0:Int)<=(j:Int):=zo;clear ht hj hm;go_enter func163,ntmps163;go_wp2;refine bodyPost_ret (results_none rfl _ _ _) rfl ?_;exact ⟨rfl,rfl⟩
theorem jcW {w:World} {s:VS} {n:Nat} {v:Int} {gi ci gt ct:Nat} (ir:w.ownsRow 0 4 1 (.slice (some ⟨gi,0,none⟩) s.n ci) s.n (JY s.n (isF s))) (tr:w.ownsRow 0 44 1 (.slice (some ⟨gt,0,none⟩) s.n ct) s.n (JY s.n (toF s))) (hne:gi≠gt) :
 ((w.setCell ⟨gi,n,none⟩ (.bool true)).setCell ⟨gt,n,none⟩ (.int .u32 v)).ownsRow 0 4 1 (.slice (some ⟨gi,0,none⟩) s.n ci) s.n (JY s.n (isF { s with writes:=VS.setW s.writes n v }))/\
 ((w.setCell ⟨gi,n,none⟩ (.bool true)).setCell ⟨gt,n,none⟩ (.int .u32 v)).ownsRow 0 44 1 (.slice (some ⟨gt,0,none⟩) s.n ct) s.n (JY s.n (toF { s with writes:=VS.setW s.writes n v })):=by
 obtain ⟨w1,w2⟩:=wr_put s n v;have e1:(JY s.n (isF s)).set n (.bool true)=JY s.n (isF { s with writes:=VS.setW s.writes n v }):=
  YP _ _ _ (by simp [isF,w1]) (fun j hj=>by simp [isF,w2 j hj])
 have e2:(JY s.n (toF s)).set n (.int .u32 v)=JY s.n (toF { s with writes:=VS.setW s.writes n v }):=
  YP _ _ _ (by simp [toF,w1]) (fun j hj=>by simp [toF,w2 j hj])
 constructor
 ·have a1:=(ir.stored n (.bool true)).1;rw [e1] at a1;exact jf a1 fun k hk=>Below.heap_setCell _ _ _ _ (by simp [Value.ownBlock] at hk;subst hk;simpa using hne)
 ·have a1:=jf (w':=w.setCell ⟨gi,n,none⟩ (.bool true)) tr fun k hk=>Below.heap_setCell _ _ _ _ (by simp [Value.ownBlock] at hk;subst hk;simpa using fun e=>hne e.symm);have a2:=(a1.stored n (.int .u32 v)).1;rw [e2] at a2;exact a2
theorem jbh [AllF] {w:World} {b:Nat} {S:Nat->Prop} {s:VS} {kv vv rv wv:Value} {all:Bool} {n gi ci gt ct:Nat} {v:Int}
 (h:RVs w b S s kv vv (.slice (some ⟨gi,0,none⟩) s.n ci) (.slice (some ⟨gt,0,none⟩) s.n ct) rv wv all) (hj:(wix s.writes n).isSome=true) (hi:VS.Inv { s with writes:=VS.setW s.writes n v }) :
 Kj w b S { s with writes:=VS.setW s.writes n v } ((w.setCell ⟨gi,n,none⟩ (.bool true)).setCell ⟨gt,n,none⟩ (.int .u32 v)):=by
 have ib:=jk h.ir h.cells zd;have tb:=jk h.tr h.cells zd;have hne:gi≠gt:=fun e=>jy h.ir h.tr zd (k:=gt) rfl (by rw [e];rfl);have F:Fr S w ((w.setCell ⟨gi,n,none⟩ (.bool true)).setCell ⟨gt,n,none⟩ (.int .u32 v)):=
  ((Fr.refl S w).setCell _ _ (Or.inl (h.ini gi rfl))).setCell _ _ (Or.inl (h.int gt rfl))
 have hbl:∀k,k≠gi->k≠gt->((w.setCell ⟨gi,n,none⟩ (.bool true)).setCell ⟨gt,n,none⟩ (.int .u32 v)).heap[k]? =w.heap[k]? :=fun k h1 h2=>by
  rw [Below.heap_setCell _ _ _ _ (by simpa using h2),Below.heap_setCell _ _ _ _ (by simpa using h1)]
 obtain ⟨r1,r2⟩:=jcW (n:=n) (v:=v) h.ir h.tr hne;have ek:(VS.setW s.writes n v).map (·.1)=s.writes.map (·.1):=by
  unfold VS.setW;cases hw:wix s.writes n with
  | none=>rw [hw] at hj;simp at hj
  | some j=>exact VS.setW_keys_some hw
 have el:(VS.setW s.writes n v).length=s.writes.length:=by simpa using congrArg List.length ek
 refine h.rebuild (rv':=rv) (wv':=wv) F ?_ rfl rfl ?_ ?_ r1 r2 ?_ ?_ h.d3 (fun k hk=>Or.inl (h.inr k hk)) (fun k hk=>Or.inl (h.inw k hk)) hi
 ·exact (hbl b (fun e=>ib (by rw [e];rfl)) (fun e=>tb (by rw [e];rfl))).trans h.cells
 ·exact fun k hk=>hbl k (fun e=>h.d1 k hk (by rw [e];rfl)) (fun e=>jy h.kr h.tr zd (k:=gt) rfl (by rw [hk,e]))
 ·exact fun k hk=>hbl k (fun e=>jy h.vr h.ir zd (k:=gi) rfl (by rw [hk,e])) (fun e=>h.d2 k hk (by rw [e];rfl))
 ·exact jf h.rr fun k hk=>hbl k (fun e=>jy h.rr h.ir zd (k:=gi) rfl (by rw [hk,e])) (fun e=>jy h.rr h.tr zd (k:=gt) rfl (by rw [hk,e]))
 ·show World.ownsRow _ 0 _ 1 wv (VS.setW s.writes n v).length (jZ ((VS.setW s.writes n v).map (·.1)));rw [ek,el];exact jf h.wr fun k hk=>hbl k (fun e=>jy h.wr h.ir zd (k:=gi) rfl (by rw [hk,e])) (fun e=>jy h.wr h.tr zd (k:=gt) rfl (by rw [hk,e]))
theorem rput_old [AllF] (b:Nat) (i v:Int) (w:World) (S:Nat->Prop) (s:VS) (h:RV w b S s) (hu:VS.U32 v) (ht:s.there i=true) (u:Int) (hw:s.wr i.toNat=some u) :
 Calls prog 163 #[.pointer (some ⟨b,0,none⟩),.int .i64 i,.int .u32 v] w fun e w'=>e= .returned (.tuple #[])/\Kj w b S (s.put i v) w':=by
 have hinv:=(jj.inv h).put i v hu;have e:s.put i v={ s with writes:=VS.setW s.writes i.toNat v }:=by simp [VS.put,ht]
 rw [e] at hinv ⊢;obtain ⟨hi0,hi1,hm⟩:=VS.there_iff.1 ht;obtain ⟨n,rfl⟩:=Int.eq_ofNat_of_zero_le hi0;simp only [Int.toNat_natCast] at hw hinv ⊢;have hj:(wix s.writes n).isSome=true:=by
  cases hx:wix s.writes n with
  | none=>rw [jeR.2 hx] at hw;simp at hw
  | some _=>rfl
 obtain ⟨kv,vv,iv,tv,rv,wv,all,hv⟩:=h;have h0:=hv.cell 0;have h3:=hv.cell 3;have h4:=hv.cell 4;have h7:=hv.cell 7;have e7:yB s= -1:=by simp [yB,hm]
 simp [e7] at h0 h3 h4 h7;obtain ⟨gi,ci,rfl⟩:=Joins.ownsRow_form hv.ir zo;obtain ⟨gt,ct,rfl⟩:=Joins.ownsRow_form hv.tr zo;have ci0:w.cell? ⟨gi,n,none⟩=some (.bool true):=by rw [hv.ir.cellAt n zo,kE _ zo];simp [isF,hw]
 have ct0:w.cell? ⟨gt,n,none⟩=some (.int .u32 u):=by rw [hv.tr.cellAt n zo,kE _ zo];simp [toF,hw]
 have fi0:=hv.ir.frozenAt n;have ft0:=hv.tr.frozenAt n;have hbi:b≠gi:=fun x=>jk hv.ir hv.cells zd (by rw [x];rfl);have hbt:b≠gt:=fun x=>jk hv.tr hv.cells zd (by rw [x];rfl);have hit:gi≠gt:=fun e=>jy hv.ir hv.tr zd (k:=gt) rfl (by rw [e];rfl);have hib:=Ne.symm hbi;have htb:=Ne.symm hbt;have hti:=Ne.symm hit;have HV:=zh hv;have HI:=zh hinv;have HJ:=zh hj;clear hv hm ht hw e7 hinv e hu hj;go_enter func163,ntmps163;go_wp2;go_end0;exact ⟨rfl,jbh HV.out HJ.out HI.out⟩
theorem jbi [AllF] {w w2:World} {b:Nat} {S:Nat->Prop} {s:VS} {kv vv rv wv:Value} {all:Bool} {n gi ci gt ct g' cap':Nat} {v:Int} {X:Obj}
 (h:RVs w b S s kv vv (.slice (some ⟨gi,0,none⟩) s.n ci) (.slice (some ⟨gt,0,none⟩) s.n ct) rv wv all) (hg:(w.alloc X).grownBy w2 wv.ownBlock)
 (hown:w2.ownsRow 0 3 1 (.slice (some ⟨g',0,none⟩) (s.writes.length+1) cap') (s.writes.length+1) (jZ (s.writes.map (·.1))++[.int .i64 n]))
 (hnew:∀k,(Value.slice (some ⟨g',0,none⟩) (s.writes.length+1) cap').ownBlock=some k->wv.ownBlock=some k\/(w.alloc X).heap.size<=k)
 (hj:wix s.writes n=none) (hi:VS.Inv { s with writes:=VS.setW s.writes n v }) :
 Kj w b S { s with writes:=VS.setW s.writes n v } (((w2.setCell ⟨b,6,none⟩ (.slice (some ⟨g',0,none⟩) (s.writes.length+1) cap')).setCell ⟨gi,n,none⟩ (.bool true)).setCell ⟨gt,n,none⟩ (.int .u32 v)):=by
 have ib:=jk h.ir h.cells zd;have tb:=jk h.tr h.cells zd;have wb:=jk h.wr h.cells zd;have hne:gi≠gt:=fun e=>jy h.ir h.tr zd (k:=gt) rfl (by rw [e];rfl);have hg':=hnew g' rfl;have g'b:g'≠b:=by
  rintro rfl;rcases hg' with x | x
  ·exact wb x
  ·have:=h.lt _ h.inb;simp at x;omega
 have g'i:g'≠gi:=by
  rintro rfl;rcases hg' with x | x
  ·exact jy h.wr h.ir zd (k:=g') rfl x
  ·have:=h.lt _ (h.ini g' rfl);simp at x;omega
 have g't:g'≠gt:=by
  rintro rfl;rcases hg' with x | x
  ·exact jy h.wr h.tr zd (k:=g') rfl x
  ·have:=h.lt _ (h.int g' rfl);simp at x;omega
 have bi:b≠gi:=fun e=>ib (by rw [e];rfl);have bt:b≠gt:=fun e=>tb (by rw [e];rfl);have F:Fr S w (((w2.setCell ⟨b,6,none⟩ (.slice (some ⟨g',0,none⟩) (s.writes.length+1) cap')).setCell ⟨gi,n,none⟩ (.bool true)).setCell ⟨gt,n,none⟩ (.int .u32 v)):=
  (((((Fr.refl S w).alloc X).grown hg (fun k hk=>Or.inl (h.inw k hk))).setCell _ _ (Or.inl h.inb)).setCell _ _ (Or.inl (h.ini gi rfl))).setCell _ _ (Or.inl (h.int gt rfl))
 have hset:∀k,k≠gi->k≠gt->k≠b->(((w2.setCell ⟨b,6,none⟩ (.slice (some ⟨g',0,none⟩) (s.writes.length+1) cap')).setCell ⟨gi,n,none⟩ (.bool true)).setCell ⟨gt,n,none⟩ (.int .u32 v)).heap[k]? =w2.heap[k]? :=fun k h1 h2 h3=>by
  rw [Below.heap_setCell _ _ _ _ (by simpa using h2),Below.heap_setCell _ _ _ _ (by simpa using h1),Below.heap_setCell _ _ _ _ (by simpa using h3)]
 have hbl:∀k,S k->wv.ownBlock≠some k->k≠gi->k≠gt->k≠b->(((w2.setCell ⟨b,6,none⟩ (.slice (some ⟨g',0,none⟩) (s.writes.length+1) cap')).setCell ⟨gi,n,none⟩ (.bool true)).setCell ⟨gt,n,none⟩ (.int .u32 v)).heap[k]? =w.heap[k]? :=fun k hk h0 h1 h2 h3=>
  (hset k h1 h2 h3).trans (h.blk X hg hk h0)
 have i2:(w2.setCell ⟨b,6,none⟩ (.slice (some ⟨g',0,none⟩) (s.writes.length+1) cap')).heap[gi]? =w.heap[gi]? :=by
  rw [Below.heap_setCell _ _ _ _ (by simpa using fun e=>bi e.symm)];exact h.blk X hg (h.ini gi rfl) (jy h.wr h.ir zd rfl)
 have t2:(w2.setCell ⟨b,6,none⟩ (.slice (some ⟨g',0,none⟩) (s.writes.length+1) cap')).heap[gt]? =w.heap[gt]? :=by
  rw [Below.heap_setCell _ _ _ _ (by simpa using fun e=>bt e.symm)];exact h.blk X hg (h.int gt rfl) (jy h.wr h.tr zd rfl)
 obtain ⟨r1,r2⟩:=jcW (n:=n) (v:=v) (jf (w':=w2.setCell ⟨b,6,none⟩ (.slice (some ⟨g',0,none⟩) (s.writes.length+1) cap')) h.ir (fun k hk=>by simp [Value.ownBlock] at hk;subst hk;exact i2)) (jf (w':=w2.setCell ⟨b,6,none⟩ (.slice (some ⟨g',0,none⟩) (s.writes.length+1) cap')) h.tr (fun k hk=>by simp [Value.ownBlock] at hk;subst hk;exact t2)) hne;have bb:w2.heap[b]? =w.heap[b]? :=h.blk X hg h.inb wb;have es:VS.setW s.writes n v=s.writes++[(n,v)]:=by simp [VS.setW,hj]
 refine h.rebuild (rv':=rv) (wv':= .slice (some ⟨g',0,none⟩) (s.writes.length+1) cap') F ?_ rfl rfl ?_ ?_ r1 r2 ?_ ?_ ?_ (fun k hk=>Or.inl (h.inr k hk)) ?_ hi
 ·have:=Joins.block_setCell (i:=6) (bb.trans h.cells) (.slice (some ⟨g',0,none⟩) (s.writes.length+1) cap');rw [Below.heap_setCell _ _ _ _ (by simpa using bt),Below.heap_setCell _ _ _ _ (by simpa using bi),this];rfl
 ·exact fun k hk=>hbl k (h.ink k hk) (jy h.wr h.kr zd hk) (fun e=>h.d1 k hk (by rw [e];rfl)) (fun e=>jy h.kr h.tr zd (k:=gt) rfl (by rw [hk,e])) (fun e=>jk h.kr h.cells zd (by rw [hk,e]))
 ·exact fun k hk=>hbl k (h.inv' k hk) (jy h.wr h.vr zd hk) (fun e=>jy h.vr h.ir zd (k:=gi) rfl (by rw [hk,e])) (fun e=>h.d2 k hk (by rw [e];rfl)) (fun e=>jk h.vr h.cells zd (by rw [hk,e]))
 ·exact jf h.rr fun k hk=>hbl k (h.inr k hk) (fun e=>h.d3 k hk e) (fun e=>jy h.rr h.ir zd (k:=gi) rfl (by rw [hk,e])) (fun e=>jy h.rr h.tr zd (k:=gt) rfl (by rw [hk,e])) (fun e=>jk h.rr h.cells zd (by rw [hk,e]))
 ·show World.ownsRow _ 0 _ 1 _ (VS.setW s.writes n v).length (jZ ((VS.setW s.writes n v).map (·.1)));rw [es];have:=jf (w':=((w2.setCell ⟨b,6,none⟩ (.slice (some ⟨g',0,none⟩) (s.writes.length+1) cap')).setCell ⟨gi,n,none⟩ (.bool true)).setCell ⟨gt,n,none⟩ (.int .u32 v)) hown (fun k hk=>by simp [Value.ownBlock] at hk;subst hk;exact hset _ g'i g't g'b);simpa [jZ] using this
 ·intro k hk hk2;rcases hnew k hk2 with x | x
  ·exact h.d3 k hk x
  ·have:=jq h.rr hk;simp at x;omega
 ·intro k hk;rcases hnew k hk with x | x
  ·exact Or.inl (h.inw k x)
  ·simp at x;exact Or.inr zo
theorem rput_new [AllF] (b:Nat) (i v:Int) (w:World) (S:Nat->Prop) (s:VS) (h:RV w b S s) (hu:VS.U32 v) (ht:s.there i=true) (hw:s.wr i.toNat=none) :
 Calls prog 163 #[.pointer (some ⟨b,0,none⟩),.int .i64 i,.int .u32 v] w fun e w'=>e= .returned (.tuple #[])/\Kj w b S (s.put i v) w':=by
 have hinv:=(jj.inv h).put i v hu;have e:s.put i v={ s with writes:=VS.setW s.writes i.toNat v }:=by simp [VS.put,ht]
 rw [e] at hinv ⊢;obtain ⟨hi0,hi1,hm⟩:=VS.there_iff.1 ht;obtain ⟨n,rfl⟩:=Int.eq_ofNat_of_zero_le hi0;simp only [Int.toNat_natCast] at hw hinv ⊢;have hj:=jeR.1 hw;obtain ⟨kv,vv,iv,tv,rv,wv,all,hv⟩:=h;have h0:=hv.cell 0;have h3:=hv.cell 3;have h6:=hv.cell 6;have h7:=hv.cell 7;have e7:yB s= -1:=by simp [yB,hm]
 simp [e7] at h0 h3 h6 h7;obtain ⟨gi,ci,rfl⟩:=Joins.ownsRow_form hv.ir zo;obtain ⟨gt,ct,rfl⟩:=Joins.ownsRow_form hv.tr zo;have ci0:w.cell? ⟨gi,n,none⟩=some (.bool false):=by rw [hv.ir.cellAt n zo,kE _ zo];simp [isF,hw]
 have ct0:w.cell? ⟨gt,n,none⟩=some (.int .u32 0):=by rw [hv.tr.cellAt n zo,kE _ zo];simp [toF,hw]
 have CI:=zh ci0;have CT:=zh ct0;have fi0:=zh (hv.ir.frozenAt n);have ft0:=zh (hv.tr.frozenAt n);have hbi:b≠gi:=fun x=>jk hv.ir hv.cells zd (by rw [x];rfl);have hbt:b≠gt:=fun x=>jk hv.tr hv.cells zd (by rw [x];rfl);have hit:gi≠gt:=fun e=>jy hv.ir hv.tr zd (k:=gt) rfl (by rw [e];rfl);have hib:=Ne.symm hbi;have htb:=Ne.symm hbt;have hti:=Ne.symm hit;have hl:=hv.inv.writes_le;have hs:=hv.inv.small;have HV:=zh hv;have HI:=zh hinv;have HJ:=zh hj;obtain ⟨i0,hx0,hx1,hx2,hx3⟩:=info_parts Qo;have HT:=zh (And.intro hx0 (And.intro hx1 (And.intro hx2 hx3)));clear hv hm ht hw e7 hinv e hu hj ct0 hx0 hx1 hx2 hx3;go_enter func163,ntmps163;go_wp2_with (at_builtin;go_must (refine jV rfl _ _ rfl 3 i0 (.int .i64 0) 1 8 underlying66 HT.out.1 HT.out.2.1 HT.out.2.2.1 HT.out.2.2.2 rfl zd wv s.writes.length (jZ (s.writes.map (·.1))) rfl (HV.out.wr.alloc _) ⟨w.heap.size,0,none⟩ 1 1 [.int .i64 n] rfl rfl (cell_one_new _ _ _) ?c1 ?c2 ?c3 ?_);go_must (case c1=>(simp [Value.oneCell']));go_must (case c2=>(unfold maxLen;omega));go_must (case c3=>(omega));go_must (intro v' w2 hown2 hg2 hnew2 hnil2);clear hnil2;go_must (obtain ⟨g',cap',rfl⟩:=Joins.ownsRow_form hown2 zo);go_must (have bb:w2.heap[b]? =w.heap[b]? :=HV.out.blk _ hg2 HV.out.inb (jk HV.out.wr HV.out.cells zd));go_must (have e6:w2.cell? ⟨b,6,none⟩=some wv:=(World.cell?_of_block (a:=⟨b,6,none⟩) bb).trans h6);go_must (have f6:w2.frozen? ⟨b,6,none⟩=false:=jS _ _ _ (bb.trans HV.out.cells) _);go_must (have e3:w2.cell? ⟨b,3,none⟩=some (.slice (some ⟨gi,0,none⟩) s.n ci):=(World.cell?_of_block (a:=⟨b,3,none⟩) bb).trans ((HV.out.cell 3).trans rfl));go_must (have e4:w2.cell? ⟨b,4,none⟩=some (.slice (some ⟨gt,0,none⟩) s.n ct):=(World.cell?_of_block (a:=⟨b,4,none⟩) bb).trans ((HV.out.cell 4).trans rfl));go_must (have bi2:=HV.out.blk _ hg2 (HV.out.ini gi rfl) (jy HV.out.wr HV.out.ir zd rfl));go_must (have bt2:=HV.out.blk _ hg2 (HV.out.int gt rfl) (jy HV.out.wr HV.out.tr zd rfl));go_must (have ei:w2.cell? ⟨gi,n,none⟩=some (.bool false):=(World.cell?_of_block (a:=⟨gi,n,none⟩) bi2).trans CI.out);go_must (have et:w2.cell? ⟨gt,n,none⟩=some (.int .u32 0):=(World.cell?_of_block (a:=⟨gt,n,none⟩) bt2).trans CT.out);go_must (have fi:w2.frozen? ⟨gi,n,none⟩=false:=(World.frozen?_of_block (a:=⟨gi,n,none⟩) bi2).trans fi0.out);go_must (have ft:w2.frozen? ⟨gt,n,none⟩=false:=(World.frozen?_of_block (a:=⟨gt,n,none⟩) bt2).trans ft0.out);clear bb bi2 bt2);go_end0;exact ⟨rfl,jbi HV.out hg2 hown2 hnew2 HJ.out HI.out⟩
theorem jF [AllF] (b:Nat) (i v:Int) (w:World) (S:Nat->Prop) (s:VS) (h:RV w b S s) (hu:VS.U32 v) :
 Calls prog 163 #[.pointer (some ⟨b,0,none⟩),.int .i64 i,.int .u32 v] w fun e w'=>e= .returned (.tuple #[])/\Kj w b S (s.put i v) w':=by
 cases ht:s.there i with
 | false=>
  have e:s.put i v=s:=by simp [VS.put,ht]
  rw [e];exact (rput_no b i v w S s h ht).mono fun _ _ ⟨h1,h2⟩=>⟨h1,h2 ▸ Kj.refl h⟩
 | true=>
  cases hw:s.wr i.toNat with
  | some u=>exact rput_old b i v w S s h hu ht u hw
  | none=>exact rput_new b i v w S s h hu ht hw

theorem rpush_no [AllF] (b:Nat) (t p s head q:Int) (w:World) (S:Nat->Prop) (st:VS) (h:RV w b S st) (hq:jY p q=false) :
 Calls prog 168 #[.pointer (some ⟨b,0,none⟩),.agg #[.int .i64 t,.int .i64 p,.int .i64 s],.int .i64 head,.int .i64 q] w fun e w'=>e= .returned (.tuple #[])/\Kj w b S st w':=by
 have hV:=(VSt.start jj h).alloc jj (.cells #[.int .i64 t,.int .i64 p,.int .i64 s] 23);clear h;by_cases h1:q < 0
 ·clear hq;go_enter func168,ntmps168;go_wp2;refine bodyPost_ret (results_none rfl _ _ _) rfl ?_;exact ⟨rfl,hV.done jj⟩
 ·have h2:p<=q:=by simp [jY] at hq;omega
  clear hq;go_enter func168,ntmps168;go_wp2;refine bodyPost_ret (results_none rfl _ _ _) rfl ?_;exact ⟨rfl,hV.done jj⟩
theorem jdM [AllF] (b:Nat) (t p s head q:Int) (w:World) (S:Nat->Prop) (st:VS) (h:RV w b S st) (hq:jY p q=true) (hp:p<=1024) (h0:(st.get head).1=0) :
 Calls prog 168 #[.pointer (some ⟨b,0,none⟩),.agg #[.int .i64 t,.int .i64 p,.int .i64 s],.int .i64 head,.int .i64 q] w fun e w'=>e= .returned (.tuple #[])/\Kj w b S (qs t p s head q st) w':=by
 have hV:=(VSt.start jj h).alloc jj (.cells #[.int .i64 t,.int .i64 p,.int .i64 s] 23);have c0:=jr w #[.int .i64 t,.int .i64 p,.int .i64 s] 23;have hu:=VS.get_u32 (jj.inv h) head;have hF:qs t p s head q st=(((st.get head).2.put (ofF t p s q 2) (st.get head).1).put (ofF t p s q 3) 0).put head (q+1):=by simp [qs,hq,h0]
 rw [hF];have hb:((st.get head).1 != 0)=false:=by simp [h0]
 have hq1:0<=q:=by simp [jY] at hq;omega
 have hq5:q < p:=by simp [jY] at hq;omega
 have hq2:q < 1024:=zo;have HU:=zh hu;have HQ:VS.U32 (q+1):=⟨zo,zo⟩
 have HQ':=zh HQ;have hq3:IntKind.u32.wrap q=q:=IntWalk.u32_in _ zo;have hq4:IntKind.u32.wrap (q+1)=q+1:=IntWalk.u32_in _ zo;have hv3:IntKind.i64.wrap (st.get head).1=(st.get head).1:=ju _ (by have:=hu.1;have:=hu.2;omega);have hv4:IntKind.i64.wrap ((st.get head).1 - 1)=(st.get head).1 - 1:=ju _ (by have:=hu.1;have:=hu.2;omega);have HG:=zh (fun (w:World) (S1:Nat->Prop) (h1:RV w b S1 st)=>yz b head w S1 st h1);clear h hF hu HQ h0 hq;generalize (st.get head).2=s1 at*
 generalize (st.get head).1=v at*
 go_enter func168,ntmps168;go_wp2_with fail;refine zM (je hV (HG.out _)) ?_;rintro w1 ⟨hV1,hV1l⟩;have c1:=jc hV1l zT c0;clear hV1l;go_wp2_with fail;refine zM (ji jj hV1 (qr _ _ _ _ _)) ?_;rintro w2 ⟨hV2,hV2l⟩;have c2:=jc hV2l zT c1;clear hV2l;go_wp2_with fail;refine zM (je hV2 (fun S1 h1=>jF _ _ _ _ _ _ h1 HU.out)) ?_;rintro w3 ⟨hV3,hV3l⟩;have c3:=jc hV3l zT c2;clear hV3l;go_wp2_with fail;refine zM (ji jj hV3 (qa _ _ _ _ _)) ?_;rintro w4 ⟨hV4,hV4l⟩;have c4:=jc hV4l zT c3;clear hV4l;go_wp2_with fail;refine zM (je hV4 (fun S1 h1=>jF _ _ _ _ _ _ h1 VS.u32_zero)) ?_;rintro w5 ⟨hV5,hV5l⟩;have c5:=jc hV5l zT c4;clear hV5l;go_wp2_with fail;refine zM (je hV5 (fun S1 h1=>jF _ _ _ _ _ _ h1 HQ'.out)) ?_;rintro w6 ⟨hV6,hV6l⟩;have c6:=jc hV6l zT c5;clear hV6l;go_wp2;go_end0;exact ⟨rfl,hV6.done jj⟩
theorem jdN [AllF] (b:Nat) (t p s head q:Int) (w:World) (S:Nat->Prop) (st:VS) (h:RV w b S st) (hq:jY p q=true) (hp:p<=1024) (h0:(st.get head).1≠0) :
 Calls prog 168 #[.pointer (some ⟨b,0,none⟩),.agg #[.int .i64 t,.int .i64 p,.int .i64 s],.int .i64 head,.int .i64 q] w fun e w'=>e= .returned (.tuple #[])/\Kj w b S (qs t p s head q st) w':=by
 have hV:=(VSt.start jj h).alloc jj (.cells #[.int .i64 t,.int .i64 p,.int .i64 s] 23);have c0:=jr w #[.int .i64 t,.int .i64 p,.int .i64 s] 23;have hu:=VS.get_u32 (jj.inv h) head;have hF:qs t p s head q st=((((st.get head).2.put (ofF t p s q 2) (st.get head).1).put (ofF t p s q 3) 0).put (ofF t p s ((st.get head).1 - 1) 3) (q+1)).put head (q+1):=by simp [qs,hq,h0]
 rw [hF];have hb:((st.get head).1 != 0)=true:=by simp [h0]
 have hq1:0<=q:=by simp [jY] at hq;omega
 have hq5:q < p:=by simp [jY] at hq;omega
 have hq2:q < 1024:=zo;have HU:=zh hu;have HQ:VS.U32 (q+1):=⟨zo,zo⟩
 have HQ':=zh HQ;have hq3:IntKind.u32.wrap q=q:=IntWalk.u32_in _ zo;have hq4:IntKind.u32.wrap (q+1)=q+1:=IntWalk.u32_in _ zo;have hv3:IntKind.i64.wrap (st.get head).1=(st.get head).1:=ju _ (by have:=hu.1;have:=hu.2;omega);have hv4:IntKind.i64.wrap ((st.get head).1 - 1)=(st.get head).1 - 1:=ju _ (by have:=hu.1;have:=hu.2;omega);have HG:=zh (fun (w:World) (S1:Nat->Prop) (h1:RV w b S1 st)=>yz b head w S1 st h1);clear h hF hu HQ h0 hq;generalize (st.get head).2=s1 at*
 generalize (st.get head).1=v at*
 go_enter func168,ntmps168;go_wp2_with fail;refine zM (je hV (HG.out _)) ?_;rintro w1 ⟨hV1,hV1l⟩;have c1:=jc hV1l zT c0;clear hV1l;go_wp2_with fail;refine zM (ji jj hV1 (qr _ _ _ _ _)) ?_;rintro w2 ⟨hV2,hV2l⟩;have c2:=jc hV2l zT c1;clear hV2l;go_wp2_with fail;refine zM (je hV2 (fun S1 h1=>jF _ _ _ _ _ _ h1 HU.out)) ?_;rintro w3 ⟨hV3,hV3l⟩;have c3:=jc hV3l zT c2;clear hV3l;go_wp2_with fail;refine zM (ji jj hV3 (qa _ _ _ _ _)) ?_;rintro w4 ⟨hV4,hV4l⟩;have c4:=jc hV4l zT c3;clear hV4l;go_wp2_with fail;refine zM (je hV4 (fun S1 h1=>jF _ _ _ _ _ _ h1 VS.u32_zero)) ?_;rintro w5 ⟨hV5,hV5l⟩;have c5:=jc hV5l zT c4;clear hV5l;go_wp2_with fail;refine zM (ji jj hV5 (qa _ _ _ _ _)) ?_;rintro w6 ⟨hV6,hV6l⟩;have c6:=jc hV6l zT c5;clear hV6l;go_wp2_with fail;refine zM (je hV6 (fun S1 h1=>jF _ _ _ _ _ _ h1 HQ'.out)) ?_;rintro w7 ⟨hV7,hV7l⟩;have c7:=jc hV7l zT c6;clear hV7l;go_wp2_with fail;refine zM (je hV7 (fun S1 h1=>jF _ _ _ _ _ _ h1 HQ'.out)) ?_;rintro w8 ⟨hV8,hV8l⟩;have c8:=jc hV8l zT c7;clear hV8l;go_wp2;go_end0;exact ⟨rfl,hV8.done jj⟩
theorem jaU [AllF] (b:Nat) (t p s head q:Int) (w:World) (S:Nat->Prop) (st:VS) (h:RV w b S st) (hp:p<=1024) :
 Calls prog 168 #[.pointer (some ⟨b,0,none⟩),.agg #[.int .i64 t,.int .i64 p,.int .i64 s],.int .i64 head,.int .i64 q] w fun e w'=>e= .returned (.tuple #[])/\Kj w b S (qs t p s head q st) w':=by
 cases hq:jY p q with
 | false=>
  have hF:qs t p s head q st=st:=by simp [qs,hq]
  rw [hF];exact rpush_no b t p s head q w S st h hq
 | true=>
  by_cases h0:(st.get head).1=0
  ·exact jdM b t p s head q w S st h hq hp h0
  ·exact jdN b t p s head q w S st h hq hp h0

theorem rpull_no [AllF] (b:Nat) (t p s head q:Int) (w:World) (S:Nat->Prop) (st:VS) (h:RV w b S st) (hq:jY p q=false) :
 Calls prog 165 #[.pointer (some ⟨b,0,none⟩),.agg #[.int .i64 t,.int .i64 p,.int .i64 s],.int .i64 head,.int .i64 q] w fun e w'=>e= .returned (.tuple #[])/\Kj w b S st w':=by
 have hV:=(VSt.start jj h).alloc jj (.cells #[.int .i64 t,.int .i64 p,.int .i64 s] 23);clear h;by_cases h1:q < 0
 ·clear hq;go_enter func165,ntmps165;go_wp2;refine bodyPost_ret (results_none rfl _ _ _) rfl ?_;exact ⟨rfl,hV.done jj⟩
 ·have h2:p<=q:=by simp [jY] at hq;omega
  clear hq;go_enter func165,ntmps165;go_wp2;refine bodyPost_ret (results_none rfl _ _ _) rfl ?_;exact ⟨rfl,hV.done jj⟩
theorem jdR [AllF] (b:Nat) (t p s head q:Int) (w:World) (S:Nat->Prop) (st s1 s2:VS) (v u:Int) (h:RV w b S st) (hq:jY p q=true) (e1:st.get (ofF t p s q 2)=(v,s1)) (e2:s1.get (ofF t p s q 3)=(u,s2)) (h0:u=0) (h1:v=0) :
 Calls prog 165 #[.pointer (some ⟨b,0,none⟩),.agg #[.int .i64 t,.int .i64 p,.int .i64 s],.int .i64 head,.int .i64 q] w fun e w'=>e= .returned (.tuple #[])/\Kj w b S (((s2.put head v).put (ofF t p s q 2) 0).put (ofF t p s q 3) 0) w':=by
 have hV:=(VSt.start jj h).alloc jj (.cells #[.int .i64 t,.int .i64 p,.int .i64 s] 23);have c0:=jr w #[.int .i64 t,.int .i64 p,.int .i64 s] 23;have i1:=(jj.inv h).get (ofF t p s q 2);have u1:=VS.get_u32 (jj.inv h) (ofF t p s q 2);rw [e1] at i1 u1;have u2:=VS.get_u32 i1 (ofF t p s q 3);rw [e2] at u2;have HU1:=zh u1;have HU2:=zh u2;have G1:=fun (w:World) (S1:Nat->Prop) (h1:RV w b S1 st)=>yz b (ofF t p s q 2) w S1 st h1;have G2:=fun (w:World) (S1:Nat->Prop) (h1:RV w b S1 s1)=>yz b (ofF t p s q 3) w S1 s1 h1;rw [e1] at G1;rw [e2] at G2;have HG1:=zh G1;have HG2:=zh G2;have hb:(u == 0)=true:=by simp [h0]
 have hc:(v != 0)=false:=by simp [h1]
 have hq1:0<=q:=by simp [jY] at hq;omega
 have hq5:q < p:=by simp [jY] at hq;omega
 have hv3:IntKind.i64.wrap v=v:=ju _ (by have:=u1.1;have:=u1.2;omega);have hv4:IntKind.i64.wrap (v - 1)=v - 1:=ju _ (by have:=u1.1;have:=u1.2;omega);have hu3:IntKind.i64.wrap u=u:=ju _ (by have:=u2.1;have:=u2.2;omega);have hu4:IntKind.i64.wrap (u - 1)=u - 1:=ju _ (by have:=u2.1;have:=u2.2;omega);clear h i1 u1 u2 G1 G2 e1 e2 h0 h1 hq;go_enter func165,ntmps165;go_wp2_with fail;refine zM (ji jj hV (qr _ _ _ _ _)) ?_;rintro w1 ⟨hV1,hV1l⟩;have c1:=jc hV1l zT c0;clear hV1l;go_wp2_with fail;refine zM (je hV1 (HG1.out _)) ?_;rintro w2 ⟨hV2,hV2l⟩;have c2:=jc hV2l zT c1;clear hV2l;go_wp2_with fail;refine zM (ji jj hV2 (qa _ _ _ _ _)) ?_;rintro w3 ⟨hV3,hV3l⟩;have c3:=jc hV3l zT c2;clear hV3l;go_wp2_with fail;refine zM (je hV3 (HG2.out _)) ?_;rintro w4 ⟨hV4,hV4l⟩;have c4:=jc hV4l zT c3;clear hV4l;go_wp2_with fail;refine zM (je hV4 (fun S1 h1=>jF _ _ _ _ _ _ h1 HU1.out)) ?_;rintro w5 ⟨hV5,hV5l⟩;have c5:=jc hV5l zT c4;clear hV5l;go_wp2_with fail;refine zM (ji jj hV5 (qr _ _ _ _ _)) ?_;rintro w6 ⟨hV6,hV6l⟩;have c6:=jc hV6l zT c5;clear hV6l;go_wp2_with fail;refine zM (je hV6 (fun S1 h1=>jF _ _ _ _ _ _ h1 VS.u32_zero)) ?_;rintro w7 ⟨hV7,hV7l⟩;have c7:=jc hV7l zT c6;clear hV7l;go_wp2_with fail;refine zM (ji jj hV7 (qa _ _ _ _ _)) ?_;rintro w8 ⟨hV8,hV8l⟩;have c8:=jc hV8l zT c7;clear hV8l;go_wp2_with fail;refine zM (je hV8 (fun S1 h1=>jF _ _ _ _ _ _ h1 VS.u32_zero)) ?_;rintro w9 ⟨hV9,hV9l⟩;have c9:=jc hV9l zT c8;clear hV9l;go_wp2;go_end0;exact ⟨rfl,hV9.done jj⟩
theorem jdQ [AllF] (b:Nat) (t p s head q:Int) (w:World) (S:Nat->Prop) (st s1 s2:VS) (v u:Int) (h:RV w b S st) (hq:jY p q=true) (e1:st.get (ofF t p s q 2)=(v,s1)) (e2:s1.get (ofF t p s q 3)=(u,s2)) (h0:u=0) (h1:v≠0) :
 Calls prog 165 #[.pointer (some ⟨b,0,none⟩),.agg #[.int .i64 t,.int .i64 p,.int .i64 s],.int .i64 head,.int .i64 q] w fun e w'=>e= .returned (.tuple #[])/\Kj w b S ((((s2.put head v).put (ofF t p s (v - 1) 3) u).put (ofF t p s q 2) 0).put (ofF t p s q 3) 0) w':=by
 have hV:=(VSt.start jj h).alloc jj (.cells #[.int .i64 t,.int .i64 p,.int .i64 s] 23);have c0:=jr w #[.int .i64 t,.int .i64 p,.int .i64 s] 23;have i1:=(jj.inv h).get (ofF t p s q 2);have u1:=VS.get_u32 (jj.inv h) (ofF t p s q 2);rw [e1] at i1 u1;have u2:=VS.get_u32 i1 (ofF t p s q 3);rw [e2] at u2;have HU1:=zh u1;have HU2:=zh u2;have G1:=fun (w:World) (S1:Nat->Prop) (h1:RV w b S1 st)=>yz b (ofF t p s q 2) w S1 st h1;have G2:=fun (w:World) (S1:Nat->Prop) (h1:RV w b S1 s1)=>yz b (ofF t p s q 3) w S1 s1 h1;rw [e1] at G1;rw [e2] at G2;have HG1:=zh G1;have HG2:=zh G2;have hb:(u == 0)=true:=by simp [h0]
 have hc:(v != 0)=true:=by simp [h1]
 have hq1:0<=q:=by simp [jY] at hq;omega
 have hq5:q < p:=by simp [jY] at hq;omega
 have hv3:IntKind.i64.wrap v=v:=ju _ (by have:=u1.1;have:=u1.2;omega);have hv4:IntKind.i64.wrap (v - 1)=v - 1:=ju _ (by have:=u1.1;have:=u1.2;omega);have hu3:IntKind.i64.wrap u=u:=ju _ (by have:=u2.1;have:=u2.2;omega);have hu4:IntKind.i64.wrap (u - 1)=u - 1:=ju _ (by have:=u2.1;have:=u2.2;omega);clear h i1 u1 u2 G1 G2 e1 e2 h0 h1 hq;go_enter func165,ntmps165;go_wp2_with fail;refine zM (ji jj hV (qr _ _ _ _ _)) ?_;rintro w1 ⟨hV1,hV1l⟩;have c1:=jc hV1l zT c0;clear hV1l;go_wp2_with fail;refine zM (je hV1 (HG1.out _)) ?_;rintro w2 ⟨hV2,hV2l⟩;have c2:=jc hV2l zT c1;clear hV2l;go_wp2_with fail;refine zM (ji jj hV2 (qa _ _ _ _ _)) ?_;rintro w3 ⟨hV3,hV3l⟩;have c3:=jc hV3l zT c2;clear hV3l;go_wp2_with fail;refine zM (je hV3 (HG2.out _)) ?_;rintro w4 ⟨hV4,hV4l⟩;have c4:=jc hV4l zT c3;clear hV4l;go_wp2_with fail;refine zM (je hV4 (fun S1 h1=>jF _ _ _ _ _ _ h1 HU1.out)) ?_;rintro w5 ⟨hV5,hV5l⟩;have c5:=jc hV5l zT c4;clear hV5l;go_wp2_with fail;refine zM (ji jj hV5 (qa _ _ _ _ _)) ?_;rintro w6 ⟨hV6,hV6l⟩;have c6:=jc hV6l zT c5;clear hV6l;go_wp2_with fail;refine zM (je hV6 (fun S1 h1=>jF _ _ _ _ _ _ h1 HU2.out)) ?_;rintro w7 ⟨hV7,hV7l⟩;have c7:=jc hV7l zT c6;clear hV7l;go_wp2_with fail;refine zM (ji jj hV7 (qr _ _ _ _ _)) ?_;rintro w8 ⟨hV8,hV8l⟩;have c8:=jc hV8l zT c7;clear hV8l;go_wp2_with fail;refine zM (je hV8 (fun S1 h1=>jF _ _ _ _ _ _ h1 VS.u32_zero)) ?_;rintro w9 ⟨hV9,hV9l⟩;have c9:=jc hV9l zT c8;clear hV9l;go_wp2_with fail;refine zM (ji jj hV9 (qa _ _ _ _ _)) ?_;rintro w10 ⟨hV10,hV10l⟩;have c10:=jc hV10l zT c9;clear hV10l;go_wp2_with fail;refine zM (je hV10 (fun S1 h1=>jF _ _ _ _ _ _ h1 VS.u32_zero)) ?_;rintro w11 ⟨hV11,hV11l⟩;have c11:=jc hV11l zT c10;clear hV11l;go_wp2;go_end0;exact ⟨rfl,hV11.done jj⟩
theorem jdP [AllF] (b:Nat) (t p s head q:Int) (w:World) (S:Nat->Prop) (st s1 s2:VS) (v u:Int) (h:RV w b S st) (hq:jY p q=true) (e1:st.get (ofF t p s q 2)=(v,s1)) (e2:s1.get (ofF t p s q 3)=(u,s2)) (h0:u≠0) (h1:v=0) :
 Calls prog 165 #[.pointer (some ⟨b,0,none⟩),.agg #[.int .i64 t,.int .i64 p,.int .i64 s],.int .i64 head,.int .i64 q] w fun e w'=>e= .returned (.tuple #[])/\Kj w b S (((s2.put (ofF t p s (u - 1) 2) v).put (ofF t p s q 2) 0).put (ofF t p s q 3) 0) w':=by
 have hV:=(VSt.start jj h).alloc jj (.cells #[.int .i64 t,.int .i64 p,.int .i64 s] 23);have c0:=jr w #[.int .i64 t,.int .i64 p,.int .i64 s] 23;have i1:=(jj.inv h).get (ofF t p s q 2);have u1:=VS.get_u32 (jj.inv h) (ofF t p s q 2);rw [e1] at i1 u1;have u2:=VS.get_u32 i1 (ofF t p s q 3);rw [e2] at u2;have HU1:=zh u1;have HU2:=zh u2;have G1:=fun (w:World) (S1:Nat->Prop) (h1:RV w b S1 st)=>yz b (ofF t p s q 2) w S1 st h1;have G2:=fun (w:World) (S1:Nat->Prop) (h1:RV w b S1 s1)=>yz b (ofF t p s q 3) w S1 s1 h1;rw [e1] at G1;rw [e2] at G2;have HG1:=zh G1;have HG2:=zh G2;have hb:(u == 0)=false:=by simp [h0]
 have hc:(v != 0)=false:=by simp [h1]
 have hq1:0<=q:=by simp [jY] at hq;omega
 have hq5:q < p:=by simp [jY] at hq;omega
 have hv3:IntKind.i64.wrap v=v:=ju _ (by have:=u1.1;have:=u1.2;omega);have hv4:IntKind.i64.wrap (v - 1)=v - 1:=ju _ (by have:=u1.1;have:=u1.2;omega);have hu3:IntKind.i64.wrap u=u:=ju _ (by have:=u2.1;have:=u2.2;omega);have hu4:IntKind.i64.wrap (u - 1)=u - 1:=ju _ (by have:=u2.1;have:=u2.2;omega);clear h i1 u1 u2 G1 G2 e1 e2 h0 h1 hq;go_enter func165,ntmps165;go_wp2_with fail;refine zM (ji jj hV (qr _ _ _ _ _)) ?_;rintro w1 ⟨hV1,hV1l⟩;have c1:=jc hV1l zT c0;clear hV1l;go_wp2_with fail;refine zM (je hV1 (HG1.out _)) ?_;rintro w2 ⟨hV2,hV2l⟩;have c2:=jc hV2l zT c1;clear hV2l;go_wp2_with fail;refine zM (ji jj hV2 (qa _ _ _ _ _)) ?_;rintro w3 ⟨hV3,hV3l⟩;have c3:=jc hV3l zT c2;clear hV3l;go_wp2_with fail;refine zM (je hV3 (HG2.out _)) ?_;rintro w4 ⟨hV4,hV4l⟩;have c4:=jc hV4l zT c3;clear hV4l;go_wp2_with fail;refine zM (ji jj hV4 (qr _ _ _ _ _)) ?_;rintro w5 ⟨hV5,hV5l⟩;have c5:=jc hV5l zT c4;clear hV5l;go_wp2_with fail;refine zM (je hV5 (fun S1 h1=>jF _ _ _ _ _ _ h1 HU1.out)) ?_;rintro w6 ⟨hV6,hV6l⟩;have c6:=jc hV6l zT c5;clear hV6l;go_wp2_with fail;refine zM (ji jj hV6 (qr _ _ _ _ _)) ?_;rintro w7 ⟨hV7,hV7l⟩;have c7:=jc hV7l zT c6;clear hV7l;go_wp2_with fail;refine zM (je hV7 (fun S1 h1=>jF _ _ _ _ _ _ h1 VS.u32_zero)) ?_;rintro w8 ⟨hV8,hV8l⟩;have c8:=jc hV8l zT c7;clear hV8l;go_wp2_with fail;refine zM (ji jj hV8 (qa _ _ _ _ _)) ?_;rintro w9 ⟨hV9,hV9l⟩;have c9:=jc hV9l zT c8;clear hV9l;go_wp2_with fail;refine zM (je hV9 (fun S1 h1=>jF _ _ _ _ _ _ h1 VS.u32_zero)) ?_;rintro w10 ⟨hV10,hV10l⟩;have c10:=jc hV10l zT c9;clear hV10l;go_wp2;go_end0;exact ⟨rfl,hV10.done jj⟩
theorem jdO [AllF] (b:Nat) (t p s head q:Int) (w:World) (S:Nat->Prop) (st s1 s2:VS) (v u:Int) (h:RV w b S st) (hq:jY p q=true) (e1:st.get (ofF t p s q 2)=(v,s1)) (e2:s1.get (ofF t p s q 3)=(u,s2)) (h0:u≠0) (h1:v≠0) :
 Calls prog 165 #[.pointer (some ⟨b,0,none⟩),.agg #[.int .i64 t,.int .i64 p,.int .i64 s],.int .i64 head,.int .i64 q] w fun e w'=>e= .returned (.tuple #[])/\Kj w b S ((((s2.put (ofF t p s (u - 1) 2) v).put (ofF t p s (v - 1) 3) u).put (ofF t p s q 2) 0).put (ofF t p s q 3) 0) w':=by
 have hV:=(VSt.start jj h).alloc jj (.cells #[.int .i64 t,.int .i64 p,.int .i64 s] 23);have c0:=jr w #[.int .i64 t,.int .i64 p,.int .i64 s] 23;have i1:=(jj.inv h).get (ofF t p s q 2);have u1:=VS.get_u32 (jj.inv h) (ofF t p s q 2);rw [e1] at i1 u1;have u2:=VS.get_u32 i1 (ofF t p s q 3);rw [e2] at u2;have HU1:=zh u1;have HU2:=zh u2;have G1:=fun (w:World) (S1:Nat->Prop) (h1:RV w b S1 st)=>yz b (ofF t p s q 2) w S1 st h1;have G2:=fun (w:World) (S1:Nat->Prop) (h1:RV w b S1 s1)=>yz b (ofF t p s q 3) w S1 s1 h1;rw [e1] at G1;rw [e2] at G2;have HG1:=zh G1;have HG2:=zh G2;have hb:(u == 0)=false:=by simp [h0]
 have hc:(v != 0)=true:=by simp [h1]
 have hq1:0<=q:=by simp [jY] at hq;omega
 have hq5:q < p:=by simp [jY] at hq;omega
 have hv3:IntKind.i64.wrap v=v:=ju _ (by have:=u1.1;have:=u1.2;omega);have hv4:IntKind.i64.wrap (v - 1)=v - 1:=ju _ (by have:=u1.1;have:=u1.2;omega);have hu3:IntKind.i64.wrap u=u:=ju _ (by have:=u2.1;have:=u2.2;omega);have hu4:IntKind.i64.wrap (u - 1)=u - 1:=ju _ (by have:=u2.1;have:=u2.2;omega);clear h i1 u1 u2 G1 G2 e1 e2 h0 h1 hq;go_enter func165,ntmps165;go_wp2_with fail;refine zM (ji jj hV (qr _ _ _ _ _)) ?_;rintro w1 ⟨hV1,hV1l⟩;have c1:=jc hV1l zT c0;clear hV1l;go_wp2_with fail;refine zM (je hV1 (HG1.out _)) ?_;rintro w2 ⟨hV2,hV2l⟩;have c2:=jc hV2l zT c1;clear hV2l;go_wp2_with fail;refine zM (ji jj hV2 (qa _ _ _ _ _)) ?_;rintro w3 ⟨hV3,hV3l⟩;have c3:=jc hV3l zT c2;clear hV3l;go_wp2_with fail;refine zM (je hV3 (HG2.out _)) ?_;rintro w4 ⟨hV4,hV4l⟩;have c4:=jc hV4l zT c3;clear hV4l;go_wp2_with fail;refine zM (ji jj hV4 (qr _ _ _ _ _)) ?_;rintro w5 ⟨hV5,hV5l⟩;have c5:=jc hV5l zT c4;clear hV5l;go_wp2_with fail;refine zM (je hV5 (fun S1 h1=>jF _ _ _ _ _ _ h1 HU1.out)) ?_;rintro w6 ⟨hV6,hV6l⟩;have c6:=jc hV6l zT c5;clear hV6l;go_wp2_with fail;refine zM (ji jj hV6 (qa _ _ _ _ _)) ?_;rintro w7 ⟨hV7,hV7l⟩;have c7:=jc hV7l zT c6;clear hV7l;go_wp2_with fail;refine zM (je hV7 (fun S1 h1=>jF _ _ _ _ _ _ h1 HU2.out)) ?_;rintro w8 ⟨hV8,hV8l⟩;have c8:=jc hV8l zT c7;clear hV8l;go_wp2_with fail;refine zM (ji jj hV8 (qr _ _ _ _ _)) ?_;rintro w9 ⟨hV9,hV9l⟩;have c9:=jc hV9l zT c8;clear hV9l;go_wp2_with fail;refine zM (je hV9 (fun S1 h1=>jF _ _ _ _ _ _ h1 VS.u32_zero)) ?_;rintro w10 ⟨hV10,hV10l⟩;have c10:=jc hV10l zT c9;clear hV10l;go_wp2_with fail;refine zM (ji jj hV10 (qa _ _ _ _ _)) ?_;rintro w11 ⟨hV11,hV11l⟩;have c11:=jc hV11l zT c10;clear hV11l;go_wp2_with fail;refine zM (je hV11 (fun S1 h1=>jF _ _ _ _ _ _ h1 VS.u32_zero)) ?_;rintro w12 ⟨hV12,hV12l⟩;have c12:=jc hV12l zT c11;clear hV12l;go_wp2;go_end0;exact ⟨rfl,hV12.done jj⟩
theorem jaV [AllF] (b:Nat) (t p s head q:Int) (w:World) (S:Nat->Prop) (st:VS) (h:RV w b S st) :
 Calls prog 165 #[.pointer (some ⟨b,0,none⟩),.agg #[.int .i64 t,.int .i64 p,.int .i64 s],.int .i64 head,.int .i64 q] w fun e w'=>e= .returned (.tuple #[])/\Kj w b S (kY t p s head q st) w':=by
 cases hq:jY p q with
 | false=>
  have hF:kY t p s head q st=st:=by simp [kY,hq]
  rw [hF];exact rpull_no b t p s head q w S st h hq
 | true=>
  obtain ⟨v,s1,e1⟩:∃v s1,st.get (ofF t p s q 2)=(v,s1):=⟨_,_,rfl⟩
  obtain ⟨u,s2,e2⟩:∃u s2,s1.get (ofF t p s q 3)=(u,s2):=⟨_,_,rfl⟩
  by_cases h0:u=0 <;> by_cases h1:v=0
  ·have:=jdR b t p s head q w S st s1 s2 v u h hq e1 e2 h0 h1;simpa [kY,hq,e1,e2,h0,h1] using this
  ·have:=jdQ b t p s head q w S st s1 s2 v u h hq e1 e2 h0 h1;simpa [kY,hq,e1,e2,h0,h1] using this
  ·have:=jdP b t p s head q w S st s1 s2 v u h hq e1 e2 h0 h1;simpa [kY,hq,e1,e2,h0,h1] using this
  ·have:=jdO b t p s head q w S st s1 s2 v u h hq e1 e2 h0 h1;simpa [kY,hq,e1,e2,h0,h1] using this

theorem yK [AllF] {b:Nat} {st s1:VS} {i v:Int} (e:st.get i=(v,s1)) (w:World) (S:Nat->Prop) (h:RV w b S st) :
 Calls prog 162 #[.pointer (some ⟨b,0,none⟩),.int .i64 i] w fun e w'=>e= .returned (.int .u32 v)/\Kj w b S s1 w':=by
 have:=yz b i w S st h;rwa [e] at this
structure VR [AllF] (w0:World) (b:Nat) (S:Nat->Prop) (Ls:List Nat) (LA:Nat) (cs:Array Value) (T:TypeId) (st:VS) (w:World):Prop where
 vs:VSt RV w0 b S (LA :: Ls) st w
 box:w.heap[LA]? =some (.cells cs T)
 ne:∀L∈Ls,L≠LA
section
variable {w0 w w':World} {b:Nat} {S:Nat->Prop} {Ls:List Nat} {LA:Nat} {cs:Array Value} {T:TypeId} {st st':VS}
theorem VSt.allocr [AllF] (h:VSt RV w0 b S Ls st w) (cs:Array Value) (T:TypeId):VR w0 b S Ls w.heap.size cs T st (w.alloc (.cells cs T)):=
 ⟨h.alloc jj _,heap_alloc_new w _,fun L hL e=>by have:=(h.ls L hL).1;omega⟩
theorem VR.step [AllF] (h:VR w0 b S Ls LA cs T st w) (hV:VSt RV w0 b S (LA :: Ls) st' w') (hl:∀L∈LA :: Ls,w'.heap[L]? =w.heap[L]?):VR w0 b S Ls LA cs T st' w':=
 ⟨hV,(hl _ zT).trans h.box,h.ne⟩
theorem VR.set [AllF] (h:VR w0 b S Ls LA cs T st w) (o:Nat) (v:Value):VR w0 b S Ls LA (cs.setIfInBounds o v) T st (w.setCell ⟨LA,o,none⟩ v):=
 ⟨h.vs.setCell jj zT _ _,jX h.box,h.ne⟩
theorem VR.set3 [AllF] {y0 y1 y2:Value} (h:VR w0 b S Ls LA #[y0,y1,y2] T st w) (x0 x1 x2:Value):VR w0 b S Ls LA #[x0,x1,x2] T st (((w.setCell ⟨LA,0,none⟩ x0).setCell ⟨LA,1,none⟩ x1).setCell ⟨LA,2,none⟩ x2):=by
 have a0:VR w0 b S Ls LA #[x0,y1,y2] T st _:=h.set 0 x0;have a1:VR w0 b S Ls LA #[x0,x1,y2] T st _:=a0.set 1 x1;have a2:VR w0 b S Ls LA #[x0,x1,x2] T st _:=a1.set 2 x2;exact a2
theorem VR.alloc [AllF] (h:VR w0 b S Ls LA cs T st w) (o:Obj):VR w0 b S Ls LA cs T st (w.alloc o):=
 ⟨(h.vs.alloc jj o).sub _ (fun L hL=>List.mem_cons_of_mem _ hL),(heap_alloc_old _ _ (h.vs.ls _ zT).1).trans h.box,h.ne⟩
theorem VR.loc [AllF] (h:VR w0 b S Ls LA cs T st w) {L:Nat} {ds:Array Value} (hm:L∈Ls) (o:Nat) (v:Value) (hc:∀i:Nat,w.cell? ⟨L,i,none⟩=ds[i]?):∀i:Nat,(w.setCell ⟨LA,o,none⟩ v).cell? ⟨L,i,none⟩=ds[i]? :=
 fun i=>(World.cell?_of_block (a:=⟨L,i,none⟩) (jm (h.ne L hm))).trans (hc i)
end

theorem KN [AllF] {b:Nat} {st s1:VS} {t p s q v:Int} (e:st.get (ofF t p s q 0)=(v,s1)) (w:World) (S:Nat->Prop) (h:RV w b S st) :
 Calls prog 161 #[.pointer (some ⟨b,0,none⟩),.agg #[.int .i64 t,.int .i64 p,.int .i64 s],.int .i64 q] w fun e w'=>e= .returned (.agg #[.int .i64 (iK v),.int .i64 (iL v),.int .i64 (iC v)])/\Kj w b S s1 w':=by
 have hA:=((VSt.start jj h).alloc jj (.cells #[.int .i64 t,.int .i64 p,.int .i64 s] 23)).allocr #[.int .i64 0,.int .i64 0,.int .i64 0] 130;have c0:=jA (.cells #[.int .i64 0,.int .i64 0,.int .i64 0] 130) zT (jr w #[.int .i64 t,.int .i64 p,.int .i64 s] 23);simp only [World.size_alloc] at hA c0;have hu:=VS.get_u32 (jj.inv h) (ofF t p s q 0);rw [e] at hu;have HI:=zh (fun w=>Vs v w hu.1 hu.2);have G:=zh (yK (b:=b) e);clear h hu e;generalize iK v=k at*
 generalize iL v=l at*
 generalize iC v=m at*
 generalize okI v=o at*
 go_enter func161,ntmps161;go_wp2_with fail;refine zM (ji jj hA.vs (qN _ _ _ _ _)) ?_;rintro w1 ⟨hY,hYl⟩;replace hA:=hA.step hY hYl;clear hY hYl;go_wp2_with fail;refine zM (je hA.vs (G.out _)) ?_;rintro w2 ⟨hY,hYl⟩;replace hA:=hA.step hY hYl;clear hY hYl;go_wp2_with fail;refine zM (ji jj hA.vs (HI.out _)) ?_;rintro w3 ⟨hY,hYl⟩;replace hA:=hA.step hY hYl;clear hY hYl;replace hA:=hA.alloc (.cells #[.int .i64 k,.int .i64 l,.int .i64 m] 130);obtain ⟨⟨k0,k1,k2⟩,f0,f1,f2⟩:=cells3 hA.box;go_wp2;have hZ:=hA.set3 (.int .i64 k) (.int .i64 l) (.int .i64 m);obtain ⟨⟨j0,j1,j2⟩,-⟩:=cells3 hZ.box;refine bodyPost_ret (v:= .agg #[.int .i64 k,.int .i64 l,.int .i64 m]) (by simp [results,results161,go_sem,j0,j1,j2]) rfl ⟨rfl,hZ.vs.done jj⟩
theorem jcU (n:Nat) (w:World) (h1:1<=n) (h2:n<=1024) :
 Calls prog 131 #[.int .i64 (qJ n)] w (zW (.int .i64 (kq 2 (qJ n) 11)) w):=by
 have hb:=log_bd n zo h1;have hl:qJ n=((JX n - 1:Nat):Int):=by simp [qJ];omega
 have:=XW (JX n - 1) w zo;have hf:kq 2 (qJ n) 11=((2+(JX n - 1):Nat):Int):=by unfold kq;rw [hl,if_neg zo];omega
 rw [hf,hl];exact this
theorem jfK [AllF] (b:Nat) (t p s q:Int) (w:World) (S:Nat->Prop) (st:VS) (h:RV w b S st) (hq:jY p q=false) :
 Calls prog 210 #[.pointer (some ⟨b,0,none⟩),.agg #[.int .i64 t,.int .i64 p,.int .i64 s],.int .i64 q] w fun e w'=>e= .returned (.int .i64 (kD t p s q st).1)/\Kj w b S (kD t p s q st).2 w':=by
 have hF:kD t p s q st=(0,st):=by unfold kD;rw [hq];rfl
 rw [hF];have hV:=(VSt.start jj h).alloc jj (.cells #[.int .i64 t,.int .i64 p,.int .i64 s] 23);clear hF h;by_cases h0:0<=q
 ·have h1:¬q < p:=by simpa [jY,h0] using hq
  clear hq;go_enter func210,ntmps210;go_wp2;go_ret;exact ⟨rfl,hV.done jj⟩
 ·clear hq;go_enter func210,ntmps210;go_wp2;go_ret;exact ⟨rfl,hV.done jj⟩
theorem QB [AllF] (b:Nat) (t p s q:Int) (w:World) (S:Nat->Prop) (st:VS) (h:RV w b S st) :
 Calls prog 210 #[.pointer (some ⟨b,0,none⟩),.agg #[.int .i64 t,.int .i64 p,.int .i64 s],.int .i64 q] w fun e w'=>e= .returned (.int .i64 (kD t p s q st).1)/\Kj w b S (kD t p s q st).2 w':=by
 cases hq:jY p q with
 | false=>exact jfK b t p s q w S st h hq
 | true=>
  have hV:=(VSt.start jj h).alloc jj (.cells #[.int .i64 t,.int .i64 p,.int .i64 s] 23);have c0:=jr w #[.int .i64 t,.int .i64 p,.int .i64 s] 23;have hq2:0<=q/\q < p:=by simpa [jY] using hq
  obtain ⟨hq0,hq1⟩:=hq2;have hF:kD t p s q st=(JI (st.get (ofF t p s q 0)).1,if JI (st.get (ofF t p s q 0)).1=0 then (st.get (ofF t p s q 0)).2 else kY t p s (kq 2 (qJ (JI (st.get (ofF t p s q 0)).1)) 11) q (st.get (ofF t p s q 0)).2):=by unfold kD jB;rw [if_pos hq]
  rw [hF];obtain ⟨v,s1,hg⟩:∃v s1,st.get (ofF t p s q 0)=(v,s1):=⟨_,_,rfl⟩
  have G:=zh (KN (b:=b) hg);rw [hg];dsimp only;have hbd:=kQ v;clear h hF hg hq;by_cases hk:iK v=1
  ·obtain ⟨b1,b2⟩:=hbd.2.2.1 hk;have b3:=hbd.2.1;rw [hk] at G;rw [b2] at b1 b3 ⊢;clear b2 hbd hk;generalize iL v=l at*
   generalize iC v=m at*
   obtain ⟨n,rfl⟩:∃n:Nat,l=n:=⟨l.toNat,zo⟩
   rw [if_neg zo];have HO:=zh (fun w=>XU n w zo zo);have HB:=zh (fun w=>jcU n w zo zo);generalize qJ n=lg at*
   generalize kq 2 lg 11=hd at*
   go_enter func210,ntmps210;go_wp2_with fail;refine zM (je hV (G.out _)) ?_;rintro w1 ⟨hV1,hV1l⟩;have c1:=jc hV1l zT c0;clear hV1l;go_wp2_with fail;have hV2:=(hV1.alloc jj (.cells #[.int .i64 1,.int .i64 n,.int .i64 m] 130)).drew jj;have d2:∀o:Nat,(w1.alloc (.cells #[.int .i64 1,.int .i64 n,.int .i64 m] 130)).drew.cell? ⟨w1.heap.size,o,none⟩=(#[.int .i64 1,.int .i64 n,.int .i64 m]:Array Value)[o]? :=jr w1 #[.int .i64 1,.int .i64 n,.int .i64 m] 130;have c2:∀o:Nat,(w1.alloc (.cells #[.int .i64 1,.int .i64 n,.int .i64 m] 130)).drew.cell? ⟨w.heap.size,o,none⟩=(#[.int .i64 t,.int .i64 p,.int .i64 s]:Array Value)[o]? :=jA (.cells #[.int .i64 1,.int .i64 n,.int .i64 m] 130) (hV1.ls _ zT).1 c1;refine jeJ (zP d2) (zP c2) fun hHeld=> ?_;refine wT 0 ?_;refine wY ?_;refine wR 4 fun K hK=> ?_;go_simp;refine zM (ji jj hV2 (HO.out _)) ?_;rintro w3 ⟨hV3,hV3l⟩;have d3:=jc hV3l zT hHeld.1;have c3:=jc hV3l zT hHeld.2;clear hV3l;dsimp only;refine wK hK (⟨d3,c3⟩) fun hHeld=> ?_;clear hK K;refine wR 5 fun K hK=> ?_;go_simp;refine zM (ji jj hV3 (HB.out _)) ?_;rintro w4 ⟨hV4,hV4l⟩;have d4:=jc hV4l zT d3;have c4:=jc hV4l zT c3;clear hV4l;dsimp only;refine wK hK (⟨d4,c4⟩) fun hHeld=> ?_;clear hK K;refine wR 7 fun K hK=> ?_;go_simp;refine zM (je hV4 (fun S1 h1=>jaV b t p s _ q _ S1 _ h1)) ?_;rintro w5 ⟨hV5,hV5l⟩;have d5:=jc hV5l zT d4;have c5:=jc hV5l zT c4;clear hV5l;dsimp only;refine wK hK (⟨d5,c5⟩) fun hHeld=> ?_;clear hK K;refine wD ?_;go_wp2;go_ret;exact ⟨rfl,hV5.done jj⟩
  ·rw [hbd.2.2.2 hk,if_pos rfl];clear hbd;generalize iK v=k at*
   generalize iL v=l at*
   generalize iC v=m at*
   go_enter func210,ntmps210;go_wp2_with fail;refine zM (je hV (G.out _)) ?_;rintro w1 ⟨hV1,hV1l⟩;have c1:=jc hV1l zT c0;clear hV1l;go_wp2;go_ret;exact ⟨rfl,(hV1.alloc jj _).done jj⟩
theorem radd_out [AllF] (b:Nat) (t p s q n:Int) (w:World) (S:Nat->Prop) (st:VS) (h:RV w b S st) (hp:p<=1024) (hc:¬(0<=q/\q < p/\1<=n/\n<=p - q)) :
 Calls prog 211 #[.pointer (some ⟨b,0,none⟩),.agg #[.int .i64 t,.int .i64 p,.int .i64 s],.int .i64 q,.int .i64 n] w fun e w'=>e= .returned (.tuple #[])/\Kj w b S st w':=by
 have hV:=(VSt.start jj h).alloc jj (.cells #[.int .i64 t,.int .i64 p,.int .i64 s] 23);clear h;by_cases h0:0<=q
 ·by_cases h1:q < p
  ·have hw1:IntKind.i64.wrap (p - q)=p - q:=ju _ zo;by_cases h2:1<=n
   ·have h3:p - q < n:=zo;clear hc;go_enter func211,ntmps211;go_wp2;refine bodyPost_ret (results_none rfl _ _ _) rfl ?_;exact ⟨rfl,hV.done jj⟩
   ·clear hc;go_enter func211,ntmps211;go_wp2;refine bodyPost_ret (results_none rfl _ _ _) rfl ?_;exact ⟨rfl,hV.done jj⟩
  ·clear hc;go_enter func211,ntmps211;go_wp2;refine bodyPost_ret (results_none rfl _ _ _) rfl ?_;exact ⟨rfl,hV.done jj⟩
 ·clear hc;go_enter func211,ntmps211;go_wp2;refine bodyPost_ret (results_none rfl _ _ _) rfl ?_;exact ⟨rfl,hV.done jj⟩
theorem radd_in [AllF] (b:Nat) (t p s:Int) (q n:Nat) (w:World) (S:Nat->Prop) (st:VS) (h:RV w b S st) (hp:p<=1024) (h0:(q:Int) < p) (h1:1<=n) (h2:(n:Int)<=p - q) :
 Calls prog 211 #[.pointer (some ⟨b,0,none⟩),.agg #[.int .i64 t,.int .i64 p,.int .i64 s],.int .i64 q,.int .i64 n] w fun e w'=>e= .returned (.tuple #[])/\Kj w b S (jhl t p s q n st) w':=by
 have hV:=(VSt.start jj h).alloc jj (.cells #[.int .i64 t,.int .i64 p,.int .i64 s] 23);have c0:=jr w #[.int .i64 t,.int .i64 p,.int .i64 s] 23;have HV:=zh (fun w=>Vn n w h1 zo);have HO:=zh (fun w=>XU n w h1 zo);have HB:=zh (fun w=>jcU n w h1 zo);have U1:=zh (show VS.U32 (1+16*(n:Int)) from ⟨zo,zo⟩);have U2:=zh (show VS.U32 ((q:Int)+1) from ⟨zo,zo⟩);have hF:jhl t p s q n st=qs t p s (kq 2 (qJ n) 11) q ((st.put (ofF t p s q 0) (1+16*n)).put (ofF t p s ((q:Int)+n - 1) 1) ((q:Int)+1)):=rfl;rw [hF];have hw1:IntKind.i64.wrap ((q:Int)+n - 1)=(q:Int)+n - 1:=ju _ zo;have hw2:IntKind.u32.wrap ((q:Int)+1)=(q:Int)+1:=IntWalk.u32_in _ zo;have hw3:IntKind.u32.wrap (q:Int)=(q:Int):=IntWalk.u32_in _ zo;clear h hF;generalize qJ n=lg at*
 generalize kq 2 lg 11=hd at*
 generalize hx:1+16*(n:Int)=iv at*
 clear hx;go_enter func211,ntmps211;go_wp2_with fail;refine zM (ji jj hV (qN _ _ _ _ _)) ?_;rintro w1 ⟨hV1,hV1l⟩;have c1:=jc hV1l zT c0;clear hV1l;go_wp2_with fail;refine zM (ji jj hV1 (HV.out _)) ?_;rintro w2 ⟨hV2,hV2l⟩;have c2:=jc hV2l zT c1;clear hV2l;go_wp2_with fail;refine zM (je hV2 (fun S1 h1=>jF _ _ _ _ _ _ h1 U1.out)) ?_;rintro w4 ⟨hV4,hV4l⟩;have c4:=jc hV4l zT c2;clear hV4l;go_wp2_with fail;refine zM (ji jj hV4 (qb _ _ _ _ _)) ?_;rintro w5 ⟨hV5,hV5l⟩;have c5:=jc hV5l zT c4;clear hV5l;go_wp2_with fail;refine zM (je hV5 (fun S1 h1=>jF _ _ _ _ _ _ h1 U2.out)) ?_;rintro w6 ⟨hV6,hV6l⟩;have c6:=jc hV6l zT c5;clear hV6l;go_wp2_with fail;have hV6d:=hV6.drew jj;refine jaw (zP c6) fun hHeld=> ?_;refine wT 0 ?_;refine wY ?_;refine wR 3 fun K hK=> ?_;go_simp;refine zM (ji jj hV6d (HO.out _)) ?_;rintro w7 ⟨hV7,hV7l⟩;have c7:=jc hV7l zT hHeld;clear hV7l;dsimp only;refine wK hK (c7) fun hHeld=> ?_;clear hK K;refine wR 4 fun K hK=> ?_;go_simp;refine zM (ji jj hV7 (HB.out _)) ?_;rintro w8 ⟨hV8,hV8l⟩;have c8:=jc hV8l zT c7;clear hV8l;dsimp only;refine wK hK (c8) fun hHeld=> ?_;clear hK K;refine wR 6 fun K hK=> ?_;go_simp;refine zM (je hV8 (fun S1 h1=>jaU b t p s _ q _ S1 _ h1 hp)) ?_;rintro w9 ⟨hV9,hV9l⟩;have c9:=jc hV9l zT c8;clear hV9l;dsimp only;refine wK hK (c9) fun hHeld=> ?_;clear hK K;refine wD ?_;go_wp2;go_end0;exact ⟨rfl,hV9.done jj⟩
theorem Jh [AllF] (b:Nat) (t p s q n:Int) (w:World) (S:Nat->Prop) (st:VS) (h:RV w b S st) (hp:p<=1024) :
 Calls prog 211 #[.pointer (some ⟨b,0,none⟩),.agg #[.int .i64 t,.int .i64 p,.int .i64 s],.int .i64 q,.int .i64 n] w fun e w'=>e= .returned (.tuple #[])/\Kj w b S (y8 t p s q n st) w':=by
 by_cases hc:0<=q/\q < p/\1<=n/\n<=p - q
 ·have:=radd_in b t p s q.toNat n.toNat w S st h hp zo zo zo;rw [show ((q.toNat:Nat):Int)=q by omega,show ((n.toNat:Nat):Int)=n by omega] at this;unfold y8;rw [if_pos hc];exact this
 ·have hF:y8 t p s q n st=st:=if_neg hc;rw [hF];exact radd_out b t p s q n w S st h hp hc

theorem YX (t p s q:Int) (st:VS):0<=(kD t p s q st).1/\(kD t p s q st).1<=1024:=by
 have h:=kQ (st.get (ofF t p s q 0)).1;unfold kD jB;split <;> dsimp only <;> omega
theorem jgY (st:VS):st.get (-1)=(0,st):=by unfold VS.get VS.there;simp
theorem jgg (t p s q part:Int) (h:q < 0):ofF t p s q part= -1:=by unfold ofF;rw [if_neg zo]
theorem Yw [AllF] (b:Nat) (t p s q n:Int) (w:World) (S:Nat->Prop) (st:VS) (h:RV w b S st) (hp:p<=1024) (hq0:0<=q) (hq1:q<=1024) (hn0:0<=n) (hn1:n<=1024) :
 Calls prog 167 #[.pointer (some ⟨b,0,none⟩),.agg #[.int .i64 t,.int .i64 p,.int .i64 s],.int .i64 q,.int .i64 n] w fun e w'=>e= .returned (.tuple #[])/\Kj w b S (jW t p s q n st) w':=by
 have hV:=(VSt.start jj h).alloc jj (.cells #[.int .i64 t,.int .i64 p,.int .i64 s] 23);have c0:=jr w #[.int .i64 t,.int .i64 p,.int .i64 s] 23;have hbk:qh t p s q n st=(if (jQ t p s q st).1 < 0 then ((q,n),(jQ t p s q st).2) else if (jB t p s (jQ t p s q st).1 (jQ t p s q st).2).1=0 then ((q,n),(jB t p s (jQ t p s q st).1 (jQ t p s q st).2).2) else (((jQ t p s q st).1,n+(kU t p s (jQ t p s q st).1 q (jB t p s (jQ t p s q st).1 (jQ t p s q st).2).2).1),(kU t p s (jQ t p s q st).1 q (jB t p s (jQ t p s q st).1 (jQ t p s q st).2).2).2)):=rfl;obtain ⟨bk,hb⟩:∃x,qh t p s q n st=x:=⟨_,rfl⟩
 rw [hb] at hbk;have hR:jW t p s q n st=kO n (y8 t p s bk.1.1 (kN t p s (q+n) bk.1.2 bk.2).1 (kN t p s (q+n) bk.1.2 bk.2).2):=by unfold jW;rw [hb]
 rw [hR];have hinv:=jj.inv h;clear hR hb h;have hwr:IntKind.i64.wrap (q+n)=q+n:=ju _ zo;have hwq:IntKind.i64.wrap (q - 1)=q - 1:=ju _ zo;have hwn:IntKind.u32.wrap n=n:=IntWalk.u32_in _ zo;have hwz:IntKind.i64.wrap (q+n - 1)=q+n - 1:=ju _ zo;by_cases hz:q=0
 ·have e0:qh t p s q n st=((q,n),st):=by subst hz;rfl
  have e1:bk=((q,n),st):=hbk.trans e0;subst e1;dsimp only;have hz2:¬0 < q:=by omega
  clear hbk e0 hwq hinv hz;by_cases hr:q+n < p
  ·have hfo:kN t p s (q+n) (n) st=(if (jB t p s (q+n) st).1=0 then (n,(jB t p s (q+n) st).2) else (n+(kU t p s (q+n) (q+n) (jB t p s (q+n) st).2).1,(kU t p s (q+n) (q+n) (jB t p s (q+n) st).2).2)):=by unfold kN;rw [if_pos hr]
   rw [hfo];clear hfo;obtain ⟨v2,s4,hg2⟩:∃v s4,st.get (ofF t p s (q+n) 0)=(v,s4):=⟨_,_,rfl⟩
   have HI2:=zh (KN (b:=b) hg2);have hbd2:=kQ v2;rw [show jB t p s (q+n) st=(JI v2,s4) by unfold jB;rw [hg2]];dsimp only;clear hg2;by_cases hk2:iK v2=1
   ·rw [if_neg (by have:=hbd2.2.2.1 hk2;omega)];rw [hk2] at HI2;clear hbd2 hk2;generalize iL v2=il2 at*
    generalize iC v2=ic2 at*
    have hj2:=YX t p s (q+n) s4;have HD:=fun (w:World) (S1:Nat->Prop) (h1:RV w b S1 s4)=>QB b t p s (q+n) w S1 s4 h1;have hjo:kU t p s (q+n) (q+n) s4=((kD t p s (q+n) s4).1,((kD t p s (q+n) s4).2.put (ofF t p s (q+n) 0) 0).put (ofF t p s (q+n - 1) 1) 0):=rfl;obtain ⟨j2,s5,hj⟩:∃j s5,kD t p s (q+n) s4=(j,s5):=⟨_,_,rfl⟩
    rw [hj] at hjo HD hj2;rw [hjo];dsimp only at HD hj2 ⊢;clear hjo hj;have HD2:=zh HD;clear HD;have hw5:IntKind.i64.wrap (n+j2)=n+j2:=ju _ zo;obtain ⟨s7,hs7⟩:∃x,(s5.put (ofF t p s (q+n) 0) 0).put (ofF t p s (q+n - 1) 1) 0=x:=⟨_,rfl⟩
    have HP7:=fun (w:World) (S1:Nat->Prop) (h1:RV w b S1 (s5.put (ofF t p s (q+n) 0) 0))=>jF b (ofF t p s (q+n - 1) 1) 0 w S1 _ h1 VS.u32_zero;rw [hs7] at HP7 ⊢;clear hs7;have HQ7:=zh HP7;clear HP7;have HAd:=zh (fun (w:World) (S1:Nat->Prop) (h1:RV w b S1 s7)=>Jh b t p s q (n+j2) w S1 s7 h1 hp);obtain ⟨s8,hs8⟩:∃x,y8 t p s q (n+j2) s7=x:=⟨_,rfl⟩
    rw [hs8] at HAd ⊢;clear hs8;have hC:kO n s8=(s8.get 0).2.put 0 (IntKind.u32.wrap ((s8.get 0).1+n)):=rfl;obtain ⟨vc,sc,hc⟩:∃v s1,s8.get 0=(v,s1):=⟨_,_,rfl⟩
    have HGc:=zh (yK (b:=b) hc);rw [hC,hc];dsimp only;clear hC hc;have hU:=zh (show VS.U32 (IntKind.u32.wrap (vc+n)) by unfold VS.U32;rw [IntKind.wrap_u32];omega);obtain ⟨x,hx⟩:∃x,x=IntKind.u32.wrap (vc+n):=⟨_,rfl⟩
    rw [<-hx] at hU ⊢;have hx2:=hx.symm;clear hx;go_enter func167,ntmps167;go_wp2_with fail;refine zM (je hV (HI2.out _)) ?_;rintro w11 ⟨hY,hYl⟩;replace c0:=jc hYl zT c0;replace hV:=hY;clear hY hYl;replace c0:=jA (.cells #[.int .i64 1,.int .i64 il2,.int .i64 ic2] 130) (hV.ls _ zT).1 c0;replace hV:=hV.alloc jj (.cells #[.int .i64 1,.int .i64 il2,.int .i64 ic2] 130);go_wp2_with fail;refine zM (je hV (HD2.out _)) ?_;rintro w12 ⟨hY,hYl⟩;replace c0:=jc hYl zT c0;replace hV:=hY;clear hY hYl;go_wp2_with fail;refine zM (ji jj hV (qN _ _ _ _ _)) ?_;rintro w13 ⟨hY,hYl⟩;replace c0:=jc hYl zT c0;replace hV:=hY;clear hY hYl;go_wp2_with fail;refine zM (je hV (fun S1 h1=>jF _ _ _ _ _ _ h1 VS.u32_zero)) ?_;rintro w14 ⟨hY,hYl⟩;replace c0:=jc hYl zT c0;replace hV:=hY;clear hY hYl;go_wp2_with fail;refine zM (ji jj hV (qb _ _ _ _ _)) ?_;rintro w15 ⟨hY,hYl⟩;replace c0:=jc hYl zT c0;replace hV:=hY;clear hY hYl;go_wp2_with fail;refine zM (je hV (HQ7.out _)) ?_;rintro w16 ⟨hY,hYl⟩;replace c0:=jc hYl zT c0;replace hV:=hY;clear hY hYl;go_wp2_with fail;refine zM (je hV (HAd.out _)) ?_;rintro w21 ⟨hY,hYl⟩;replace c0:=jc hYl zT c0;replace hV:=hY;clear hY hYl;go_wp2_with fail;refine zM (je hV (HGc.out _)) ?_;rintro w22 ⟨hY,hYl⟩;replace c0:=jc hYl zT c0;replace hV:=hY;clear hY hYl;go_wp2_with fail;refine zM (je hV (fun S1 h1=>jF _ _ _ _ _ _ h1 hU.out)) ?_;rintro w23 ⟨hY,hYl⟩;replace c0:=jc hYl zT c0;replace hV:=hY;clear hY hYl;go_wp2;go_end0;exact ⟨rfl,hV.done jj⟩
   ·rw [if_pos (hbd2.2.2.2 hk2)];dsimp only;clear hbd2;generalize iK v2=ik2 at*
    generalize iL v2=il2 at*
    generalize iC v2=ic2 at*
    have HAd:=zh (fun (w:World) (S1:Nat->Prop) (h1:RV w b S1 s4)=>Jh b t p s q (n) w S1 s4 h1 hp);obtain ⟨s8,hs8⟩:∃x,y8 t p s q (n) s4=x:=⟨_,rfl⟩
    rw [hs8] at HAd ⊢;clear hs8;have hC:kO n s8=(s8.get 0).2.put 0 (IntKind.u32.wrap ((s8.get 0).1+n)):=rfl;obtain ⟨vc,sc,hc⟩:∃v s1,s8.get 0=(v,s1):=⟨_,_,rfl⟩
    have HGc:=zh (yK (b:=b) hc);rw [hC,hc];dsimp only;clear hC hc;have hU:=zh (show VS.U32 (IntKind.u32.wrap (vc+n)) by unfold VS.U32;rw [IntKind.wrap_u32];omega);obtain ⟨x,hx⟩:∃x,x=IntKind.u32.wrap (vc+n):=⟨_,rfl⟩
    rw [<-hx] at hU ⊢;have hx2:=hx.symm;clear hx;go_enter func167,ntmps167;go_wp2_with fail;refine zM (je hV (HI2.out _)) ?_;rintro w11 ⟨hY,hYl⟩;replace c0:=jc hYl zT c0;replace hV:=hY;clear hY hYl;replace c0:=jA (.cells #[.int .i64 ik2,.int .i64 il2,.int .i64 ic2] 130) (hV.ls _ zT).1 c0;replace hV:=hV.alloc jj (.cells #[.int .i64 ik2,.int .i64 il2,.int .i64 ic2] 130);go_wp2_with fail;refine zM (je hV (HAd.out _)) ?_;rintro w21 ⟨hY,hYl⟩;replace c0:=jc hYl zT c0;replace hV:=hY;clear hY hYl;go_wp2_with fail;refine zM (je hV (HGc.out _)) ?_;rintro w22 ⟨hY,hYl⟩;replace c0:=jc hYl zT c0;replace hV:=hY;clear hY hYl;go_wp2_with fail;refine zM (je hV (fun S1 h1=>jF _ _ _ _ _ _ h1 hU.out)) ?_;rintro w23 ⟨hY,hYl⟩;replace c0:=jc hYl zT c0;replace hV:=hY;clear hY hYl;go_wp2;go_end0;exact ⟨rfl,hV.done jj⟩
  ·have hfo:kN t p s (q+n) (n) st=(n,st):=by unfold kN;rw [if_neg hr]
   rw [hfo];clear hfo;dsimp only;have HAd:=zh (fun (w:World) (S1:Nat->Prop) (h1:RV w b S1 st)=>Jh b t p s q (n) w S1 st h1 hp);obtain ⟨s8,hs8⟩:∃x,y8 t p s q (n) st=x:=⟨_,rfl⟩
   rw [hs8] at HAd ⊢;clear hs8;have hC:kO n s8=(s8.get 0).2.put 0 (IntKind.u32.wrap ((s8.get 0).1+n)):=rfl;obtain ⟨vc,sc,hc⟩:∃v s1,s8.get 0=(v,s1):=⟨_,_,rfl⟩
   have HGc:=zh (yK (b:=b) hc);rw [hC,hc];dsimp only;clear hC hc;have hU:=zh (show VS.U32 (IntKind.u32.wrap (vc+n)) by unfold VS.U32;rw [IntKind.wrap_u32];omega);obtain ⟨x,hx⟩:∃x,x=IntKind.u32.wrap (vc+n):=⟨_,rfl⟩
   rw [<-hx] at hU ⊢;have hx2:=hx.symm;clear hx;go_enter func167,ntmps167;go_wp2_with fail;refine zM (je hV (HAd.out _)) ?_;rintro w21 ⟨hY,hYl⟩;replace c0:=jc hYl zT c0;replace hV:=hY;clear hY hYl;go_wp2_with fail;refine zM (je hV (HGc.out _)) ?_;rintro w22 ⟨hY,hYl⟩;replace c0:=jc hYl zT c0;replace hV:=hY;clear hY hYl;go_wp2_with fail;refine zM (je hV (fun S1 h1=>jF _ _ _ _ _ _ h1 hU.out)) ?_;rintro w23 ⟨hY,hYl⟩;replace c0:=jc hYl zT c0;replace hV:=hY;clear hY hYl;go_wp2;go_end0;exact ⟨rfl,hV.done jj⟩
 ·have hz2:0 < q:=zo;have e0:jQ t p s q st=((st.get (ofF t p s (q - 1) 1)).1 - 1,(st.get (ofF t p s (q - 1) 1)).2):=if_neg hz;have hu:=VS.get_u32 hinv (ofF t p s (q - 1) 1);obtain ⟨v,s1,hg⟩:∃v s1,st.get (ofF t p s (q - 1) 1)=(v,s1):=⟨_,_,rfl⟩
  have HG:=zh (yK (b:=b) hg);rw [hg] at e0 hu;dsimp only at e0 hu;rw [e0] at hbk;dsimp only at hbk;obtain ⟨hu1,hu2⟩:=hu;have hwv:IntKind.i64.wrap v=v:=ju _ zo;have hwv1:IntKind.i64.wrap (v - 1)=v - 1:=ju _ zo;obtain ⟨vi,s2,hgi⟩:∃y s2,s1.get (ofF t p s (v - 1) 0)=(y,s2):=⟨_,_,rfl⟩
  have HI:=zh (KN (b:=b) hgi);have hbd:=kQ vi;have hfa:jB t p s (v - 1) s1=(JI vi,s2):=by unfold jB;rw [hgi]
  rw [hfa] at hbk;dsimp only at hbk;clear hfa e0 hg hinv hz;by_cases hk:iK vi=1
  ·have hv0:¬v - 1 < 0:=by
    intro hx;rw [jgg _ _ _ _ _ hx,jgY] at hgi;obtain ⟨rfl,-⟩:=Prod.mk.inj hgi;exact absurd hk zd
   rw [if_neg hv0,if_neg (by have:=hbd.2.2.1 hk;omega)] at hbk;rw [hk] at HI;clear hbd hk hgi;generalize iL vi=il at*
   generalize iC vi=ic at*
   have hj1:=YX t p s (v - 1) s2;have HD:=fun (w:World) (S1:Nat->Prop) (h1:RV w b S1 s2)=>QB b t p s (v - 1) w S1 s2 h1;have hjo:kU t p s (v - 1) q s2=((kD t p s (v - 1) s2).1,((kD t p s (v - 1) s2).2.put (ofF t p s q 0) 0).put (ofF t p s (q - 1) 1) 0):=rfl;obtain ⟨j1,s5,hj⟩:∃j s5,kD t p s (v - 1) s2=(j,s5):=⟨_,_,rfl⟩
   rw [hj] at hjo HD hj1;rw [hjo] at hbk;dsimp only at HD hj1 hbk;clear hjo hj;have HD1:=zh HD;clear HD;have hw4:IntKind.i64.wrap (n+j1)=n+j1:=ju _ zo;obtain ⟨s3,hs3⟩:∃x,(s5.put (ofF t p s q 0) 0).put (ofF t p s (q - 1) 1) 0=x:=⟨_,rfl⟩
   have HP3:=fun (w:World) (S1:Nat->Prop) (h1:RV w b S1 (s5.put (ofF t p s q 0) 0))=>jF b (ofF t p s (q - 1) 1) 0 w S1 _ h1 VS.u32_zero;rw [hs3] at HP3 hbk;clear hs3;have HQ3:=zh HP3;clear HP3;subst hbk;dsimp only;by_cases hr:q+n < p
   ·have hfo:kN t p s (q+n) (n+j1) s3=(if (jB t p s (q+n) s3).1=0 then (n+j1,(jB t p s (q+n) s3).2) else (n+j1+(kU t p s (q+n) (q+n) (jB t p s (q+n) s3).2).1,(kU t p s (q+n) (q+n) (jB t p s (q+n) s3).2).2)):=by unfold kN;rw [if_pos hr]
    rw [hfo];clear hfo;obtain ⟨v2,s4,hg2⟩:∃v s4,s3.get (ofF t p s (q+n) 0)=(v,s4):=⟨_,_,rfl⟩
    have HI2:=zh (KN (b:=b) hg2);have hbd2:=kQ v2;rw [show jB t p s (q+n) s3=(JI v2,s4) by unfold jB;rw [hg2]];dsimp only;clear hg2;by_cases hk2:iK v2=1
    ·rw [if_neg (by have:=hbd2.2.2.1 hk2;omega)];rw [hk2] at HI2;clear hbd2 hk2;generalize iL v2=il2 at*
     generalize iC v2=ic2 at*
     have hj2:=YX t p s (q+n) s4;have HD:=fun (w:World) (S1:Nat->Prop) (h1:RV w b S1 s4)=>QB b t p s (q+n) w S1 s4 h1;have hjo:kU t p s (q+n) (q+n) s4=((kD t p s (q+n) s4).1,((kD t p s (q+n) s4).2.put (ofF t p s (q+n) 0) 0).put (ofF t p s (q+n - 1) 1) 0):=rfl;obtain ⟨j2,s5,hj⟩:∃j s5,kD t p s (q+n) s4=(j,s5):=⟨_,_,rfl⟩
     rw [hj] at hjo HD hj2;rw [hjo];dsimp only at HD hj2 ⊢;clear hjo hj;have HD2:=zh HD;clear HD;have hw5:IntKind.i64.wrap (n+j1+j2)=n+j1+j2:=ju _ zo;obtain ⟨s7,hs7⟩:∃x,(s5.put (ofF t p s (q+n) 0) 0).put (ofF t p s (q+n - 1) 1) 0=x:=⟨_,rfl⟩
     have HP7:=fun (w:World) (S1:Nat->Prop) (h1:RV w b S1 (s5.put (ofF t p s (q+n) 0) 0))=>jF b (ofF t p s (q+n - 1) 1) 0 w S1 _ h1 VS.u32_zero;rw [hs7] at HP7 ⊢;clear hs7;have HQ7:=zh HP7;clear HP7;have HAd:=zh (fun (w:World) (S1:Nat->Prop) (h1:RV w b S1 s7)=>Jh b t p s (v - 1) (n+j1+j2) w S1 s7 h1 hp);obtain ⟨s8,hs8⟩:∃x,y8 t p s (v - 1) (n+j1+j2) s7=x:=⟨_,rfl⟩
     rw [hs8] at HAd ⊢;clear hs8;have hC:kO n s8=(s8.get 0).2.put 0 (IntKind.u32.wrap ((s8.get 0).1+n)):=rfl;obtain ⟨vc,sc,hc⟩:∃v s1,s8.get 0=(v,s1):=⟨_,_,rfl⟩
     have HGc:=zh (yK (b:=b) hc);rw [hC,hc];dsimp only;clear hC hc;have hU:=zh (show VS.U32 (IntKind.u32.wrap (vc+n)) by unfold VS.U32;rw [IntKind.wrap_u32];omega);obtain ⟨x,hx⟩:∃x,x=IntKind.u32.wrap (vc+n):=⟨_,rfl⟩
     rw [<-hx] at hU ⊢;have hx2:=hx.symm;clear hx;go_enter func167,ntmps167;go_wp2_with fail;refine zM (ji jj hV (qb _ _ _ _ _)) ?_;rintro w1 ⟨hY,hYl⟩;replace c0:=jc hYl zT c0;replace hV:=hY;clear hY hYl;go_wp2_with fail;refine zM (je hV (HG.out _)) ?_;rintro w2 ⟨hY,hYl⟩;replace c0:=jc hYl zT c0;replace hV:=hY;clear hY hYl;go_wp2_with fail;refine zM (je hV (HI.out _)) ?_;rintro w3 ⟨hY,hYl⟩;replace c0:=jc hYl zT c0;replace hV:=hY;clear hY hYl;replace c0:=jA (.cells #[.int .i64 1,.int .i64 il,.int .i64 ic] 130) (hV.ls _ zT).1 c0;replace hV:=hV.alloc jj (.cells #[.int .i64 1,.int .i64 il,.int .i64 ic] 130);go_wp2_with fail;refine zM (je hV (HD1.out _)) ?_;rintro w4 ⟨hY,hYl⟩;replace c0:=jc hYl zT c0;replace hV:=hY;clear hY hYl;go_wp2_with fail;refine zM (ji jj hV (qN _ _ _ _ _)) ?_;rintro w5 ⟨hY,hYl⟩;replace c0:=jc hYl zT c0;replace hV:=hY;clear hY hYl;go_wp2_with fail;refine zM (je hV (fun S1 h1=>jF _ _ _ _ _ _ h1 VS.u32_zero)) ?_;rintro w6 ⟨hY,hYl⟩;replace c0:=jc hYl zT c0;replace hV:=hY;clear hY hYl;go_wp2_with fail;refine zM (ji jj hV (qb _ _ _ _ _)) ?_;rintro w7 ⟨hY,hYl⟩;replace c0:=jc hYl zT c0;replace hV:=hY;clear hY hYl;go_wp2_with fail;refine zM (je hV (HQ3.out _)) ?_;rintro w8 ⟨hY,hYl⟩;replace c0:=jc hYl zT c0;replace hV:=hY;clear hY hYl;go_wp2_with fail;refine zM (je hV (HI2.out _)) ?_;rintro w11 ⟨hY,hYl⟩;replace c0:=jc hYl zT c0;replace hV:=hY;clear hY hYl;replace c0:=jA (.cells #[.int .i64 1,.int .i64 il2,.int .i64 ic2] 130) (hV.ls _ zT).1 c0;replace hV:=hV.alloc jj (.cells #[.int .i64 1,.int .i64 il2,.int .i64 ic2] 130);go_wp2_with fail;refine zM (je hV (HD2.out _)) ?_;rintro w12 ⟨hY,hYl⟩;replace c0:=jc hYl zT c0;replace hV:=hY;clear hY hYl;go_wp2_with fail;refine zM (ji jj hV (qN _ _ _ _ _)) ?_;rintro w13 ⟨hY,hYl⟩;replace c0:=jc hYl zT c0;replace hV:=hY;clear hY hYl;go_wp2_with fail;refine zM (je hV (fun S1 h1=>jF _ _ _ _ _ _ h1 VS.u32_zero)) ?_;rintro w14 ⟨hY,hYl⟩;replace c0:=jc hYl zT c0;replace hV:=hY;clear hY hYl;go_wp2_with fail;refine zM (ji jj hV (qb _ _ _ _ _)) ?_;rintro w15 ⟨hY,hYl⟩;replace c0:=jc hYl zT c0;replace hV:=hY;clear hY hYl;go_wp2_with fail;refine zM (je hV (HQ7.out _)) ?_;rintro w16 ⟨hY,hYl⟩;replace c0:=jc hYl zT c0;replace hV:=hY;clear hY hYl;go_wp2_with fail;refine zM (je hV (HAd.out _)) ?_;rintro w21 ⟨hY,hYl⟩;replace c0:=jc hYl zT c0;replace hV:=hY;clear hY hYl;go_wp2_with fail;refine zM (je hV (HGc.out _)) ?_;rintro w22 ⟨hY,hYl⟩;replace c0:=jc hYl zT c0;replace hV:=hY;clear hY hYl;go_wp2_with fail;refine zM (je hV (fun S1 h1=>jF _ _ _ _ _ _ h1 hU.out)) ?_;rintro w23 ⟨hY,hYl⟩;replace c0:=jc hYl zT c0;replace hV:=hY;clear hY hYl;go_wp2;go_end0;exact ⟨rfl,hV.done jj⟩
    ·rw [if_pos (hbd2.2.2.2 hk2)];dsimp only;clear hbd2;generalize iK v2=ik2 at*
     generalize iL v2=il2 at*
     generalize iC v2=ic2 at*
     have HAd:=zh (fun (w:World) (S1:Nat->Prop) (h1:RV w b S1 s4)=>Jh b t p s (v - 1) (n+j1) w S1 s4 h1 hp);obtain ⟨s8,hs8⟩:∃x,y8 t p s (v - 1) (n+j1) s4=x:=⟨_,rfl⟩
     rw [hs8] at HAd ⊢;clear hs8;have hC:kO n s8=(s8.get 0).2.put 0 (IntKind.u32.wrap ((s8.get 0).1+n)):=rfl;obtain ⟨vc,sc,hc⟩:∃v s1,s8.get 0=(v,s1):=⟨_,_,rfl⟩
     have HGc:=zh (yK (b:=b) hc);rw [hC,hc];dsimp only;clear hC hc;have hU:=zh (show VS.U32 (IntKind.u32.wrap (vc+n)) by unfold VS.U32;rw [IntKind.wrap_u32];omega);obtain ⟨x,hx⟩:∃x,x=IntKind.u32.wrap (vc+n):=⟨_,rfl⟩
     rw [<-hx] at hU ⊢;have hx2:=hx.symm;clear hx;go_enter func167,ntmps167;go_wp2_with fail;refine zM (ji jj hV (qb _ _ _ _ _)) ?_;rintro w1 ⟨hY,hYl⟩;replace c0:=jc hYl zT c0;replace hV:=hY;clear hY hYl;go_wp2_with fail;refine zM (je hV (HG.out _)) ?_;rintro w2 ⟨hY,hYl⟩;replace c0:=jc hYl zT c0;replace hV:=hY;clear hY hYl;go_wp2_with fail;refine zM (je hV (HI.out _)) ?_;rintro w3 ⟨hY,hYl⟩;replace c0:=jc hYl zT c0;replace hV:=hY;clear hY hYl;replace c0:=jA (.cells #[.int .i64 1,.int .i64 il,.int .i64 ic] 130) (hV.ls _ zT).1 c0;replace hV:=hV.alloc jj (.cells #[.int .i64 1,.int .i64 il,.int .i64 ic] 130);go_wp2_with fail;refine zM (je hV (HD1.out _)) ?_;rintro w4 ⟨hY,hYl⟩;replace c0:=jc hYl zT c0;replace hV:=hY;clear hY hYl;go_wp2_with fail;refine zM (ji jj hV (qN _ _ _ _ _)) ?_;rintro w5 ⟨hY,hYl⟩;replace c0:=jc hYl zT c0;replace hV:=hY;clear hY hYl;go_wp2_with fail;refine zM (je hV (fun S1 h1=>jF _ _ _ _ _ _ h1 VS.u32_zero)) ?_;rintro w6 ⟨hY,hYl⟩;replace c0:=jc hYl zT c0;replace hV:=hY;clear hY hYl;go_wp2_with fail;refine zM (ji jj hV (qb _ _ _ _ _)) ?_;rintro w7 ⟨hY,hYl⟩;replace c0:=jc hYl zT c0;replace hV:=hY;clear hY hYl;go_wp2_with fail;refine zM (je hV (HQ3.out _)) ?_;rintro w8 ⟨hY,hYl⟩;replace c0:=jc hYl zT c0;replace hV:=hY;clear hY hYl;go_wp2_with fail;refine zM (je hV (HI2.out _)) ?_;rintro w11 ⟨hY,hYl⟩;replace c0:=jc hYl zT c0;replace hV:=hY;clear hY hYl;replace c0:=jA (.cells #[.int .i64 ik2,.int .i64 il2,.int .i64 ic2] 130) (hV.ls _ zT).1 c0;replace hV:=hV.alloc jj (.cells #[.int .i64 ik2,.int .i64 il2,.int .i64 ic2] 130);go_wp2_with fail;refine zM (je hV (HAd.out _)) ?_;rintro w21 ⟨hY,hYl⟩;replace c0:=jc hYl zT c0;replace hV:=hY;clear hY hYl;go_wp2_with fail;refine zM (je hV (HGc.out _)) ?_;rintro w22 ⟨hY,hYl⟩;replace c0:=jc hYl zT c0;replace hV:=hY;clear hY hYl;go_wp2_with fail;refine zM (je hV (fun S1 h1=>jF _ _ _ _ _ _ h1 hU.out)) ?_;rintro w23 ⟨hY,hYl⟩;replace c0:=jc hYl zT c0;replace hV:=hY;clear hY hYl;go_wp2;go_end0;exact ⟨rfl,hV.done jj⟩
   ·have hfo:kN t p s (q+n) (n+j1) s3=(n+j1,s3):=by unfold kN;rw [if_neg hr]
    rw [hfo];clear hfo;dsimp only;have HAd:=zh (fun (w:World) (S1:Nat->Prop) (h1:RV w b S1 s3)=>Jh b t p s (v - 1) (n+j1) w S1 s3 h1 hp);obtain ⟨s8,hs8⟩:∃x,y8 t p s (v - 1) (n+j1) s3=x:=⟨_,rfl⟩
    rw [hs8] at HAd ⊢;clear hs8;have hC:kO n s8=(s8.get 0).2.put 0 (IntKind.u32.wrap ((s8.get 0).1+n)):=rfl;obtain ⟨vc,sc,hc⟩:∃v s1,s8.get 0=(v,s1):=⟨_,_,rfl⟩
    have HGc:=zh (yK (b:=b) hc);rw [hC,hc];dsimp only;clear hC hc;have hU:=zh (show VS.U32 (IntKind.u32.wrap (vc+n)) by unfold VS.U32;rw [IntKind.wrap_u32];omega);obtain ⟨x,hx⟩:∃x,x=IntKind.u32.wrap (vc+n):=⟨_,rfl⟩
    rw [<-hx] at hU ⊢;have hx2:=hx.symm;clear hx;go_enter func167,ntmps167;go_wp2_with fail;refine zM (ji jj hV (qb _ _ _ _ _)) ?_;rintro w1 ⟨hY,hYl⟩;replace c0:=jc hYl zT c0;replace hV:=hY;clear hY hYl;go_wp2_with fail;refine zM (je hV (HG.out _)) ?_;rintro w2 ⟨hY,hYl⟩;replace c0:=jc hYl zT c0;replace hV:=hY;clear hY hYl;go_wp2_with fail;refine zM (je hV (HI.out _)) ?_;rintro w3 ⟨hY,hYl⟩;replace c0:=jc hYl zT c0;replace hV:=hY;clear hY hYl;replace c0:=jA (.cells #[.int .i64 1,.int .i64 il,.int .i64 ic] 130) (hV.ls _ zT).1 c0;replace hV:=hV.alloc jj (.cells #[.int .i64 1,.int .i64 il,.int .i64 ic] 130);go_wp2_with fail;refine zM (je hV (HD1.out _)) ?_;rintro w4 ⟨hY,hYl⟩;replace c0:=jc hYl zT c0;replace hV:=hY;clear hY hYl;go_wp2_with fail;refine zM (ji jj hV (qN _ _ _ _ _)) ?_;rintro w5 ⟨hY,hYl⟩;replace c0:=jc hYl zT c0;replace hV:=hY;clear hY hYl;go_wp2_with fail;refine zM (je hV (fun S1 h1=>jF _ _ _ _ _ _ h1 VS.u32_zero)) ?_;rintro w6 ⟨hY,hYl⟩;replace c0:=jc hYl zT c0;replace hV:=hY;clear hY hYl;go_wp2_with fail;refine zM (ji jj hV (qb _ _ _ _ _)) ?_;rintro w7 ⟨hY,hYl⟩;replace c0:=jc hYl zT c0;replace hV:=hY;clear hY hYl;go_wp2_with fail;refine zM (je hV (HQ3.out _)) ?_;rintro w8 ⟨hY,hYl⟩;replace c0:=jc hYl zT c0;replace hV:=hY;clear hY hYl;go_wp2_with fail;refine zM (je hV (HAd.out _)) ?_;rintro w21 ⟨hY,hYl⟩;replace c0:=jc hYl zT c0;replace hV:=hY;clear hY hYl;go_wp2_with fail;refine zM (je hV (HGc.out _)) ?_;rintro w22 ⟨hY,hYl⟩;replace c0:=jc hYl zT c0;replace hV:=hY;clear hY hYl;go_wp2_with fail;refine zM (je hV (fun S1 h1=>jF _ _ _ _ _ _ h1 hU.out)) ?_;rintro w23 ⟨hY,hYl⟩;replace c0:=jc hYl zT c0;replace hV:=hY;clear hY hYl;go_wp2;go_end0;exact ⟨rfl,hV.done jj⟩
  ·have e2:bk=((q,n),s2):=by
    by_cases hx:v - 1 < 0
    ·rw [if_pos hx] at hbk;rw [jgg _ _ _ _ _ hx,jgY] at hgi;obtain ⟨-,rfl⟩:=Prod.mk.inj hgi;exact hbk
    ·rw [if_neg hx,if_pos (hbd.2.2.2 hk)] at hbk;exact hbk
   subst e2;dsimp only;clear hbk hbd hgi;generalize iK vi=ik at*
   generalize iL vi=il at*
   generalize iC vi=ic at*
   by_cases hr:q+n < p
   ·have hfo:kN t p s (q+n) (n) s2=(if (jB t p s (q+n) s2).1=0 then (n,(jB t p s (q+n) s2).2) else (n+(kU t p s (q+n) (q+n) (jB t p s (q+n) s2).2).1,(kU t p s (q+n) (q+n) (jB t p s (q+n) s2).2).2)):=by unfold kN;rw [if_pos hr]
    rw [hfo];clear hfo;obtain ⟨v2,s4,hg2⟩:∃v s4,s2.get (ofF t p s (q+n) 0)=(v,s4):=⟨_,_,rfl⟩
    have HI2:=zh (KN (b:=b) hg2);have hbd2:=kQ v2;rw [show jB t p s (q+n) s2=(JI v2,s4) by unfold jB;rw [hg2]];dsimp only;clear hg2;by_cases hk2:iK v2=1
    ·rw [if_neg (by have:=hbd2.2.2.1 hk2;omega)];rw [hk2] at HI2;clear hbd2 hk2;generalize iL v2=il2 at*
     generalize iC v2=ic2 at*
     have hj2:=YX t p s (q+n) s4;have HD:=fun (w:World) (S1:Nat->Prop) (h1:RV w b S1 s4)=>QB b t p s (q+n) w S1 s4 h1;have hjo:kU t p s (q+n) (q+n) s4=((kD t p s (q+n) s4).1,((kD t p s (q+n) s4).2.put (ofF t p s (q+n) 0) 0).put (ofF t p s (q+n - 1) 1) 0):=rfl;obtain ⟨j2,s5,hj⟩:∃j s5,kD t p s (q+n) s4=(j,s5):=⟨_,_,rfl⟩
     rw [hj] at hjo HD hj2;rw [hjo];dsimp only at HD hj2 ⊢;clear hjo hj;have HD2:=zh HD;clear HD;have hw5:IntKind.i64.wrap (n+j2)=n+j2:=ju _ zo;obtain ⟨s7,hs7⟩:∃x,(s5.put (ofF t p s (q+n) 0) 0).put (ofF t p s (q+n - 1) 1) 0=x:=⟨_,rfl⟩
     have HP7:=fun (w:World) (S1:Nat->Prop) (h1:RV w b S1 (s5.put (ofF t p s (q+n) 0) 0))=>jF b (ofF t p s (q+n - 1) 1) 0 w S1 _ h1 VS.u32_zero;rw [hs7] at HP7 ⊢;clear hs7;have HQ7:=zh HP7;clear HP7;have HAd:=zh (fun (w:World) (S1:Nat->Prop) (h1:RV w b S1 s7)=>Jh b t p s q (n+j2) w S1 s7 h1 hp);obtain ⟨s8,hs8⟩:∃x,y8 t p s q (n+j2) s7=x:=⟨_,rfl⟩
     rw [hs8] at HAd ⊢;clear hs8;have hC:kO n s8=(s8.get 0).2.put 0 (IntKind.u32.wrap ((s8.get 0).1+n)):=rfl;obtain ⟨vc,sc,hc⟩:∃v s1,s8.get 0=(v,s1):=⟨_,_,rfl⟩
     have HGc:=zh (yK (b:=b) hc);rw [hC,hc];dsimp only;clear hC hc;have hU:=zh (show VS.U32 (IntKind.u32.wrap (vc+n)) by unfold VS.U32;rw [IntKind.wrap_u32];omega);obtain ⟨x,hx⟩:∃x,x=IntKind.u32.wrap (vc+n):=⟨_,rfl⟩
     rw [<-hx] at hU ⊢;have hx2:=hx.symm;clear hx;go_enter func167,ntmps167;go_wp2_with fail;refine zM (ji jj hV (qb _ _ _ _ _)) ?_;rintro w1 ⟨hY,hYl⟩;replace c0:=jc hYl zT c0;replace hV:=hY;clear hY hYl;go_wp2_with fail;refine zM (je hV (HG.out _)) ?_;rintro w2 ⟨hY,hYl⟩;replace c0:=jc hYl zT c0;replace hV:=hY;clear hY hYl;go_wp2_with fail;refine zM (je hV (HI.out _)) ?_;rintro w3 ⟨hY,hYl⟩;replace c0:=jc hYl zT c0;replace hV:=hY;clear hY hYl;replace c0:=jA (.cells #[.int .i64 ik,.int .i64 il,.int .i64 ic] 130) (hV.ls _ zT).1 c0;replace hV:=hV.alloc jj (.cells #[.int .i64 ik,.int .i64 il,.int .i64 ic] 130);go_wp2_with fail;refine zM (je hV (HI2.out _)) ?_;rintro w11 ⟨hY,hYl⟩;replace c0:=jc hYl zT c0;replace hV:=hY;clear hY hYl;replace c0:=jA (.cells #[.int .i64 1,.int .i64 il2,.int .i64 ic2] 130) (hV.ls _ zT).1 c0;replace hV:=hV.alloc jj (.cells #[.int .i64 1,.int .i64 il2,.int .i64 ic2] 130);go_wp2_with fail;refine zM (je hV (HD2.out _)) ?_;rintro w12 ⟨hY,hYl⟩;replace c0:=jc hYl zT c0;replace hV:=hY;clear hY hYl;go_wp2_with fail;refine zM (ji jj hV (qN _ _ _ _ _)) ?_;rintro w13 ⟨hY,hYl⟩;replace c0:=jc hYl zT c0;replace hV:=hY;clear hY hYl;go_wp2_with fail;refine zM (je hV (fun S1 h1=>jF _ _ _ _ _ _ h1 VS.u32_zero)) ?_;rintro w14 ⟨hY,hYl⟩;replace c0:=jc hYl zT c0;replace hV:=hY;clear hY hYl;go_wp2_with fail;refine zM (ji jj hV (qb _ _ _ _ _)) ?_;rintro w15 ⟨hY,hYl⟩;replace c0:=jc hYl zT c0;replace hV:=hY;clear hY hYl;go_wp2_with fail;refine zM (je hV (HQ7.out _)) ?_;rintro w16 ⟨hY,hYl⟩;replace c0:=jc hYl zT c0;replace hV:=hY;clear hY hYl;go_wp2_with fail;refine zM (je hV (HAd.out _)) ?_;rintro w21 ⟨hY,hYl⟩;replace c0:=jc hYl zT c0;replace hV:=hY;clear hY hYl;go_wp2_with fail;refine zM (je hV (HGc.out _)) ?_;rintro w22 ⟨hY,hYl⟩;replace c0:=jc hYl zT c0;replace hV:=hY;clear hY hYl;go_wp2_with fail;refine zM (je hV (fun S1 h1=>jF _ _ _ _ _ _ h1 hU.out)) ?_;rintro w23 ⟨hY,hYl⟩;replace c0:=jc hYl zT c0;replace hV:=hY;clear hY hYl;go_wp2;go_end0;exact ⟨rfl,hV.done jj⟩
    ·rw [if_pos (hbd2.2.2.2 hk2)];dsimp only;clear hbd2;generalize iK v2=ik2 at*
     generalize iL v2=il2 at*
     generalize iC v2=ic2 at*
     have HAd:=zh (fun (w:World) (S1:Nat->Prop) (h1:RV w b S1 s4)=>Jh b t p s q (n) w S1 s4 h1 hp);obtain ⟨s8,hs8⟩:∃x,y8 t p s q (n) s4=x:=⟨_,rfl⟩
     rw [hs8] at HAd ⊢;clear hs8;have hC:kO n s8=(s8.get 0).2.put 0 (IntKind.u32.wrap ((s8.get 0).1+n)):=rfl;obtain ⟨vc,sc,hc⟩:∃v s1,s8.get 0=(v,s1):=⟨_,_,rfl⟩
     have HGc:=zh (yK (b:=b) hc);rw [hC,hc];dsimp only;clear hC hc;have hU:=zh (show VS.U32 (IntKind.u32.wrap (vc+n)) by unfold VS.U32;rw [IntKind.wrap_u32];omega);obtain ⟨x,hx⟩:∃x,x=IntKind.u32.wrap (vc+n):=⟨_,rfl⟩
     rw [<-hx] at hU ⊢;have hx2:=hx.symm;clear hx;go_enter func167,ntmps167;go_wp2_with fail;refine zM (ji jj hV (qb _ _ _ _ _)) ?_;rintro w1 ⟨hY,hYl⟩;replace c0:=jc hYl zT c0;replace hV:=hY;clear hY hYl;go_wp2_with fail;refine zM (je hV (HG.out _)) ?_;rintro w2 ⟨hY,hYl⟩;replace c0:=jc hYl zT c0;replace hV:=hY;clear hY hYl;go_wp2_with fail;refine zM (je hV (HI.out _)) ?_;rintro w3 ⟨hY,hYl⟩;replace c0:=jc hYl zT c0;replace hV:=hY;clear hY hYl;replace c0:=jA (.cells #[.int .i64 ik,.int .i64 il,.int .i64 ic] 130) (hV.ls _ zT).1 c0;replace hV:=hV.alloc jj (.cells #[.int .i64 ik,.int .i64 il,.int .i64 ic] 130);go_wp2_with fail;refine zM (je hV (HI2.out _)) ?_;rintro w11 ⟨hY,hYl⟩;replace c0:=jc hYl zT c0;replace hV:=hY;clear hY hYl;replace c0:=jA (.cells #[.int .i64 ik2,.int .i64 il2,.int .i64 ic2] 130) (hV.ls _ zT).1 c0;replace hV:=hV.alloc jj (.cells #[.int .i64 ik2,.int .i64 il2,.int .i64 ic2] 130);go_wp2_with fail;refine zM (je hV (HAd.out _)) ?_;rintro w21 ⟨hY,hYl⟩;replace c0:=jc hYl zT c0;replace hV:=hY;clear hY hYl;go_wp2_with fail;refine zM (je hV (HGc.out _)) ?_;rintro w22 ⟨hY,hYl⟩;replace c0:=jc hYl zT c0;replace hV:=hY;clear hY hYl;go_wp2_with fail;refine zM (je hV (fun S1 h1=>jF _ _ _ _ _ _ h1 hU.out)) ?_;rintro w23 ⟨hY,hYl⟩;replace c0:=jc hYl zT c0;replace hV:=hY;clear hY hYl;go_wp2;go_end0;exact ⟨rfl,hV.done jj⟩
   ·have hfo:kN t p s (q+n) (n) s2=(n,s2):=by unfold kN;rw [if_neg hr]
    rw [hfo];clear hfo;dsimp only;have HAd:=zh (fun (w:World) (S1:Nat->Prop) (h1:RV w b S1 s2)=>Jh b t p s q (n) w S1 s2 h1 hp);obtain ⟨s8,hs8⟩:∃x,y8 t p s q (n) s2=x:=⟨_,rfl⟩
    rw [hs8] at HAd ⊢;clear hs8;have hC:kO n s8=(s8.get 0).2.put 0 (IntKind.u32.wrap ((s8.get 0).1+n)):=rfl;obtain ⟨vc,sc,hc⟩:∃v s1,s8.get 0=(v,s1):=⟨_,_,rfl⟩
    have HGc:=zh (yK (b:=b) hc);rw [hC,hc];dsimp only;clear hC hc;have hU:=zh (show VS.U32 (IntKind.u32.wrap (vc+n)) by unfold VS.U32;rw [IntKind.wrap_u32];omega);obtain ⟨x,hx⟩:∃x,x=IntKind.u32.wrap (vc+n):=⟨_,rfl⟩
    rw [<-hx] at hU ⊢;have hx2:=hx.symm;clear hx;go_enter func167,ntmps167;go_wp2_with fail;refine zM (ji jj hV (qb _ _ _ _ _)) ?_;rintro w1 ⟨hY,hYl⟩;replace c0:=jc hYl zT c0;replace hV:=hY;clear hY hYl;go_wp2_with fail;refine zM (je hV (HG.out _)) ?_;rintro w2 ⟨hY,hYl⟩;replace c0:=jc hYl zT c0;replace hV:=hY;clear hY hYl;go_wp2_with fail;refine zM (je hV (HI.out _)) ?_;rintro w3 ⟨hY,hYl⟩;replace c0:=jc hYl zT c0;replace hV:=hY;clear hY hYl;replace c0:=jA (.cells #[.int .i64 ik,.int .i64 il,.int .i64 ic] 130) (hV.ls _ zT).1 c0;replace hV:=hV.alloc jj (.cells #[.int .i64 ik,.int .i64 il,.int .i64 ic] 130);go_wp2_with fail;refine zM (je hV (HAd.out _)) ?_;rintro w21 ⟨hY,hYl⟩;replace c0:=jc hYl zT c0;replace hV:=hY;clear hY hYl;go_wp2_with fail;refine zM (je hV (HGc.out _)) ?_;rintro w22 ⟨hY,hYl⟩;replace c0:=jc hYl zT c0;replace hV:=hY;clear hY hYl;go_wp2_with fail;refine zM (je hV (fun S1 h1=>jF _ _ _ _ _ _ h1 hU.out)) ?_;rintro w23 ⟨hY,hYl⟩;replace c0:=jc hYl zT c0;replace hV:=hY;clear hY hYl;go_wp2;go_end0;exact ⟨rfl,hV.done jj⟩

theorem jaS (k:Int) (w:World) (h0:0<=k) (h1:k<=8) :
 Calls prog 166 #[.int .i64 k] w (zW (.int .i64 (13+k)) w):=by
 have:=jaT k.toNat w zo;rw [show ((k.toNat:Nat):Int)=k by omega,show ((13+k.toNat:Nat):Int)=13+k by omega] at this;exact this
theorem jeO [AllF] (b:Nat) (t p s q:Int) (w:World) (S:Nat->Prop) (st:VS) (h:RV w b S st) (hq:jY p q=false) :
 Calls prog 113 #[.pointer (some ⟨b,0,none⟩),.agg #[.int .i64 t,.int .i64 p,.int .i64 s],.int .i64 q] w fun e w'=>e= .returned (.bool (jM t p s q st).1)/\Kj w b S (jM t p s q st).2 w':=by
 have hF:jM t p s q st=(false,st):=by unfold jM;rw [hq];rfl
 rw [hF];have hV:=(VSt.start jj h).alloc jj (.cells #[.int .i64 t,.int .i64 p,.int .i64 s] 23);clear hF h;by_cases h0:0<=q
 ·have h1:¬q < p:=by simpa [jY,h0] using hq
  clear hq;go_enter func113,ntmps113;go_wp2;go_ret;exact ⟨rfl,hV.done jj⟩
 ·clear hq;go_enter func113,ntmps113;go_wp2;go_ret;exact ⟨rfl,hV.done jj⟩
theorem jeP [AllF] (b:Nat) (t p s q:Int) (w:World) (S:Nat->Prop) (st:VS) (h:RV w b S st) (hp:p<=1024) :
 Calls prog 113 #[.pointer (some ⟨b,0,none⟩),.agg #[.int .i64 t,.int .i64 p,.int .i64 s],.int .i64 q] w fun e w'=>e= .returned (.bool (jM t p s q st).1)/\Kj w b S (jM t p s q st).2 w':=by
 cases hq:jY p q with
 | false=>exact jeO b t p s q w S st h hq
 | true=>
  have hV:=(VSt.start jj h).alloc jj (.cells #[.int .i64 t,.int .i64 p,.int .i64 s] 23);have c0:=jr w #[.int .i64 t,.int .i64 p,.int .i64 s] 23;have hF:jM t p s q st=(if iK (st.get (ofF t p s q 0)).1=3 then
   if ((st.get (ofF t p s q 0)).2.get (ofF t p s q 4)).1=(((st.get (ofF t p s q 0)).2.get (ofF t p s q 4)).2.get (ofF t p s q 5)).1 then (false,(((st.get (ofF t p s q 0)).2.get (ofF t p s q 4)).2.get (ofF t p s q 5)).2)
   else (true,if ((st.get (ofF t p s q 0)).2.get (ofF t p s q 4)).1=0 then jW t p s q 1 (if qM (((st.get (ofF t p s q 0)).2.get (ofF t p s q 4)).2.get (ofF t p s q 5)).1 (iC (st.get (ofF t p s q 0)).1)=true then ((((st.get (ofF t p s q 0)).2.get (ofF t p s q 4)).2.get (ofF t p s q 5)).2.put (ofF t p s q 5) ((st.get (ofF t p s q 0)).2.get (ofF t p s q 4)).1) else kY t p s (13+iC (st.get (ofF t p s q 0)).1) q ((((st.get (ofF t p s q 0)).2.get (ofF t p s q 4)).2.get (ofF t p s q 5)).2.put (ofF t p s q 5) ((st.get (ofF t p s q 0)).2.get (ofF t p s q 4)).1)) else if qM (((st.get (ofF t p s q 0)).2.get (ofF t p s q 4)).2.get (ofF t p s q 5)).1 (iC (st.get (ofF t p s q 0)).1)=true then qs t p s (13+iC (st.get (ofF t p s q 0)).1) q ((((st.get (ofF t p s q 0)).2.get (ofF t p s q 4)).2.get (ofF t p s q 5)).2.put (ofF t p s q 5) ((st.get (ofF t p s q 0)).2.get (ofF t p s q 4)).1) else ((((st.get (ofF t p s q 0)).2.get (ofF t p s q 4)).2.get (ofF t p s q 5)).2.put (ofF t p s q 5) ((st.get (ofF t p s q 0)).2.get (ofF t p s q 4)).1))
   else (false,(st.get (ofF t p s q 0)).2)):=by unfold jM;rw [if_pos hq]
  have hq2:0<=q/\q < p:=by simpa [jY] using hq
  obtain ⟨hq0,hq1⟩:=hq2;have i1:=(jj.inv h).get (ofF t p s q 0);have hbd:=ql (st.get (ofF t p s q 0)).1;have hk0:=hbd.2.2.2.2.1;have hk1:=hbd.2.2.2.2.2.1;obtain ⟨vi,s1,hg1⟩:∃v s1,st.get (ofF t p s q 0)=(v,s1):=⟨_,_,rfl⟩
  have G1:=zh (KN (b:=b) hg1);simp only [hg1] at i1 hk0 hk1 hF;have i2:=i1.get (ofF t p s q 4);have u2:=VS.get_u32 i1 (ofF t p s q 4);obtain ⟨vl,s2,hg2⟩:∃v s1',s1.get (ofF t p s q 4)=(v,s1'):=⟨_,_,rfl⟩
  have G2:=zh (yK (b:=b) hg2);simp only [hg2] at i2 u2 hF;have u3:=VS.get_u32 i2 (ofF t p s q 5);obtain ⟨vt,s3,hg3⟩:∃v s1',s2.get (ofF t p s q 5)=(v,s1'):=⟨_,_,rfl⟩
  have G3:=zh (yK (b:=b) hg3);simp only [hg3] at u3 hF;have HU2:=zh u2;have u30:=u3.1;clear hbd i1 i2 hg1 hg2 hg3 h hq u2 u3;generalize iL vi=li at*
  by_cases hk3:iK vi=3
  ·rw [if_pos hk3] at hF;rw [hk3] at G1;clear hk3;generalize iC vi=k at*
   by_cases hlt:vl=vt
   ·subst hlt;rw [if_pos rfl] at hF;rw [hF];clear hF;go_enter func113,ntmps113;go_wp2_with fail;refine zM (je hV (G1.out _)) ?_;rintro w1 ⟨hV1,hV1l⟩;have c1:=jc hV1l zT c0;clear hV1l;have hX:=hV1.alloc jj (.cells #[.int .i64 3,.int .i64 li,.int .i64 k] 130);have c2:=jA (.cells #[.int .i64 3,.int .i64 li,.int .i64 k] 130) (hV1.ls _ zT).1 c1;go_wp2_with fail;refine zM (ji jj hX (Jl _ _ _ _ _)) ?_;rintro w3 ⟨hV3,hV3l⟩;have c3:=jc hV3l zT c2;clear hV3l;go_wp2_with fail;refine zM (je hV3 (G2.out _)) ?_;rintro w4 ⟨hV4,hV4l⟩;have c4:=jc hV4l zT c3;clear hV4l;go_wp2_with fail;refine zM (ji jj hV4 (qU _ _ _ _ _)) ?_;rintro w5 ⟨hV5,hV5l⟩;have c5:=jc hV5l zT c4;clear hV5l;go_wp2_with fail;refine zM (je hV5 (G3.out _)) ?_;rintro w6 ⟨hV6,hV6l⟩;have c6:=jc hV6l zT c5;clear hV6l;go_wp2;go_ret;exact ⟨rfl,hV6.done jj⟩
   ·rw [if_neg hlt] at hF;rw [hF];clear hF;have HPut:=fun (w:World) (S1:Nat->Prop) (h1:RV w b S1 s3)=>jF b (ofF t p s q 5) vl w S1 s3 h1 HU2.out;obtain ⟨u,hu⟩:∃u,s3.put (ofF t p s q 5) vl=u:=⟨_,rfl⟩
    rw [hu] at HPut ⊢;clear hu;have HQ:=zh HPut;clear HPut;have HF:=fun w=>Vt vt k w u30;dsimp only;by_cases hl0:vl=0
    ·rw [if_pos hl0];have hl1:=hl0;clear hl0;cases hz:qM vt k with
     | true=>
      rw [hz] at HF;have HFu:=zh HF;rw [if_pos rfl];have HR:=zh (fun (w:World) (S1:Nat->Prop) (h1:RV w b S1 u)=>Yw b t p s q 1 w S1 u h1 hp hq0 zo zo zo);generalize jW t p s q 1 u=s9 at*
      clear HF hz;subst hl1;go_enter func113,ntmps113;go_wp2_with fail;refine zM (je hV (G1.out _)) ?_;rintro w1 ⟨hV1,hV1l⟩;have c1:=jc hV1l zT c0;clear hV1l;have hX:=hV1.alloc jj (.cells #[.int .i64 3,.int .i64 li,.int .i64 k] 130);have c2:=jA (.cells #[.int .i64 3,.int .i64 li,.int .i64 k] 130) (hV1.ls _ zT).1 c1;have d2:=jr w1 #[.int .i64 3,.int .i64 li,.int .i64 k] 130;go_wp2_with fail;refine zM (ji jj hX (Jl _ _ _ _ _)) ?_;rintro w3 ⟨hV3,hV3l⟩;have c3:=jc hV3l zT c2;have d3:=jc hV3l zT d2;clear hV3l;go_wp2_with fail;refine zM (je hV3 (G2.out _)) ?_;rintro w4 ⟨hV4,hV4l⟩;have c4:=jc hV4l zT c3;have d4:=jc hV4l zT d3;clear hV4l;go_wp2_with fail;refine zM (ji jj hV4 (qU _ _ _ _ _)) ?_;rintro w5 ⟨hV5,hV5l⟩;have c5:=jc hV5l zT c4;have d5:=jc hV5l zT d4;clear hV5l;go_wp2_with fail;refine zM (je hV5 (G3.out _)) ?_;rintro w6 ⟨hV6,hV6l⟩;have c6:=jc hV6l zT c5;have d6:=jc hV6l zT d5;clear hV6l;go_wp2_with fail;refine zM (ji jj hV6 (qU _ _ _ _ _)) ?_;rintro w7 ⟨hV7,hV7l⟩;have c7:=jc hV7l zT c6;have d7:=jc hV7l zT d6;clear hV7l;go_wp2_with fail;refine zM (je hV7 (HQ.out _)) ?_;rintro w8 ⟨hV8,hV8l⟩;have c8:=jc hV8l zT c7;have d8:=jc hV8l zT d7;clear hV8l;go_wp2_with fail;refine zM (ji jj hV8 (HFu.out _)) ?_;rintro w9 ⟨hV9,hV9l⟩;have c9:=jc hV9l zT c8;have d9:=jc hV9l zT d8;clear hV9l;go_wp2_with fail;refine zM (je hV9 (HR.out _)) ?_;rintro w10 ⟨hV10,hV10l⟩;have c10:=jc hV10l zT c9;clear hV10l;go_wp2;go_ret;exact ⟨rfl,hV10.done jj⟩
     | false=>
      rw [hz] at HF;have HFu:=zh HF;rw [if_neg zT];have HP:=zh (fun (w:World) (S1:Nat->Prop) (h1:RV w b S1 u)=>jaV b t p s (13+k) q w S1 u h1);have HR:=zh (fun (w:World) (S1:Nat->Prop) (h1:RV w b S1 (kY t p s (13+k) q u))=>Yw b t p s q 1 w S1 _ h1 hp hq0 zo zo zo);generalize kY t p s (13+k) q u=s8 at*
      generalize jW t p s q 1 s8=s9 at*
      clear HF hz;subst hl1;go_enter func113,ntmps113;go_wp2_with fail;refine zM (je hV (G1.out _)) ?_;rintro w1 ⟨hV1,hV1l⟩;have c1:=jc hV1l zT c0;clear hV1l;have hX:=hV1.alloc jj (.cells #[.int .i64 3,.int .i64 li,.int .i64 k] 130);have c2:=jA (.cells #[.int .i64 3,.int .i64 li,.int .i64 k] 130) (hV1.ls _ zT).1 c1;have d2:=jr w1 #[.int .i64 3,.int .i64 li,.int .i64 k] 130;go_wp2_with fail;refine zM (ji jj hX (Jl _ _ _ _ _)) ?_;rintro w3 ⟨hV3,hV3l⟩;have c3:=jc hV3l zT c2;have d3:=jc hV3l zT d2;clear hV3l;go_wp2_with fail;refine zM (je hV3 (G2.out _)) ?_;rintro w4 ⟨hV4,hV4l⟩;have c4:=jc hV4l zT c3;have d4:=jc hV4l zT d3;clear hV4l;go_wp2_with fail;refine zM (ji jj hV4 (qU _ _ _ _ _)) ?_;rintro w5 ⟨hV5,hV5l⟩;have c5:=jc hV5l zT c4;have d5:=jc hV5l zT d4;clear hV5l;go_wp2_with fail;refine zM (je hV5 (G3.out _)) ?_;rintro w6 ⟨hV6,hV6l⟩;have c6:=jc hV6l zT c5;have d6:=jc hV6l zT d5;clear hV6l;go_wp2_with fail;refine zM (ji jj hV6 (qU _ _ _ _ _)) ?_;rintro w7 ⟨hV7,hV7l⟩;have c7:=jc hV7l zT c6;have d7:=jc hV7l zT d6;clear hV7l;go_wp2_with fail;refine zM (je hV7 (HQ.out _)) ?_;rintro w8 ⟨hV8,hV8l⟩;have c8:=jc hV8l zT c7;have d8:=jc hV8l zT d7;clear hV8l;go_wp2_with fail;refine zM (ji jj hV8 (HFu.out _)) ?_;rintro w9 ⟨hV9,hV9l⟩;have c9:=jc hV9l zT c8;have d9:=jc hV9l zT d8;clear hV9l;go_wp2_with fail;have hV9d:=hV9.drew jj;refine jeJ (zP c9) (zP d9) fun hHeld=> ?_;refine wT 0 ?_;refine wY ?_;refine wR 4 fun K hK=> ?_;go_simp;refine zM (ji jj hV9d (jaS _ _ hk0 hk1)) ?_;rintro w11 ⟨hV11,hV11l⟩;have c11:=jc hV11l zT hHeld.1;have d11:=jc hV11l zT hHeld.2;clear hV11l;dsimp only;refine wK hK (⟨c11,d11⟩) fun hHeld=> ?_;clear hK K;refine wR 6 fun K hK=> ?_;go_simp;refine zM (je hV11 (HP.out _)) ?_;rintro w12 ⟨hV12,hV12l⟩;have c12:=jc hV12l zT c11;have d12:=jc hV12l zT d11;clear hV12l;dsimp only;refine wK hK (⟨c12,d12⟩) fun hHeld=> ?_;clear hK K;refine wD ?_;go_wp2_with fail;refine zM (je hV12 (HR.out _)) ?_;rintro w10 ⟨hV10,hV10l⟩;have c10:=jc hV10l zT c12;clear hV10l;go_wp2;go_ret;exact ⟨rfl,hV10.done jj⟩
    ·rw [if_neg hl0];cases hz:qM vt k with
     | true=>
      rw [hz] at HF;have HFu:=zh HF;rw [if_pos rfl];have HP:=zh (fun (w:World) (S1:Nat->Prop) (h1:RV w b S1 u)=>jaU b t p s (13+k) q w S1 u h1 hp);generalize qs t p s (13+k) q u=s9 at*
      clear HF hz;go_enter func113,ntmps113;go_wp2_with fail;refine zM (je hV (G1.out _)) ?_;rintro w1 ⟨hV1,hV1l⟩;have c1:=jc hV1l zT c0;clear hV1l;have hX:=hV1.alloc jj (.cells #[.int .i64 3,.int .i64 li,.int .i64 k] 130);have c2:=jA (.cells #[.int .i64 3,.int .i64 li,.int .i64 k] 130) (hV1.ls _ zT).1 c1;have d2:=jr w1 #[.int .i64 3,.int .i64 li,.int .i64 k] 130;go_wp2_with fail;refine zM (ji jj hX (Jl _ _ _ _ _)) ?_;rintro w3 ⟨hV3,hV3l⟩;have c3:=jc hV3l zT c2;have d3:=jc hV3l zT d2;clear hV3l;go_wp2_with fail;refine zM (je hV3 (G2.out _)) ?_;rintro w4 ⟨hV4,hV4l⟩;have c4:=jc hV4l zT c3;have d4:=jc hV4l zT d3;clear hV4l;go_wp2_with fail;refine zM (ji jj hV4 (qU _ _ _ _ _)) ?_;rintro w5 ⟨hV5,hV5l⟩;have c5:=jc hV5l zT c4;have d5:=jc hV5l zT d4;clear hV5l;go_wp2_with fail;refine zM (je hV5 (G3.out _)) ?_;rintro w6 ⟨hV6,hV6l⟩;have c6:=jc hV6l zT c5;have d6:=jc hV6l zT d5;clear hV6l;go_wp2_with fail;refine zM (ji jj hV6 (qU _ _ _ _ _)) ?_;rintro w7 ⟨hV7,hV7l⟩;have c7:=jc hV7l zT c6;have d7:=jc hV7l zT d6;clear hV7l;go_wp2_with fail;refine zM (je hV7 (HQ.out _)) ?_;rintro w8 ⟨hV8,hV8l⟩;have c8:=jc hV8l zT c7;have d8:=jc hV8l zT d7;clear hV8l;go_wp2_with fail;refine zM (ji jj hV8 (HFu.out _)) ?_;rintro w9 ⟨hV9,hV9l⟩;have c9:=jc hV9l zT c8;have d9:=jc hV9l zT d8;clear hV9l;go_wp2_with fail;have hV9d:=hV9.drew jj;refine jeJ (zP c9) (zP d9) fun hHeld=> ?_;refine wT 0 ?_;refine wY ?_;refine wR 4 fun K hK=> ?_;go_simp;refine zM (ji jj hV9d (jaS _ _ hk0 hk1)) ?_;rintro w11 ⟨hV11,hV11l⟩;have c11:=jc hV11l zT hHeld.1;have d11:=jc hV11l zT hHeld.2;clear hV11l;dsimp only;refine wK hK (⟨c11,d11⟩) fun hHeld=> ?_;clear hK K;refine wR 6 fun K hK=> ?_;go_simp;refine zM (je hV11 (HP.out _)) ?_;rintro w12 ⟨hV12,hV12l⟩;have c12:=jc hV12l zT c11;have d12:=jc hV12l zT d11;clear hV12l;dsimp only;refine wK hK (⟨c12,d12⟩) fun hHeld=> ?_;clear hK K;refine wD ?_;go_wp2;go_ret;exact ⟨rfl,hV12.done jj⟩
     | false=>
      rw [hz] at HF;have HFu:=zh HF;rw [if_neg zT];clear HF hz;go_enter func113,ntmps113;go_wp2_with fail;refine zM (je hV (G1.out _)) ?_;rintro w1 ⟨hV1,hV1l⟩;have c1:=jc hV1l zT c0;clear hV1l;have hX:=hV1.alloc jj (.cells #[.int .i64 3,.int .i64 li,.int .i64 k] 130);have c2:=jA (.cells #[.int .i64 3,.int .i64 li,.int .i64 k] 130) (hV1.ls _ zT).1 c1;have d2:=jr w1 #[.int .i64 3,.int .i64 li,.int .i64 k] 130;go_wp2_with fail;refine zM (ji jj hX (Jl _ _ _ _ _)) ?_;rintro w3 ⟨hV3,hV3l⟩;have c3:=jc hV3l zT c2;have d3:=jc hV3l zT d2;clear hV3l;go_wp2_with fail;refine zM (je hV3 (G2.out _)) ?_;rintro w4 ⟨hV4,hV4l⟩;have c4:=jc hV4l zT c3;have d4:=jc hV4l zT d3;clear hV4l;go_wp2_with fail;refine zM (ji jj hV4 (qU _ _ _ _ _)) ?_;rintro w5 ⟨hV5,hV5l⟩;have c5:=jc hV5l zT c4;have d5:=jc hV5l zT d4;clear hV5l;go_wp2_with fail;refine zM (je hV5 (G3.out _)) ?_;rintro w6 ⟨hV6,hV6l⟩;have c6:=jc hV6l zT c5;have d6:=jc hV6l zT d5;clear hV6l;go_wp2_with fail;refine zM (ji jj hV6 (qU _ _ _ _ _)) ?_;rintro w7 ⟨hV7,hV7l⟩;have c7:=jc hV7l zT c6;have d7:=jc hV7l zT d6;clear hV7l;go_wp2_with fail;refine zM (je hV7 (HQ.out _)) ?_;rintro w8 ⟨hV8,hV8l⟩;have c8:=jc hV8l zT c7;have d8:=jc hV8l zT d7;clear hV8l;go_wp2_with fail;refine zM (ji jj hV8 (HFu.out _)) ?_;rintro w9 ⟨hV9,hV9l⟩;have c9:=jc hV9l zT c8;have d9:=jc hV9l zT d8;clear hV9l;go_wp2;go_ret;exact ⟨rfl,hV9.done jj⟩
  ·rw [if_neg hk3] at hF;rw [hF];generalize iK vi=ki at*
   generalize iC vi=k at*
   clear hF;go_enter func113,ntmps113;go_wp2_with fail;refine zM (je hV (G1.out _)) ?_;rintro w1 ⟨hV1,hV1l⟩;have c1:=jc hV1l zT c0;clear hV1l;go_wp2;go_ret;exact ⟨rfl,(hV1.alloc jj _).done jj⟩
structure SxRel [AllF] (w:World) (b:Nat) (S:Nat->Prop) (t p s:Int) (st:VS) (k:Nat) (n i:Value) (wr:World):Prop where
 le:k<=p.toNat
 n:n= .int .i64 ((qq t p s k st).1:Nat)
 i:i= .int .i64 k
 v:VSt RV w b S [w.heap.size] (qq t p s k st).2 wr
 c:∀o:Nat,wr.cell? ⟨w.heap.size,o,none⟩=(#[.int .i64 t,.int .i64 p,.int .i64 s]:Array Value)[o]?
def SxRelE [AllF] (w:World) (b:Nat) (S:Nat->Prop) (t p s:Int) (st:VS) (n i:Value) (wr:World):Prop:=∃k,SxRel w b S t p s st k n i wr
theorem xall_any [AllF] (b:Nat) (t p s:Int) (w:World) (S:Nat->Prop) (st:VS) (h:RV w b S st) (hp:p<=1024) (hp0:0<=p) :
 Calls prog 65 #[.pointer (some ⟨b,0,none⟩),.agg #[.int .i64 t,.int .i64 p,.int .i64 s]] w fun e w'=>e= .returned (.int .i64 (qq t p s p.toNat st).1)/\Kj w b S (qq t p s p.toNat st).2 w':=by
 have hV:=(VSt.start jj h).alloc jj (.cells #[.int .i64 t,.int .i64 p,.int .i64 s] 23);have c0:=jr w #[.int .i64 t,.int .i64 p,.int .i64 s] 23;clear h;go_enter func65,ntmps65;go_wp2_with fail;go_loopw [5,6] (fun v5 v6 wr=>SxRelE w b S t p s st v5 v6 wr) (fun _ v6 _=>p.toNat - (intOf v6).toNat);case atStart=>exact ⟨0,Nat.zero_le _,rfl,rfl,hV,c0⟩
 case round=>
  obtain ⟨k,hk,rfl,rfl,hV1,c1⟩:=hrel;clear hV c0;have hN:=jff t p s st k;by_cases hlt:k < p.toNat
  ·have hkp:(k:Int) < p:=zo;have HP:=fun (w:World) (S1:Nat->Prop) (h1:RV w b S1 (qq t p s k st).2)=>jeP b t p s k w S1 _ h1 hp;have hs:qq t p s (k+1) st=((if (jM t p s k (qq t p s k st).2).1=true then (qq t p s k st).1+1 else (qq t p s k st).1),(jM t p s k (qq t p s k st).2).2):=rfl;have HK:=zh hs;clear hs;generalize hm:(qq t p s k st).1=m at*
   generalize hx:(qq t p s k st).2=x at*
   clear hm hx;obtain ⟨rb,y,hy⟩:∃rb y,jM t p s k x=(rb,y):=⟨_,_,rfl⟩
   rw [hy] at HP HK;dsimp only at HP HK;have HQ:=zh HP;clear HP hy;cases rb
   ·go_wp2_with fail;refine zM (je hV1 (HQ.out _)) ?_;rintro w2 ⟨hV2,hV2l⟩;have c2:=jc hV2l zT c1;clear hV2l;go_wp2_with fail;go_roundw;case rel=>exact ⟨k+1,zo,by rw [HK.out];simp,by go_num,by rw [HK.out];exact hV2,c2⟩
    case measure=>simp [intOf];omega
   ·have hw:IntKind.i64.wrap ((m:Int)+1)=(m:Int)+1:=ju _ zo;go_wp2_with fail;refine zM (je hV1 (HQ.out _)) ?_;rintro w2 ⟨hV2,hV2l⟩;have c2:=jc hV2l zT c1;clear hV2l;go_wp2_with fail;go_roundw;case rel=>exact ⟨k+1,zo,by rw [HK.out];simp,by go_num,by rw [HK.out];exact hV2,c2⟩
    case measure=>simp [intOf];omega
  ·have hke:k=p.toNat:=zo;subst hke;have hkp:((p.toNat:Nat):Int)=p:=zo;have HD:=zh (hV1.done jj);clear hV1 hlt hk;rw [hkp];go_wp2;go_ret;exact ⟨rfl,HD.out⟩

def Qr (s:VS):List Int:=(List.range s.n).map fun i=>match s.wr i with | some v=>v | none=>(s.known i).getD 0
def V11R (w:World) (vs:List Int) (N:Nat) (v3 v4:Value) (wr:World):Prop:=∃k:Nat,k<=N/\v4= .int .i64 k/\wr.ownsRow 0 44 1 v3 k (kV (vs.take k))/\(∀j,v3.ownBlock=some j->w.heap.size<=j)/\Below w.heap.size w wr
theorem jb9 [AllF] (hA:AllF.all=true) {w:World} {b:Nat} {S:Nat->Prop} {s:VS} (h:RV w b S s) :
 Calls prog 66 #[.pointer (some ⟨b,0,none⟩)] w (VlQ w (Qr s)):=by
 obtain ⟨kv,vv,iv,tv,rv,wv,all,hv⟩:=h;have hall:=hv.al;rw [hA] at hall;subst hall;have hsm:=hv.inv.small;have HLen:=zh (show (Qr s).length=s.n by simp [Qr]);have HVg:=zh (show∀k,k < s.n->(Qr s)[k]? =some (match s.wr k with | some v=>v | none=>(s.known k).getD 0) from fun k hk=>by simp [Qr,hk] <;> cases s.wr k <;> rfl);generalize Qr s=vs at*
 have q0:=hv.cell 0;have q8:=hv.cell 8;simp at q0 q8;have zb:=World.block_lt_of_cell? w _ q0;dsimp only at zb;obtain ⟨i0,hi0,hi1,hi2,hi3⟩:=info_parts jak;have HI:=zh (And.intro hi0 (And.intro hi1 (And.intro hi2 hi3)));have HV:=zh hv;have H0:=zh (fun (W:World) (hb:Below w.heap.size w W)=>And.intro ((hb.cell (p:=⟨b,0,none⟩) zb).trans q0) ((hb.cell (p:=⟨b,8,none⟩) zb).trans q8));have hat:V11R w vs s.n (.slice (some ⟨w.heap.size,0,none⟩) 0 0) (.int .i64 0) (w.alloc (.cells #[] 44)):=
  ⟨0,Nat.zero_le _,rfl,by simpa [kV] using yy w 44 1,fun j hj=>by simp [Value.ownBlock] at hj;omega,(Below.refl _ _).alloc (Nat.le_refl _) _⟩
 clear hv q0 q8 hi0 hi1 hi2 hi3;go_enter func66,ntmps66;go_wp2_with fail;go_loopw [3,4] (fun v3 v4 wr=>V11R w vs s.n v3 v4 wr) (fun _ v4 _=>s.n - (intOf v4).toNat);case atStart=>exact hat
 case round=>
  clear hat;obtain ⟨k,hk,rfl,hrow,hnew,hbel⟩:=hrel;obtain ⟨pa,pc,rfl⟩:=kg hrow;have HRow:=zh hrow;have HNew:=zh hnew;have HB:=zh hbel;obtain ⟨r0,r8⟩:=H0.out wr hbel;clear hrow hnew hbel;by_cases hlt:k < s.n
  ·have hkN:(k:Int) < s.n:=zo;have hv:=HV.out;obtain ⟨gi,ci,rfl⟩:=Joins.ownsRow_form hv.ir zo;obtain ⟨gt,ct,rfl⟩:=Joins.ownsRow_form hv.tr zo;obtain ⟨gv,cv',rfl⟩:=Joins.ownsRow_form hv.vr zo;have e2:=(HB.out.cell (p:=⟨b,2,none⟩) zb).trans (hv.cell 2);have e3:=(HB.out.cell (p:=⟨b,3,none⟩) zb).trans (hv.cell 3);have e4:=(HB.out.cell (p:=⟨b,4,none⟩) zb).trans (hv.cell 4);simp at e2 e3 e4;have qi:w.cell? ⟨gi,k,none⟩=some (isF s k):=by rw [hv.ir.cellAt k zo,kE _ hlt]
   have qt:w.cell? ⟨gt,k,none⟩=some (toF s k):=by rw [hv.tr.cellAt k zo,kE _ hlt]
   have qv:w.cell? ⟨gv,k,none⟩=some (valF s k):=by rw [hv.vr.cellAt k zo,kE _ hlt]
   have ei:=(HB.out.cell (World.block_lt_of_cell? w _ qi)).trans qi;have et:=(HB.out.cell (World.block_lt_of_cell? w _ qt)).trans qt;have ev:=(HB.out.cell (World.block_lt_of_cell? w _ qv)).trans qv;have hvk:=HVg.out k hlt;clear hv qi qt qv;have hend:∀y:Int,vs[k]? =some y->Hid (vs.take (k+1)=vs.take k++[y]):=fun y hy=>zh (by rw [List.take_add_one,hy];rfl);cases hw:s.wr k with
   | some y=>
    rw [hw] at hvk;have HTk:=hend y hvk;unfold isF at ei;unfold toF at et;rw [hw] at ei et;simp at ei et;clear hvk hend hw ev e2;go_wp2_with (at_builtin;go_must (refine jV rfl _ _ rfl 44 i0 (.int .u32 0) 1 4 underlying25 HI.out.1 HI.out.2.1 HI.out.2.2.1 HI.out.2.2.2 rfl zd (.slice pa k pc) k (kV (vs.take k)) rfl (HRow.out.alloc _) ⟨wr.heap.size,0,none⟩ 1 1 [.int .u32 y] rfl rfl (cell_one_new _ _ _) ?c1 ?c2 ?c3 ?_);go_must (case c1=>(simp [Value.oneCell']));go_must (case c2=>(unfold maxLen;omega));go_must (case c3=>(omega));go_must (intro v' w5 hown5 hg5 hnew5 hnil5);clear hnil5);have hown6:w5.ownsRow 0 44 1 v' (k+1) (kV (vs.take (k+1))):=by rw [HTk.out];simpa [kV] using hown5
    obtain ⟨g',cap',rfl⟩:=Joins.ownsRow_form hown6 zo;have bel5:Below w.heap.size w w5:=(HB.out.alloc HB.out.size _).grown hg5 (by have:=HB.out.size;simp;omega) (fun j hj=>HNew.out j hj);have hfar5:∀j,(Value.slice (some ⟨g',0,none⟩) (k+1) cap').ownBlock=some j->w.heap.size<=j:=fun j hj=>by
     rcases hnew5 j hj with h | h
     ·exact HNew.out j h
     ·have:=HB.out.size;simp at h;omega
    go_wp2;go_roundw;case rel=>exact ⟨k+1,zo,by go_num,hown6,hfar5,bel5⟩
    case measure=>simp [intOf];omega
   | none=>
    rw [hw] at hvk;have HTk:=hend _ hvk;unfold isF at ei;unfold valF at ev;rw [hw] at ei;simp at ei;generalize (s.known k).getD 0=y at*
    clear hvk hend hw et e4;go_wp2_with (at_builtin;go_must (refine jV rfl _ _ rfl 44 i0 (.int .u32 0) 1 4 underlying25 HI.out.1 HI.out.2.1 HI.out.2.2.1 HI.out.2.2.2 rfl zd (.slice pa k pc) k (kV (vs.take k)) rfl (HRow.out.alloc _) ⟨wr.heap.size,0,none⟩ 1 1 [.int .u32 y] rfl rfl (cell_one_new _ _ _) ?c1 ?c2 ?c3 ?_);go_must (case c1=>(simp [Value.oneCell']));go_must (case c2=>(unfold maxLen;omega));go_must (case c3=>(omega));go_must (intro v' w5 hown5 hg5 hnew5 hnil5);clear hnil5);have hown6:w5.ownsRow 0 44 1 v' (k+1) (kV (vs.take (k+1))):=by rw [HTk.out];simpa [kV] using hown5
    obtain ⟨g',cap',rfl⟩:=Joins.ownsRow_form hown6 zo;have bel5:Below w.heap.size w w5:=(HB.out.alloc HB.out.size _).grown hg5 (by have:=HB.out.size;simp;omega) (fun j hj=>HNew.out j hj);have hfar5:∀j,(Value.slice (some ⟨g',0,none⟩) (k+1) cap').ownBlock=some j->w.heap.size<=j:=fun j hj=>by
     rcases hnew5 j hj with h | h
     ·exact HNew.out j h
     ·have:=HB.out.size;simp at h;omega
    go_wp2;go_roundw;case rel=>exact ⟨k+1,zo,by go_num,hown6,hfar5,bel5⟩
    case measure=>simp [intOf];omega
  ·have e:k=s.n:=zo;subst e;have hL:=HLen.out;have ht:vs.take s.n=vs:=List.take_of_length_le zo;rw [ht] at HRow;go_wp2;go_ret;exact ⟨_,rfl,by rw [hL];exact HRow.out,HNew.out,HB.out⟩
end Go.Proofs.YtcnininelndjoaaGreat

