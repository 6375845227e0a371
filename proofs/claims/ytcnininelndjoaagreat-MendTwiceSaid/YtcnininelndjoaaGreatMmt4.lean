/- parts of the proof, merged by a program. -/
import Derived.Test.YtcnininelndjoaaGreatMmt2
import Derived.Test.YtcnininelndjoaaGreatMmt3
set_option linter.unusedSimpArgs false
set_option linter.unusedVariables false
set_option maxRecDepth 100000
set_option maxHeartbeats 4000000
namespace Go.Proofs.YtcnininelndjoaaGreat
open Go.Proofs.Tryz
open Go.RowKit

def SetQ (w:World) (r:Option (List Int)) (e:Ending) (w':World):Prop:=match r with
 | none=>e= .returned (.tuple #[.slice none 0 0,.bool false])/\Below w.heap.size w w'
 | some vs=>∃v,e= .returned (.tuple #[v,.bool true])/\w'.ownsRow 0 44 1 v vs.length (yL vs)/\(∀k,v.ownBlock=some k->w.heap.size<=k)/\Below w.heap.size w w'
section
variable {w:World} {t p s:Int} {ad:Addr} {n:Nat} {ws:List Int}
theorem last_bd (hu:∀v∈ws,U64 v) {st u:Int} {l:Option (List (Int×Int))} (h:qS t p ws=some (st,u,l)):(0<=st/\st < 4294967296)/\(0<=u/\u<=t)/\∀k,l=some k->∀x∈k,0<=x.1/\x.1 < jk t p/\0<=x.2/\x.2 < 4294967296:=by
 unfold qS at h;cases ht:KC (ws.getD 8 0) with
 | none=>rw [ht] at h;cases h
 | some q=>
  obtain ⟨a,b⟩:=q;rw [ht] at h;dsimp only at h;have hb:(0<=a/\a < 4294967296)/\0<=b:=by
   unfold KC at ht;split at ht
   ·simp only [Option.some.injEq,Prod.mk.injEq] at ht;obtain ⟨rfl,rfl⟩:=ht;exact ⟨Qt (yE hu 8),(KZ _).1⟩
   ·cases ht
  split at h
  ·split at h
   ·split at h
    ·obtain ⟨y,hy,he⟩:=Option.map_eq_some_iff.1 h;simp only [Prod.mk.injEq] at he;obtain ⟨rfl,rfl,rfl⟩:=he;refine ⟨hb.1,⟨hb.2,by assumption⟩,fun k hk=> ?_⟩;cases hk;unfold VV at hy;split at hy
     ·obtain ⟨z,hz,rfl⟩:=Option.map_eq_some_iff.1 hy;exact (JC (fun v hv=>hu v (List.mem_of_mem_drop (List.mem_of_mem_take hv))) hz).2
     ·cases hy
    ·simp only [Option.some.injEq,Prod.mk.injEq] at h;obtain ⟨rfl,rfl,rfl⟩:=h;exact ⟨hb.1,⟨hb.2,by assumption⟩,fun k hk=>by cases hk⟩
   ·cases h
  ·cases h
end

section
variable {w:World} {t p s:Int} {ad:Addr} {n:Nat} {ws:List Int}
theorem JN (hr:jq t p s=true) (a:Option Addr) (n c:Nat) (w:World) :
 Calls prog 159 #[.agg #[.int .i64 t,.int .i64 p,.int .i64 s],.slice a n c] w (zW (.bool (decide ((n:Int)=qa t p))) w):=by
 have HW:=zh (fun w=>JM t p s w hr);have hN:=jI hr;have ht:=jn hr;have hpos:0 < qa t p:=zo;clear hN hr;generalize qa t p=N at*
 have hb:((n:Int) == N)=decide ((n:Int)=N):=rfl;by_cases h0:n=0
 ·subst h0;rw [show decide (((0:Nat):Int)=N)=false by simp;omega];clear hb;go_enter func159,ntmps159;go_wp2;go_ret;exact ⟨rfl,(Below.refl _ _).alloc (Nat.le_refl _) _⟩
 ·rw [<-hb];have hn0:(0:Int) < n:=zo;clear hb h0;go_enter func159,ntmps159;go_wp2_with fail;refine zM (HW.out _) fun w1 ha=> ?_;obtain ⟨hac,haf⟩:=jB ha;have haz0:w.heap.size < w1.heap.size:=zL ha;go_wp2;go_ret;refine ⟨rfl,?_⟩;exact zR
theorem rwords0 (hr:jq t p s=false) (w:World) :
 Calls prog 74 #[.agg #[.int .i64 t,.int .i64 p,.int .i64 s]] w (zW (.int .i64 0) w):=by
 have HC:=zh (fun w=>qF t p s w);rw [hr] at HC;clear hr;go_enter func74,ntmps74;go_wp2_with fail;refine zM (HC.out _) fun w1 ha=> ?_;obtain ⟨hac,haf⟩:=jB ha;go_wp2;go_ret;refine ⟨rfl,?_⟩;exact zR
theorem YU (hr:jq t p s=false) (a:Option Addr) (n c:Nat) (w:World) :
 Calls prog 159 #[.agg #[.int .i64 t,.int .i64 p,.int .i64 s],.slice a n c] w (zW (.bool false) w):=by
 have HW:=zh (fun w=>rwords0 hr w);clear hr;by_cases h0:n=0
 ·subst h0;go_enter func159,ntmps159;go_wp2;go_ret;exact ⟨rfl,(Below.refl _ _).alloc (Nat.le_refl _) _⟩
 ·have hn0:(0:Int) < n:=zo;have hnb:((n:Int) == 0)=false:=by simp;omega
  clear h0;go_enter func159,ntmps159;go_wp2_with fail;refine zM (HW.out _) fun w1 ha=> ?_;obtain ⟨hac,haf⟩:=jB ha;have haz0:w.heap.size < w1.heap.size:=zL ha;go_wp2;go_ret;refine ⟨rfl,?_⟩;exact zR
structure RlR (W1:World) (N:Int) (xs:List Int) (res:Option (List (Int×Int))) (nb M:Nat) (st:Int) (op:Bool) (v11 v12:Value) (wr:World) (k:Nat) (out:List (Int×Int)):Prop where
 le:k<=M
 eq:v12= .int .i64 k
 ol:out.length=k
 row:wr.ownsRow 0 106 2 v11 out.length (yP out)
 bs:BS W1 (nb :: v11.ownBlock.toList) wr
 nt:∀o:Nat,wr.cell? ⟨nb,o,none⟩=(#[.int .u32 st,.bool op,.int .i64 M]:Array Value)[o]?
 res:(kh N (xs.drop k)).map (out++·)=res
 far:∀j,v11.ownBlock=some j->nb < j
def RlRel (W1:World) (N:Int) (xs:List Int) (res:Option (List (Int×Int))) (nb M:Nat) (st:Int) (op:Bool) (v11 v12:Value) (wr:World):Prop:=∃k out,RlR W1 N xs res nb M st op v11 v12 wr k out
theorem jd6 (h:WX w t p s ad n ws) (c:Nat) (u st m:Int) (op:Bool) (h1:0<=u) (h2:u<=t) (hn:qo (ws.getD (jo t p u).toNat 0)=some (st,op,m)) :
 Calls prog 160 #[.agg #[.int .i64 t,.int .i64 p,.int .i64 s],.slice (some ad) n c,.int .i64 u] w (LogQ w st m op (kh (jk t p) ((ws.drop (jJ t p u 0).toNat).take m.toNat))):=by
 have bd:=h.bd;have hr:=h.right;obtain ⟨-,m0,m1,-,-⟩:=Jc (yE h.u64 _) hn;obtain ⟨M,rfl⟩:∃M:Nat,m=M:=⟨m.toNat,zo⟩
 obtain ⟨F,hF⟩:∃F:Nat,jJ t p u 0=F:=⟨(jJ t p u 0).toNat,by unfold jJ;omega⟩
 obtain ⟨K,hK⟩:∃K:Nat,jo t p u=K:=⟨(jo t p u).toNat,by unfold jo;omega⟩
 have hFn:F+M<=n:=by unfold jJ at hF;omega
 have hKn:K < n:=by unfold jo at hK;omega
 have hlen:=h.len;have hxl:((ws.drop F).take M).length=M:=by simp;omega
 have hxg:∀k,k < M->((ws.drop F).take M).getD k 0=ws.getD (F+k) 0:=fun k hk=>by
  simp [List.getD_eq_getElem?_getD,List.getElem?_take,hk,List.getElem?_drop]
 have HR:=zh (fun w=>JN hr (some ad) n c w);rw [show decide ((n:Int)=qa t p)=true by simpa using h.num] at HR;have HN:=zh (fun w=>Ky hr u w h1 h2);have HLg:=zh (fun (k j:Nat) (hj:F+k=j) (hk:k < M) w=>by
  have:=jcE hr u k w h1 h2 zo zo;rw [show jJ t p u k=(j:Int) by unfold jJ at hF ⊢;omega] at this;exact this)
 rw [hK] at HN hn;rw [Int.toNat_natCast] at hn;have HO:=zh (fun w=>J9 _ st (M:Int) op w (yE h.u64 K) hn);have HK:=zh (show∀W,Below w.heap.size w W->W.cell? (ad.add K)=some (.int .u64 (ws.getD K 0)) from fun W hb=>h.at hb hKn);have HJ:=zh (show∀k j,F+k=j->k < M->∀W,Below w.heap.size w W->W.cell? (ad.add j)=some (.int .u64 (((ws.drop F).take M).getD k 0)) from fun k j hj hk W hb=>by
  rw [hxg k hk,hj];exact h.at hb zo)
 rw [hF,Int.toNat_natCast,Int.toNat_natCast];have HC:=zh (fun w=>ym t p s w);rw [show qb t p s=jk t p by simp [qb,hr]] at HC;have hu:∀v∈(ws.drop F).take M,U64 v:=fun v hv=>h.u64 v (List.mem_of_mem_drop (List.mem_of_mem_take hv));generalize jk t p=N at*
 generalize (ws.drop F).take M=xs at*
 have HL:=zh hxl;have HU:=zh (yE hu);obtain ⟨res,hres⟩:∃res,kh N xs=res:=⟨_,rfl⟩
 rw [hres];have HR0:=zh hres;generalize ws.getD K 0=x0 at*
 obtain ⟨i0,hi0,hi1,hi2,hi3⟩:=info_parts infoPr;have HI:=zh (And.intro hi0 (And.intro hi1 (And.intro hi2 hi3)));have c1:=jC (.cells #[.int .u32 0,.bool false,.int .i64 0] 149) zT (jr w #[.int .i64 t,.int .i64 p,.int .i64 s] 23);have d1:=jr (w.alloc (.cells #[.int .i64 t,.int .i64 p,.int .i64 s] 23)) #[.int .u32 0,.bool false,.int .i64 0] 149;simp only [World.size_alloc] at d1;have S1:=BS.start ((w.alloc (.cells #[.int .i64 t,.int .i64 p,.int .i64 s] 23)).alloc (.cells #[.int .u32 0,.bool false,.int .i64 0] 149));have HB1:=zh (show∀W,Below ((w.alloc (.cells #[.int .i64 t,.int .i64 p,.int .i64 s] 23)).alloc (.cells #[.int .u32 0,.bool false,.int .i64 0] 149)).heap.size ((w.alloc (.cells #[.int .i64 t,.int .i64 p,.int .i64 s] 23)).alloc (.cells #[.int .u32 0,.bool false,.int .i64 0] 149)) W->Below w.heap.size w W from fun W hb=>(((Below.refl _ w).alloc (Nat.le_refl _) _).alloc zT _).trans (hb.mono (by simp;omega)));have hKi:(K:Int) < n:=zo;have hut:¬t < u:=zo;clear hn h hr hF hK hlen hxl hxg hKn hres hu hi0 hi1 hi2 hi3;go_enter func160,ntmps160;go_wp2_with fail;refine zM (jv S1 (HR.out _)) ?_;rintro w1 ⟨S2,-⟩;have c2:=S2.oldbox c1 (by simp;omega);go_wp2_with fail;refine zM (jv S2 (HN.out _)) ?_;rintro w3 ⟨S4,-⟩;have k4:=HK.out _ (HB1.out _ S4.bel);clear S1 c2;go_wp2_with fail;refine zM (jv S4 (HO.out _)) ?_;rintro w4 ⟨S5,-⟩;have e5:=jC (.cells #[] 106) zT (jr w4 #[.int .u32 st,.bool op,.int .i64 M] 149);have S6:=(S5.alloc (.cells #[.int .u32 st,.bool op,.int .i64 M] 149)).alloc (.cells #[] 106);have r6:=yq (w4.alloc (.cells #[.int .u32 st,.bool op,.int .i64 M] 149)) 106 2;simp only [World.size_alloc] at r6 S6;have hA:RlRel ((w.alloc (.cells #[.int .i64 t,.int .i64 p,.int .i64 s] 23)).alloc (.cells #[.int .u32 0,.bool false,.int .i64 0] 149)) N xs res w4.heap.size M st op (.slice (some ⟨w4.heap.size+1,0,none⟩) 0 0) (.int .i64 0) ((w4.alloc (.cells #[.int .u32 st,.bool op,.int .i64 M] 149)).alloc (.cells #[] 106)):=
  ⟨0,[],zo,rfl,rfl,r6,S6.sub _ (by simp [Value.ownBlock]),e5,by rw [<-HR0.out];simp,by simp [Value.ownBlock]⟩
 clear S2 S4 S5 k4 e5 S6 r6 HO HN HR HK HR0;go_wp2;go_loopw [11,12,13,14] (fun v11 v12 _ _ wr=>RlRel ((w.alloc (.cells #[.int .i64 t,.int .i64 p,.int .i64 s] 23)).alloc (.cells #[.int .u32 0,.bool false,.int .i64 0] 149)) N xs res w4.heap.size M st op v11 v12 wr) (fun _ v12 _ _ _=>M - (intOf v12).toNat);case atStart=>exact hA
 case round=>
  clear hA;obtain ⟨k,out,hk,rfl,hol,hrow,hbs,hnt,hrs,hfar⟩:=hrel;obtain ⟨pa,pc,rfl⟩:=Ji hrow;have HB:=zh hbs;have HS:=zh hrs;have HF:=zh hfar;have HRow:=zh hrow;have HOL:=zh hol;have HNt:=zh hnt;have n2:=hnt 2;simp at n2;have cc:=hbs.oldbox c1 (by simp;omega);clear hbs hrs hrow hol hnt hfar;by_cases hlt:k < M
  ·have hkM:(k:Int) < M:=zo;obtain ⟨j,hj⟩:∃j,F+k=j:=⟨_,rfl⟩
   have hjn:(j:Int) < n:=zo;have hxu:=HU.out k;have HD:=zh (drop_at (l:=xs) (k:=k) (by rw [HL.out];exact hlt));have HJk:=zh (HJ.out k j hj hlt);generalize xs.getD k 0=x at*
   cases hx:qj x with
   | none=>
    have HE:=zh (fun w=>jeb x w hxu hx);have hnone:res=none:=by rw [<-HS.out,HD.out];simp [kh,hx]
    subst hnone;clear hx hxu;go_wp2_with fail;refine zM (jv HB.out (HLg.out k j hj hlt _)) ?_;rintro w5 ⟨S5,-⟩;have cj:=HJk.out _ (HB1.out _ S5.bel);go_wp2_with fail;refine zM (jv S5 (HE.out _)) ?_;rintro w6 ⟨S6,-⟩;have S7:=S6.alloc (.cells #[.int .i64 0,.int .u32 0] 106);have d7:=jr w6 #[.int .i64 0,.int .u32 0] 106;clear cj S5;go_wp2_with fail;refine wHn2 (zP d7) (zP (S7.oldbox c1 (by simp;omega))) fun hHeld=> ?_;refine wT 0 ?_;refine wY ?_;refine wD ?_;have k3:=S7.drew.oldbox d1 zT;have r0:=k3 0;have r1:=k3 1;have r2:=k3 2;have f0:=S7.drew.bel.frozen (p:=⟨w.heap.size+1,0,none⟩) zT;have f1:=S7.drew.bel.frozen (p:=⟨w.heap.size+1,1,none⟩) zT;have f2:=S7.drew.bel.frozen (p:=⟨w.heap.size+1,2,none⟩) zT;simp at r0 r1 r2 f0 f1 f2;have gb:=HB1.out _ S7.drew.bel;have gz:=S7.drew.bel.size;simp at gz;clear k3;go_wp2;exact bodyPost_ret (v:= .tuple #[.agg #[.int .u32 0,.bool false,.int .i64 0],.slice none 0 0,.bool false]) (by simp [results,results160,go_sem, *]) rfl ⟨rfl,((gb.setCell (p:=⟨w.heap.size+1,0,none⟩) zT _).setCell (p:=⟨w.heap.size+1,1,none⟩) zT _).setCell (p:=⟨w.heap.size+1,2,none⟩) zT _⟩
   | some q=>
    obtain ⟨qc,qv⟩:=q;have HE:=zh (fun w=>jcF x qc qv w hxu hx);have hEn:kh N (xs.drop k)=if qc < N then (kh N (xs.drop (k+1))).map ((qc,qv) :: ·) else none:=by rw [HD.out];simp [kh,hx]
    have HEn:=zh hEn;clear hx hxu hEn;go_wp2_with fail;refine zM (jv HB.out (HLg.out k j hj hlt _)) ?_;rintro w5 ⟨S5,S5l⟩;have cj:=HJk.out _ (HB1.out _ S5.bel);have n5:=jc S5l zT HNt.out;have R5:=kg S5l (fun k hk=>by simp [hk]) HRow.out;clear n2 S5l;go_wp2_with fail;refine zM (jv S5 (HE.out _)) ?_;rintro w6 ⟨S6,S6l⟩;have S7:=S6.alloc (.cells #[.int .i64 qc,.int .u32 qv] 106);have d7:=jr w6 #[.int .i64 qc,.int .u32 qv] 106;have n7:=jC (.cells #[.int .i64 qc,.int .u32 qv] 106) (S6.ls w4.heap.size zT).1 (jc S6l zT n5);have R7:=jh (w':=(w6.alloc (.cells #[.int .i64 qc,.int .u32 qv] 106)).drew) ((kg S6l (fun k hk=>by simp [hk]) R5).alloc (.cells #[.int .i64 qc,.int .u32 qv] 106)) (fun _ _=>rfl);clear cj n5 R5 S6l S5;by_cases hcN:qc < N
    ·have hS2:(kh N (xs.drop (k+1))).map ((out++[(qc,qv)])++·)=res:=by
      rw [<-HS.out,HEn.out,if_pos hcN,Option.map_map];congr 1;funext z;simp
     have HS2:=zh hS2;clear hS2 HS HEn;go_wp2_with fail;refine wHn3 (zP d7) (zP (S7.oldbox c1 (by simp;omega))) (zP n7) fun hHeld=> ?_;refine wT 0 ?_;refine wY ?_;refine wR 6 fun K hK=> ?_;go_simp;refine zM (jv S7.drew (HC.out _)) ?_;rintro w8 ⟨S8,S8l⟩;have d8:=jc S8l zT hHeld.1;have n8:=jc S8l zT hHeld.2.2;have R8:=kg S8l (fun k hk=>by simp [hk]) R7;have k8:=And.intro d8 (And.intro (S8.oldbox c1 (by simp;omega)) n8);refine wK hK (k8) fun hHeld=> ?_;clear hK K;refine wY ?_;refine wD ?_;have d80:=d8 0;have d81:=d8 1;simp at d80 d81;have HR8:=zh R8;have HS8:=zh S8;have HN8:=zh n8;have hz1:=(S8.ls w6.heap.size zT).1;clear R8 S8 n8 d8 R7 S7 d7 n7 hHeld HRow HB HNt k8 S8l S6;go_wp2_with (at_builtin;go_must (refine km rfl _ _ rfl 106 i0 (.agg #[.int .i64 0,.int .u32 0]) 2 16 underlying45 HI.out.1 HI.out.2.1 HI.out.2.2.1 HI.out.2.2.2 rfl zd (.slice pa out.length pc) out.length (yP out) rfl (HR8.out.alloc _) ⟨w8.heap.size,0,none⟩ 1 1 [.int .i64 qc,.int .u32 qv] rfl rfl (YE _ _ _ _ _ rfl) ?c1 ?c2 ?c3 ?_);go_must (case c1=>(simp [Value.oneCell']));go_must (case c2=>(have:=HOL.out;unfold maxLen;omega));go_must (case c3=>(have:=HOL.out;omega));go_must (intro v' w9 hown5 hg5 hnew5 hnil5);clear hnil5);have hown6:w9.ownsRow 0 106 2 v' (out++[(qc,qv)]).length (yP (out++[(qc,qv)])):=by rw [X8,List.length_append];exact hown5
     obtain ⟨g',cap',rfl⟩:=Joins.ownsRow_form hown6 zT;have S9:=(HS8.out.sub (w4.heap.size :: (Value.slice pa out.length pc).ownBlock.toList) (fun L hL=>List.mem_cons_of_mem _ hL)).append hg5 hnew5 hown6;have n9:=qh hg5 (by have:=(HS8.out.ls w4.heap.size zT).1;simp;omega) (fun e=>by have:=HF.out _ e;omega) (jC (.cells #[.int .i64 qc,.int .u32 qv] 106) (HS8.out.ls w4.heap.size zT).1 HN8.out);have hfar9:∀j,(Value.slice (some ⟨g',0,none⟩) (out++[(qc,qv)]).length cap').ownBlock=some j->w4.heap.size < j:=fun j hj=>by
      rcases hnew5 j (by simpa [Value.ownBlock] using hj) with h | h
      ·exact HF.out j h
      ·have:=(HS8.out.ls w4.heap.size zT).1;simp at h;omega
     go_wp2;go_roundw;case rel=>exact ⟨k+1,out++[(qc,qv)],zo,by go_num,by simp [HOL.out],hown6,S9,n9,HS2.out,hfar9⟩
     case measure=>simp [intOf];omega
    ·have hnone:res=none:=by rw [<-HS.out,HEn.out,if_neg hcN];rfl
     subst hnone;go_wp2_with fail;refine wHn2 (zP d7) (zP (S7.oldbox c1 (by simp;omega))) fun hHeld=> ?_;refine wT 0 ?_;refine wY ?_;refine wR 6 fun K hK=> ?_;go_simp;refine zM (jv S7.drew (HC.out _)) ?_;rintro w8 ⟨S8,S8l⟩;have d8:=jc S8l zT hHeld.1;have k8:=And.intro d8 (S8.oldbox c1 (by simp;omega));refine wK hK (k8) fun hHeld=> ?_;clear hK K;refine wY ?_;refine wD ?_;have k3:=S8.oldbox d1 zT;have r0:=k3 0;have r1:=k3 1;have r2:=k3 2;have f0:=S8.bel.frozen (p:=⟨w.heap.size+1,0,none⟩) zT;have f1:=S8.bel.frozen (p:=⟨w.heap.size+1,1,none⟩) zT;have f2:=S8.bel.frozen (p:=⟨w.heap.size+1,2,none⟩) zT;simp at r0 r1 r2 f0 f1 f2;have gb:=HB1.out _ S8.bel;have gz:=S8.bel.size;simp at gz;clear k3 d8 k8 S8l n7 R7 d7;go_wp2;exact bodyPost_ret (v:= .tuple #[.agg #[.int .u32 0,.bool false,.int .i64 0],.slice none 0 0,.bool false]) (by simp [results,results160,go_sem, *]) rfl ⟨rfl,((gb.setCell (p:=⟨w.heap.size+1,0,none⟩) zT _).setCell (p:=⟨w.heap.size+1,1,none⟩) zT _).setCell (p:=⟨w.heap.size+1,2,none⟩) zT _⟩
  ·have hkm:k=M:=zo;subst hkm;have hres:res=some out:=by
    rw [<-HS.out,List.drop_of_length_le (by rw [HL.out];omega)];simp [kh]
   subst hres;have n0:=HNt.out 0;have n1:=HNt.out 1;simp at n0 n1;have k3:=HB.out.oldbox d1 zT;have r0:=k3 0;have r1:=k3 1;have r2:=k3 2;have f0:=HB.out.bel.frozen (p:=⟨w.heap.size+1,0,none⟩) zT;have f1:=HB.out.bel.frozen (p:=⟨w.heap.size+1,1,none⟩) zT;have f2:=HB.out.bel.frozen (p:=⟨w.heap.size+1,2,none⟩) zT;simp at r0 r1 r2 f0 f1 f2;have gb:=HB1.out _ HB.out.bel;have gz:=HB.out.bel.size;simp at gz;clear k3;go_wp2;have hne:(Value.slice pa out.length pc).ownBlock≠some (w.heap.size+1):=fun hk=>by
    have h9:=(HB.out.ls (w.heap.size+1) (by simp [hk])).2;simp at h9;omega
   refine bodyPost_ret (v:= .tuple #[.agg #[.int .u32 st,.bool op,.int .i64 k],.slice pa out.length pc,.bool true]) (by simp [results,results160,go_sem, *]) rfl ⟨_,rfl,VK (VK (VK HRow.out hne) hne) hne,fun j hj=> ?_,((gb.setCell (p:=⟨w.heap.size+1,0,none⟩) zT _).setCell (p:=⟨w.heap.size+1,1,none⟩) zT _).setCell (p:=⟨w.heap.size+1,2,none⟩) zT _⟩;have h9:=(HB.out.ls j (by simp [hj])).2;simp at h9;omega
end

def LastQ (w:World) (r:Option (Int×Int×Option (List (Int×Int)))) (e:Ending) (w':World):Prop:=match r with
 | none=>∃a b,e= .returned (.tuple #[.int .u32 a,.int .i64 b,.slice none 0 0,.bool false])/\Below w.heap.size w w'
 | some (s,u,l)=>∃v,e= .returned (.tuple #[.int .u32 s,.int .i64 u,v,.bool true])/\w'.ownsRow 0 106 2 v (l.getD []).length (yP (l.getD []))/\(∀k,v.ownBlock=some k->w.heap.size<=k)/\Below w.heap.size w w'
section
variable {w:World} {t p s:Int} {ad:Addr} {n:Nat} {ws:List Int}
theorem rlast_no (a:Option Addr) (n c:Nat) (w:World) (h:jq t p s=false\/(n:Int)≠qa t p) :
 Calls prog 110 #[.agg #[.int .i64 t,.int .i64 p,.int .i64 s],.slice a n c] w (LastQ w none):=by
 have HR:Hid (∀w,Calls prog 159 #[.agg #[.int .i64 t,.int .i64 p,.int .i64 s],.slice a n c] w (zW (.bool false) w)):=zh (fun w=>by
  cases hr:jq t p s
  ·exact YU hr a n c w
  ·have:=JN hr a n c w;rwa [show decide ((n:Int)=qa t p)=false by
    rcases h with h | h
    ·rw [hr] at h;cases h
    ·simpa using h] at this)
 clear h;go_enter func110,ntmps110;go_wp2_with fail;refine zM (HR.out _) fun w1 b1=> ?_;obtain ⟨b1c,b1f⟩:=jB b1;go_wp2;refine bodyPost_ret (v:= .tuple #[.int .u32 0,.int .i64 0,.slice none 0 0,.bool false]) (by simp [results,results110,go_sem]) rfl ⟨0,0,rfl,YK ((Below.refl _ w).alloc (Nat.le_refl _) _) b1⟩
theorem jd8 (h:WX w t p s ad n ws) (c:Nat) :
 Calls prog 110 #[.agg #[.int .i64 t,.int .i64 p,.int .i64 s],.slice (some ad) n c] w (LastQ w (qS t p ws)):=by
 have bd:=h.bd;have hr:=h.right;have HR:=zh (fun w=>JN hr (some ad) n c w);rw [show decide ((n:Int)=qa t p)=true by simpa using h.num] at HR;have hcell:∀k,k < n->∀W,Below w.heap.size w W->W.cell? (ad.add k)=some (.int .u64 (ws.getD k 0)):=fun k hk W hb=>h.at hb hk;have HW:=zh hcell;have H8:=zh (show∀W,Below w.heap.size w W->W.cell? ⟨ad.block,ad.off+8,none⟩=some (.int .u64 (ws.getD 8 0)) from fun W hb=>by
  have:=hcell 8 zo W hb;rwa [show ad.add 8=⟨ad.block,ad.off+8,none⟩ by simp [Addr.add]] at this)
 have HH:=zh h;have hu:=yE h.u64;have HUx:=zh hu;have hn8:(8:Int) < n:=zo;have c0:=jr w #[.int .i64 t,.int .i64 p,.int .i64 s] 23;have S0:=((BS.start w).alloc (.cells #[.int .i64 t,.int .i64 p,.int .i64 s] 23))
 obtain ⟨res,hres⟩:∃res,qS t p ws=res:=⟨_,rfl⟩
 rw [hres];unfold qS at hres;cases ht:KC (ws.getD 8 0) with
 | none=>
  have HT:=zh (fun w=>rotip_no _ w (hu 8) ht);rw [ht] at hres;subst hres;clear hcell h hu ht;generalize ws.getD 8 0=x at*
  go_enter func110,ntmps110;go_wp2_with fail;refine zM (jv S0 (HR.out _)) ?_;rintro w1 ⟨S1,S1l⟩;have c1:=jc S1l zT c0;clear S1l;have e8:=H8.out _ S1.bel;go_wp2_with fail;refine zM (jv S1 (HT.out _)) ?_;rintro w2 ⟨S2,S2l⟩;have c2:=jc S2l zT c1;clear S2l;go_wp2;refine bodyPost_ret (v:= .tuple #[.int .u32 0,.int .i64 0,.slice none 0 0,.bool false]) (by simp [results,results110,go_sem]) rfl ⟨0,0,rfl,S2.bel⟩
 | some q=>
  obtain ⟨st,u⟩:=q;have hub:0<=u/\u<=16:=by
   unfold KC at ht;split at ht
   ·simp only [Option.some.injEq,Prod.mk.injEq] at ht;obtain ⟨-,rfl⟩:=ht;have:=KZ (ws.getD 8 0);exact ⟨this.1,by assumption⟩
   ·cases ht
  have HT:=zh (fun w=>XD _ st u w (hu 8) ht);rw [ht] at hres;dsimp only at hres;generalize ws.getD 8 0=x at*
  by_cases hut:u<=t
  ·rw [if_pos hut] at hres;have HC:=zh (fun w=>ym t p s w);obtain ⟨N,hN⟩:∃N:Nat,jk t p=N:=⟨(jk t p).toNat,zo⟩
   rw [show qb t p s=jk t p by simp [qb,hr],hN] at HC;have HSt:=zh (fun k w=>Jx (ws.getD k 0) w (hu k));have hNn:16+N<=n:=zo;rw [hN,Int.toNat_natCast] at hres;have HNote:=zh (fun w=>Ky hr u w hub.1 hut);obtain ⟨K,hK⟩:∃K:Nat,jo t p u=K:=⟨(jo t p u).toNat,by unfold jo;omega⟩
   have hKn:K < n:=by unfold jo at hK;omega
   have HKx:=zh (hu K);rw [hK] at HNote hres;rw [Int.toNat_natCast] at hres;have HRes2:=zh hres;have hKi:(K:Int) < n:=zo;have HKN:=zh hK;have hut2:¬t < u:=zo;clear hres hcell h hu ht hN hK;go_enter func110,ntmps110;go_wp2_with fail;refine zM (jv S0 (HR.out _)) ?_;rintro w1 ⟨S1,S1l⟩;have c1:=jc S1l zT c0;clear S1l;have e8:=H8.out _ S1.bel;go_wp2_with fail;refine zM (jv S1 (HT.out _)) ?_;rintro w2 ⟨S2,S2l⟩;have c2:=jc S2l zT c1;clear S2l;have hA:SlwRel w t p s ws st N (.int .i64 0) w2:=⟨0,zo,rfl,by intro j hj;omega,c2,S2⟩
   clear S0 S1 S2 c0 c1 e8;go_wp2;go_loopw [11] (fun v wr=>SlwRel w t p s ws st N v wr) (fun v _=>N - (intOf v).toNat);case atStart=>exact hA
   case round=>
    clear hA c2;obtain ⟨k,hk,rfl,hall,cb,Sb⟩:=hrel;have HAl:=zh hall;clear hall;go_wp2_with fail;refine zM (jv Sb (HC.out _)) ?_;rintro w5 ⟨S5,S5l⟩;have c5:=jc S5l zT cb;clear S5l;by_cases hlt:k < N
    ·have hki:(k:Int) < N:=zo;obtain ⟨j,hj⟩:∃j:Nat,16+k=j:=⟨_,rfl⟩
     have hjn:(j:Int) < n:=zo;have hwj:IntKind.i64.wrap (16+(k:Int))=(j:Int):=by rw [show (16:Int)+k=(j:Int) by omega];exact jD _ zo
     have hwj2:(16+(k:Int))=(j:Int):=zo;have ej:=HW.out j zo _ S5.bel;have hjx:hiW (ws.getD (16+k) 0)=hiW (ws.getD j 0):=by rw [hj]
     have HJK:=zh hj;have HJX:=zh hjx;clear hj hjx;go_wp2_with fail;refine zM (jv S5 (HSt.out j _)) ?_;rintro w6 ⟨S6,S6l⟩;have c6:=jc S6l zT c5;clear S6l hwj hwj2;by_cases hs:hiW (ws.getD j 0)<=st
     ·have HHs:=zh hs;generalize hiW (ws.getD j 0)=y at*
      go_wp2;go_roundw;case rel=>
       refine ⟨k+1,zo,by go_num,fun i hi=> ?_,c6,S6⟩;by_cases e:i=k
       ·subst e;rw [HJX.out];exact HHs.out
       ·exact HAl.out i zo
      case measure=>simp [intOf];omega
     ·have hno:kW ws st N=false:=by
       cases e:kW ws st N
       ·rfl
       ·exact absurd (Vd.1 e k hlt) (by rw [HJX.out];exact hs)
      have hres:=HRes2.out;rw [hno] at hres;simp at hres;subst hres;clear hno;generalize hiW (ws.getD j 0)=y at*
      go_wp2;refine bodyPost_ret (v:= .tuple #[.int .u32 0,.int .i64 0,.slice none 0 0,.bool false]) (by simp [results,results110,go_sem]) rfl ⟨0,0,rfl,S6.bel⟩
    ·have hkN:k=N:=zo;subst hkN;have hres:=HRes2.out;rw [Vd.2 HAl.out,if_pos rfl] at hres;clear HAl HRes2;cases ho:qg (ws.getD K 0) st with
     | none=>
      rw [ho] at hres;dsimp only at hres;subst hres;have HO:=zh (fun w=>ropen_no _ st w HKx.out ho);clear ho;go_wp2_with fail;refine zM (jv S5 (HNote.out _)) ?_;rintro w6 ⟨S6,S6l⟩;have c6:=jc S6l zT c5;clear S6l;have ej:=HW.out K hKn _ S6.bel;go_wp2_with fail;refine zM (jv S6 (HO.out _)) ?_;rintro w7 ⟨S7,S7l⟩;have c7:=jc S7l zT c6;clear S7l;go_wp2;refine bodyPost_ret (v:= .tuple #[.int .u32 st,.int .i64 u,.slice none 0 0,.bool true]) (by simp [results,results110,go_sem]) rfl ⟨_,rfl,World.ownsRow_nil _ _ _ _,by simp [Value.ownBlock],S7.bel⟩
     | some m=>
      have HO:=zh (fun w=>jd3 _ st m w HKx.out ho);have hno:=jcW ho;rw [ho] at hres;dsimp only at hres;unfold VV at hres;rw [HKN.out,Int.toNat_natCast,hno] at hres;dsimp only at hres;rw [Option.map_map] at hres;obtain ⟨er,her⟩:∃er,kh (jk t p) ((ws.drop (jJ t p u 0).toNat).take m.toNat)=er:=⟨_,rfl⟩
      have HLog:=zh (fun W (hb:Below w.heap.size w W)=>(by
       have:=jd6 (HH.out.keep hb) c u st m true hub.1 hut (by rw [HKN.out,Int.toNat_natCast];exact hno);rwa [her] at this:Calls prog 160 #[.agg #[.int .i64 t,.int .i64 p,.int .i64 s],.slice (some ad) n c,.int .i64 u] W (LogQ W st m true er)))
      rw [her] at hres;clear ho hno her;go_wp2_with fail;refine zM (jv S5 (HNote.out _)) ?_;rintro w6 ⟨S6,S6l⟩;have c6:=jc S6l zT c5;clear S6l;have ej:=HW.out K hKn _ S6.bel;go_wp2_with fail;refine zM (jv S6 (HO.out _)) ?_;rintro w7 ⟨S7,S7l⟩;have c7:=jc S7l zT c6;clear S7l;go_wp2_with fail;refine (HLog.out _ S7.bel).mono ?_;cases er with
      | none=>
       simp only [Option.map_none] at hres;subst hres;rintro e w8 ⟨rfl,b8⟩;have S8:=S7.below b8;go_wp2;refine bodyPost_ret (v:= .tuple #[.int .u32 st,.int .i64 u,.slice none 0 0,.bool false]) (by simp [results,results110,go_sem]) rfl ⟨_,_,rfl,S8.bel.alloc S8.bel.size _⟩
      | some l=>
       simp only [Option.map_some,Function.comp] at hres;subst hres;rintro e w8 ⟨v8,rfl,o8,f8,b8⟩;have S8:=S7.below b8;obtain ⟨a8,c8,rfl⟩:=Ji o8;go_wp2;refine bodyPost_ret (v:= .tuple #[.int .u32 st,.int .i64 u,.slice a8 l.length c8,.bool true]) (by simp [results,results110,go_sem]) rfl ⟨_,rfl,o8.alloc _,fun j hj=> ?_,S8.bel.alloc S8.bel.size _⟩;have:=f8 j hj;have:=S7.bel.size;omega
  ·rw [if_neg hut] at hres;subst hres;have hut2:t < u:=zo;clear hcell h hu ht;go_enter func110,ntmps110;go_wp2_with fail;refine zM (jv S0 (HR.out _)) ?_;rintro w1 ⟨S1,S1l⟩;have c1:=jc S1l zT c0;clear S1l;have e8:=H8.out _ S1.bel;go_wp2_with fail;refine zM (jv S1 (HT.out _)) ?_;rintro w2 ⟨S2,S2l⟩;have c2:=jc S2l zT c1;clear S2l;go_wp2;refine bodyPost_ret (v:= .tuple #[.int .u32 0,.int .i64 0,.slice none 0 0,.bool false]) (by simp [results,results110,go_sem]) rfl ⟨0,0,rfl,S2.bel⟩
end

theorem jbA (s:Int) (l:Option (List (Int×Int))) (ws:List Int):yn s l ws=jV s (l.getD []) ws:=by cases l <;> rfl
def TidyQ (w:World) (n N:Nat) (r:Option (List Int)) (e:Ending) (w':World):Prop:=match r with
 | none=>e= .returned (.tuple #[.slice none 0 0,.bool false])/\Below w.heap.size w w'
 | some vs=>∃g cap ws',e= .returned (.tuple #[.slice (some ⟨g,0,none⟩) n cap,.bool true])/\w'.ownsRow 0 38 1 (.slice (some ⟨g,0,none⟩) n cap) n (jW ws')/\ws'.length=n/\(∀v∈ws',U64 v)/\qY N ws'=vs/\w.heap.size<=g/\Below w.heap.size w w'
def TtRel (w:World) (t p s:Int) (ws:List Int) (st:Int) (n:Nat) (l:List (Int×Int)) (g cap:Nat) (rv:Value) (v:Value) (wr:World):Prop:=
 ∃k:Nat,k<=l.length/\v= .int .i64 k/\wr.ownsRow 0 38 1 (.slice (some ⟨g,0,none⟩) n cap) n (jW (jV st (l.take k) ws))/\wr.ownsRow 0 106 2 rv l.length (yP l)/\(∀o:Nat,wr.cell? ⟨w.heap.size,o,none⟩=(#[.int .i64 t,.int .i64 p,.int .i64 s]:Array Value)[o]?)/\BS w (g :: w.heap.size :: rv.ownBlock.toList) wr
theorem YG {W:World} {g L o:Nat} {x:Value} (h:L≠g) (k:Nat) (v:Value) (hc:W.cell? ⟨L,o,none⟩=some x):(W.setCell ⟨g,k,none⟩ v).cell? ⟨L,o,none⟩=some x:=(World.cell?_of_block (a:=⟨L,o,none⟩) (jg h)).trans hc
theorem YF {W:World} {g L o:Nat} {x:Option Value} (h:L≠g) (k:Nat) (v:Value) (hc:W.cell? ⟨L,o,none⟩=x):(W.setCell ⟨g,k,none⟩ v).cell? ⟨L,o,none⟩=x:=(World.cell?_of_block (a:=⟨L,o,none⟩) (jg h)).trans hc
section
variable {w:World} {t p s:Int} {ad:Addr} {n:Nat} {ws:List Int}
theorem jdZ (h:WX w t p s ad n ws) (c:Nat) :
 Calls prog 61 #[.agg #[.int .i64 t,.int .i64 p,.int .i64 s],.slice (some ad) n c] w (TidyQ w n (jk t p).toNat (kw t p s ws)):=by
 have bd:=h.bd;have hr:=h.right;have HLa:=zh (fun W (hb:Below w.heap.size w W)=>jd8 (h.keep hb) c);have hF:kw t p s ws=(qS t p ws).map fun x=>qY (jk t p).toNat (yn x.1 x.2.2 ws):=by
  unfold kw KQ;rw [hr,h.len,show decide ((n:Int)=qa t p)=true by simpa using h.num];rfl
 rw [hF];have c0:=jr w #[.int .i64 t,.int .i64 p,.int .i64 s] 23;have S0:=((BS.start w).alloc (.cells #[.int .i64 t,.int .i64 p,.int .i64 s] 23))
 have hlb:=fun st u l (hl:qS t p ws=some (st,u,l))=>last_bd h.u64 hl;obtain ⟨lr,hlr⟩:∃lr,qS t p ws=lr:=⟨_,rfl⟩
 rw [hlr] at HLa ⊢;cases lr with
 | none=>
  simp only [Option.map_none];clear h hF hlr hlb hr;go_enter func61,ntmps61;go_wp2_with fail;refine (HLa.out _ S0.bel).mono ?_;rintro e w1 ⟨x1,x2,rfl,b1⟩;go_wp2;refine bodyPost_ret (v:= .tuple #[.slice none 0 0,.bool false]) (by simp [results,results61,go_sem]) rfl ⟨rfl,(S0.below b1).bel⟩
 | some q=>
  obtain ⟨st,u,l⟩:=q;obtain ⟨hsb,hub,hlx⟩:=hlb st u l hlr;simp only [Option.map_some];rw [jbA];have hbx:∀x∈l.getD [],0<=x.1/\x.1 < jk t p/\0<=x.2/\x.2 < 4294967296:=by
   cases l with
   | none=>intro x hx;cases hx
   | some k=>exact hlx k rfl
  have hll:(l.getD []).length<=96:=by
   cases l with
   | none=>simp
   | some k=>
    unfold qS at hlr;revert hlr;cases KC (ws.getD 8 0) with
    | none=>intro h;cases h
    | some q=>
     dsimp only;split
     ·split
      ·split
       ·intro hlr;obtain ⟨y,hy,he⟩:=Option.map_eq_some_iff.1 hlr;simp only [Prod.mk.injEq,Option.some.injEq] at he;obtain ⟨-,-,rfl⟩:=he;unfold VV at hy;split at hy
        ·rename_i hno;obtain ⟨z,hz,rfl⟩:=Option.map_eq_some_iff.1 hy;have h1:=(JC (fun v hv=>h.u64 v (List.mem_of_mem_drop (List.mem_of_mem_take hv))) hz).1;have h2:=(Jc (yE h.u64 _) hno).2;show z.length<=96;rw [h1];exact Nat.le_trans (List.length_take_le _ _) zo
        ·cases hy
       ·intro h;simp at h
      ·intro h;cases h
     ·intro h;cases h
  unfold LastQ at HLa;dsimp only at HLa;generalize l.getD []=ll at*
  have HBd:=zh hbx;obtain ⟨N,hN⟩:∃N:Nat,jk t p=N:=⟨(jk t p).toNat,zo⟩
  have HNote:=zh (fun w=>Ky hr u w hub.1 hub.2);obtain ⟨Kz,hK⟩:∃Kz:Nat,jo t p u=Kz:=⟨(jo t p u).toNat,by unfold jo;omega⟩
  have hKn:Kz < n:=by unfold jo at hK;omega
  have hKN:16+N<=Kz:=by unfold jo at hK;omega
  rw [hK] at HNote;rw [hN,Int.toNat_natCast];have hKi:(Kz:Int) < n:=zo;have HW:=zh (fun W (hb:Below w.heap.size w W)=>h.at hb hKn);have HKx:=zh (yE h.u64 Kz);have HA:=zh (show∀W,Below w.heap.size w W->∀j v,(jW ws)[j]? =some v->W.cell? (ad.add j)=some v from fun W hb j v hj=>by
   have hjn:j < n:=by
    have:=(List.getElem?_eq_some_iff.1 hj).1;have e:=h.len;simp [jW] at this;omega
   have:=h.at hb hjn;rw [this,<-hj];have e:=h.len;simp [jW,show j < ws.length by omega])
  have HLe:=zh h.len;have HUw:=zh h.u64;have hNn:16+N<=n:=zo;have hn1:n<=20000:=zo;have hn0:0 < n:=zo;obtain ⟨i0,hi0,hi1,hi2,hi3⟩:=info_parts jbr;have HI:=zh (And.intro hi0 (And.intro hi1 (And.intro hi2 hi3)));have HBd0:=zh bd;clear h hF hlr hlb hr hK hbx hlx hi0 hi1 hi2 hi3 bd;generalize hx0:ws.getD Kz 0=x0 at*
  clear hx0;go_enter func61,ntmps61;go_wp2_with fail;refine (HLa.out _ S0.bel).mono ?_;rintro e w1 ⟨v1,rfl,o1,f1,b1⟩;obtain ⟨a1,cp1,rfl⟩:=Ji o1;have S1:=S0.below b1;have c1:=((BS.start _).below b1).oldbox c0 zT;have S1g:BS w (w.heap.size :: (Value.slice a1 ll.length cp1).ownBlock.toList) w1:=⟨S1.bel,fun L hL=>by
   simp at hL;rcases hL with h | h
   ·rw [h];exact S1.ls _ zT
   ·exact ⟨jt o1 h,by have:=f1 L h;simp at this;omega⟩⟩
  have hne1:∀k,(Value.slice a1 ll.length cp1).ownBlock=some k->k < w1.heap.size:=fun k hk=>jt o1 hk;clear S0 S1 c0 HLa b1;go_wp2_with (at_builtin;go_must (refine km rfl _ _ rfl 38 i0 (.int .u64 0) 1 8 underlying24 HI.out.1 HI.out.2.1 HI.out.2.2.1 HI.out.2.2.2 rfl zd (.slice (some ⟨w1.heap.size,0,none⟩) 0 0) 0 [] rfl (yq _ _ _) ad n c (jW ws) rfl ?c0 (HA.out _ ?cB) ?c1 ?c2 ?c3 ?_);go_must (case c0=>(have:=HLe.out;simp [jW,this]));go_must (case cB=>(exact S1g.bel.alloc S1g.bel.size _));go_must (case c1=>(intro v hv;obtain ⟨z,-,rfl⟩:=List.mem_map.1 hv;rfl));go_must (case c2=>(unfold maxLen;omega));go_must (case c3=>(omega));go_must (intro v' w2 hown2 hg2 hnew2 hnil2);clear hnil2);rw [Nat.zero_add,List.nil_append] at hown2;obtain ⟨g2,cap2,rfl⟩:=Joins.ownsRow_form hown2 hn0;have hg2b:w1.heap.size<=g2:=by
   rcases hnew2 g2 rfl with h | h
   ·simp [Value.ownBlock] at h;omega
   ·simp at h;omega
  have S2a:=S1g.alloc (.cells #[] 38);have S2:BS w (g2 :: w.heap.size :: (Value.slice a1 ll.length cp1).ownBlock.toList) w2:=S2a.grown hg2 (fun k hk=>by simp [Value.ownBlock] at hk;simp [hk]) _ (fun L hL=>by
   simp at hL;rcases hL with h | h | h
   ·have:=S1g.bel.size;rcases hnew2 g2 rfl with h2 | h2
    ·simp [Value.ownBlock] at h2;exact Or.inl (by simp [h,h2])
    ·exact Or.inr ⟨by rw [h];exact h2,by rw [h];exact jt hown2 rfl⟩
   ·exact Or.inl (by simp [h])
   ·exact Or.inl (by simp [h]))
  have c2:=qh hg2 (by have:=(S1g.ls w.heap.size zT).1;simp;omega) (fun e=>by have:=(S1g.ls w.heap.size zT).1;simp [Value.ownBlock] at e;omega) (jC (.cells #[] 38) (S1g.ls w.heap.size zT).1 c1);have o2:=JU (o1.alloc (.cells #[] 38)) (fun k hk=>hg2.block k (by have:=hne1 k hk;simp;omega) (fun e=>by have:=hne1 k hk;simp [Value.ownBlock] at e;omega));have hne:∀k,(Value.slice a1 ll.length cp1).ownBlock=some k->k≠g2:=fun k hk=>by have:=hne1 k hk;omega
  have hgw:w.heap.size<=g2:=by have:=S1g.bel.size;omega
  have hgwne:w.heap.size≠g2:=by have:=(S1g.ls w.heap.size zT).1;omega
  have hA:TtRel w t p s ws st n ll g2 cap2 (.slice a1 ll.length cp1) (.int .i64 0) w2:=⟨0,zo,rfl,hown2,o2,c2,S2⟩
  clear S1g o1 c1 hown2 hg2 hnew2 S2a S2 c2 o2 hne1 hg2b f1;go_wp2;go_loopw [11] (fun v wr=>TtRel w t p s ws st n ll g2 cap2 (.slice a1 ll.length cp1) v wr) (fun v _=>ll.length - (intOf v).toNat);case atStart=>exact hA
  case round=>
   clear hA;obtain ⟨k,hk,rfl,R9,P9,cb9,S9⟩:=hrel;by_cases hlt:k < ll.length
   ·have hkl:(k:Int) < ll.length:=zo;obtain ⟨g,rfl,q0,q1⟩:=jes P9 hlt;have hgne:g≠g2:=hne g rfl;have hx:ll[k]? =some (ll.getD k (0,0)):=by simp [hlt]
    have htk:ll.take (k+1)=ll.take k++[ll.getD k (0,0)]:=by rw [List.take_add_one,hx];rfl
    have hsn:=jcp st (ll.take k) (ll.getD k (0,0)) ws;rw [<-htk] at hsn;have hxb:=HBd.out _ (List.mem_of_getElem? hx);have hl':(jV st (ll.take k) ws).length=n:=by rw [qO];exact HLe.out
    have hu':=Q3 hsb (ll.take k) ws (fun y hy=>(HBd.out y (List.mem_of_mem_take hy)).2.2) HUw.out;generalize jV st (ll.take k) ws=ws' at*
    have HSn:Hid (jV st (ll.take (k+1)) ws=if hiW (ws'.getD (16+(ll.getD k (0,0)).1).toNat 0) < st then ws'.set (16+(ll.getD k (0,0)).1).toNat (jH st (ll.getD k (0,0)).2) else ws'):=zh hsn;clear hsn htk hx;generalize ll.getD k (0,0)=x at*
    obtain ⟨xc,xv⟩:=x;dsimp only at hxb q0 q1;obtain ⟨J,hJ⟩:∃J:Nat,16+xc=J:=⟨(16+xc).toNat,zo⟩
    have hJn:(J:Int) < n:=by have:=HBd0.out;omega
    have HSn3:Hid (jV st (ll.take (k+1)) ws=if hiW (ws'.getD J 0) < st then ws'.set J (jH st xv) else ws'):=zh (by
     have:=HSn.out;dsimp only at this;rwa [hJ,Int.toNat_natCast] at this)
    have hwJ:IntKind.i64.wrap (16+xc)=(J:Int):=by rw [hJ];exact jD _ zo
    have hJe:(16:Int)+xc=(J:Int):=hJ;have HuJ:=zh (yE hu' J);have hxv:=hxb.2.2;have hJn2:J < n:=zo;have hxc0:0<=xc:=hxb.1;clear HSn hJ hu' hxb;have cJ:=(R9.cellAt J (by simpa using hJn2)).trans (show (jW ws')[J]? =some (.int .u64 (ws'.getD J 0)) by simp [jW,hl',hJn2]);have HSt2:=zh (fun w=>Jx _ w HuJ.out);generalize ws'.getD J 0=z at*
    go_wp2_with fail;refine zM (jv S9 (HSt2.out _)) ?_;rintro w11 ⟨S11,S11l⟩;have c11:=jc S11l zT cb9;have R11:=kg S11l (fun k hk=>by simp [Value.ownBlock] at hk;simp [hk]) R9;have P11:=kg S11l (fun k hk=>by simp [hk]) P9;have q0':=(World.cell?_of_block (a:=⟨g,k*2,none⟩) (S11l g (by simp [Value.ownBlock]))).trans q0;have q1':=(World.cell?_of_block (a:=⟨g,k*2+1,none⟩) (S11l g (by simp [Value.ownBlock]))).trans q1;clear S11l q0 q1 R9 P9 cb9 S9 HSt2 cJ;by_cases hs:hiW z < st
    ·have HSn4:=HSn3.out;rw [if_pos hs] at HSn4;have HSn5:=zh HSn4;have HCe:=zh (fun w=>Yh st xv w hsb hxv);have HJE:=zh hJe;clear HSn4 HSn3 hJe;generalize hiW z=y at*
     generalize jH st xv=jw at*
     go_wp2_with fail;refine wHn2 (zQ (q0')) (zQ (q1')) fun hHeld=> ?_;refine wT 0 ?_;refine wY ?_;refine wR 13 fun K hK=> ?_;go_simp;refine zM (jv S11.drew (HCe.out _)) ?_;rintro w12 ⟨S12,S12l⟩;have c12:=jc S12l zT c11;have R12:=kg S12l (fun k hk=>by simp [Value.ownBlock] at hk;simp [hk]) R11;have P12:=kg S12l (fun k hk=>by simp [hk]) P11;have p0:=(World.cell?_of_block (a:=⟨g,k*2,none⟩) (S12l g (by simp [Value.ownBlock]))).trans hHeld.1;have p1:=(World.cell?_of_block (a:=⟨g,k*2+1,none⟩) (S12l g (by simp [Value.ownBlock]))).trans hHeld.2;obtain ⟨zz,cJ⟩:=Xg R12 (i:=J) hJn2;have fJ:=R12.frozenAt J;refine wK hK (⟨p0,p1⟩) fun hHeld=> ?_;clear hK K;refine wY ?_;refine wR 15 fun K hK=> ?_;go_simp;refine wK hK (⟨YG hgne _ _ p0,YG hgne _ _ p1⟩) fun hHeld=> ?_;clear hK K;refine wD ?_;go_wp2;go_roundw;case rel=>
      refine ⟨k+1,zo,by go_num,?_,VK P12 (fun e=>hne _ e rfl),?_,S12.setCell (L:=g2) zT J (.int .u64 jw)⟩
      ·rw [HSn5.out];have:=(R12.stored J (.int .u64 jw)).1;rw [Vb] at this;exact this
      ·exact fun o=>(World.cell?_of_block (a:=⟨w.heap.size,o,none⟩) (jg (L:=g2) (M:=w.heap.size) hgwne)).trans (c12 o)
     case measure=>simp [intOf];omega
    ·have HSn4:=HSn3.out;rw [if_neg hs] at HSn4;have HSn5:=zh HSn4;clear HSn4 HSn3;generalize hiW z=y at*
     go_wp2;go_roundw;case rel=>exact ⟨k+1,zo,by go_num,by rw [HSn5.out];exact R11,P11,c11,S11⟩
     case measure=>simp [intOf];omega
   ·have hkl:k=ll.length:=zo;subst hkl;rw [List.take_length] at R9;have hl':(jV st ll ws).length=n:=by rw [qO];exact HLe.out
    have hu':=Q3 hsb ll ws (fun y hy=>(HBd.out y hy).2.2) HUw.out;generalize jV st ll ws=ws' at*
    have S9s:=S9.sub [g2,w.heap.size] (by intro L hL;simp at hL ⊢;rcases hL with h | h <;> simp [h]);clear P9 S9;go_wp2_with fail;refine zM (jv S9s (HNote.out _)) ?_;rintro w10 ⟨S10,S10l⟩;have c10:=jc S10l zT cb9;have R10:=kg S10l (fun k hk=>by simp [Value.ownBlock] at hk;simp [hk]) R9;clear S10l;have ek:=HW.out _ S10.bel;cases hno:qo x0 with
    | none=>
     have HO:=zh (fun w=>XF x0 w HKx.out hno);clear hno;go_wp2_with fail;refine zM (jv S10 (HO.out _)) ?_;rintro w11 ⟨S11,S11l⟩;have R11:=kg S11l (fun k hk=>by simp [Value.ownBlock] at hk;simp [hk]) R10;have bel:=S11.bel.alloc S11.bel.size (.cells #[.int .u32 0,.bool false,.int .i64 0] 149);go_wp2;exact bodyPost_ret (v:= .tuple #[.slice (some ⟨g2,0,none⟩) n cap2,.bool true]) (by simp [results,results61,go_sem]) rfl ⟨g2,cap2,ws',rfl,R11.alloc _,hl',hu',rfl,hgw,bel⟩
    | some q=>
     obtain ⟨sn,op,m⟩:=q;have HO:=zh (fun w=>J9 x0 sn m op w HKx.out hno);obtain ⟨e1,m0,m1,-,-⟩:=Jc HKx.out hno;have hsn:0<=sn/\sn < 4294967296:=by rw [e1];exact Qt HKx.out
     clear hno e1;go_wp2_with fail;refine zM (jv S10 (HO.out _)) ?_;rintro w11 ⟨S11,S11l⟩;have R11:=kg S11l (fun k hk=>by simp [Value.ownBlock] at hk;simp [hk]) R10;have c11:=jc S11l zT c10;clear S11l R10 c10 ek S10 R9 cb9;by_cases hc:op=true/\sn=st
     ·obtain ⟨rfl,rfl⟩:=hc;have HNw:=zh (fun w=>jd5 sn m false w hsn m0 m1);have hNu:U64 (KW sn m false):=by unfold KW;exact Jz hsn (by simp;omega)
      generalize KW sn m false=nw at*
      have hvs:qY N (ws'.set Kz nw)=qY N ws':=jaH fun i hi=>by rw [List.getElem?_set_ne zo]
      have hsu:∀v∈ws'.set Kz nw,U64 v:=fun v hv=>by
       rcases List.mem_or_eq_of_mem_set hv with h | h
       ·exact hu' v h
       ·rw [h];exact hNu
      have HVs:=zh hvs;have HSu:=zh hsu;clear hvs hsu hNu hu';have S12:=S11.alloc (.cells #[.int .u32 sn,.bool false,.int .i64 m] 149);have R12:=jh (w':=(w11.alloc (.cells #[.int .u32 sn,.bool false,.int .i64 m] 149)).drew) (R11.alloc (.cells #[.int .u32 sn,.bool false,.int .i64 m] 149)) (fun _ _=>rfl);have c12:=jC (.cells #[.int .u32 sn,.bool false,.int .i64 m] 149) (S11.ls w.heap.size zT).1 c11;have d12:=jr w11 #[.int .u32 sn,.bool false,.int .i64 m] 149;have hw11:w11.heap.size≠g2:=by have:=(S11.ls g2 zT).1;omega
      clear S11 R11 c11;go_wp2_with fail;refine wHn2 (zP d12) (zP c12) fun hHeld=> ?_;refine wT 0 ?_;refine wY ?_;refine wR 3 fun K hK=> ?_;go_simp;refine zM (jv S12.drew (HNote.out _)) ?_;rintro w13 ⟨S13,S13l⟩;have d13:=jc S13l zT hHeld.1;have c13:=jc S13l zT hHeld.2;have R13:=kg S13l (fun k hk=>by simp [Value.ownBlock] at hk;simp [hk]) R12;refine wK hK (⟨d13,c13⟩) fun hHeld=> ?_;clear hK K;refine wR 5 fun K hK=> ?_;go_simp;refine zM (jv S13 (HNw.out _)) ?_;rintro w14 ⟨S14,S14l⟩;have d14:=jc S14l zT hHeld.1;have c14:=jc S14l zT hHeld.2;have R14:=kg S14l (fun k hk=>by simp [Value.ownBlock] at hk;simp [hk]) R13;obtain ⟨zz,cK⟩:=Xg R14 (i:=Kz) hKn;have fK:=R14.frozenAt Kz;refine wK hK (⟨d14,c14⟩) fun hHeld=> ?_;clear hK K;refine wY ?_;refine wR 10 fun K hK=> ?_;have d15:=(fun o:Nat=>YF hw11 Kz (.int .u64 nw) (d14 o))
      have c15:=(fun o:Nat=>YF hgwne Kz (.int .u64 nw) (c14 o))
      go_simp;refine wK hK (⟨d15,c15⟩) fun hHeld=> ?_;clear hK K;refine wD ?_;have R15:=(R14.stored Kz (.int .u64 nw)).1;rw [Vb] at R15;have bel:=(S14.setCell (L:=g2) zT Kz (.int .u64 nw)).bel;go_wp2;exact bodyPost_ret (v:= .tuple #[.slice (some ⟨g2,0,none⟩) n cap2,.bool true]) (by simp [results,results61,go_sem]) rfl ⟨g2,cap2,_,rfl,R15,by rw [List.length_set];exact hl',HSu.out,HVs.out,hgw,bel⟩
     ·have bel:=S11.bel.alloc S11.bel.size (.cells #[.int .u32 sn,.bool op,.int .i64 m] 149);have R12:=R11.alloc (.cells #[.int .u32 sn,.bool op,.int .i64 m] 149);cases op
      ·clear hc;go_wp2;exact bodyPost_ret (v:= .tuple #[.slice (some ⟨g2,0,none⟩) n cap2,.bool true]) (by simp [results,results61,go_sem]) rfl ⟨g2,cap2,ws',rfl,R12,hl',hu',rfl,hgw,bel⟩
      ·have hsb2:(sn == st)=false:=by simpa using hc
       clear hc;go_wp2;exact bodyPost_ret (v:= .tuple #[.slice (some ⟨g2,0,none⟩) n cap2,.bool true]) (by simp [results,results61,go_sem]) rfl ⟨g2,cap2,ws',rfl,R12,hl',hu',rfl,hgw,bel⟩
end

structure VlR (w:World) (t p s:Int) (vs:List Int) (N:Nat) (v5 v6:Value) (wr:World) (k:Nat):Prop where
 le:k<=N
 eq:v6= .int .i64 k
 row:wr.ownsRow 0 44 1 v5 k (yL (vs.take k))
 bs:BS w (w.heap.size :: v5.ownBlock.toList) wr
 box:∀o:Nat,wr.cell? ⟨w.heap.size,o,none⟩=(#[.int .i64 t,.int .i64 p,.int .i64 s]:Array Value)[o]?
 far:∀j,v5.ownBlock=some j->w.heap.size < j
def VlRel (w:World) (t p s:Int) (vs:List Int) (N:Nat) (v5 v6:Value) (wr:World):Prop:=∃k,VlR w t p s vs N v5 v6 wr k
def VlQ (w:World) (vs:List Int) (e:Ending) (w':World):Prop:=∃v,e= .returned v/\w'.ownsRow 0 44 1 v vs.length (yL vs)/\(∀k,v.ownBlock=some k->w.heap.size<=k)/\Below w.heap.size w w'
section
variable {w:World} {t p s:Int} {ad:Addr} {n:Nat} {ws:List Int}
theorem ja0 (h:WX w t p s ad n ws) (c:Nat) :
 Calls prog 62 #[.agg #[.int .i64 t,.int .i64 p,.int .i64 s],.slice (some ad) n c] w (VlQ w (qY (jk t p).toNat ws)):=by
 have bd:=h.bd;have hr:=h.right;have HC:=zh (fun w=>ym t p s w);obtain ⟨N,hN⟩:∃N:Nat,jk t p=N:=⟨(jk t p).toNat,zo⟩
 rw [show qb t p s=jk t p by simp [qb,hr],hN] at HC;have hNn:16+N<=n:=zo;have hN1:N<=10000:=zo;rw [hN,Int.toNat_natCast];have HW:=zh (fun k (hk:k < n) W (hb:Below w.heap.size w W)=>h.at hb hk);have HLo:=zh (fun k w=>Ka (ws.getD k 0) w (yE h.u64 k));have HVg:=zh (show∀k,k < N->(qY N ws)[k]? =some (loW (ws.getD (16+k) 0)) from fun k hk=>by simp [qY,hk]);have HVl:=zh (KE N ws);obtain ⟨i0,hi0,hi1,hi2,hi3⟩:=info_parts jfc;have HI:=zh (And.intro hi0 (And.intro hi1 (And.intro hi2 hi3)));generalize qY N ws=vs at*
 have c0:=jC (.cells #[] 44) zT (jr w #[.int .i64 t,.int .i64 p,.int .i64 s] 23);have S0:=((BS.start w).alloc (.cells #[.int .i64 t,.int .i64 p,.int .i64 s] 23)).alloc (.cells #[] 44);have r0:=yq (w.alloc (.cells #[.int .i64 t,.int .i64 p,.int .i64 s] 23)) 44 1;simp only [World.size_alloc] at S0 r0;have hA:VlRel w t p s vs N (.slice (some ⟨w.heap.size+1,0,none⟩) 0 0) (.int .i64 0) ((w.alloc (.cells #[.int .i64 t,.int .i64 p,.int .i64 s] 23)).alloc (.cells #[] 44)):=⟨0,zo,rfl,r0,S0.sub _ (by simp [Value.ownBlock]),c0,by simp [Value.ownBlock]⟩
 clear h bd hr hN c0 S0 r0 hi0 hi1 hi2 hi3;go_enter func62,ntmps62;go_wp2;go_loopw [5,6] (fun v5 v6 wr=>VlRel w t p s vs N v5 v6 wr) (fun _ v6 _=>N - (intOf v6).toNat);case atStart=>exact hA
 case round=>
  clear hA;obtain ⟨k,hk,rfl,hrow,hbs,hbox,hfar⟩:=hrel;obtain ⟨pa,pc,rfl⟩:=Ji hrow;have HF:=zh hfar;clear hfar;go_wp2_with fail;refine zM (jv hbs (HC.out _)) ?_;rintro w1 ⟨S1,S1l⟩;have c1:=jc S1l zT hbox;have R1:=kg S1l (fun k hk=>by simp [hk]) hrow;clear S1l;clear hbs hbox hrow;by_cases hlt:k < N
  ·have hkN:(k:Int) < N:=zo;obtain ⟨j,hj⟩:∃j:Nat,16+k=j:=⟨_,rfl⟩
   have hjn:(j:Int) < n:=zo;have hwj:IntKind.i64.wrap (16+(k:Int))=(j:Int):=by rw [show (16:Int)+k=(j:Int) by omega];exact jD _ zo
   have hwj2:(16+(k:Int))=(j:Int):=zo;have ej:=HW.out j zo _ S1.bel;have htk:vs.take (k+1)=vs.take k++[loW (ws.getD j 0)]:=by
    rw [List.take_add_one,HVg.out k hlt,hj];rfl
   have HTk:=zh htk;have HLj:=zh (HLo.out j);clear hj htk;generalize loW (ws.getD j 0)=y at*
   go_wp2_with fail;refine zM (jv S1 (HLj.out _)) ?_;rintro w2 ⟨S2,S2l⟩;have c2:=jc S2l zT c1;have R2:=kg S2l (fun k hk=>by simp [hk]) R1;have HR2:=zh R2;have HS2:=zh S2;have HC2:=zh c2;clear S2l c1 R1 S1 c2 R2 S2 hwj hwj2 ej;go_wp2_with (at_builtin;go_must (refine km rfl _ _ rfl 44 i0 (.int .u32 0) 1 4 underlying25 HI.out.1 HI.out.2.1 HI.out.2.2.1 HI.out.2.2.2 rfl zd (.slice pa k pc) k (yL (vs.take k)) rfl (HR2.out.alloc _) ⟨w2.heap.size,0,none⟩ 1 1 [.int .u32 y] rfl rfl (cell_one_new _ _ _) ?c1 ?c2 ?c3 ?_);go_must (case c1=>(simp [Value.oneCell']));go_must (case c2=>(unfold maxLen;omega));go_must (case c3=>(omega));go_must (intro v' w5 hown5 hg5 hnew5 hnil5);clear hnil5);have hown6:w5.ownsRow 0 44 1 v' (k+1) (yL (vs.take (k+1))):=by rw [HTk.out];simpa [yL] using hown5
   obtain ⟨g',cap',rfl⟩:=Joins.ownsRow_form hown6 zo;have S5:=HS2.out.append hg5 hnew5 hown6;have c5:=qh hg5 (by have:=(HS2.out.ls w.heap.size zT).1;simp;omega) (fun e=>by have:=HF.out _ e;omega) (jC (.cells #[.int .u32 y] 44) (HS2.out.ls w.heap.size zT).1 HC2.out);have hfar5:∀j,(Value.slice (some ⟨g',0,none⟩) (k+1) cap').ownBlock=some j->w.heap.size < j:=fun j hj=>by
    rcases hnew5 j (by simpa [Value.ownBlock] using hj) with h | h
    ·exact HF.out j h
    ·have:=(HS2.out.ls w.heap.size zT).1;simp at h;omega
   go_wp2;go_roundw;case rel=>exact ⟨k+1,zo,by go_num,hown6,S5,c5,hfar5⟩
   case measure=>simp [intOf];omega
  ·have hkN:k=N:=zo;subst hkN;have hvt:vs.take k=vs:=List.take_of_length_le (by rw [HVl.out];omega);rw [hvt] at R1;have HL9:=zh R1;clear hvt;go_wp2;go_ret;refine ⟨_,rfl,by rw [HVl.out];exact HL9.out,fun j hj=>Nat.le_of_lt (HF.out j hj),S1.bel⟩
theorem jcA (a:Option Addr) (n c:Nat) (w:World) (h:jq t p s=false\/(n:Int)≠qa t p) :
 Calls prog 25 #[.agg #[.int .i64 t,.int .i64 p,.int .i64 s],.slice a n c] w (SetQ w none):=by
 have HL:=zh (fun w=>rlast_no (t:=t) (p:=p) (s:=s) a n c w h);clear h;have HT:Hid (∀w,Calls prog 61 #[.agg #[.int .i64 t,.int .i64 p,.int .i64 s],.slice a n c] w (zW (.tuple #[.slice none 0 0,.bool false]) w)):=zh (fun w=>by
  go_enter func61,ntmps61;go_wp2_with fail;refine (HL.out _).mono ?_;rintro e w1 ⟨x1,x2,rfl,b1⟩;go_wp2;refine bodyPost_ret (v:= .tuple #[.slice none 0 0,.bool false]) (by simp [results,results61,go_sem]) rfl ⟨rfl,YK ((Below.refl _ w).alloc (Nat.le_refl _) _) b1⟩)
 clear HL;go_enter func25,ntmps25;go_wp2_with fail;refine zM (HT.out _) fun w1 b1=> ?_;obtain ⟨b1c,b1f⟩:=jB b1;go_wp2;refine bodyPost_ret (v:= .tuple #[.slice none 0 0,.bool false]) (by simp [results,results25,go_sem]) rfl ⟨rfl,YK ((Below.refl _ w).alloc (Nat.le_refl _) _) b1⟩
theorem ja4 (h:WX w t p s ad n ws) (c:Nat) :
 Calls prog 25 #[.agg #[.int .i64 t,.int .i64 p,.int .i64 s],.slice (some ad) n c] w (SetQ w (kw t p s ws)):=by
 have bd:=h.bd;have hr:=h.right;have hnum:=h.num;have HT:=zh (fun W (hb:Below w.heap.size w W)=>jdZ (h.keep hb) c);have HVl:=zh (KE (jk t p).toNat);have HVals:=zh (fun W (g cap:Nat) (ws':List Int) (hw:W.ownsRow 0 38 1 (.slice (some ⟨g,0,none⟩) n cap) n (jW ws')) (hl:ws'.length=n) (hu:∀v∈ws',U64 v)=>ja0 (w:=W) (ws:=ws') (ad:=⟨g,0,none⟩) (n:=n) ⟨hr,hl,hnum,hu,fun k hk=>by
  rw [show (⟨g,0,none⟩:Addr).add k=⟨g,k,none⟩ by by_cases h0:k=0 <;> simp [Addr.add,h0]];exact (hw.cellAt k zo).trans (by simp [jW,hl,hk])⟩ cap)
 generalize kw t p s ws=r at*
 have c0:=jr w #[.int .i64 t,.int .i64 p,.int .i64 s] 23;have S0:=((BS.start w).alloc (.cells #[.int .i64 t,.int .i64 p,.int .i64 s] 23))
 clear h hr hnum bd;cases r with
 | none=>
  go_enter func25,ntmps25;go_wp2_with fail;refine zM (HT.out _ S0.bel) fun w1 b1=> ?_;go_wp2;refine bodyPost_ret (v:= .tuple #[.slice none 0 0,.bool false]) (by simp [results,results25,go_sem]) rfl ⟨rfl,(S0.below b1).bel⟩
 | some vs=>
  go_enter func25,ntmps25;go_wp2_with fail;refine (HT.out _ S0.bel).mono ?_;rintro e w1 ⟨g,cap,ws',rfl,R1,hl,hu,hv,hg,b1⟩;have S1:=S0.below b1;have c1:=((BS.start _).below b1).oldbox c0 zT;have HVs:=zh (HVals.out w1 g cap ws' R1 hl hu);have HHv:=zh hv;have hz:=S1.bel.size;clear hl hu hv HVals HT;go_wp2_with fail;refine HVs.out.mono ?_;rintro e w2 ⟨v2,rfl,o2,f2,b2⟩;rw [HHv.out] at o2;obtain ⟨a2,c2,rfl⟩:=Ji o2;go_wp2;refine bodyPost_ret (v:= .tuple #[.slice a2 vs.length c2,.bool true]) (by simp [results,results25,go_sem]) rfl ⟨_,rfl,o2,fun j hj=> ?_,(S1.below b2).bel⟩;have:=f2 j hj;omega
end
section
variable {t p s:Int} {ad:Addr} {n:Nat} {vs:List Int}

theorem Qf (q:Int) (c:Nat) (w:World) (h:XV w t p s ad n vs) (h0:0<=q) (h1:q < p) :
 Calls prog 68 #[.agg #[.int .i64 t,.int .i64 p,.int .i64 s,.slice (some ad) n c],.int .i64 q] w (zW (.int .u32 (gv vs t q 4)) w):=by
 obtain ⟨hx1,hx2⟩:=h.cx h0 h1 (part:=4) zo zo;have hc0:=h.cells _ hx1;have hI:=fun w=>jcz t p s q w;rw [hx2] at hI;have hd:vs.getD (cix t q 4) 0=gv vs t q 4:=rfl;rw [hd] at hc0;generalize gv vs t q 4=v at*
 generalize cix t q 4=k at*
 have H1:=zh hI;clear h hd hI hx2;have hS0:=((BS.start w).alloc (.cells #[.int .i64 t,.int .i64 p,.int .i64 s,.slice (some ad) n c] 128))
 go_enter func68,ntmps68;go_wp2_with fail;refine wH (S:=fun w'=>BS w [w.heap.size] w'/\(∀o:Nat,w'.cell? ⟨w.heap.size,o,none⟩=(#[.int .i64 t,.int .i64 p,.int .i64 s,.slice (some ad) n c]:Array Value)[o]?)/\w'.cell? (ad.add k)=some (.int .u32 v)) (⟨hS0.drew,(jr w _ _),hS0.drew.old hc0⟩) fun hHeld=> ?_;refine wT 0 ?_;refine wY ?_;refine wC 5 (H1.out _) fun wz hHeld=> ?_;refine wY ?_;refine wD ?_;have bel:=hHeld.1.bel;clear hHeld hS0 hc0 H1;go_wp2;go_ret;exact ⟨rfl,bel⟩
theorem J5 (q:Int) (c:Nat) (w:World) (h:XV w t p s ad n vs) (h0:0<=q) (h1:q < p) :
 Calls prog 69 #[.agg #[.int .i64 t,.int .i64 p,.int .i64 s,.slice (some ad) n c],.int .i64 q] w (zW (.int .u32 (gv vs t q 5)) w):=by
 obtain ⟨hx1,hx2⟩:=h.cx h0 h1 (part:=5) zo zo;have hc0:=h.cells _ hx1;have hI:=fun w=>jcx t p s q w;rw [hx2] at hI;have hd:vs.getD (cix t q 5) 0=gv vs t q 5:=rfl;rw [hd] at hc0;generalize gv vs t q 5=v at*
 generalize cix t q 5=k at*
 have H1:=zh hI;clear h hd hI hx2;have hS0:=((BS.start w).alloc (.cells #[.int .i64 t,.int .i64 p,.int .i64 s,.slice (some ad) n c] 128))
 go_enter func69,ntmps69;go_wp2_with fail;refine wH (S:=fun w'=>BS w [w.heap.size] w'/\(∀o:Nat,w'.cell? ⟨w.heap.size,o,none⟩=(#[.int .i64 t,.int .i64 p,.int .i64 s,.slice (some ad) n c]:Array Value)[o]?)/\w'.cell? (ad.add k)=some (.int .u32 v)) (⟨hS0.drew,(jr w _ _),hS0.drew.old hc0⟩) fun hHeld=> ?_;refine wT 0 ?_;refine wY ?_;refine wC 5 (H1.out _) fun wz hHeld=> ?_;refine wY ?_;refine wD ?_;have bel:=hHeld.1.bel;clear hHeld hS0 hc0 H1;go_wp2;go_ret;exact ⟨rfl,bel⟩
def RowP (w:World) (l:List Int) (v:Value) (w':World):Prop:=
 w'.ownsRow 0 3 1 v l.length (Xc l)/\(∀k,v.ownBlock=some k->w.heap.size<=k)/\Below w.heap.size w w'
def kB (g:Int->Int) (p:Int):Nat->Int->List Int->List Int×Bool
 | 0,a,out=>(out,a == p)
 | f+1,a,out=>if a < p then (if okI (g a)=false\/iK (g a)=0 then ([],false) else kB g p f (a+iL (g a)) (out++[a])) else (out,a == p)
def jX (g:Int->Int) (p:Int):List Int×Bool:=kB g p (p.toNat+1) 0 []
structure StRel (w:World) (g:Int->Int) (t p s:Int) (sl:Value) (res:List Int×Bool) (v4 v5:Value) (wr:World) (out:List Int) (a:Int):Prop where
 ha:v5= .int .i64 a
 a0:0<=a
 a1:a<=p+1024
 row:wr.ownsRow 0 3 1 v4 out.length (Xc out)
 bs:BS w (w.heap.size :: v4.ownBlock.toList) wr
 box:∀o:Nat,wr.cell? ⟨w.heap.size,o,none⟩=(#[.int .i64 t,.int .i64 p,.int .i64 s,sl]:Array Value)[o]?
 le:(out.length:Int)<=a/\(out.length:Int)<=p
 res:kB g p (p.toNat+1 - out.length) a out=res
 far:∀k,v4.ownBlock=some k->w.heap.size < k
def StRelE (w:World) (g:Int->Int) (t p s:Int) (sl:Value) (res:List Int×Bool) (v4 v5:Value) (wr:World):Prop:=∃out a,StRel w g t p s sl res v4 v5 wr out a
theorem Qk (c:Nat) (w:World) (h:XV w t p s ad n vs) :
 Calls prog 171 #[.agg #[.int .i64 t,.int .i64 p,.int .i64 s,.slice (some ad) n c]] w fun e w'=>∃v,e= .returned (.tuple #[v,.bool (jX (fun q=>gv vs t q 0) p).2])/\RowP w (jX (fun q=>gv vs t q 0) p).1 v w':=by
 have r0:=yq (w.alloc (.cells #[.int .i64 t,.int .i64 p,.int .i64 s,.slice (some ad) n c] 128)) 3 1;have hS0:=((BS.start w).alloc (.cells #[.int .i64 t,.int .i64 p,.int .i64 s,.slice (some ad) n c] 128)).alloc (.cells #[] 3);have d0:=jC (.cells #[] 3) zT (jr w #[.int .i64 t,.int .i64 p,.int .i64 s,.slice (some ad) n c] 128);simp only [World.size_alloc] at hS0 r0;have bd:4<=p/\p<=1024:=by have:=h.bd;omega
 have hres0:kB (fun q=>gv vs t q 0) p (p.toNat+1) 0 []=jX (fun q=>gv vs t q 0) p:=rfl;have HX:∀q,0<=q->q < p->∃k:Nat,k < n/\(∀w,Calls prog 115 #[.agg #[.int .i64 t,.int .i64 p,.int .i64 s],.int .i64 q] w (zW (.int .i64 k) w))/\w.cell? (ad.add k)=some (.int .u32 (gv vs t q 0))/\0<=gv vs t q 0/\gv vs t q 0 < 4294967296:=by
  intro q h0 h1;obtain ⟨hx1,hx2⟩:=h.cx h0 h1 (part:=0) zo zo;refine ⟨cix t q 0,hx1,fun w=> ?_,h.cells _ hx1,h.gu q 0⟩;have:=KP t p s q w;rwa [hx2] at this
 clear h;obtain ⟨g,hg⟩:∃g:Int->Int,g=fun q=>gv vs t q 0:=⟨_,rfl⟩
 have HG:∀q,gv vs t q 0=g q:=fun q=>by rw [hg]
 rw [<-hg] at hres0 ⊢;simp only [HG] at HX;have HXX:=zh HX;clear HX HG hg;generalize hRs:jX g p=rs at*
 obtain ⟨rl,rb⟩:=rs;obtain ⟨i0,hi0,hi1,hi2,hi3⟩:=info_parts Yx;have HI:=zh (And.intro hi0 (And.intro hi1 (And.intro hi2 hi3)));clear hi0 hi1 hi2 hi3 hRs;have HR0:=zh hres0;clear hres0;go_enter func171,ntmps171;go_wp2_with fail;go_loopw [4,5,6,7] (fun v4 v5 _ _ wr=>StRelE w g t p s (.slice (some ad) n c) (rl,rb) v4 v5 wr) (fun v4 _ _ _ _=>p.toNat - lenS v4);case atStart=>exact ⟨[],0,rfl,zo,zo,r0,hS0.sub _ (by simp [Value.ownBlock]),d0,by simp;omega,by simpa using HR0.out,by simp [Value.ownBlock]⟩
 case round=>
  obtain ⟨out,a,hr⟩:=hrel;obtain ⟨rfl,a0,a1,hrow,hbs,hbox,hle,hrs,hfar⟩:=hr;have hlen:∃a m c,u4= .slice a m c/\m=out.length:=by
   rcases hrow.2 with ⟨h5,h6⟩ | ⟨g',cap',cur,h5,-⟩
   ·exact ⟨_,_,_,h5,h6.symm⟩
   ·exact ⟨_,_,_,h5,rfl⟩
  obtain ⟨pa,pm,pc,rfl,rfl⟩:=hlen;have hlt0:=(hbs.ls w.heap.size zT).1;have HB:=zh hbs;have HF:=zh hfar;have HS:=zh hrs;have HRow:=zh hrow;have HBox:=zh hbox;have b0:=hbox 0;have b1:=hbox 1;have b2:=hbox 2;have b3:=hbox 3;simp at b0 b1 b2 b3;clear hS0 r0 d0 HR0 hbs hfar hrs hrow hbox;by_cases hlt:a < p
  ·obtain ⟨k,hkn,hI,hc0,hg0,hg1⟩:=HXX.out a a0 hlt;clear HXX;have hc1:=HB.out.old hc0;have bd9:=kP (g a);have HG9:=zh (fun w=>XK (g a) w hg0 hg1);have HI9:=zh hI;have hs2:(if okI (g a)=false\/iK (g a)=0 then ([],false) else kB g p (p.toNat+1 - (out++[a]).length) (a+iL (g a)) (out++[a]))=(rl,rb):=by
    have e0:=HS.out;have e1:p.toNat+1 - out.length=(p.toNat - out.length)+1:=zo;rw [e1] at e0;have e2:p.toNat+1 - (out++[a]).length=p.toNat - out.length:=by rw [List.length_append,List.length_singleton];omega
    rw [e2];simpa [kB,hlt] using e0
   clear HS hc0 hI b2 b3;generalize okI (g a)=ok at*
   generalize iK (g a)=y1 at*
   generalize iL (g a)=y2 at*
   generalize iC (g a)=y3 at*
   generalize g a=v at*
   obtain ⟨k1,k2,k3,k4,k5,k6,k7,k8⟩:=bd9;have HS2:=zh hs2;have HK7:=zh k7;have HFF:=zh hle;clear hs2 k1 k2 k5 k6 k7 k8 hle;go_wp2_with fail;refine QN (zP HBox.out) (zQ hc1) fun hHeld=> ?_;refine wT 0 ?_;refine wY ?_;refine wpAnyH_ready (rs:=[5,12]) zk zT ?_;refine AllReadyH.cons (o:=_) rfl (fun K hK=> ?_) (AllReadyH.cons (o:=_) rfl (fun K hK=> ?_) AllReadyH.nil);go_simp;refine zM (jv hHeld.1 (HI9.out _)) ?_;rintro wr1 ⟨hV,hVl⟩;dsimp only;refine wK hK (⟨hV,hV.oldbox HBox.out hlt0,hV.old hc1⟩) ?_;clear hK K hV hVl hHeld;intro hHeld;refine wT 6 ?_;refine wY ?_;refine wpAnyH_ready (rs:=[8,12]) zk zT ?_;refine AllReadyH.cons (o:=_) rfl (fun K hK=> ?_) (AllReadyH.cons (o:=_) rfl (fun K hK=> ?_) AllReadyH.nil);go_simp;refine zM (jv hHeld.1 (HG9.out _)) ?_;rintro wr2 ⟨hV,hVl⟩;dsimp only;refine wK hK (⟨hV,hV.oldbox HBox.out hlt0,hV.old hc1⟩) ?_;clear hK K hV hVl hHeld;intro hHeld;refine wT 9 ?_;refine wY ?_;refine wR 12 fun K hK=> ?_;have hP:=hHeld;have hA:=hHeld.1.allocd (#[.int .i64 0,.int .i64 0,.int .i64 0]) 130;try simp only [World.size_drew] at hA
   try simp only [World.size_alloc] at hA
   go_simp;refine wK hK (⟨hA.bs.sub _ zT,hA.bs.oldbox HBox.out hlt0,hA.bs.old hc1⟩) ?_;clear hK K hHeld;intro hHeld;refine wR 13 fun K hK=> ?_;go_simp;have hA2:=(hP.1).allocd (#[.int .i64 y1,.int .i64 y2,.int .i64 y3]) 130;refine hK.out _ _ ?_ (fun hHeld2=> ?_);try simp only [World.size_drew] at hA2
   try simp only [World.size_alloc] at hA2
   ·exact ⟨hA2.bs.sub _ zT,hA2.bs.oldbox HBox.out hlt0,hA2.bs.old hc1⟩
   clear hA hP;have hA:=hA2;clear hA2 hHeld;have hHeld:=hHeld2;clear hHeld2;clear hK K;try simp only [Act.put,zA,zB,zC,zD,zE,zF]
   refine wY ?_;refine wD ?_;rotate_left;have hP:=hHeld;have hA:=hHeld.1.allocd (#[.int .i64 0,.int .i64 0,.int .i64 0]) 130;try simp only [World.size_drew] at hA
   try simp only [World.size_alloc] at hA
   go_simp;refine wK hK (⟨hA.bs.sub _ zT,hA.bs.oldbox HBox.out hlt0,hA.bs.old hc1⟩) ?_;clear hK K hHeld;intro hHeld;refine wR 8 fun K hK=> ?_;go_simp;refine zM (jv hA.bs (HG9.out _)) ?_;rintro wr3 ⟨hV,hVl⟩;have hAn:=hA.step hV hVl;dsimp only;refine wK hK (⟨hV.sub _ zT,hV.oldbox HBox.out hlt0,hV.old hc1⟩) ?_;clear hK K hV hVl hHeld hA hP;have hA:=hAn;have hP:=trivial;clear hAn;intro hHeld;refine wY ?_;refine wR 13 fun K hK=> ?_;have kc0:=(jd (o:=0) hA.box)
   have kc1:=(jd (o:=1) hA.box)
   have kc2:=(jd (o:=2) hA.box)
   simp at kc0 kc1 kc2;have kf0:=jj (o:=0) hA.box;have kf1:=jj (o:=1) hA.box;have kf2:=jj (o:=2) hA.box;go_simp;refine wK hK (⟨(((hA.set 0 _).set 1 _).set 2 _).bs.sub _ zT,(((hA.set 0 _).set 1 _).set 2 _).bs.oldbox HBox.out hlt0,(((hA.set 0 _).set 1 _).set 2 _).bs.old hc1⟩) ?_;have hA2:BA wr ([]:List Nat) _ (#[.int .i64 y1,.int .i64 y2,.int .i64 y3]) 130 _:=(((hA.set 0 (.int .i64 y1)).set 1 (.int .i64 y2)).set 2 (.int .i64 y3))
   clear kc0 kf0 kc1 kf1 kc2 kf2 hA hP;have hA:=hA2;clear hA2 hHeld;intro hHeld;clear hK K;refine wT 14 ?_;refine wD ?_;rotate_left;have hP:=hHeld;have hA:=hHeld.1.allocd (#[.int .i64 0,.int .i64 0,.int .i64 0]) 130;try simp only [World.size_drew] at hA
   try simp only [World.size_alloc] at hA
   go_simp;refine wK hK (⟨hA.bs.sub _ zT,hA.bs.oldbox HBox.out hlt0,hA.bs.old hc1⟩) ?_;clear hK K hHeld;intro hHeld;refine wR 5 fun K hK=> ?_;go_simp;refine zM (jv hA.bs (HI9.out _)) ?_;rintro wr4 ⟨hV,hVl⟩;have hAn:=hA.step hV hVl;dsimp only;refine wK hK (⟨hV.sub _ zT,hV.oldbox HBox.out hlt0,hV.old hc1⟩) ?_;clear hK K hV hVl hHeld hA hP;have hA:=hAn;have hP:=trivial;clear hAn;intro hHeld;refine wY ?_;refine wR 8 fun K hK=> ?_;go_simp;refine zM (jv hA.bs (HG9.out _)) ?_;rintro wr5 ⟨hV,hVl⟩;have hAn:=hA.step hV hVl;dsimp only;refine wK hK (⟨hV.sub _ zT,hV.oldbox HBox.out hlt0,hV.old hc1⟩) ?_;clear hK K hV hVl hHeld hA hP;have hA:=hAn;have hP:=trivial;clear hAn;intro hHeld;refine wY ?_;refine wR 13 fun K hK=> ?_;have kc0:=(jd (o:=0) hA.box)
   have kc1:=(jd (o:=1) hA.box)
   have kc2:=(jd (o:=2) hA.box)
   simp at kc0 kc1 kc2;have kf0:=jj (o:=0) hA.box;have kf1:=jj (o:=1) hA.box;have kf2:=jj (o:=2) hA.box;go_simp;refine wK hK (⟨(((hA.set 0 _).set 1 _).set 2 _).bs.sub _ zT,(((hA.set 0 _).set 1 _).set 2 _).bs.oldbox HBox.out hlt0,(((hA.set 0 _).set 1 _).set 2 _).bs.old hc1⟩) ?_;have hA2:BA wr ([]:List Nat) _ (#[.int .i64 y1,.int .i64 y2,.int .i64 y3]) 130 _:=(((hA.set 0 (.int .i64 y1)).set 1 (.int .i64 y2)).set 2 (.int .i64 y3))
   clear kc0 kf0 kc1 kf1 kc2 kf2 hA hP;have hA:=hA2;clear hA2 hHeld;intro hHeld;clear hK K;refine wT 14 ?_;refine wD ?_;all_goals
    refine jT ?_;intro wz hwz;rw [<-hwz] at hHeld hA;clear hwz;have rz:=hHeld.1.row HRow.out;have bz0:=hHeld.2.1 0;have bz1:=hHeld.2.1 1;simp at bz0 bz1;have hne:=hA.bs.ls;have hbz:=HB.out.below hA.bs.bel;obtain ⟨⟨q0,q1,q2⟩,f0,f1,f2,z1,z2,bel⟩:=hA.cells3;have hBA:=zh hA;have hzb:=zh hHeld.2.1;clear hHeld hA hne;cases ok
    ·have hs3:([],false)=(rl,rb):=by simpa using HS2.out
     obtain ⟨rfl,rfl⟩:=Prod.mk.inj hs3;clear hs3;go_wp2;refine bodyPost_ret (v:= .tuple #[.slice none 0 0,.bool false]) (by simp [results,results171,go_sem, *]) rfl ⟨_,rfl,World.ownsRow_nil _ _ _ _,by simp [Value.ownBlock],hbz.bel⟩
    ·by_cases hk0:y1=0
     ·have hs3:([],false)=(rl,rb):=by simpa [hk0] using HS2.out
      obtain ⟨rfl,rfl⟩:=Prod.mk.inj hs3;have hk0b:(y1 == 0)=true:=by simp [hk0]
      clear hs3 hk0;go_wp2;refine bodyPost_ret (v:= .tuple #[.slice none 0 0,.bool false]) (by simp [results,results171,go_sem, *]) rfl ⟨_,rfl,World.ownsRow_nil _ _ _ _,by simp [Value.ownBlock],hbz.bel⟩
     ·have hs3:kB g p (p.toNat+1 - (out++[a]).length) (a+y2) (out++[a])=(rl,rb):=by simpa [hk0] using HS2.out
      have hk0b:(y1 == 0)=false:=by simp [hk0]
      have hl1:=(HK7.out hk0).2;have HN:=zh hs3;clear hs3 hk0;go_wp2_with (at_builtin;go_must (refine km rfl _ _ rfl 3 i0 (.int .i64 0) 1 8 underlying66 HI.out.1 HI.out.2.1 HI.out.2.2.1 HI.out.2.2.2 rfl zd (.slice pa out.length pc) out.length (Xc out) rfl (rz.alloc _) ⟨wz.heap.size,0,none⟩ 1 1 [.int .i64 a] rfl rfl (cell_one_new _ _ _) ?c1 ?c2 ?c3 ?_);go_must (case c1=>(simp [Value.oneCell']));go_must (case c2=>(have:=HFF.out;unfold maxLen;omega));go_must (case c3=>(have:=HFF.out;omega));go_must (intro v' w5 hown5 hg5 hnew5 hnil5);clear hnil5;go_must (obtain ⟨g',cap',rfl⟩:=Joins.ownsRow_form hown5 zo);go_must (have qz:=hBA.out.grown hg5 (fun k hk=>jt HRow.out hk));go_must (have qz1:=qz 1);go_must (simp at qz1);clear qz);go_roundw;case rel=>
       refine ⟨out++[a],a+y2,rfl,zo,zo,by simpa [Xc] using hown5,hbz.append hg5 hnew5 hown5,?_,?_,HN.out,?_⟩
       ·exact qh hg5 (by have:=bel.size;simp;omega) (fun e=>by have:=HF.out _ e;omega) (jC _ (by have:=bel.size;omega) hzb.out)
       ·have:=HFF.out;simp;omega
       ·exact fun k hk=>(hnew5 k hk).elim (HF.out k) (fun h=>by have:=bel.size;simp at h;omega)
      case measure=>simp [lenS];have:=HFF.out;omega
  ·have hs2:(out,a == p)=(rl,rb):=by
    have e0:=HS.out;have e1:p.toNat+1 - out.length=(p.toNat - out.length)+1:=zo;rw [e1] at e0;simpa [kB,hlt] using e0
   obtain ⟨rfl,rfl⟩:=Prod.mk.inj hs2;clear HXX HS hs2;go_wp2;go_region;all_goals
    go_wp2;refine bodyPost_ret (v:= .tuple #[.slice pa out.length pc,.bool (a == p)]) (by simp [results,results171,go_sem, *]) rfl ⟨_,rfl,?_⟩;exact ⟨jh HRow.out (fun _ _=>rfl),fun k hk=>Nat.le_of_lt (HF.out k hk),HB.out.bel.drew⟩
end

theorem jax {P:Program} {f:FuncId} {args:Array Value} {F:Value->Value} {w0 w:World} {Ls:List Nat} {l:List Int} (h:BS w0 Ls w)
 (hc:Calls P f args w fun e w'=>∃v,e= .returned (F v)/\RowP w l v w') :
 Calls P f args w fun e w'=>∃v,e= .returned (F v)/\(BS w0 Ls w'/\∀L∈Ls,w'.heap[L]? =w.heap[L]?)/\RowP w l v w':=
 hc.mono fun _ _ ⟨v,he,hr⟩=>⟨v,he,⟨h.below hr.2.2,fun L hL=>hr.2.2.block L (h.ls L hL).1⟩,hr⟩
structure XB (w:World) (t p s:Int) (ad:Addr) (n c:Nat) (vs:List Int) (W:World):Prop where
 bel:Below w.heap.size w W
 box:∀o:Nat,W.cell? ⟨w.heap.size,o,none⟩=(#[.int .i64 t,.int .i64 p,.int .i64 s,.slice (some ad) n c]:Array Value)[o]?
 lt:w.heap.size < W.heap.size
 xv:XV W t p s ad n vs
section
variable {t p s:Int} {ad:Addr} {n c:Nat} {vs:List Int} {w W W':World}
theorem XV.boxed (h:XV w t p s ad n vs) (c:Nat):XB w t p s ad n c vs (w.alloc (.cells #[.int .i64 t,.int .i64 p,.int .i64 s,.slice (some ad) n c] 128)):=
 ⟨(Below.refl _ _).alloc (Nat.le_refl _) _,jr w _ _,zT,h.keep ((Below.refl _ _).alloc (Nat.le_refl _) _)⟩
theorem XB.keep (h:XB w t p s ad n c vs W) (hb:Below W.heap.size W W'):XB w t p s ad n c vs W':=
 ⟨h.bel.trans (hb.mono h.bel.size),fun o=>(hb.cell (p:=⟨w.heap.size,o,none⟩) h.lt).trans (h.box o),Nat.lt_of_lt_of_le h.lt hb.size,h.xv.keep hb⟩
theorem XB.alloc (h:XB w t p s ad n c vs W) (o:Obj):XB w t p s ad n c vs (W.alloc o):=h.keep ((Below.refl _ _).alloc (Nat.le_refl _) _)
theorem XB.drew (h:XB w t p s ad n c vs W):XB w t p s ad n c vs W.drew:=h.keep ((Below.refl _ _).drew)
theorem XB.cells (h:XB w t p s ad n c vs W):W.cell? ⟨w.heap.size,0,none⟩=some (.int .i64 t)/\W.cell? ⟨w.heap.size,1,none⟩=some (.int .i64 p)/\W.cell? ⟨w.heap.size,2,none⟩=some (.int .i64 s)/\W.cell? ⟨w.heap.size,3,none⟩=some (.slice (some ad) n c):=
 ⟨h.box 0,h.box 1,h.box 2,h.box 3⟩
theorem box3 {x y z:Value} {T:TypeId} (hb:Below (W.alloc (.cells #[x,y,z] T)).heap.size (W.alloc (.cells #[x,y,z] T)) W'):W'.cell? ⟨W.heap.size,0,none⟩=some x/\W'.cell? ⟨W.heap.size,1,none⟩=some y/\W'.cell? ⟨W.heap.size,2,none⟩=some z:=by
 have hc:=fun o=>(hb.cell (p:=⟨W.heap.size,o,none⟩) zT).trans (jr W #[x,y,z] T o);exact ⟨hc 0,hc 1,hc 2⟩
def CntRel (l:List Int) (x:Int) (w:World) (a i:Value) (wr:World):Prop:=∃k:Nat,k<=l.length/\i= .int .i64 k/\a= .int .i64 ((l.take k).count x)/\w=wr
theorem jdx (l:List Int) (x:Int) (v:Value) (w:World) (h:w.ownsRow 0 3 1 v l.length (Xc l)) (hn:l.length<=4294967296) :
 Calls prog 175 #[v,.int .i64 x] w (zW (.int .i64 (l.count x)) w):=by
 have hc:∀k,k < l.length->∃a m c,v= .slice (some ⟨a,0,none⟩) m c/\w.cell? ⟨a,k,none⟩=some (.int .i64 (l.getD k 0)):=by
  intro k hk;obtain ⟨g,cap,rfl⟩:=Joins.ownsRow_form h zo;refine ⟨g,_,cap,rfl,?_⟩;rw [h.cellAt k zo];simp [Xc,hk]
 obtain ⟨a,c,rfl⟩:=kK h;clear h;go_enter func175,ntmps175;go_wp2;go_loopw [5,6] (fun a i wr=>CntRel l x w a i wr) (fun _ i _=>l.length - (intOf i).toNat);case atStart=>exact ⟨0,zo,rfl,zT,rfl⟩
 case round=>
  obtain ⟨k,hk,rfl,rfl,rfl⟩:=hrel;by_cases hlt:k < l.length
  ·obtain ⟨g,m,c',hv,c0⟩:=hc k hlt;simp only [Value.slice.injEq] at hv;obtain ⟨rfl,rfl,rfl⟩:=hv;clear hc;have hx:l[k]? =some (l.getD k 0):=by simp [hlt]
   have hle:=List.count_le_length (a:=x) (l:=l.take k);have hle2:(l.take k).length<=l.length:=by simp;omega
   have hs:(l.take (k+1)).count x=(l.take k).count x+if l.getD k 0 == x then 1 else 0:=by
    rw [List.take_add_one,hx];simp [List.count_append,List.count_cons]
   have HS:=zh hs;clear hx hs;generalize l.getD k 0=y at*
   generalize (l.take k).count x=z at*
   have hz:(z:Int)<=4294967296:=zo;clear hle hle2;by_cases hy:y=x
   ·have hb:(y == x)=true:=by simp [hy]
    have HY:=zh hb;have hb2:(y == x)=true:=hb;clear hy hb;go_wp2;go_roundw;case rel=>exact ⟨k+1,zo,by go_num,by rw [HS.out,HY.out];simp,rfl⟩
    case measure=>simp [intOf];omega
   ·have hb:(y == x)=false:=by simp [hy]
    have HY:=zh hb;have hb2:(y == x)=false:=hb;clear hy hb;go_wp2;go_roundw;case rel=>exact ⟨k+1,zo,by go_num,by rw [HS.out,HY.out];simp,rfl⟩
    case measure=>simp [intOf];omega
  ·obtain rfl:k=l.length:=by omega
   clear hc;go_wp2;go_ret;exact ⟨zT,Below.refl _ _⟩
def qD (v k:Int):Bool:=iK v == 1 && qr (iL v) == k
def qn (v u k:Int):Bool:=iK v == 3 && iC v == k && !qx u k
theorem jds (q:Int) (k:Nat) (c:Nat) (w:World) (h:XV w t p s ad n vs) (h0:0<=q) (h1:q < p) :
 Calls prog 174 #[.agg #[.int .i64 t,.int .i64 p,.int .i64 s,.slice (some ad) n c],.int .i64 q,.int .i64 k] w (zW (.bool (qD (gv vs t q 0) k)) w):=by
 have bd:=kP (gv vs t q 0);have hl:=fun w=>jbO (iL (gv vs t q 0)) w zo zo;have HL:=zh hl;have X0:=h.boxed c;have HI:=zh (fun (w:World) (h:XV w t p s ad n vs)=>yp q c w h h0 h1);generalize hr:qD (gv vs t q 0) k=r;have hr2:(iK (gv vs t q 0) == 1 && qr (iL (gv vs t q 0)) == k)=r:=hr;have HR:=zh hr2;clear hr hr2 hl h bd;generalize iK (gv vs t q 0)=y1 at*
 generalize qr (iL (gv vs t q 0))=y4 at*
 generalize iL (gv vs t q 0)=y2 at*
 generalize iC (gv vs t q 0)=y3 at*
 by_cases hk1:y1=1
 ·have hb:(y1 == 1)=true:=by simp [hk1]
  have HR2:=HR.out;rw [hb] at HR2;have HR3:=zh HR2;clear hk1 HR HR2;go_enter func174,ntmps174;go_wp2_with fail;refine zM (HI.out _ X0.xv) fun w1 hb1=> ?_;have X1:=X0.keep hb1;obtain ⟨X10,X11,X12,X13⟩:=X1.cells;have X1z:=X1.lt;go_wp2_with fail;refine zM (HL.out _) fun w2 hb2=> ?_;go_wp2;go_ret;refine ⟨kL (by rw [<-HR3.out];simp),?_⟩;exact X1.bel.trans ((((Below.refl _ _).alloc (Nat.le_refl _) _).trans (hb2.mono zT)).mono X1.bel.size)
 ·have hb:(y1 == 1)=false:=by simp [hk1]
  have HR2:=HR.out;rw [hb] at HR2;have HR3:=zh HR2;clear hk1 HR HR2;go_enter func174,ntmps174;go_wp2_with fail;refine zM (HI.out _ X0.xv) fun w1 hb1=> ?_;have X1:=X0.keep hb1;obtain ⟨X10,X11,X12,X13⟩:=X1.cells;have X1z:=X1.lt;go_wp2;go_ret;refine ⟨kL (by rw [<-HR3.out];simp),?_⟩;exact X1.bel.alloc X1.bel.size _
theorem jcH (q:Int) (k:Nat) (c:Nat) (w:World) (h:XV w t p s ad n vs) (h0:0<=q) (h1:q < p) :
 Calls prog 176 #[.agg #[.int .i64 t,.int .i64 p,.int .i64 s,.slice (some ad) n c],.int .i64 q,.int .i64 k] w (zW (.bool (qn (gv vs t q 0) (gv vs t q 5) k)) w):=by
 have hg:=h.gu q 5;have HL:=zh (fun w=>XL (gv vs t q 5) k w hg.1);have X0:=h.boxed c;have HI:=zh (fun (w:World) (h:XV w t p s ad n vs)=>yp q c w h h0 h1);have HT:=zh (fun (w:World) (h:XV w t p s ad n vs)=>J5 q c w h h0 h1);generalize hr:qn (gv vs t q 0) (gv vs t q 5) k=r;have hr2:(iK (gv vs t q 0) == 3 && iC (gv vs t q 0) == k && !qx (gv vs t q 5) k)=r:=hr;have HR:=zh hr2;clear hr hr2 h hg;generalize iK (gv vs t q 0)=y1 at*
 generalize qx (gv vs t q 5) k=y4 at*
 generalize iL (gv vs t q 0)=y2 at*
 generalize iC (gv vs t q 0)=y3 at*
 generalize gv vs t q 5=y5 at*
 by_cases hk1:y1=3
 ·have hb:(y1 == 3)=true:=by simp [hk1]
  by_cases hk2:y3=k
  ·have hbb:(y3 == k)=true:=by simp [hk2]
   have HR2:=HR.out;rw [hb,hbb] at HR2;have HR3:=zh HR2;clear hk1 HR HR2 hk2;go_enter func176,ntmps176;go_wp2_with fail;refine zM (HI.out _ X0.xv) fun w1 hb1=> ?_;have X1:=X0.keep hb1;obtain ⟨X10,X11,X12,X13⟩:=X1.cells;have X1z:=X1.lt;have X1a:=X1.alloc (.cells #[.int .i64 y1,.int .i64 y2,.int .i64 y3] 130);go_wp2_with fail;refine zM (HT.out _ X1a.xv) fun w2 hb2=> ?_;have X2:=X1a.keep hb2;obtain ⟨X20,X21,X22,X23⟩:=X2.cells;have X2z:=X2.lt;obtain ⟨z0,z1,z2⟩:=box3 hb2;go_wp2_with fail;refine zM (HL.out _) fun w3 hb3=> ?_;go_wp2;go_ret;refine ⟨kL (by rw [<-HR3.out];simp),?_⟩;exact X2.bel.trans (hb3.mono X2.bel.size)
  ·have hbb:(y3 == k)=false:=by simp [hk2]
   have HR2:=HR.out;rw [hb,hbb] at HR2;have HR3:=zh HR2;clear hk1 HR HR2 hk2;go_enter func176,ntmps176;go_wp2_with fail;refine zM (HI.out _ X0.xv) fun w1 hb1=> ?_;have X1:=X0.keep hb1;obtain ⟨X10,X11,X12,X13⟩:=X1.cells;have X1z:=X1.lt;go_wp2;go_ret;refine ⟨kL (by rw [<-HR3.out];simp),?_⟩;exact X1.bel.alloc X1.bel.size _
 ·have hb:(y1 == 3)=false:=by simp [hk1]
  have HR2:=HR.out;rw [hb] at HR2;have HR3:=zh HR2;clear hk1 HR HR2;go_enter func176,ntmps176;go_wp2_with fail;refine zM (HI.out _ X0.xv) fun w1 hb1=> ?_;have X1:=X0.keep hb1;obtain ⟨X10,X11,X12,X13⟩:=X1.cells;have X1z:=X1.lt;go_wp2;go_ret;refine ⟨kL (by rw [<-HR3.out];simp),?_⟩;exact X1.bel.alloc X1.bel.size _
end
section
variable {t p s:Int} {ad:Addr} {n c:Nat} {vs:List Int}

def K0 (vs:List Int) (t p:Int):Nat->Int->Int->List Int->List Int×Bool
 | 0,_,_,out=>(out,false)
 | f+1,q,ah,out=>if q=0 then (out,true) else if p < q\/p<=out.length then (out,false) else if gv vs t (q - 1) 3≠ah then (out,false) else K0 vs t p f (gv vs t (q - 1) 2) q (out++[q - 1])
def qI (vs:List Int) (t p:Int) (head:Nat):List Int×Bool:=K0 vs t p (p.toNat+1) (vs.getD head 0) 0 []
structure LsRel (w:World) (vs:List Int) (t p s:Int) (sl:Value) (res:List Int×Bool) (v6 v7 v8:Value) (wr:World) (out:List Int) (q ah:Int):Prop where
 hq:v7= .int .u32 q
 ha:v8= .int .u32 ah
 q0:0<=q/\q < 4294967296
 row:wr.ownsRow 0 3 1 v6 out.length (Xc out)
 bs:BS w (w.heap.size :: v6.ownBlock.toList) wr
 box:∀o:Nat,wr.cell? ⟨w.heap.size,o,none⟩=(#[.int .i64 t,.int .i64 p,.int .i64 s,sl]:Array Value)[o]?
 le:(out.length:Int)<=p
 res:K0 vs t p (p.toNat+1 - out.length) q ah out=res
 far:∀k,v6.ownBlock=some k->w.heap.size < k
def LsRelE (w:World) (vs:List Int) (t p s:Int) (sl:Value) (res:List Int×Bool) (v6 v7 v8:Value) (wr:World):Prop:=∃out q ah,LsRel w vs t p s sl res v6 v7 v8 wr out q ah
theorem jb4 (head:Nat) (c:Nat) (w:World) (h:XV w t p s ad n vs) (hh:head < n) :
 Calls prog 173 #[.agg #[.int .i64 t,.int .i64 p,.int .i64 s,.slice (some ad) n c],.int .i64 head] w fun e w'=>∃v,e= .returned (.tuple #[v,.bool (qI vs t p head).2])/\RowP w (qI vs t p head).1 v w':=by
 have r0:=yq (w.alloc (.cells #[.int .i64 t,.int .i64 p,.int .i64 s,.slice (some ad) n c] 128)) 3 1;have hS0:=((BS.start w).alloc (.cells #[.int .i64 t,.int .i64 p,.int .i64 s,.slice (some ad) n c] 128)).alloc (.cells #[] 3);have d0:=jC (.cells #[] 3) zT (jr w #[.int .i64 t,.int .i64 p,.int .i64 s,.slice (some ad) n c] 128);simp only [World.size_alloc] at hS0 r0;have bd:4<=p/\p<=1024:=by have:=h.bd;omega
 have hres0:K0 vs t p (p.toNat+1) (vs.getD head 0) 0 []=qI vs t p head:=rfl;have HX:∀q,0<=q->q < p->∃k k2:Nat,k < n/\k2 < n/\(∀w,Calls prog 178 #[.agg #[.int .i64 t,.int .i64 p,.int .i64 s],.int .i64 q] w (zW (.int .i64 k) w))/\w.cell? (ad.add k)=some (.int .u32 (gv vs t q 3))/\(∀w,Calls prog 177 #[.agg #[.int .i64 t,.int .i64 p,.int .i64 s],.int .i64 q] w (zW (.int .i64 k2) w))/\w.cell? (ad.add k2)=some (.int .u32 (gv vs t q 2))/\0<=gv vs t q 2/\gv vs t q 2 < 4294967296:=by
  intro q h0 h1;obtain ⟨hx1,hx2⟩:=h.cx h0 h1 (part:=3) zo zo;obtain ⟨hy1,hy2⟩:=h.cx h0 h1 (part:=2) zo zo;refine ⟨cix t q 3,cix t q 2,hx1,hy1,fun w=> ?_,h.cells _ hx1,fun w=> ?_,h.cells _ hy1,h.gu q 2⟩
  ·have:=XC t p s q w;rwa [hx2] at this
  ·have:=XH t p s q w;rwa [hy2] at this
 have hc00:=h.cells head hh;have hcx:=(XV.boxed h c).xv.cells head hh;have hcy:=((XV.boxed h c).alloc (.cells #[] 3)).xv.cells head hh;have hu:=Kj h.u32 head;have HXX:=zh HX;clear HX h;generalize hRs:qI vs t p head=rs at*
 obtain ⟨rl,rb⟩:=rs;generalize vs.getD head 0=q0 at*
 obtain ⟨i0,hi0,hi1,hi2,hi3⟩:=info_parts Yx;have HI:=zh (And.intro hi0 (And.intro hi1 (And.intro hi2 hi3)));clear hi0 hi1 hi2 hi3 hRs;have HR0:=zh hres0;have HU:=zh hu;clear hres0 hu;go_enter func173,ntmps173;go_wp2_with fail;go_loopw [6,7,8,9] (fun v6 v7 v8 _ wr=>LsRelE w vs t p s (.slice (some ad) n c) (rl,rb) v6 v7 v8 wr) (fun v6 _ _ _ _=>p.toNat - lenS v6);case atStart=>exact ⟨[],q0,0,rfl,rfl,HU.out,r0,hS0.sub _ (by simp [Value.ownBlock]),d0,by simp;omega,by simpa using HR0.out,by simp [Value.ownBlock]⟩
 case round=>
  obtain ⟨out,q,ah,hr⟩:=hrel;obtain ⟨rfl,rfl,hq0,hrow,hbs,hbox,hle,hrs,hfar⟩:=hr;obtain ⟨hq1,hq2⟩:=hq0;have hlen:∃a m c,u6= .slice a m c/\m=out.length:=by
   rcases hrow.2 with ⟨h5,h6⟩ | ⟨g',cap',cur,h5,-⟩
   ·exact ⟨_,_,_,h5,h6.symm⟩
   ·exact ⟨_,_,_,h5,rfl⟩
  obtain ⟨pa,pm,pc,rfl,rfl⟩:=hlen;have hlt0:=(hbs.ls w.heap.size zT).1;have HB:=zh hbs;have HF:=zh hfar;have HRow:=zh hrow;have HBox:=zh hbox;have b0:=hbox 0;have b1:=hbox 1;simp at b0 b1;have hs0:(if q=0 then (out,true) else if p < q\/p<=out.length then (out,false) else if gv vs t (q - 1) 3≠ah then (out,false) else K0 vs t p (p.toNat - out.length) (gv vs t (q - 1) 2) q (out++[q - 1]))=(rl,rb):=by
   have e0:=hrs;have e1:p.toNat+1 - out.length=(p.toNat - out.length)+1:=zo;rw [e1] at e0;exact e0
  have HS:=zh hs0;have HLe:=zh hle;clear hS0 r0 d0 HR0 hbs hfar hrs hrow hbox hcx hcy hc00 hs0;by_cases hz:q=0
  ·have hzb:(q != 0)=false:=by simp [hz]
   have e0:=HS.out;rw [if_pos hz] at e0;obtain ⟨rfl,rfl⟩:=Prod.mk.inj e0;clear HXX HS e0 hz;go_wp2;refine bodyPost_ret (v:= .tuple #[.slice pa out.length pc,.bool true]) (by simp [results,results173,go_sem, *]) rfl ⟨_,rfl,?_⟩;exact ⟨HRow.out,fun k hk=>Nat.le_of_lt (HF.out k hk),HB.out.bel⟩
  ·have hzb:(q != 0)=true:=by simp [hz]
   have hw:IntKind.i64.wrap q=q:=jD _ zo;have hw2:IntKind.i64.wrap (q - 1)=q - 1:=jD _ zo;by_cases hp:p < q
   ·have e0:=HS.out;rw [if_neg hz,if_pos (Or.inl hp)] at e0;obtain ⟨rfl,rfl⟩:=Prod.mk.inj e0;clear HXX HS e0 hz;go_wp2;refine bodyPost_ret (v:= .tuple #[.slice pa out.length pc,.bool false]) (by simp [results,results173,go_sem, *]) rfl ⟨_,rfl,?_⟩;exact ⟨HRow.out,fun k hk=>Nat.le_of_lt (HF.out k hk),HB.out.bel⟩
   ·by_cases hl:p<=out.length
    ·have e0:=HS.out;rw [if_neg hz,if_pos (Or.inr hl)] at e0;obtain ⟨rfl,rfl⟩:=Prod.mk.inj e0;clear HXX HS e0 hz;go_wp2;refine bodyPost_ret (v:= .tuple #[.slice pa out.length pc,.bool false]) (by simp [results,results173,go_sem, *]) rfl ⟨_,rfl,?_⟩;exact ⟨HRow.out,fun k hk=>Nat.le_of_lt (HF.out k hk),HB.out.bel⟩
    ·obtain ⟨k,k2,hk,hk2,hI,hc0,hI2,hd0,hg0,hg1⟩:=HXX.out (q - 1) zo zo;have e0:=HS.out;rw [if_neg hz,if_neg zo] at e0;have hc1:=HB.out.old hc0;have H1:=zh hI;have H2:=zh hI2;have HD:=zh hd0;have HGU:=zh (And.intro hg0 hg1);clear HXX HS hz hI hI2 hc0 hd0 hg0 hg1 hle;generalize gv vs t (q - 1) 3=u at*
     generalize gv vs t (q - 1) 2=x at*
     by_cases hu:u=ah
     ·have hub:(u != ah)=false:=by simp [hu]
      rw [if_neg (by simpa using hu)] at e0;have HN:=zh e0;clear e0 hu;go_wp2_with fail;refine QN (zP HBox.out) (zQ hc1) fun hHeld=> ?_;refine wT 0 ?_;refine wY ?_;refine wC 5 (H1.out _) fun wz hHeld=> ?_;refine wY ?_;refine wD ?_;have rz:=hHeld.1.row HRow.out;have hzb2:=zh hHeld.2.1;have hbz:=HB.out.below hHeld.1.bel;have bel:=hHeld.1.bel;clear hHeld;go_wp2_with (at_builtin;go_must (refine km rfl _ _ rfl 3 i0 (.int .i64 0) 1 8 underlying66 HI.out.1 HI.out.2.1 HI.out.2.2.1 HI.out.2.2.2 rfl zd (.slice pa out.length pc) out.length (Xc out) rfl (rz.alloc _) ⟨wz.heap.size,0,none⟩ 1 1 [.int .i64 (q - 1)] rfl rfl (cell_one_new _ _ _) ?c1 ?c2 ?c3 ?_);go_must (case c1=>(simp [Value.oneCell']));go_must (case c2=>(have:=HLe.out;unfold maxLen;omega));go_must (case c3=>(have:=HLe.out;omega));go_must (intro v' w5 hown5 hg5 hnew5 hnil5);clear hnil5;go_must (obtain ⟨g',cap',rfl⟩:=Joins.ownsRow_form hown5 zo));have hb5:=hbz.append hg5 hnew5 hown5;have hx5:∀o:Nat,w5.cell? ⟨w.heap.size,o,none⟩=(#[.int .i64 t,.int .i64 p,.int .i64 s,.slice (some ad) n c]:Array Value)[o]? :=qh hg5 (by have:=bel.size;simp;omega) (fun e=>by have:=HF.out _ e;omega) (jC _ (by have:=bel.size;omega) hzb2.out);have hd5:=hb5.old HD.out;have hl5:=(hb5.ls w.heap.size zT).1;have HB5:=zh hb5;have HX5:=zh hx5;have far5:∀k,(Value.slice (some ⟨g',0,none⟩) (out.length+1) cap').ownBlock=some k->w.heap.size < k:=fun k hk=>(hnew5 k hk).elim (HF.out k) (fun h=>by have:=bel.size;simp at h;omega);clear hb5 hx5 hg5 hnew5 rz hbz hzb2;refine QN (zP HX5.out) (zQ hd5) fun hHeld=> ?_;refine wT 0 ?_;refine wY ?_;refine wC 5 (H2.out _) fun wz hHeld=> ?_;refine wY ?_;refine wD ?_;have rz:=hHeld.1.row hown5;have hzb2:=hHeld.2.1;have hbz:=HB5.out.below hHeld.1.bel;clear hHeld;go_wp2_with fail;go_roundw;case rel=>
       refine ⟨out++[q - 1],x,q,rfl,rfl,HGU.out,by simpa [Xc] using rz,hbz,hzb2,by simp;omega,?_,far5⟩;have e2:p.toNat+1 - (out++[q - 1]).length=p.toNat - out.length:=by rw [List.length_append,List.length_singleton];omega
       rw [e2];exact HN.out
      case measure=>simp [lenS];omega
     ·have hub:(u != ah)=true:=by simp [hu]
      rw [if_pos hu] at e0;obtain ⟨rfl,rfl⟩:=Prod.mk.inj e0;clear e0 hu;go_wp2_with fail;refine QN (zP HBox.out) (zQ hc1) fun hHeld=> ?_;refine wT 0 ?_;refine wY ?_;refine wC 5 (H1.out _) fun wz hHeld=> ?_;refine wY ?_;refine wD ?_;have rz:=hHeld.1.row HRow.out;have hbz:=HB.out.below hHeld.1.bel;clear hHeld;go_wp2;refine bodyPost_ret (v:= .tuple #[.slice pa out.length pc,.bool false]) (by simp [results,results173,go_sem, *]) rfl ⟨_,rfl,?_⟩;exact ⟨rz,fun k hk=>Nat.le_of_lt (HF.out k hk),hbz.bel⟩
end
end Go.Proofs.YtcnininelndjoaaGreat

