/- parts of the proof, merged by a program. -/
import Derived.Test.YtcnininelndjoaaGreatMmt1
import Derived.Test.YtcnininelndjoaaGreatMmt2
import Derived.Lib.BitFns
import Derived.Lib.Tables
import Derived.Laws.BitsLemmas
import Derived.Test.YtcnininelndjoaaGreatRows
import Derived.Lib.Hide
import Derived.DeepKeys4
import Derived.Maps.RangeWalk
import Derived.BigRegion
import Derived.Lib.Walk
import Derived.Lib.SliceRun
import Derived.Laws.CopyRow
import Derived.Carry
import Derived.ProofKit
import Derived.OpenShut
import Derived.Deep.Slices
import Derived.Laws.Slices
import Derived.Deep.OwnRows
set_option linter.unusedSimpArgs false
set_option linter.unusedVariables false
set_option maxRecDepth 100000
set_option maxHeartbeats 4000000
namespace Go.Proofs.YtcnininelndjoaaGreat
open Go.Proofs.Tryz
open Go.RowKit

theorem jcm (n:Int) (h₀:0<=n) (h₁:n < 2 ^ 32):IntKind.u32.wrap n=n:=by rw [IntKind.wrap_u32];omega
theorem qU (n:Int) (h₀:0<=n) (h₁:n < 2 ^ 64):IntKind.u64.wrap n=n:=by rw [IntKind.wrap_u64];omega
theorem jfI {x:Int} (h0:0<=x) (h1:x < 4294967296):bits .and .u32 x 255=x % 256:=bits_mask .u32 32 zd jcm 8 zd x h0 zo
theorem byte_bit (v:Int) (a i:Nat) (h:a+8<=32) (hi:i < 8):bitB (v / 2 ^ a % 256) i=bitB v (a+i):=by
 have e:(256:Int)=2 ^ i*(2*2 ^ (7 - i)):=by
  rw [<-Int.pow_succ',<-Int.pow_add,show i+(7 - i+1)=8 by omega];rfl
 have hp:(0:Int) < 2 ^ i:=Int.pow_pos zo;unfold bitB;have h1:decide (i < 32)=true:=by simp;omega
 have h2:decide (a+i < 32)=true:=by simp;omega
 rw [h1,h2];have hq:v / 2 ^ a % 256 / 2 ^ i % 2=v / 2 ^ (a+i) % 2:=by
  rw [Int.pow_add,<-Int.ediv_ediv_of_nonneg (Int.pow_nonneg zo)];generalize v / 2 ^ a=x;have hx:=Int.emod_def x 256;generalize x / 256=q at hx;rw [hx,e,show x - 2 ^ i*(2*2 ^ (7 - i))*q=x+(-(2*2 ^ (7 - i)*q))*2 ^ i by rw [Int.neg_mul,Int.mul_comm (2*2 ^ (7 - i)*q),Int.mul_assoc (2 ^ i)];rfl,Int.add_mul_ediv_right _ _ zo,Int.mul_assoc];generalize 2 ^ (7 - i)*q=z;omega
 rw [hq]
theorem JW (v:Int) (a:Nat) (h:a+8<=32):∀k,k<=8->kj v (a+k)=kj v a+kj (v / 2 ^ a % 256) k
 | 0,_=>by simp [kj]
 | k+1,hk=>by
  have ih:=JW v a h k zo;have e1:kj v (a+(k+1))=kj v (a+k)+if bitB v (a+k) then 1 else 0:=rfl
  have e2:kj (v / 2 ^ a % 256) (k+1)=kj (v / 2 ^ a % 256) k+if bitB (v / 2 ^ a % 256) k then 1 else 0:=rfl
  rw [e1,e2,byte_bit v a k h zo,ih];omega
theorem jew:∀n:Fin 256,Lib.pop8 (n.val:Int)=(kj (n.val:Int) 8:Int):=by decide+kernel
theorem VM (b:Int) (h0:0<=b) (h1:b<=255):Lib.pop8 b=(kj b 8:Int):=by
 have e:=jew ⟨b.toNat,zo⟩;simpa only [Int.toNat_of_nonneg h0] using e
theorem ones_sum {v:Int} (h0:0<=v) (h1:v < 4294967296):(kj v 32:Int)=Lib.pop8 (v / 16777216)+Lib.pop8 (v / 65536 % 256)+Lib.pop8 (v / 256 % 256)+Lib.pop8 (v % 256):=by
 rw [VM _ zo zo,VM _ zo zo,VM _ zo zo,VM _ zo zo];have a0:kj v 8=kj v 0+kj (v % 256) 8:=by
  have:=JW v 0 zo 8 zo;rwa [show v / 2 ^ 0 % 256=v % 256 by simp] at this
 have a1:kj v 16=kj v 8+kj (v / 256 % 256) 8:=JW v 8 zo 8 zo;have a2:kj v 24=kj v 16+kj (v / 65536 % 256) 8:=JW v 16 zo 8 zo;have a3:kj v 32=kj v 24+kj (v / 16777216) 8:=by
  have:kj v 32=kj v 24+kj (v / 16777216 % 256) 8:=JW v 24 zo 8 zo;rwa [show v / 16777216 % 256=v / 16777216 by omega] at this
 have z:kj v 0=0:=rfl;omega
theorem ones_any (v:Int) (w:World) (h0:0<=v) (h1:v < 4294967296) :
 Calls prog 276 #[.int .u32 v] w (zW (.int .i64 (kj v 32)) w):=by
 have a1:=jfI (x:=v / 65536) zo zo;have a2:=jfI (x:=v / 256) zo zo;have a3:=jfI h0 h1;have hs:=ones_sum h0 h1;have k0:=fun w=>Lib.run_index_pop8tab (P:=prog) w 9 .u32 (v / 16777216) underlying9 zo zo;have k1:=fun w=>Lib.run_index_pop8tab (P:=prog) w 9 .u32 (v / 65536 % 256) underlying9 zo zo;have k2:=fun w=>Lib.run_index_pop8tab (P:=prog) w 9 .u32 (v / 256 % 256) underlying9 zo zo;have k3:=fun w=>Lib.run_index_pop8tab (P:=prog) w 9 .u32 (v % 256) underlying9 zo zo;go_enter func276,ntmps276;go_wp2;go_region;go_wp2;go_ret;refine ⟨qu ?_,(Below.refl _ _).drew⟩;have:=QT v 32;omega
theorem hmask44 (w:World):Calls prog 214 #[.int .i64 44] w (zW (.int .u64 17592186044415) w):=by
 go_enter func214,ntmps214;go_wp2;go_ret;exact ⟨rfl,Below.refl _ _⟩
theorem hgetK (v:Int) (w:World) (h0:0<=v) (h1:v < 4294967296) :
 Calls prog 186 #[.int .u64 v,.int .i64 0,.int .i64 4] w (zW (.int .u64 (v % 16)) w):=by
 have ha:bits .and .u64 (v) 15=v % 16:=bits_mask .u64 64 zd qU 4 zd (v) zo zo;go_enter func186,ntmps186;go_wp2_with fail;refine zM (k9 _ _ _ zo zo zo zo) fun w1 b1=> ?_;go_wp2;refine jdE fun hHeld=> ?_;refine wT 0 ?_;refine wY ?_;refine wC 4 (jb7 _) fun wz hHeld=> ?_;refine wY ?_;refine wD ?_;go_wp2;go_ret;exact ⟨rfl,b1.trans (hHeld.bel.mono b1.size)⟩
theorem hgetL (v:Int) (w:World) (h0:0<=v) (h1:v < 4294967296) :
 Calls prog 186 #[.int .u64 v,.int .i64 4,.int .i64 12] w (zW (.int .u64 (v / 16 % 4096)) w):=by
 have ha:bits .and .u64 (v / 16) 4095=v / 16 % 4096:=bits_mask .u64 64 zd qU 12 zd (v / 16) zo zo;go_enter func186,ntmps186;go_wp2_with fail;refine zM (k9 _ _ _ zo zo zo zo) fun w1 b1=> ?_;go_wp2;refine jdE fun hHeld=> ?_;refine wT 0 ?_;refine wY ?_;refine wC 4 (jbs _) fun wz hHeld=> ?_;refine wY ?_;refine wD ?_;go_wp2;go_ret;exact ⟨rfl,b1.trans (hHeld.bel.mono b1.size)⟩
theorem hgetC (v:Int) (w:World) (h0:0<=v) (h1:v < 4294967296) :
 Calls prog 186 #[.int .u64 v,.int .i64 16,.int .i64 4] w (zW (.int .u64 (v / 65536 % 16)) w):=by
 have ha:bits .and .u64 (v / 65536) 15=v / 65536 % 16:=bits_mask .u64 64 zd qU 4 zd (v / 65536) zo zo;go_enter func186,ntmps186;go_wp2_with fail;refine zM (k9 _ _ _ zo zo zo zo) fun w1 b1=> ?_;go_wp2;refine jdE fun hHeld=> ?_;refine wT 0 ?_;refine wY ?_;refine wC 4 (jb7 _) fun wz hHeld=> ?_;refine wY ?_;refine wD ?_;go_wp2;go_ret;exact ⟨rfl,b1.trans (hHeld.bel.mono b1.size)⟩
theorem hgetR (v:Int) (w:World) (h0:0<=v) (h1:v < 4294967296) :
 Calls prog 186 #[.int .u64 v,.int .i64 20,.int .i64 44] w (zW (.int .u64 (v / 1048576 % 17592186044416)) w):=by
 have ha:bits .and .u64 (v / 1048576) 17592186044415=v / 1048576 % 17592186044416:=bits_mask .u64 64 zd qU 44 zd (v / 1048576) zo zo;go_enter func186,ntmps186;go_wp2_with fail;refine zM (k9 _ _ _ zo zo zo zo) fun w1 b1=> ?_;go_wp2;refine jdE fun hHeld=> ?_;refine wT 0 ?_;refine wY ?_;refine wC 4 (hmask44 _) fun wz hHeld=> ?_;refine wY ?_;refine wD ?_;go_wp2;go_ret;exact ⟨rfl,b1.trans (hHeld.bel.mono b1.size)⟩
theorem jex (v:Int) (w:World) (h0:0<=v) (h1:v < 4294967296) :
 Calls prog 264 #[.int .u32 v] w (zW (.int .i64 (kj v 32)) w):=by
 have H:=zh (fun w=>ones_any v w h0 h1);go_enter func264,ntmps264;go_wp2_with fail;refine zM (H.out _) fun w1 b1=> ?_;go_wp2;go_ret;exact ⟨rfl,b1⟩
theorem jde (k l c:Int) (w:World) :
 Calls prog 248 #[.agg #[.int .i64 k,.int .i64 l,.int .i64 c]] w (zW (.bool (yr k l c)) w):=by
 generalize hr:yr k l c=r;have HR:=zh hr;clear hr;go_enter func248,ntmps248;go_wp2;all_goals
  go_ret;refine ⟨kL ?_,?_⟩
  ·have e:=HR.out;subst e;clear HR;rw [Bool.eq_iff_iff];simp_all [yr];try omega
  ·clear HR;exact zR
theorem okI_eq {v:Int} (h0:0<=v):(decide (v / 1048576 % 17592186044416=0) && yr (v % 16) (v / 16 % 4096) (v / 65536 % 16))=okI v\/¬v < 4294967296:=by
 by_cases h:v < 4294967296
 ·left;unfold okI;by_cases h2:v / 1048576=0
  ·rw [show v / 1048576 % 17592186044416=0 by omega,show v / 65536 % 16=v / 65536 by omega];simp
  ·rw [show decide (v / 1048576 % 17592186044416=0)=false by simp;omega];have h3:16<=v / 65536:=zo;have hr:yr (v % 16) (v / 16 % 4096) (v / 65536)=false:=by
    unfold yr;repeat' split
    all_goals simp <;> omega
   rw [hr];rfl
 ·exact Or.inr h
theorem V2 (v:Int) (w:World) (h0:0<=v) (h1:v < 4294967296) :
 Calls prog 219 #[.int .u32 v] w (zW (.tuple #[.agg #[.int .i64 (iK v),.int .i64 (iL v),.int .i64 (iC v)],.bool (okI v)]) w):=by
 have hok:=(okI_eq h0).resolve_right zo;have HK:=zh (fun w=>hgetK v w h0 h1);have HL:=zh (fun w=>hgetL v w h0 h1);have HC:=zh (fun w=>hgetC v w h0 h1);have HR:=zh (fun w=>hgetR v w h0 h1);have HI:=zh (fun w=>jde (v % 16) (v / 16 % 4096) (v / 65536 % 16) w);have hw:IntKind.u64.wrap v=v:=qU _ h0 zo;have hwk:IntKind.i64.wrap (v % 16)=v % 16:=jD _ zo;have hwl:IntKind.i64.wrap (v / 16 % 4096)=v / 16 % 4096:=jD _ zo;have hwc:IntKind.i64.wrap (v / 65536 % 16)=v / 65536 % 16:=jD _ zo;have S0:=(BS.start w).alloc (.cells #[.int .i64 0,.int .i64 0,.int .i64 0] 130);have r0:=heap_alloc_new w (.cells #[.int .i64 0,.int .i64 0,.int .i64 0] 130);have hv1:iK v=if okI v then v % 16 else 0:=rfl
 have hv2:iL v=if okI v then v / 16 % 4096 else 0:=rfl
 have hv3:okI v=true->iC v=v / 65536 % 16:=by
  intro h;have e:iC v=v / 65536:=by unfold iC;rw [if_pos h]
  have:=kP v;rw [e] at this ⊢;omega
 have hv4:okI v=false->iC v=0:=by intro h;unfold iC;rw [h];rfl
 have HVV:=zh (And.intro hv1 (And.intro hv2 (And.intro hv3 hv4)));clear hv1 hv2 hv3 hv4;generalize yr (v % 16) (v / 16 % 4096) (v / 65536 % 16)=rg at*
 generalize v / 1048576 % 17592186044416=rs at*
 have HOK:=zh hok;clear hok;generalize v % 16=k at*
 generalize v / 16 % 4096=l at*
 generalize v / 65536 % 16=c at*
 go_enter func219,ntmps219;go_wp2_with fail;refine zM (jv S0 (HK.out _)) ?_;rintro w1 ⟨S1,q1⟩;have r1:=(q1 w.heap.size zT).trans r0;go_wp2_with fail;refine zM (jv S1 (HL.out _)) ?_;rintro w2 ⟨S2,q2⟩;have r2:=(q2 w.heap.size zT).trans r1;go_wp2_with fail;refine zM (jv S2 (HC.out _)) ?_;rintro w3 ⟨S3,q3⟩;have r3:=(q3 w.heap.size zT).trans r2;have A3:=S3.allocd #[.int .i64 k,.int .i64 l,.int .i64 c] 130;have r3a:=(heap_alloc_old _ (.cells #[.int .i64 k,.int .i64 l,.int .i64 c] 130) (S3.ls w.heap.size zT).1).trans r3;have hne:w.heap.size≠w3.heap.size:=by have:=(S3.ls w.heap.size zT).1;omega
 clear S0 S1 S2 S3 q1 q2 q3 r0 r1 r2 r3 HK HL HC;go_wp2_with fail;refine zM (jv A3.bs (HR.out _)) ?_;rintro w4 ⟨S4,q4⟩;have r4:=(q4 w.heap.size zT).trans r3a;have i4:=(q4 w3.heap.size zT).trans A3.box;obtain ⟨⟨a0,a1,a2⟩,-,-,-⟩:=cells3 i4;clear A3 r3a q4 HR;by_cases hrs:rs=0
 ·subst hrs;go_wp2_with fail;refine zM (jv S4 (HI.out _)) ?_;rintro w5 ⟨S5,q5⟩;have r5:=(q5 w.heap.size zT).trans r4;have i5:=(q5 w3.heap.size zT).trans i4;clear r4 i4 S4 q5 a0 a1 a2;obtain ⟨⟨a0,a1,a2⟩,-,-,-⟩:=cells3 i5;clear i5;cases rg
  ·have rZ:=r5;have SZ:=S5;clear r5 S5;obtain ⟨⟨d0,d1,d2⟩,j0,j1,j2⟩:=cells3 rZ;have HSZ:=zh SZ;clear rZ SZ;go_wp2;refine bodyPost_ret (v:= .tuple #[.agg #[.int .i64 0,.int .i64 0,.int .i64 0],.bool false]) (by simp [results,results219,go_sem, *]) rfl ⟨?_,?_⟩
   ·obtain ⟨f1,f2,f3,f4⟩:=HVV.out;have hO:=HOK.out;have hF:okI v=false:=by rw [<-hO];rfl
    rw [f1,f2,f4 hF,hF];rfl
   ·have hm:w.heap.size∈[w3.heap.size,w.heap.size]:=zT;exact (((HSZ.out.setCell hm 0 _).setCell hm 1 _).setCell hm 2 _).bel
  ·have rZ:=r5;have SZ:=S5;clear r5 S5;obtain ⟨⟨d0,d1,d2⟩,j0,j1,j2⟩:=cells3 rZ;have HSZ:=zh SZ;clear rZ SZ;go_wp2;refine bodyPost_ret (v:= .tuple #[.agg #[.int .i64 k,.int .i64 l,.int .i64 c],.bool true]) (by simp [results,results219,go_sem, *]) rfl ⟨?_,?_⟩
   ·obtain ⟨f1,f2,f3,f4⟩:=HVV.out;have hO:=HOK.out;have hT:okI v=true:=by rw [<-hO];rfl
    rw [f1,f2,f3 hT,hT];rfl
   ·have hm:w.heap.size∈[w3.heap.size,w.heap.size]:=zT;exact (((HSZ.out.setCell hm 0 _).setCell hm 1 _).setCell hm 2 _).bel
 ·have hrb:(rs != 0)=true:=by simpa using hrs
  have rZ:=r4;have SZ:=S4;clear r4 S4 i4;obtain ⟨⟨d0,d1,d2⟩,j0,j1,j2⟩:=cells3 rZ;have HSZ:=zh SZ;clear rZ SZ;go_wp2;refine bodyPost_ret (v:= .tuple #[.agg #[.int .i64 0,.int .i64 0,.int .i64 0],.bool false]) (by simp [results,results219,go_sem, *]) rfl ⟨?_,?_⟩
  ·obtain ⟨f1,f2,f3,f4⟩:=HVV.out;have hO:=HOK.out;have hF:okI v=false:=by rw [<-hO];simp [hrs]
   rw [f1,f2,f4 hF,hF];rfl
  ·have hm:w.heap.size∈[w3.heap.size,w.heap.size]:=zT;exact (((HSZ.out.setCell hm 0 _).setCell hm 1 _).setCell hm 2 _).bel

theorem YK {w w1 w2:World} (a:Below w.heap.size w w1) (b:Below w1.heap.size w1 w2):Below w.heap.size w w2:=a.trans (b.mono a.size)
theorem wrap_u32 (x:Int):IntKind.u32.wrap x=x % 4294967296:=by simp [IntKind.wrap,IntKind.bits,IntKind.signed]
theorem V3 (v:Int) (w:World) (h:U64 v):Calls prog 136 #[.int .u64 v] w (zW (.int .u32 (loW v)) w):=by
 have hw:=wrap_u32 v;clear h;go_enter func136,ntmps136;go_wp2;go_ret;exact ⟨rfl,Below.refl _ _⟩
theorem V4 (v:Int) (w:World) (h:U64 v):Calls prog 138 #[.int .u64 v] w (zW (.int .u32 (hiW v)) w):=by
 have hb:=Qt h;have hw:IntKind.u32.wrap (v / 4294967296)=v / 4294967296:=IntWalk.u32_in _ (by unfold hiW at hb;omega);clear hb h;go_enter func138,ntmps138;go_wp2;go_ret;exact ⟨rfl,Below.refl _ _⟩
theorem K3 (h l:Int) (w:World) (h0:0<=h/\h < 4294967296) (h1:0<=l/\l < 4294967296):Calls prog 225 #[.int .u32 h,.int .u32 l] w (zW (.int .u64 (jH h l)) w):=by
 have hwh:IntKind.u64.wrap h=h:=jO _ zo zo;have hwl:IntKind.u64.wrap l=l:=jO _ zo zo;have hwm:IntKind.u64.wrap (h*4294967296)=h*4294967296:=jO _ zo zo;have ho:bits BinOp.or IntKind.u64 (h*4294967296) l=h*4294967296+l:=by
  have:=bits_join .u64 64 zd jO 32 (h*4294967296) l zo zo zo zo zo zo;exact this
 clear h0 h1;go_enter func225,ntmps225;go_wp2;go_ret;exact ⟨rfl,Below.refl _ _⟩
theorem hmask15 (w:World):Calls prog 214 #[.int .i64 15] w (zW (.int .u64 32767) w):=by
 go_enter func214,ntmps214;go_wp2;go_ret;exact ⟨rfl,Below.refl _ _⟩
theorem jfj (w:World):Calls prog 214 #[.int .i64 1] w (zW (.int .u64 1) w):=by
 go_enter func214,ntmps214;go_wp2;go_ret;exact ⟨rfl,Below.refl _ _⟩
theorem hget0 (v:Int) (w:World) (h:U64 v) :
 Calls prog 186 #[.int .u64 v,.int .i64 0,.int .i64 16] w (zW (.int .u64 (v % 65536)) w):=by
 unfold U64 at h;have ha:bits .and .u64 v 65535=v % 65536:=bits_mask .u64 64 zd qU 16 zd v zo zo;go_enter func186,ntmps186;go_wp2_with fail;refine zM (k9 _ _ _ zo zo zo zo) fun w1 b1=> ?_;go_wp2;refine jdE fun hHeld=> ?_;refine wT 0 ?_;refine wY ?_;refine wC 4 (hmask16 _) fun wz hHeld=> ?_;refine wY ?_;refine wD ?_;go_wp2;go_ret;exact ⟨rfl,b1.trans (hHeld.bel.mono b1.size)⟩
theorem hget16 (v:Int) (w:World) (h:U64 v) :
 Calls prog 186 #[.int .u64 v,.int .i64 16,.int .i64 15] w (zW (.int .u64 (v / 65536 % 32768)) w):=by
 unfold U64 at h;have ha:bits .and .u64 (v / 65536) 32767=v / 65536 % 32768:=bits_mask .u64 64 zd qU 15 zd (v / 65536) zo zo;go_enter func186,ntmps186;go_wp2_with fail;refine zM (k9 _ _ _ zo zo zo zo) fun w1 b1=> ?_;go_wp2;refine jdE fun hHeld=> ?_;refine wT 0 ?_;refine wY ?_;refine wC 4 (hmask15 _) fun wz hHeld=> ?_;refine wY ?_;refine wD ?_;go_wp2;go_ret;exact ⟨rfl,b1.trans (hHeld.bel.mono b1.size)⟩
theorem hget31 (v:Int) (w:World) (h:U64 v) :
 Calls prog 186 #[.int .u64 v,.int .i64 31,.int .i64 1] w (zW (.int .u64 (v / 2147483648 % 2)) w):=by
 unfold U64 at h;have ha:bits .and .u64 (v / 2147483648) 1=v / 2147483648 % 2:=bits_mask .u64 64 zd qU 1 zd (v / 2147483648) zo zo;go_enter func186,ntmps186;go_wp2_with fail;refine zM (k9 _ _ _ zo zo zo zo) fun w1 b1=> ?_;go_wp2;refine jdE fun hHeld=> ?_;refine wT 0 ?_;refine wY ?_;refine wC 4 (jfj _) fun wz hHeld=> ?_;refine wY ?_;refine wD ?_;go_wp2;go_ret;exact ⟨rfl,b1.trans (hHeld.bel.mono b1.size)⟩
theorem Vp (n:Int) (w:World) (h0:0<=n):Calls prog 137 #[.int .i64 n] w (zW (.bool (decide (n<=16))) w):=by
 by_cases h:n<=16
 ·have hd:decide (n<=16)=true:=by simpa using h
  rw [hd];clear hd;go_enter func137,ntmps137;go_wp2;go_ret;exact ⟨rfl,Below.refl _ _⟩
 ·have hd:decide (n<=16)=false:=by simpa using h
  rw [hd];go_enter func137,ntmps137;go_wp2;go_ret;exact ⟨rfl,Below.refl _ _⟩
theorem jeQ (v s u:Int) (w:World) (h:U64 v) (ht:KC v=some (s,u)):Calls prog 81 #[.int .u64 v] w (zW (.tuple #[.int .u32 s,.int .i64 u,.bool true]) w):=by
 unfold KC at ht;split at ht
 ·rename_i hl;simp only [Option.some.injEq,Prod.mk.injEq] at ht;obtain ⟨rfl,rfl⟩:=ht;have HL:=zh (fun w=>V3 v w h);have HH:=zh (fun w=>V4 v w h);have HM:=zh (fun w=>Vp (loW v) w (KZ v).1);rw [show decide (loW v<=16)=true by simpa using hl] at HM;have hb:=KZ v;generalize loW v=u at*
  generalize hiW v=s at*
  clear hl h;go_enter func81,ntmps81;go_wp2_with fail;refine zM (HL.out _) fun w1 b1=> ?_;obtain ⟨b1c,b1f⟩:=jB b1;go_wp2_with fail;refine zM (HM.out _) fun w2 b2=> ?_;obtain ⟨b2c,b2f⟩:=jB b2;go_wp2_with fail;refine zM (HH.out _) fun w3 b3=> ?_;obtain ⟨b3c,b3f⟩:=jB b3;go_wp2;refine bodyPost_ret (v:= .tuple #[.int .u32 s,.int .i64 u,.bool true]) (by simp [results,results81,go_sem]) rfl ⟨rfl,YK (YK b1 b2) b3⟩
 ·cases ht
theorem jc4 (v:Int) (w:World) (h:U64 v):Calls prog 230 #[.int .u64 v] w (zW (.int .u32 (hiW v)) w):=by
 have H:=zh (fun w=>V4 v w h);clear h;go_enter func230,ntmps230;go_wp2_with fail;refine zM (H.out _) fun w1 b1=> ?_;obtain ⟨b1c,b1f⟩:=jB b1;go_wp2;go_ret;exact ⟨rfl,b1⟩
theorem mval_any (v:Int) (w:World) (h:U64 v):Calls prog 145 #[.int .u64 v] w (zW (.int .u32 (loW v)) w):=by
 have H:=zh (fun w=>V3 v w h);clear h;go_enter func145,ntmps145;go_wp2_with fail;refine zM (H.out _) fun w1 b1=> ?_;obtain ⟨b1c,b1f⟩:=jB b1;go_wp2;go_ret;exact ⟨rfl,b1⟩
theorem jc6 (h l:Int) (w:World) (h0:0<=h/\h < 4294967296) (h1:0<=l/\l < 4294967296):Calls prog 231 #[.int .u32 h,.int .u32 l] w (zW (.int .u64 (jH h l)) w):=by
 have H:=zh (fun w=>K3 h l w h0 h1);clear h0 h1;go_enter func231,ntmps231;go_wp2_with fail;refine zM (H.out _) fun w1 b1=> ?_;obtain ⟨b1c,b1f⟩:=jB b1;go_wp2;go_ret;exact ⟨rfl,b1⟩
theorem jc9 (v c x:Int) (w:World) (h:U64 v) (ht:qj v=some (c,x)):Calls prog 149 #[.int .u64 v] w (zW (.tuple #[.agg #[.int .i64 c,.int .u32 x],.bool true]) w):=by
 unfold qj at ht;split at ht
 ·rename_i hl;simp only [Option.some.injEq,Prod.mk.injEq] at ht;obtain ⟨rfl,rfl⟩:=ht;have HL:=zh (fun w=>V3 v w h);have HH:=zh (fun w=>V4 v w h);have hb:=Qt h;generalize loW v=u at*
  generalize hiW v=s at*
  clear h;go_enter func149,ntmps149;go_wp2_with fail;refine zM (HH.out _) fun w1 b1=> ?_;obtain ⟨b1c,b1f⟩:=jB b1;have b1z0:w.heap.size < w1.heap.size:=zL b1;go_wp2_with fail;refine zM (HL.out _) fun w2 b2=> ?_;obtain ⟨b2c,b2f⟩:=jB b2;go_wp2;refine bodyPost_ret (v:= .tuple #[.agg #[.int .i64 s,.int .u32 u],.bool true]) (by simp [results,results149,go_sem, *]) rfl ⟨rfl,?_⟩;exact zR
 ·cases ht
theorem jb3 (v:Int):loW v=v % 65536+65536*(v / 65536 % 32768)+2147483648*(v / 2147483648 % 2):=by unfold loW;omega
theorem Ki (v st n:Int) (o:Bool) (w:World) (h:U64 v) (ht:qo v=some (st,o,n)):Calls prog 141 #[.int .u64 v] w (zW (.tuple #[.agg #[.int .u32 st,.bool o,.int .i64 n],.bool true]) w):=by
 obtain ⟨e1,e2,e3,e4,e5⟩:=Jc h ht;have hp:=jb3 v;have HG0:=zh (fun w=>hget0 v w h);have HG1:=zh (fun w=>hget16 v w h);have HG2:=zh (fun w=>hget31 v w h);have HH:=zh (fun w=>V4 v w h);have c1:v % 65536=n:=zo;have c2:v / 65536 % 32768=0:=zo;have c3:o=(v / 2147483648 % 2 == 1):=by rw [e4,Bool.eq_iff_iff];simp;omega
 rw [c1] at HG0;rw [c2] at HG1;rw [<-e1] at HH;subst c3;clear ht e1 e4 e5 hp c1 c2 h;generalize v / 2147483648 % 2=o at*
 go_enter func141,ntmps141;go_wp2_with fail;refine zM (HG0.out _) fun w1 b1=> ?_;obtain ⟨b1c,b1f⟩:=jB b1;have b1z0:w.heap.size < w1.heap.size:=zL b1;go_wp2_with fail;refine zM (HG1.out _) fun w2 b2=> ?_;obtain ⟨b2c,b2f⟩:=jB b2;have b2z0:w.heap.size < w2.heap.size:=zL b2;go_wp2_with fail;refine zM (HH.out _) fun w3 b3=> ?_;obtain ⟨b3c,b3f⟩:=jB b3;have b3z0:w.heap.size < w3.heap.size:=zL b3;go_wp2_with fail;refine zM (HG2.out _) fun w4 b4=> ?_;obtain ⟨b4c,b4f⟩:=jB b4;have b4z0:w.heap.size < w4.heap.size:=zL b4;go_wp2;refine bodyPost_ret (v:= .tuple #[.agg #[.int .u32 st,.bool (o == 1),.int .i64 n],.bool true]) (by simp [results,results141,go_sem, *]) rfl ⟨rfl,?_⟩;exact zR
theorem jeS (v:Int) (w:World) (h:U64 v) (ht:qo v=none):Calls prog 141 #[.int .u64 v] w (zW (.tuple #[.agg #[.int .u32 0,.bool false,.int .i64 0],.bool false]) w):=by
 have hp:=jb3 v;have HG0:=zh (fun w=>hget0 v w h);have HG1:=zh (fun w=>hget16 v w h);have hn:96 < loW v % 2147483648:=by
  unfold qo at ht;split at ht
  ·cases ht
  ·omega
 have hc:0<=v % 65536/\v % 65536 < 65536:=zo;have hr:0<=v / 65536 % 32768:=zo;by_cases h1:96 < v % 65536
 ·clear hp hn hr h ht HG1;generalize v % 65536=c at*
  go_enter func141,ntmps141;go_wp2_with fail;refine zM (HG0.out _) fun w1 b1=> ?_;obtain ⟨b1c,b1f⟩:=jB b1;have b1z0:w.heap.size < w1.heap.size:=zL b1;go_wp2;refine bodyPost_ret (v:= .tuple #[.agg #[.int .u32 0,.bool false,.int .i64 0],.bool false]) (by simp [results,results141,go_sem, *]) rfl ⟨rfl,?_⟩;exact zR
 ·have h2:v / 65536 % 32768≠0:=zo;have h2b:(v / 65536 % 32768 != 0)=true:=by simpa using h2
  have h2c:(v / 65536 % 32768 == 0)=false:=by simpa using h2
  clear hp hn h ht;generalize v / 65536 % 32768=r at*
  generalize v % 65536=c at*
  go_enter func141,ntmps141;go_wp2_with fail;refine zM (HG0.out _) fun w1 b1=> ?_;obtain ⟨b1c,b1f⟩:=jB b1;have b1z0:w.heap.size < w1.heap.size:=zL b1;go_wp2_with fail;refine zM (HG1.out _) fun w2 b2=> ?_;obtain ⟨b2c,b2f⟩:=jB b2;have b2z0:w.heap.size < w2.heap.size:=zL b2;go_wp2;refine bodyPost_ret (v:= .tuple #[.agg #[.int .u32 0,.bool false,.int .i64 0],.bool false]) (by simp [results,results141,go_sem, *]) rfl ⟨rfl,?_⟩;exact zR
theorem jeR (v s n:Int) (w:World) (h:U64 v) (ht:qg v s=some n):Calls prog 84 #[.int .u64 v,.int .u32 s] w (zW (.tuple #[.int .i64 n,.bool true]) w):=by
 unfold qg at ht;split at ht
 ·rename_i st m hn;split at ht
  ·rename_i hs;subst hs;cases ht;have HN:=zh (fun w=>Ki v st n true w h hn);clear hn h;go_enter func84,ntmps84;go_wp2_with fail;refine zM (HN.out _) fun w1 b1=> ?_;obtain ⟨b1c,b1f⟩:=jB b1;go_wp2;refine bodyPost_ret (v:= .tuple #[.int .i64 n,.bool true]) (by simp [results,results84,go_sem, *]) rfl ⟨rfl,b1.alloc b1.size _⟩
  ·cases ht
 ·cases ht
theorem mopen_no (v s:Int) (w:World) (h:U64 v) (ht:qg v s=none):Calls prog 84 #[.int .u64 v,.int .u32 s] w (zW (.tuple #[.int .i64 0,.bool false]) w):=by
 cases hn:qo v with
 | none=>
  have HN:=zh (fun w=>jeS v w h hn);clear hn h ht;go_enter func84,ntmps84;go_wp2_with fail;refine zM (HN.out _) fun w1 b1=> ?_;obtain ⟨b1c,b1f⟩:=jB b1;go_wp2;refine bodyPost_ret (v:= .tuple #[.int .i64 0,.bool false]) (by simp [results,results84,go_sem, *]) rfl ⟨rfl,b1.alloc b1.size _⟩
 | some x=>
  obtain ⟨st,o,n⟩:=x;have HN:=zh (fun w=>Ki v st n o w h hn);unfold qg at ht;rw [hn] at ht;cases o
  ·clear hn h ht;go_enter func84,ntmps84;go_wp2_with fail;refine zM (HN.out _) fun w1 b1=> ?_;obtain ⟨b1c,b1f⟩:=jB b1;go_wp2;refine bodyPost_ret (v:= .tuple #[.int .i64 0,.bool false]) (by simp [results,results84,go_sem, *]) rfl ⟨rfl,b1.alloc b1.size _⟩
  ·dsimp only at ht;split at ht
   ·cases ht
   ·rename_i hs;have hsb:(st != s)=true:=by simpa using hs
    clear hn h ht hs;go_enter func84,ntmps84;go_wp2_with fail;refine zM (HN.out _) fun w1 b1=> ?_;obtain ⟨b1c,b1f⟩:=jB b1;go_wp2;refine bodyPost_ret (v:= .tuple #[.int .i64 0,.bool false]) (by simp [results,results84,go_sem, *]) rfl ⟨rfl,b1.alloc b1.size _⟩

theorem Jx (v:Int) (w:World) (h:U64 v):Calls prog 73 #[.int .u64 v] w (zW (.int .u32 (hiW v)) w):=jd9 v w h.1 h.2
theorem Ka (v:Int) (w:World) (h:U64 v):Calls prog 72 #[.int .u64 v] w (zW (.int .u32 (loW v)) w):=jd7 v w h.1 h.2
theorem Yh (h l:Int) (w:World) (h0:0<=h/\h < 4294967296) (h1:0<=l/\l < 4294967296):Calls prog 48 #[.int .u32 h,.int .u32 l] w (zW (.int .u64 (jH h l)) w):=by
 have hwh:IntKind.u64.wrap h=h:=jO _ zo zo;have hwl:IntKind.u64.wrap l=l:=jO _ zo zo;have hwm:IntKind.u64.wrap (h*4294967296)=h*4294967296:=jO _ zo zo;have ho:IntKind.u64.wrap (h*4294967296+l)=h*4294967296+l:=jO _ zo zo;clear h0 h1;go_enter func48,ntmps48;go_wp2;go_ret;exact ⟨rfl,Below.refl _ _⟩
theorem XD (v s u:Int) (w:World) (h:U64 v) (ht:KC v=some (s,u)):Calls prog 33 #[.int .u64 v] w (zW (.tuple #[.int .u32 s,.int .i64 u,.bool true]) w):=by
 unfold KC at ht;split at ht
 ·rename_i hl;simp only [Option.some.injEq,Prod.mk.injEq] at ht;obtain ⟨rfl,rfl⟩:=ht;have HL:=zh (fun w=>Ka v w h);have HH:=zh (fun w=>Jx v w h);have hb:=KZ v;generalize loW v=u at*
  generalize hiW v=s at*
  clear h;go_enter func33,ntmps33;go_wp2_with fail;refine zM (HL.out _) fun w1 b1=> ?_;obtain ⟨b1c,b1f⟩:=jB b1;go_wp2_with fail;refine zM (HH.out _) fun w2 b2=> ?_;obtain ⟨b2c,b2f⟩:=jB b2;go_wp2_with fail;refine zM (HL.out _) fun w3 b3=> ?_;obtain ⟨b3c,b3f⟩:=jB b3;go_wp2;refine bodyPost_ret (v:= .tuple #[.int .u32 s,.int .i64 u,.bool true]) (by simp [results,results33,go_sem]) rfl ⟨rfl,YK (YK b1 b2) b3⟩
 ·cases ht
theorem rotip_no (v:Int) (w:World) (h:U64 v) (ht:KC v=none):Calls prog 33 #[.int .u64 v] w (zW (.tuple #[.int .u32 0,.int .i64 0,.bool false]) w):=by
 unfold KC at ht;split at ht
 ·cases ht
 ·rename_i hl;have HL:=zh (fun w=>Ka v w h);have hb:=KZ v;generalize loW v=u at*
  clear h;go_enter func33,ntmps33;go_wp2_with fail;refine zM (HL.out _) fun w1 b1=> ?_;obtain ⟨b1c,b1f⟩:=jB b1;go_wp2;refine bodyPost_ret (v:= .tuple #[.int .u32 0,.int .i64 0,.bool false]) (by simp [results,results33,go_sem]) rfl ⟨rfl,b1⟩
theorem jcF (v c x:Int) (w:World) (h:U64 v) (ht:qj v=some (c,x)):Calls prog 104 #[.int .u64 v] w (zW (.tuple #[.agg #[.int .i64 c,.int .u32 x],.bool true]) w):=by
 unfold qj at ht;split at ht
 ·rename_i hl;simp only [Option.some.injEq,Prod.mk.injEq] at ht;obtain ⟨rfl,rfl⟩:=ht;have HL:=zh (fun w=>Ka v w h);have HH:=zh (fun w=>Jx v w h);have hb:=Qt h;generalize loW v=u at*
  generalize hiW v=s at*
  clear h;go_enter func104,ntmps104;go_wp2_with fail;refine zM (HH.out _) fun w1 b1=> ?_;obtain ⟨b1c,b1f⟩:=jB b1;have b1z0:w.heap.size < w1.heap.size:=zL b1;go_wp2_with fail;refine zM (HH.out _) fun w2 b2=> ?_;obtain ⟨b2c,b2f⟩:=jB b2;have b2z0:w.heap.size < w2.heap.size:=zL b2;go_wp2_with fail;refine zM (HL.out _) fun w3 b3=> ?_;obtain ⟨b3c,b3f⟩:=jB b3;go_wp2;refine bodyPost_ret (v:= .tuple #[.agg #[.int .i64 s,.int .u32 u],.bool true]) (by simp [results,results104,go_sem, *]) rfl ⟨rfl,?_⟩;exact zR
 ·cases ht
theorem jeb (v:Int) (w:World) (h:U64 v) (ht:qj v=none):Calls prog 104 #[.int .u64 v] w (zW (.tuple #[.agg #[.int .i64 0,.int .u32 0],.bool false]) w):=by
 unfold qj at ht;split at ht
 ·cases ht
 ·rename_i hl;have HH:=zh (fun w=>Jx v w h);have hb:=Qt h;generalize hiW v=s at*
  clear h;go_enter func104,ntmps104;go_wp2_with fail;refine zM (HH.out _) fun w1 b1=> ?_;obtain ⟨b1c,b1f⟩:=jB b1;have b1z0:w.heap.size < w1.heap.size:=zL b1;go_wp2;refine bodyPost_ret (v:= .tuple #[.agg #[.int .i64 0,.int .u32 0],.bool false]) (by simp [results,results104,go_sem, *]) rfl ⟨rfl,?_⟩;exact zR
theorem J9 (v st n:Int) (o:Bool) (w:World) (h:U64 v) (ht:qo v=some (st,o,n)):Calls prog 111 #[.int .u64 v] w (zW (.tuple #[.agg #[.int .u32 st,.bool o,.int .i64 n],.bool true]) w):=by
 obtain ⟨e1,e2,e3,e4,e5⟩:=Jc h ht;have hb:=KZ v;have HL:=zh (fun w=>Ka v w h);have HH:=zh (fun w=>Jx v w h);rw [<-e1] at HH;by_cases hl:2147483648<=loW v
 ·have e6:loW v=n+2147483648:=zo;have e7:o=true:=by rw [e4];simpa using hl
  subst e7;rw [e6] at HL;clear ht e1 e4 e5 e6 hb hl h;go_enter func111,ntmps111;go_wp2_with fail;refine zM (HL.out _) fun w1 b1=> ?_;obtain ⟨b1c,b1f⟩:=jB b1;have b1z0:w.heap.size < w1.heap.size:=zL b1;go_wp2_with fail;refine zM (HH.out _) fun w2 b2=> ?_;obtain ⟨b2c,b2f⟩:=jB b2;have b2z0:w.heap.size < w2.heap.size:=zL b2;go_wp2;refine bodyPost_ret (v:= .tuple #[.agg #[.int .u32 st,.bool true,.int .i64 n],.bool true]) (by simp [results,results111,go_sem, *]) rfl ⟨rfl,?_⟩;exact zR
 ·have e6:loW v=n:=zo;have e7:o=false:=by rw [e4];simpa using hl
  subst e7;rw [e6] at HL;clear ht e1 e4 e5 e6 hb hl h;go_enter func111,ntmps111;go_wp2_with fail;refine zM (HL.out _) fun w1 b1=> ?_;obtain ⟨b1c,b1f⟩:=jB b1;have b1z0:w.heap.size < w1.heap.size:=zL b1;go_wp2_with fail;refine zM (HH.out _) fun w2 b2=> ?_;obtain ⟨b2c,b2f⟩:=jB b2;have b2z0:w.heap.size < w2.heap.size:=zL b2;go_wp2;refine bodyPost_ret (v:= .tuple #[.agg #[.int .u32 st,.bool false,.int .i64 n],.bool true]) (by simp [results,results111,go_sem, *]) rfl ⟨rfl,?_⟩;exact zR
theorem XF (v:Int) (w:World) (h:U64 v) (ht:qo v=none):Calls prog 111 #[.int .u64 v] w (zW (.tuple #[.agg #[.int .u32 0,.bool false,.int .i64 0],.bool false]) w):=by
 have hn:96 < loW v % 2147483648:=by
  unfold qo at ht;split at ht
  ·cases ht
  ·omega
 have hb:=KZ v;have HL:=zh (fun w=>Ka v w h);have HH:=zh (fun w=>Jx v w h);generalize hiW v=s at*
 by_cases hl:2147483648<=loW v
 ·obtain ⟨n,e6⟩:∃n,loW v=n+2147483648:=⟨loW v - 2147483648,zo⟩
  have e8:96 < n:=zo;have e9:n < 2147483648:=zo;rw [e6] at HL;clear ht e6 hb hl h hn;go_enter func111,ntmps111;go_wp2_with fail;refine zM (HL.out _) fun w1 b1=> ?_;obtain ⟨b1c,b1f⟩:=jB b1;have b1z0:w.heap.size < w1.heap.size:=zL b1;go_wp2_with fail;refine zM (HH.out _) fun w2 b2=> ?_;obtain ⟨b2c,b2f⟩:=jB b2;have b2z0:w.heap.size < w2.heap.size:=zL b2;go_wp2;refine bodyPost_ret (v:= .tuple #[.agg #[.int .u32 0,.bool false,.int .i64 0],.bool false]) (by simp [results,results111,go_sem, *]) rfl ⟨rfl,?_⟩;exact zR
 ·have e8:96 < loW v:=zo;generalize loW v=n at*
  clear ht hn h;go_enter func111,ntmps111;go_wp2_with fail;refine zM (HL.out _) fun w1 b1=> ?_;obtain ⟨b1c,b1f⟩:=jB b1;have b1z0:w.heap.size < w1.heap.size:=zL b1;go_wp2_with fail;refine zM (HH.out _) fun w2 b2=> ?_;obtain ⟨b2c,b2f⟩:=jB b2;have b2z0:w.heap.size < w2.heap.size:=zL b2;go_wp2;refine bodyPost_ret (v:= .tuple #[.agg #[.int .u32 0,.bool false,.int .i64 0],.bool false]) (by simp [results,results111,go_sem, *]) rfl ⟨rfl,?_⟩;exact zR
theorem jd3 (v s n:Int) (w:World) (h:U64 v) (ht:qg v s=some n):Calls prog 156 #[.int .u64 v,.int .u32 s] w (zW (.tuple #[.int .i64 n,.bool true]) w):=by
 unfold qg at ht;split at ht
 ·rename_i st m hn;split at ht
  ·rename_i hs;subst hs;cases ht;have HN:=zh (fun w=>J9 v st n true w h hn);clear hn h;go_enter func156,ntmps156;go_wp2_with fail;refine zM (HN.out _) fun w1 b1=> ?_;obtain ⟨b1c,b1f⟩:=jB b1;go_wp2;refine bodyPost_ret (v:= .tuple #[.int .i64 n,.bool true]) (by simp [results,results156,go_sem, *]) rfl ⟨rfl,b1.alloc b1.size _⟩
  ·cases ht
 ·cases ht
theorem ropen_no (v s:Int) (w:World) (h:U64 v) (ht:qg v s=none):Calls prog 156 #[.int .u64 v,.int .u32 s] w (zW (.tuple #[.int .i64 0,.bool false]) w):=by
 cases hn:qo v with
 | none=>
  have HN:=zh (fun w=>XF v w h hn);clear hn h ht;go_enter func156,ntmps156;go_wp2_with fail;refine zM (HN.out _) fun w1 b1=> ?_;obtain ⟨b1c,b1f⟩:=jB b1;go_wp2;refine bodyPost_ret (v:= .tuple #[.int .i64 0,.bool false]) (by simp [results,results156,go_sem, *]) rfl ⟨rfl,b1.alloc b1.size _⟩
 | some x=>
  obtain ⟨st,o,n⟩:=x;have HN:=zh (fun w=>J9 v st n o w h hn);unfold qg at ht;rw [hn] at ht;cases o
  ·clear hn h ht;go_enter func156,ntmps156;go_wp2_with fail;refine zM (HN.out _) fun w1 b1=> ?_;obtain ⟨b1c,b1f⟩:=jB b1;go_wp2;refine bodyPost_ret (v:= .tuple #[.int .i64 0,.bool false]) (by simp [results,results156,go_sem, *]) rfl ⟨rfl,b1.alloc b1.size _⟩
  ·dsimp only at ht;split at ht
   ·cases ht
   ·rename_i hs;have hsb:(st == s)=false:=by simpa using hs
    clear hn h ht hs;go_enter func156,ntmps156;go_wp2_with fail;refine zM (HN.out _) fun w1 b1=> ?_;obtain ⟨b1c,b1f⟩:=jB b1;go_wp2;refine bodyPost_ret (v:= .tuple #[.int .i64 0,.bool false]) (by simp [results,results156,go_sem, *]) rfl ⟨rfl,b1.alloc b1.size _⟩
def KW (st n:Int) (o:Bool):Int:=jH st (n+if o=true then 2147483648 else 0)
theorem jd5 (st n:Int) (o:Bool) (w:World) (h:0<=st/\st < 4294967296) (h1:0<=n) (h2:n<=96):Calls prog 88 #[.agg #[.int .u32 st,.bool o,.int .i64 n]] w (zW (.tuple #[.int .u64 (KW st n o),.bool true]) w):=by
 have hw:IntKind.u32.wrap n=n:=IntWalk.u32_in _ zo;unfold KW;cases o
 ·have HJ:=zh (fun w=>Yh st n w h zo);simp only [Bool.false_eq_true,if_false,Int.add_zero];generalize jH st n=x at*
  go_enter func88,ntmps88;go_wp2_with fail;refine zM (HJ.out _) fun w1 b1=> ?_;go_wp2;refine bodyPost_ret (v:= .tuple #[.int .u64 x,.bool true]) (by simp [results,results88,go_sem, *]) rfl ⟨rfl,?_⟩;exact zR
 ·have HJ:=zh (fun w=>Yh st (n+2147483648) w h zo);simp only [if_true];generalize jH st (n+2147483648)=x at*
  go_enter func88,ntmps88;go_wp2_with fail;refine zM (HJ.out _) fun w1 b1=> ?_;go_wp2;refine bodyPost_ret (v:= .tuple #[.int .u64 x,.bool true]) (by simp [results,results88,go_sem, *]) rfl ⟨rfl,?_⟩;exact zR

theorem jI {t p s:Int} (h:jq t p s=true):0<=jk t p/\jk t p<=10000/\16+jk t p<=jG t p/\jG t p<=10000/\qa t p=jG t p+120*(t+1):=by
 have:=jn h;refine ⟨by unfold jk;omega,by unfold jk;omega,by unfold jG;omega,by unfold jG jk;omega,rfl⟩
theorem jaf (t p s m u f i n:Int) (w:World) (h1:0<=u) (h2:u<=t) (h3:t<=16) (h4:0<=m) (h5:m<=10000) (h6:0<=f) (h7:f<=100) (h8:0<=i) (h9:i < n) (h10:n<=100) :
 Calls prog 140 #[.agg #[.int .i64 t,.int .i64 p,.int .i64 s,.int .i64 m],.int .i64 u,.int .i64 f,.int .i64 i,.int .i64 n] w (zW (.int .i64 (m+120*u+f+i)) w):=by
 have HW:=zh (fun w=>J7 (m+120*u+f) i n w zo zo zo);rw [show kq (m+120*u+f) i n=m+120*u+f+i by unfold kq;rw [if_neg zo]] at HW;have hut:¬t < u:=zo;clear h8 h9 h10;go_enter func140,ntmps140;go_wp2_with fail;refine zM (HW.out _) ?_;rintro w1 rfl;go_wp2;go_ret;exact ⟨rfl,(Below.refl _ _).alloc (Nat.le_refl _) _⟩
section
variable {t p s:Int}
theorem Ym (hr:jq t p s=true) (u:Int) (w:World) (h1:0<=u) (h2:u<=t) :
 Calls prog 82 #[.agg #[.int .i64 t,.int .i64 p,.int .i64 s],.int .i64 u] w (zW (.int .i64 (jo t p u)) w):=by
 have hb:=jI hr;have ht:=(jn hr).2.1;have HL:=zh (fun w=>yT t p s w hr);have HW:=zh (fun w=>jaf t p s (jG t p) u 16 0 1 w h1 h2 ht zo zo zo zo zo zo zo);rw [show jG t p+120*u+16+0=jo t p u by unfold jo;omega] at HW;generalize jo t p u=x at*
 generalize jG t p=m at*
 clear hr hb;go_enter func82,ntmps82;go_wp2_with fail;refine zM (HL.out _) fun w1 ha=> ?_;obtain ⟨hac,haf⟩:=jB ha;have haz0:w.heap.size < w1.heap.size:=zL ha;go_wp2_with fail;refine zM (HW.out _) fun w2 hb2=> ?_;obtain ⟨hb2c,hb2f⟩:=jB hb2;go_wp2;go_ret;refine ⟨rfl,?_⟩;exact zR
theorem jbX (hr:jq t p s=true) (u i:Int) (w:World) (h1:0<=u) (h2:u<=t) (h3:0<=i) (h4:i < 96) :
 Calls prog 147 #[.agg #[.int .i64 t,.int .i64 p,.int .i64 s],.int .i64 u,.int .i64 i] w (zW (.int .i64 (jJ t p u i)) w):=by
 have hb:=jI hr;have ht:=(jn hr).2.1;have HL:=zh (fun w=>yT t p s w hr);have HW:=zh (fun w=>jaf t p s (jG t p) u 24 i 96 w h1 h2 ht zo zo zo zo zo zo zo);rw [show jG t p+120*u+24+i=jJ t p u i by unfold jJ;omega] at HW;generalize jJ t p u i=x at*
 generalize jG t p=m at*
 clear hr hb;go_enter func147,ntmps147;go_wp2_with fail;refine zM (HL.out _) fun w1 ha=> ?_;obtain ⟨hac,haf⟩:=jB ha;have haz0:w.heap.size < w1.heap.size:=zL ha;go_wp2_with fail;refine zM (HW.out _) fun w2 hb2=> ?_;obtain ⟨hb2c,hb2f⟩:=jB hb2;go_wp2;go_ret;refine ⟨rfl,?_⟩;exact zR
theorem Ve (hr:jq t p s=true) (u:Int) (w:World) (h1:0<=u) (h2:u<=t) :
 Calls prog 87 #[.agg #[.int .i64 t,.int .i64 p,.int .i64 s],.int .i64 u] w (zW (.int .i64 (jG t p+120*u)) w):=by
 have hb:=jI hr;have ht:=(jn hr).2.1;have HF:=zh (fun w=>Vf t p s w hr);have HC:=zh (fun w=>qF t p s w);rw [hr] at HC;have e1:IntKind.i64.wrap (120*u)=120*u:=jD _ zo;have e2:IntKind.i64.wrap (jG t p+120*u)=jG t p+120*u:=jD _ zo;generalize jG t p=m at*
 clear hr hb;have hut:¬t < u:=zo;go_enter func87,ntmps87;go_wp2_with fail;refine zM (HC.out _) fun w1 ha=> ?_;obtain ⟨hac,haf⟩:=jB ha;have haz0:w.heap.size < w1.heap.size:=zL ha;go_wp2_with fail;refine zM (HF.out _) fun w2 hb2=> ?_;obtain ⟨hb2c,hb2f⟩:=jB hb2;go_wp2;go_ret;refine ⟨rfl,?_⟩;exact zR
theorem Ky (hr:jq t p s=true) (u:Int) (w:World) (h1:0<=u) (h2:u<=t) :
 Calls prog 43 #[.agg #[.int .i64 t,.int .i64 p,.int .i64 s],.int .i64 u] w (zW (.int .i64 (jo t p u)) w):=by
 have hb:=jI hr;have HM:=zh (fun w=>Ve hr u w h1 h2);rw [show jo t p u=jG t p+120*u+16 by unfold jo;omega];have ht:=(jn hr).2.1;generalize hx:jG t p+120*u=x at*
 have hx2:0<=x/\x<=100000:=zo;clear hr hb hx;go_enter func43,ntmps43;go_wp2_with fail;refine zM (HM.out _) fun w1 ha=> ?_;obtain ⟨hac,haf⟩:=jB ha;go_wp2;go_ret;refine ⟨rfl,?_⟩;exact zR
theorem jcE (hr:jq t p s=true) (u i:Int) (w:World) (h1:0<=u) (h2:u<=t) (h3:0<=i) (h4:i < 96) :
 Calls prog 44 #[.agg #[.int .i64 t,.int .i64 p,.int .i64 s],.int .i64 u,.int .i64 i] w (zW (.int .i64 (jJ t p u i)) w):=by
 have hb:=jI hr;have HM:=zh (fun w=>Ve hr u w h1 h2);rw [show jJ t p u i=jG t p+120*u+24+i by unfold jJ;omega];have ht:=(jn hr).2.1;generalize hx:jG t p+120*u=x at*
 have hx2:0<=x/\x<=100000:=zo;have hi:¬95 < i:=zo;clear hr hb hx;go_enter func44,ntmps44;go_wp2_with fail;refine zM (HM.out _) fun w1 ha=> ?_;obtain ⟨hac,haf⟩:=jB ha;go_wp2;go_ret;refine ⟨rfl,?_⟩;exact zR
end

structure qN {α:Type} (R:World->Nat->(Nat->Prop)->α->Prop):Prop where
 keep:∀{w w':World} {b:Nat} {S T:Nat->Prop} {s:α},R w b S s->Fr T w w'->(∀k,S k->¬T k)->R w' b S s
 lt:∀{w:World} {b:Nat} {S:Nat->Prop} {s:α},R w b S s->∀k,S k->k < w.heap.size
 mono:∀{w:World} {b:Nat} {S S':Nat->Prop} {s:α},R w b S s->(∀k,S k->S' k)->(∀k,S' k->k < w.heap.size)->R w b S' s
structure NSt {α:Type} (R:World->Nat->(Nat->Prop)->α->Prop) (w0:World) (b:Nat) (S:Nat->Prop) (Ls:List Nat) (s:α) (w:World):Prop where
 ex:∃S1,R w b S1 s/\(∀k,S1 k->S k\/w0.heap.size<=k)/\(∀L∈Ls,¬S1 L)
 fr:Fr S w0 w
 ls:∀L∈Ls,L < w.heap.size/\w0.heap.size<=L
 s0:∀k,S k->k < w0.heap.size
section
variable {α:Type} {R:World->Nat->(Nat->Prop)->α->Prop} {w0 w w':World} {b:Nat} {S:Nat->Prop} {Ls:List Nat} {s s':α}

theorem NSt.start (K:qN R) (h:R w b S s):NSt R w b S [] s w:=⟨⟨S,h,fun _ hk=>Or.inl hk,zT⟩,Fr.refl _ _,zT,K.lt h⟩
theorem NSt.below (K:qN R) (h:NSt R w0 b S Ls s w) (hb:Below w.heap.size w w'):NSt R w0 b S Ls s w':=by
 obtain ⟨S1,h1,h2,h4⟩:=h.ex;exact ⟨⟨S1,K.keep (T:=fun _=>False) h1 (Fr.of_below hb) (fun _ _ x=>x),h2,h4⟩,h.fr.trans (S1:=fun _=>False) (Fr.of_below hb) (fun _ x=>x.elim),fun L hL=>⟨Nat.lt_of_lt_of_le (h.ls L hL).1 hb.size,(h.ls L hL).2⟩,h.s0⟩
theorem NSt.alloc (K:qN R) (h:NSt R w0 b S Ls s w) (o:Obj):NSt R w0 b S (w.heap.size :: Ls) s (w.alloc o):=by
 have hb:Below w.heap.size w (w.alloc o):=(Below.refl _ _).alloc (Nat.le_refl _) o;obtain ⟨S1,h1,h2,h4⟩:=h.ex;refine ⟨⟨S1,K.keep (T:=fun _=>False) h1 (Fr.of_below hb) (fun _ _ x=>x),h2,?_⟩,h.fr.trans (S1:=fun _=>False) (Fr.of_below hb) (fun _ x=>x.elim),?_,h.s0⟩
 ·intro L hL;simp at hL;rcases hL with rfl | hL
  ·exact fun x=>Nat.lt_irrefl _ (K.lt h1 _ x)
  ·exact h4 L hL
 ·intro L hL;simp at hL;rcases hL with rfl | hL
  ·exact ⟨zT,h.fr.size⟩
  ·exact ⟨Nat.lt_of_lt_of_le (h.ls L hL).1 hb.size,(h.ls L hL).2⟩
theorem NSt.drew (K:qN R) (h:NSt R w0 b S Ls s w):NSt R w0 b S Ls s w.drew:=h.below K ((Below.refl _ _).drew)
theorem NSt.setCell (K:qN R) (h:NSt R w0 b S Ls s w) {L:Nat} (hL:L∈Ls) (o:Nat) (v:Value):NSt R w0 b S Ls s (w.setCell ⟨L,o,none⟩ v):=by
 obtain ⟨S1,h1,h2,h4⟩:=h.ex;have F:Fr (fun k=>k=L) w (w.setCell ⟨L,o,none⟩ v):=(Fr.refl _ _).setCell _ _ (Or.inl rfl);exact ⟨⟨S1,K.keep h1 F (fun k hk e=>h4 L hL (e ▸ hk)),h2,h4⟩,h.fr.setCell _ _ (Or.inr (h.ls L hL).2),fun M hM=>⟨by simpa using (h.ls M hM).1,(h.ls M hM).2⟩,h.s0⟩
theorem NSt.done (K:qN R) (h:NSt R w0 b S Ls s w):R w b (upd S w0 w) s/\Fr S w0 w:=by
 obtain ⟨S1,h1,h2,-⟩:=h.ex;refine ⟨K.mono h1 (fun k hk=> ?_) (fun k hk=> ?_),h.fr⟩
 ·rcases h2 k hk with h | h
  ·exact Or.inl h
  ·exact Or.inr ⟨h,K.lt h1 k hk⟩
 ·rcases hk with hk | hk
  ·exact Nat.lt_of_lt_of_le (h.s0 k hk) h.fr.size
  ·exact hk.2
theorem NSt.get (h:NSt R w0 b S Ls s w):∃S1,R w b S1 s:=by
 obtain ⟨S1,h1,-⟩:=h.ex;exact ⟨S1,h1⟩
theorem jfw {P:Program} {f:FuncId} {args:Array Value} {val:Value} (h:NSt R w0 b S Ls s w)
 (hc:∀S1,R w b S1 s->Calls P f args w fun e w'=>e= .returned val/\(R w' b (upd S1 w w') s'/\Fr S1 w w')) :
 Calls P f args w fun e w'=>e= .returned val/\NSt R w0 b S Ls s' w'/\∀L∈Ls,w'.heap[L]? =w.heap[L]? :=by
 obtain ⟨S1,h1,h2,h4⟩:=h.ex;refine (hc S1 h1).mono fun e w' ⟨he,hr,hf⟩=>⟨he,⟨⟨upd S1 w w',hr,?_,?_⟩,h.fr.trans hf h2,fun L hL=>⟨Nat.lt_of_lt_of_le (h.ls L hL).1 hf.size,(h.ls L hL).2⟩,h.s0⟩,fun L hL=>hf.block L (h.ls L hL).1 (h4 L hL)⟩
 ·intro k hk;rcases hk with hk | hk
  ·exact h2 k hk
  ·have:=h.fr.size;exact Or.inr zo
 ·intro L hL x;rcases x with x | x
  ·exact h4 L hL x
  ·have:=(h.ls L hL).1;omega
theorem NSt.row (K:qN R) (h:NSt R w0 b S Ls s w) {e sz n:Nat} {v:Value} {xs:List Value} (hb:Below w.heap.size w w') (hr:w'.ownsRow w.heap.size e sz v n xs):NSt R w0 b S (v.ownBlock.toList++Ls) s w':=by
 obtain ⟨S1,h1,h2,h4⟩:=h.ex;have h':=h.below K hb;refine ⟨⟨S1,K.keep (T:=fun _=>False) h1 (Fr.of_below hb) (fun _ _ x=>x),h2,?_⟩,h'.fr,?_,h.s0⟩
 ·intro L hL;rcases List.mem_append.1 hL with x | x
  ·intro y;have:=(hr.lt L (by simpa using x)).1;have:=K.lt h1 L y;omega
  ·exact h4 L x
 ·intro L hL;rcases List.mem_append.1 hL with x | x
  ·have:=hr.lt L (by simpa using x);have:=h.fr.size;omega
  ·exact h'.ls L x
theorem NSt.sub (h:NSt R w0 b S Ls s w) (Ls':List Nat) (hL:∀L∈Ls',L∈Ls):NSt R w0 b S Ls' s w:=by
 obtain ⟨S1,h1,h2,h4⟩:=h.ex;exact ⟨⟨S1,h1,h2,fun L hm=>h4 L (hL L hm)⟩,h.fr,fun L hm=>h.ls L (hL L hm),h.s0⟩
end

structure N2 {α β:Type} (R:World->Nat->(Nat->Prop)->α->Prop) (Q:World->Nat->(Nat->Prop)->β->Prop) (w0:World) (b1 b2:Nat) (Ls:List Nat) (s1:α) (s2:β) (w:World):Prop where
 ex:∃S1 S2,R w b1 S1 s1/\Q w b2 S2 s2/\(∀k,S1 k->w0.heap.size<=k)/\(∀k,S2 k->w0.heap.size<=k)/\(∀k,S1 k->¬S2 k)/\(∀L∈Ls,¬S1 L/\¬S2 L)
 bel:Below w0.heap.size w0 w
 ls:∀L∈Ls,L < w.heap.size/\w0.heap.size<=L
section
variable {α β:Type} {R:World->Nat->(Nat->Prop)->α->Prop} {Q:World->Nat->(Nat->Prop)->β->Prop} {w0 w w':World} {b1 b2:Nat} {Ls:List Nat} {s1 t1:α} {s2 t2:β} {P:Program} {f:FuncId} {args:Array Value} {val:Value}

theorem N2.below (K:qN R) (J:qN Q) (h:N2 R Q w0 b1 b2 Ls s1 s2 w) (hb:Below w.heap.size w w'):N2 R Q w0 b1 b2 Ls s1 s2 w':=by
 obtain ⟨S1,S2,p1,p2,g1,g2,d,hl⟩:=h.ex;exact ⟨⟨S1,S2,K.keep (T:=fun _=>False) p1 (Fr.of_below hb) (fun _ _ x=>x),J.keep (T:=fun _=>False) p2 (Fr.of_below hb) (fun _ _ x=>x),g1,g2,d,hl⟩,h.bel.trans (hb.mono h.bel.size),fun L hL=>⟨Nat.lt_of_lt_of_le (h.ls L hL).1 hb.size,(h.ls L hL).2⟩⟩
theorem N2.drew (K:qN R) (J:qN Q) (h:N2 R Q w0 b1 b2 Ls s1 s2 w):N2 R Q w0 b1 b2 Ls s1 s2 w.drew:=h.below K J ((Below.refl _ _).drew)
theorem N2.sub (h:N2 R Q w0 b1 b2 Ls s1 s2 w) (Ms:List Nat) (hM:∀L∈Ms,L∈Ls):N2 R Q w0 b1 b2 Ms s1 s2 w:=by
 obtain ⟨S1,S2,p1,p2,g1,g2,d,hl⟩:=h.ex;exact ⟨⟨S1,S2,p1,p2,g1,g2,d,fun L hL=>hl L (hM L hL)⟩,h.bel,fun L hL=>h.ls L (hM L hL)⟩
theorem N2.alloc (K:qN R) (J:qN Q) (h:N2 R Q w0 b1 b2 Ls s1 s2 w) (o:Obj):N2 R Q w0 b1 b2 (w.heap.size :: Ls) s1 s2 (w.alloc o):=by
 have hb:Below w.heap.size w (w.alloc o):=(Below.refl _ _).alloc (Nat.le_refl _) o;have h':=h.below K J hb;obtain ⟨S1,S2,p1,p2,g1,g2,d,hl⟩:=h.ex;refine ⟨⟨S1,S2,K.keep (T:=fun _=>False) p1 (Fr.of_below hb) (fun _ _ x=>x),J.keep (T:=fun _=>False) p2 (Fr.of_below hb) (fun _ _ x=>x),g1,g2,d,?_⟩,h'.bel,?_⟩
 ·intro L hL;simp at hL;rcases hL with rfl | hL
  ·exact ⟨fun x=>Nat.lt_irrefl _ (K.lt p1 _ x),fun x=>Nat.lt_irrefl _ (J.lt p2 _ x)⟩
  ·exact hl L hL
 ·intro L hL;simp at hL;rcases hL with rfl | hL
  ·exact ⟨zT,h.bel.size⟩
  ·exact h'.ls L hL
theorem N2.row (K:qN R) (J:qN Q) (h:N2 R Q w0 b1 b2 Ls s1 s2 w) {e sz n:Nat} {v:Value} {xs:List Value} (hb:Below w.heap.size w w') (hr:w'.ownsRow w.heap.size e sz v n xs):N2 R Q w0 b1 b2 (v.ownBlock.toList++Ls) s1 s2 w':=by
 have h':=h.below K J hb;obtain ⟨S1,S2,p1,p2,g1,g2,d,hl⟩:=h.ex;refine ⟨⟨S1,S2,K.keep (T:=fun _=>False) p1 (Fr.of_below hb) (fun _ _ x=>x),J.keep (T:=fun _=>False) p2 (Fr.of_below hb) (fun _ _ x=>x),g1,g2,d,?_⟩,h'.bel,?_⟩
 ·intro L hL;rcases List.mem_append.1 hL with x | x
  ·have:=(hr.lt L (by simpa using x)).1;exact ⟨fun y=>by have:=K.lt p1 L y;omega,fun y=>by have:=J.lt p2 L y;omega⟩
  ·exact hl L x
 ·intro L hL;rcases List.mem_append.1 hL with x | x
  ·have:=hr.lt L (by simpa using x);have:=h.bel.size;omega
  ·exact h'.ls L x
theorem N2.fst (K:qN R) (J:qN Q) (h:N2 R Q w0 b1 b2 Ls s1 s2 w) (hc:∀S1,R w b1 S1 s1->Calls P f args w fun e w'=>e= .returned val/\(R w' b1 (upd S1 w w') t1/\Fr S1 w w')) :
 Calls P f args w fun e w'=>e= .returned val/\N2 R Q w0 b1 b2 Ls t1 s2 w'/\∀L∈Ls,w'.heap[L]? =w.heap[L]? :=by
 obtain ⟨S1,S2,p1,p2,g1,g2,d,hl⟩:=h.ex;have hz:=h.bel.size;refine (hc S1 p1).mono fun e w' ⟨he,q,F⟩=>⟨he,⟨⟨upd S1 w w',S2,q,J.keep p2 F (fun k hk x=>d k x hk),?_,g2,?_,?_⟩,h.bel.trans (F.below h.bel.size g1),fun L hL=>⟨Nat.lt_of_lt_of_le (h.ls L hL).1 F.size,(h.ls L hL).2⟩⟩,fun L hL=>F.block L (h.ls L hL).1 (hl L hL).1⟩
 ·intro k hk;rcases hk with hk | hk
  ·exact g1 k hk
  ·omega
 ·intro k hk x;rcases hk with hk | hk
  ·exact d k hk x
  ·exact absurd (J.lt p2 k x) zo
 ·intro L hL;refine ⟨fun x=> ?_,(hl L hL).2⟩;rcases x with x | x
  ·exact (hl L hL).1 x
  ·have:=(h.ls L hL).1;omega
theorem N2.bl (K:qN R) (J:qN Q) (h:N2 R Q w0 b1 b2 Ls s1 s2 w) (hc:Calls P f args w (zW val w)) :
 Calls P f args w fun e w'=>e= .returned val/\N2 R Q w0 b1 b2 Ls s1 s2 w'/\∀L∈Ls,w'.heap[L]? =w.heap[L]? :=
 hc.mono fun _ _ ⟨he,hb⟩=>⟨he,h.below K J hb,fun L hL=>hb.block L (h.ls L hL).1⟩
end
end Go.Proofs.YtcnininelndjoaaGreat
namespace Go.Proofs.YtcnininelndjoaaGreat
open Go.Proofs.Tryz

structure NM where
 W:List Int
 K:List Int
 P:List (Int×Int)
namespace NM

def th (s:NM) (at_:Int):Bool:=decide (0<=at_) && decide (at_ < s.W.length)
def som (who:Int):Bool:=decide (0<=who) && decide (who<=16)
def bitB (m:Int) (i:Nat):Bool:=m.toNat.testBit i
def keepI (W:List Int) (l:Nat) (m:Int):Nat->List Int->List Int
 | 0,K=>K
 | i+1,K=>if bitB m i=true then (keepI W l m i K).set (8*l+i) (W.getD (8*l+i) 0) else keepI W l m i K
def addP (l:List (Int×Int)) (p:Int×Int):List (Int×Int):=if p∈l then l else l++[p]
def delP (l:List (Int×Int)) (p:Int×Int):List (Int×Int):=l.filter fun q=>q≠p
def pend (s:NM) (who:Int):List Nat:=(List.range (s.W.length / 8)).filter fun l=>decide ((who,(l:Int))∈s.P)
def load (s:NM) (at_:Int):Int×Bool:=if s.th at_=true then (s.W.getD at_.toNat 0,true) else (0,false)
def store (s:NM) (at_ v:Int):Bool×NM:=if s.th at_=true then (true,{ s with W:=s.W.set at_.toNat v }) else (false,s)
def flush (s:NM) (who at_:Int):Bool×NM:=if s.th at_=true/\som who=true then (true,{ s with P:=addP s.P (who,at_ / 8) }) else (false,s)
def step (who:Int) (s:NM) (l:Nat):NM:={ s with K:=keepI s.W l 255 8 s.K,P:=delP s.P (who,(l:Int)) }
def fence (s:NM) (who:Int):Int×NM:=(((s.pend who).length:Nat),(s.pend who).foldl (step who) s)
structure A where
 d:Int
 who:Int
 at_:Int
 mask:Int
 old:Int
 val:Int
def U64 (v:Int):Prop:=0<=v/\v < 18446744073709551616
structure Inv (s:NM):Prop where
 kl:s.K.length=s.W.length
 pos:0 < s.W.length
 small:s.W.length<=65536
 oct:s.W.length % 8=0
 wu:∀v∈s.W,U64 v
 ku:∀v∈s.K,U64 v
 nd:s.P.Nodup
 pb:∀p∈s.P,0<=p.1/\p.1<=16/\0<=p.2/\p.2 < ((s.W.length / 8:Nat):Int)
theorem keepI_len (W:List Int) (l:Nat) (m:Int):∀(i:Nat) (K:List Int),(keepI W l m i K).length=K.length
 | 0,_=>rfl
 | i+1,K=>by
  unfold keepI;split
  ·rw [List.length_set,keepI_len W l m i K]
  ·exact keepI_len W l m i K
theorem getD_u {l:List Int} (h:∀v∈l,U64 v) (k:Nat):U64 (l.getD k 0):=by
 by_cases hk:k < l.length
 ·have e:l.getD k 0=l[k]:=by simp [hk]
  rw [e];exact h _ (List.getElem_mem hk)
 ·have e:l.getD k 0=0:=by simp [show¬k < l.length from hk]
  rw [e];exact ⟨zo,zo⟩
theorem set_u {l:List Int} (h:∀v∈l,U64 v) (k:Nat) {v:Int} (hv:U64 v):∀x∈l.set k v,U64 x:=by
 intro x hx;rcases List.mem_or_eq_of_mem_set hx with hx | rfl
 ·exact h x hx
 ·exact hv
theorem jbp {W:List Int} (hW:∀v∈W,U64 v) (l:Nat) (m:Int):∀(i:Nat) (K:List Int),(∀v∈K,U64 v)->∀v∈keepI W l m i K,U64 v
 | 0,_,h=>h
 | i+1,K,h=>by
  unfold keepI;split
  ·exact set_u (jbp hW l m i K h) _ (getD_u hW _)
  ·exact jbp hW l m i K h
theorem addP_nd {l:List (Int×Int)} (h:l.Nodup) (p:Int×Int):(addP l p).Nodup:=by
 unfold addP;split
 ·exact h
 ·rename_i hp;rw [List.nodup_append];exact ⟨h,zT,fun a ha b hb=>by simp at hb;subst hb;exact fun e=>hp (e ▸ ha)⟩
theorem mem_addP {l:List (Int×Int)} {p q:Int×Int}:q∈addP l p↔q∈l\/q=p:=by
 unfold addP;split
 ·rename_i hp;exact ⟨Or.inl,fun h=>by rcases h with h | rfl;exact h;exact hp⟩
 ·simp
theorem mem_delP {l:List (Int×Int)} {p q:Int×Int}:q∈delP l p↔q∈l/\q≠p:=by simp [delP]
theorem th_iff {s:NM} {i:Int}:s.th i=true↔0<=i/\i < s.W.length:=by simp [th]
theorem Inv.store {s:NM} (h:s.Inv) (i:Int) {v:Int} (hv:U64 v):(s.store i v).2.Inv:=by
 unfold NM.store;split
 ·exact ⟨by simpa using h.kl,by simpa using h.pos,by simpa using h.small,by simpa using h.oct,set_u h.wu _ hv,h.ku,h.nd,by simpa using h.pb⟩
 ·exact h
theorem Inv.flush {s:NM} (h:s.Inv) (who i:Int):(s.flush who i).2.Inv:=by
 unfold NM.flush;split
 ·rename_i ht;obtain ⟨h0,h1⟩:=th_iff.1 ht.1;have hw:0<=who/\who<=16:=by simpa [som] using ht.2
  have ho:=h.oct;refine ⟨h.kl,h.pos,h.small,h.oct,h.wu,h.ku,addP_nd h.nd _,?_⟩;intro p hp;rcases mem_addP.1 hp with hp | rfl
  ·exact h.pb p hp
  ·exact ⟨hw.1,hw.2,by show 0<=i / 8;omega,by show i / 8 < ((s.W.length / 8:Nat):Int);omega⟩
 ·exact h
theorem Inv.step {s:NM} (h:s.Inv) (who:Int) (l:Nat):(step who s l).Inv:=
 ⟨(keepI_len _ _ _ _ _).trans h.kl,h.pos,h.small,h.oct,h.wu,jbp h.wu _ _ _ _ h.ku,List.Pairwise.filter _ h.nd,fun p hp=>h.pb p (mem_delP.1 hp).1⟩
theorem Inv.steps (who:Int):∀(l:List Nat) (s:NM),s.Inv->(l.foldl (NM.step who) s).Inv
 | [],_,h=>h
 | a :: l,s,h=>Inv.steps who l (NM.step who s a) (h.step who a)
theorem Inv.fence {s:NM} (h:s.Inv) (who:Int):(s.fence who).2.Inv:=Inv.steps who _ s h
theorem steps_W (who:Int):∀(l:List Nat) (s:NM),(l.foldl (NM.step who) s).W=s.W
 | [],_=>rfl
 | a :: l,s=>steps_W who l (NM.step who s a)
theorem fence_W (s:NM) (who:Int):(s.fence who).2.W=s.W:=steps_W who _ s
theorem pend_le {s:NM} (h:s.Inv) (who:Int):(s.pend who).length<=s.W.length / 8:=by
 unfold pend;have:=List.length_filter_le (fun l:Nat=>decide ((who,(l:Int))∈s.P)) (List.range (s.W.length / 8));simpa using this
theorem pend_lt {s:NM} {who:Int} {l:Nat} (h:l∈s.pend who):l < s.W.length / 8/\(who,(l:Int))∈s.P:=by
 simpa [pend] using h
end NM
end Go.Proofs.YtcnininelndjoaaGreat
namespace Go.Proofs.YtcnininelndjoaaGreat
open Go.Proofs.Tryz
open Go.RowKit
open Go.ChangeMaps (setBlock)

def jQ (p:Int×Int):Value:= .agg #[.int .i64 p.1,.int .i64 p.2]
theorem yS {p q:Int×Int} (h:jQ p=jQ q):p=q:=by
 simp [jQ] at h;exact Prod.ext h.1 h.2
def I64p (p:Int×Int):Prop:=(-9223372036854775808<=p.1/\p.1<=9223372036854775807)/\(-9223372036854775808<=p.2/\p.2<=9223372036854775807)
structure Qz (P:Program) (k:TypeId):Prop where
 law:WideMaps.KeyLaw P k
 key:∀p,I64p p->∃l,keyOf P k (jQ p)=some l
structure PEs (es:Array MapEntry) (clk:Nat) (l:List (Int×Int)):Prop where
 kv:es.toList.map (fun e=>(e.key,e.val))=l.map (fun p=>(jQ p,Value.int .i64 1))
 nd:l.Nodup
 lt:∀e∈es.toList,e.born < clk
 bnd:(es.toList.map (·.born)).Nodup
 wf:∀p∈l,I64p p
def YN (w:World) (b:Nat) (l:List (Int×Int)):Prop:=∃es clk,w.heap[b]? =some (.map es clk)/\PEs es clk l
theorem YN.block {w w':World} {b:Nat} {l:List (Int×Int)} (h:YN w b l) (hb:w'.heap[b]? =w.heap[b]?):YN w' b l:=by
 obtain ⟨es,clk,h1,h2⟩:=h;exact ⟨es,clk,hb.trans h1,h2⟩
theorem YN.made (w:World):YN (w.alloc (.map #[] 0)) w.heap.size []:=⟨#[],0,heap_alloc_new w _,rfl,zT,zT,zT,zT⟩
theorem YN.lt {w:World} {b:Nat} {l:List (Int×Int)} (h:YN w b l):b < w.heap.size:=by
 obtain ⟨es,clk,h1,-⟩:=h;exact (Array.getElem?_eq_some_iff.1 h1).1
section
variable {es:Array MapEntry} {clk:Nat} {l:List (Int×Int)}
theorem PEs.keys (h:PEs es clk l):es.toList.map (·.key)=l.map jQ:=by
 have:=congrArg (List.map Prod.fst) h.kv;simpa [List.map_map,Function.comp_def] using this
theorem PEs.mem (h:PEs es clk l) {e:MapEntry} (he:e∈es.toList):∃p∈l,e.key=jQ p/\e.val= .int .i64 1:=by
 have h1:(e.key,e.val)∈es.toList.map (fun e=>(e.key,e.val)):=List.mem_map.2 ⟨e,he,rfl⟩;rw [h.kv] at h1;obtain ⟨p,hp,h2⟩:=List.mem_map.1 h1;simp only [Prod.mk.injEq] at h2;exact ⟨p,hp,h2.1.symm,h2.2.symm⟩
theorem PEs.at_ (h:PEs es clk l) {j:Nat} {e:MapEntry} (he:es[j]? =some e):∃p,l[j]? =some p/\e.key=jQ p/\e.val= .int .i64 1:=by
 have h1:(es.toList.map (fun e=>(e.key,e.val)))[j]? =some (e.key,e.val):=by simp [he]
 rw [h.kv] at h1;simp only [List.getElem?_map,Option.map_eq_some_iff,Prod.mk.injEq] at h1;obtain ⟨p,hp,h2,h3⟩:=h1;exact ⟨p,hp,h2.symm,h3.symm⟩
theorem PEs.has (h:PEs es clk l) {p:Int×Int} (hp:p∈l):∃e∈es.toList,e.key=jQ p:=by
 have h1:jQ p∈l.map jQ:=List.mem_map.2 ⟨p,hp,rfl⟩;rw [<-h.keys] at h1;obtain ⟨e,he,h2⟩:=List.mem_map.1 h1;exact ⟨e,he,h2⟩
theorem PEs.law {P:Program} {k:TypeId} (h:PEs es clk l) (K:Qz P k):∀e∈es.toList,∃x,keyOf P k e.key=some x:=by
 intro e he;obtain ⟨p,hp,h1,-⟩:=h.mem he;rw [h1];exact K.key p (h.wf p hp)
theorem Yp {α β:Type} {f:α->β}:∀{l:List α},(l.map f).Nodup->∀{x y:α},x∈l->y∈l->f x=f y->x=y
 | [],_,_,_,hx,_,_=>by simp at hx
 | a :: l,hn,x,y,hx,hy,h=>by
  obtain ⟨h1,h2⟩:=List.nodup_cons.1 hn;rcases List.mem_cons.1 hx with ex | hx' <;> rcases List.mem_cons.1 hy with ey | hy'
  ·rw [ex,ey]
  ·exact absurd (List.mem_map.2 ⟨y,hy',by rw [<-h,ex]⟩) h1
  ·exact absurd (List.mem_map.2 ⟨x,hx',by rw [h,ey]⟩) h1
  ·exact Yp h2 hx' hy' h
theorem jbg {l:List (Int×Int)} (h:l.Nodup):(l.map jQ).Nodup:=by
 unfold List.Nodup at h ⊢;rw [List.pairwise_map];exact h.imp fun hne e=>hne (yS e)
theorem jaq {p:Int×Int} {n:Nat}:∀{L:List MapEntry} {rem:List (Int×Int)},L.map (·.key)=rem.map jQ->(∀x∈L,(x.born=n↔x.key=jQ p))->
 (L.filter fun x=> !(x.born == n)).map (·.key)=(rem.filter fun q=>q≠p).map jQ
 | [],[],_,_=>rfl
 | [],_ :: _,h,_=>by simp at h
 | _ :: _,[],h,_=>by simp at h
 | x :: L,q :: rem,h,hx=>by
  simp only [List.map_cons,List.cons.injEq] at h;have ih:=jaq (p:=p) (n:=n) h.2 (fun y hy=>hx y (by simp [hy]));have h1:=hx x zT;rw [h.1] at h1;by_cases hq:q=p
  ·subst hq;have hb:x.born=n:=h1.2 rfl;rw [List.filter_cons,if_neg (by simp [hb]),List.filter_cons,if_neg zT];exact ih
  ·have hb:x.born≠n:=fun e=>hq (yS (h1.1 e));rw [List.filter_cons,if_pos (by simp [hb]),List.filter_cons,if_pos (by simpa using hq),List.map_cons,List.map_cons,ih,h.1]
end

section
variable {P:Program} {w:World} {t K E:TypeId} {b:Nat} {l:List (Int×Int)}

theorem yv {o o':Obj} (hb:w.heap[b]? =some o):w.grownBy { w with heap:=w.heap.setIfInBounds b o' } (some b)/\({ w with heap:=w.heap.setIfInBounds b o' }:World).heap[b]? =some o':=
 ⟨⟨rfl,rfl,rfl,zT,fun i _ hi=>(MapKept.heap_set hb).2 i (fun e=>hi (by rw [e]))⟩,(MapKept.heap_set hb).1⟩
theorem ja2 (h:YN w b l) (L:Qz P K) (ht:P.underlying t=some (.map K E)) {p:Int×Int} (hp:I64p p) :
 ∃w',(Instr.mapUpdate t (.map (some b)) (jQ p) (.int .i64 1)).run P w= .ok () w'/\YN w' b (if p∈l then l else l++[p])/\w.grownBy w' (some b):=by
 obtain ⟨es,clk,hb,hes⟩:=h;obtain ⟨x,hx⟩:=L.key p hp;have hck:=L.law.check w false hx;rcases L.law.find w hx es.toList (hes.law L) with ⟨hf,hno⟩ | ⟨j,e,hf,hj,hk⟩
 ·have hnp:p ∉ l:=fun hm=>by
   obtain ⟨e,he,h1⟩:=hes.has hm;exact hno e he h1
  rw [if_neg hnp];refine ⟨_,?_,⟨es.push { key:=jQ p,val:= .int .i64 1,born:=clk },clk+1,(yv hb).2,?_⟩,(yv hb).1⟩
  ·simp [Instr.mapUpdate,run_underlying ht,hck,hf,MapKept.run_getObj_map hb,MapKept.run_setObj_map _ hb,Result.andThen]
  ·refine ⟨by simp [hes.kv],?_,?_,?_,?_⟩
   ·rw [List.nodup_append];exact ⟨hes.nd,zT,fun a ha c hc=>by simp at hc;subst hc;exact fun e=>hnp (e ▸ ha)⟩
   ·intro e he;simp at he;rcases he with he | rfl
    ·have:=hes.lt e (by simpa using he);omega
    ·show clk < clk+1;omega
   ·simp only [Array.toList_push,List.map_append,List.map_cons,List.map_nil,List.nodup_append];refine ⟨hes.bnd,zT,fun a ha c hc=> ?_⟩;simp at hc;subst hc;obtain ⟨e,he,rfl⟩:=List.mem_map.1 ha;have:=hes.lt e he;omega
   ·intro q hq;simp at hq;rcases hq with hq | rfl
    ·exact hes.wf q hq
    ·exact hp
 ·have hj':es[j]? =some e:=by simpa using hj
  obtain ⟨q,hq,h1,h2⟩:=hes.at_ hj';have hqp:q=p:=yS (h1.symm.trans hk);subst hqp;have hm:q∈l:=List.mem_of_getElem? hq;rw [if_pos hm];have hst:(Instr.keyThatStays (((es[j]?).map (·.key)).getD (jQ q)) (jQ q)).run P w= .ok (jQ q) w:=by
   rw [hj'];simp only [Option.map_some,Option.getD_some,hk];exact L.law.stays w hx
  have hme:es.modify j (fun e=>{ e with key:=jQ q,val:= .int .i64 1 })=es:=by
   apply Array.ext';apply List.ext_getElem?;intro i;simp only [Array.toList_modify,List.getElem?_modify];by_cases hij:j=i
   ·subst hij;have hee:es.toList[j]? =some e:=by simpa using hj'
    rw [hee];simp [<-h1,<-h2]
   ·simp [hij]
  refine ⟨_,?_,⟨es,clk,(yv hb).2,hes⟩,(yv hb).1⟩;simp only [Instr.mapUpdate];rw [hj'] at hst;simp only [Option.map_some,Option.getD_some] at hst;simp [run_underlying ht,hck,hf,MapKept.run_getObj_map hb,MapKept.run_setObj_map _ hb,hj',hst,Result.andThen,hme]
theorem jau {l:List (Int×Int)} (hn:l.Nodup) {j:Nat} {p:Int×Int} (hj:l[j]? =some p):l.eraseIdx j=l.filter fun q=>q≠p:=by
 induction l generalizing j with
 | nil=>simp at hj
 | cons a r ih=>
  obtain ⟨hn1,hn2⟩:=List.nodup_cons.1 hn;cases j with
  | zero=>
   simp at hj;subst hj;have:r.filter (fun q=>decide (q≠a))=r:=List.filter_eq_self.2 (fun q hq=>by simp;exact fun e=>hn1 (e ▸ hq));rw [List.eraseIdx_cons_zero,List.filter_cons,if_neg zT];exact this.symm
  | succ j=>
   have hj2:r[j]? =some p:=by simpa using hj
   have hne:a≠p:=fun e=>hn1 (e ▸ List.mem_of_getElem? hj2);rw [List.eraseIdx_cons_succ,ih hn2 hj2,List.filter_cons,if_pos (by simpa using hne)]
theorem Kq {α:Type} {l:List α} (h:l.Nodup) (j:Nat):(l.eraseIdx j).Nodup:=h.sublist (List.eraseIdx_sublist l j)
theorem ja3 (h:YN w b l) (L:Qz P K) (ht:P.underlying t=some (.map K E)) {p:Int×Int} (hp:I64p p) (ty:TypeId) :
 ∃w',(Builtin.delete_ #[t,K] ty #[.map (some b),jQ p]).run P w= .ok (.tuple #[]) w'/\YN w' b (l.filter fun q=>q≠p)/\w.grownBy w' (some b):=by
 obtain ⟨es,clk,hb,hes⟩:=h;obtain ⟨x,hx⟩:=L.key p hp;have hck:=L.law.check w es.isEmpty hx;rcases L.law.find w hx es.toList (hes.law L) with ⟨hf,hno⟩ | ⟨j,e,hf,hj,hk⟩
 ·have hfl:(l.filter fun q=>q≠p)=l:=List.filter_eq_self.2 (fun q hq=>by
   simp;intro e;subst e;obtain ⟨e,he,h1⟩:=hes.has hq;exact hno e he h1)
  rw [hfl];refine ⟨_,?_,⟨es,clk,(yv hb).2,hes⟩,(yv hb).1⟩;simp [Builtin.delete_,run_underlying ht,hck,hf,MapKept.run_getObj_map hb,MapKept.run_setObj_map _ hb,Result.andThen]
 ·have hj':es[j]? =some e:=by simpa using hj
  obtain ⟨q,hq,h1,h2⟩:=hes.at_ hj';have hqp:q=p:=yS (h1.symm.trans hk);subst hqp;rw [<-jau hes.nd hq];have htl:(es.eraseIdxIfInBounds j).toList=es.toList.eraseIdx j:=by
   have hjs:=(Array.getElem?_eq_some_iff.1 hj').1;simp [Array.eraseIdxIfInBounds,hjs]
  refine ⟨_,?_,⟨es.eraseIdxIfInBounds j,clk,(yv hb).2,?_⟩,(yv hb).1⟩
  ·simp [Builtin.delete_,run_underlying ht,hck,hf,MapKept.run_getObj_map hb,MapKept.run_setObj_map _ hb,Result.andThen]
  ·refine ⟨?_,Kq hes.nd j,?_,?_,fun p hp=>hes.wf p (List.mem_of_mem_eraseIdx hp)⟩
   ·rw [htl,Go.ChangeMaps.map_eraseIdx,hes.kv,Go.ChangeMaps.map_eraseIdx]
   ·intro e he;rw [htl] at he;exact hes.lt e (List.mem_of_mem_eraseIdx he)
   ·rw [htl,Go.ChangeMaps.map_eraseIdx];exact Kq hes.bnd j
def jaC (w:World) (b r:Nat) (l rem:List (Int×Int)):Prop:=∃es clk since seen c0,w.heap[b]? =some (.map es clk)/\PEs es clk l/\w.heap[r]? =some (.mapIter (some b) since seen c0)/\
 (∀e∈es.toList,e.born < since)/\since<=c0/\since<=clk/\(leftOf es seen).toList.map (·.key)=rem.map jQ/\(∀p∈rem,p∈l)
theorem jaC.map {r:Nat} {rem:List (Int×Int)} (h:jaC w b r l rem):YN w b l:=by
 obtain ⟨es,clk,_,_,_,h1,h2,_⟩:=h;exact ⟨es,clk,h1,h2⟩
theorem jaC.lt {r:Nat} {rem:List (Int×Int)} (h:jaC w b r l rem):r < w.heap.size:=by
 obtain ⟨es,clk,_,_,_,h1,h2,h3,_⟩:=h;exact (Array.getElem?_eq_some_iff.1 h3).1
theorem jaC.block {w':World} {r:Nat} {rem:List (Int×Int)} (h:jaC w b r l rem) (h1:w'.heap[b]? =w.heap[b]?) (h2:w'.heap[r]? =w.heap[r]?):jaC w' b r l rem:=by
 obtain ⟨es,clk,s,n,c,q1,q2,q3,q4⟩:=h;exact ⟨es,clk,s,n,c,h1.trans q1,q2,h2.trans q3,q4⟩
theorem jcw (h:YN w b l) (ht:P.underlying t=some (.map K E)) :
 ∃w',(Instr.range t (.map (some b))).run P w= .ok (.pointer (some ⟨w.heap.size,0,none⟩)) w'/\jaC w' b w.heap.size l l/\Below w.heap.size w w'/\w'.heap.size=w.heap.size+1:=by
 have hlt:=h.lt;obtain ⟨es,clk,hb,hes⟩:=h;refine ⟨_,run_range_map w t K E b es clk ht hb,⟨es,clk,clk,#[],clk,((MapKept.heap_alloc w _).2 b hlt).trans hb,hes,(MapKept.heap_alloc w _).1,hes.lt,Nat.le_refl _,Nat.le_refl _,?_,fun p hp=>hp⟩,(Below.refl _ _).alloc (Nat.le_refl _) _,zT⟩;rw [<-hes.keys];congr 1;unfold leftOf;simp
theorem je8 (es:Array MapEntry) (seen:Array Nat) (x:Nat):(leftOf es (seen.push x)).toList=(leftOf es seen).toList.filter fun e=> !(e.born == x):=by
 unfold leftOf;simp only [Array.toList_filter,List.filter_filter];congr 1;funext e;rw [Array.contains_push,Bool.not_or,Bool.and_comm,Bool.beq_comm]
theorem jdX {r:Nat} {rem:List (Int×Int)} (h:jaC w b r l rem) (ty:TypeId) :
 (rem=[]/\(Instr.next (.pointer (some ⟨r,0,none⟩)) false ty).run P w= .ok (.tuple #[.bool false]) w)\/
 ∃p w',p∈rem/\(Instr.next (.pointer (some ⟨r,0,none⟩)) false ty).run P w= .ok (.tuple #[.bool true,jQ p,.int .i64 1]) w'/\jaC w' b r l (rem.filter fun q=>q≠p)/\w.grownBy w' (some r)/\w'.heap.size=w.heap.size/\
  (Instr.entry (.pointer (some ⟨r,0,none⟩))).run P w'= .ok (.tuple #[jQ p,.int .i64 1]) w':=by
 obtain ⟨es,clk,since,seen,c0,hb,hes,hr,hold,hsc,hsk,hrem,hsub⟩:=h;have hne:r≠b:=by intro e;subst e;rw [hb] at hr;cases hr
 rcases run_next_at (P:=P) w ty r b since c0 seen es clk hr hb hold hsc with ⟨h0,hrun⟩ | ⟨e,he,w1,hal,hrun⟩
 ·refine Or.inl ⟨?_,hrun⟩;have hz:(leftOf es seen).toList=[]:=List.eq_nil_of_length_eq_zero (by simpa using h0);rw [hz] at hrem;simpa using hrem.symm
 ·have hem:e∈es.toList:=by unfold leftOf at he;simp at he;simpa using he.1
  obtain ⟨p,hpl,hk,hv⟩:=hes.mem hem;have hpr:p∈rem:=by
   have h1:e.key∈(leftOf es seen).toList.map (·.key):=List.mem_map.2 ⟨e,he,rfl⟩;rw [hrem,hk] at h1;obtain ⟨q,hq,h2⟩:=List.mem_map.1 h1;rwa [<-yS h2]
  have hr1:w1.heap[r]? =some (.mapIter (some b) since seen c0):=by rcases hal with rfl | rfl <;> exact hr
  have hb1:w1.heap[b]? =some (.map es clk):=by rcases hal with rfl | rfl <;> exact hb
  have hset:=MapKept.heap_set (o':= .mapIter (some b) since (seen.push e.born) clk) hr1;have hb':(setBlock w1 r (.mapIter (some b) since (seen.push e.born) clk)).heap[b]? =some (.map es clk):=(hset.2 b (fun e1=>hne e1.symm)).trans hb1;refine Or.inr ⟨p,_,hpr,by rw [<-hk,<-hv];exact hrun,⟨es,clk,since,seen.push e.born,clk,hb',hes,hset.1,hold,hsk,hsk,?_,?_⟩,?_,?_,by rw [<-hk,<-hv];exact run_entry_at _ r b since seen es clk e hset.1 hb' hem hes.bnd⟩
  ·rw [je8];have hkn:(es.toList.map (·.key)).Nodup:=by
    rw [hes.keys];exact jbg hes.nd
   refine jaq hrem fun x hx=> ?_;have hxm:x∈es.toList:=by unfold leftOf at hx;simp at hx;simpa using hx.1
   exact ⟨fun h=>by rw [Yp hes.bnd hxm hem h,hk],fun h=>by rw [Yp hkn hxm hem (h.trans hk.symm)]⟩
  ·intro q hq;exact hsub q (List.mem_filter.1 hq).1
  ·rcases hal with rfl | rfl <;> exact ⟨rfl,rfl,rfl,by simp [setBlock],fun i _ hi=>hset.2 i (fun e1=>hi (by rw [e1]))⟩
  ·rcases hal with rfl | rfl <;> simp [setBlock]
variable {ops:Array Oper} {rest:List Oper} {o:Oper} {a:Act} {Q:Exit->Act->World->Prop}

theorem jaE (hg:o.guard=none) (m x y:Operand) (hop:o.op=Op.mapUpdate t m x y) (h:YN w b l) (L:Qz P K) (ht:P.underlying t=some (.map K E)) (p:Int×Int) (hp:I64p p)
 (hm:a.eval m= .map (some b)) (hx:a.eval x=jQ p) (hy:a.eval y= .int .i64 1)
 (hK':∀w',YN w' b (if p∈l then l else l++[p])->w.grownBy w' (some b)->wpList P ops Q rest (a.put o.dst undef) w') :
 wpList P ops Q (o :: rest) a w:=by
 refine wpList_plain hg fun K2 hK2=> ?_;obtain ⟨w',hrun,h1,h2⟩:=ja2 (P:=P) h L ht hp;unfold Oper.wp;simp [execOp,hop,hm,hx,hy,hrun,Result.andThen];exact hK2 _ _ (hK' w' h1 h2)
theorem jaF (hg:o.guard=none) (m x:Operand) (hop:o.op=Op.call { callee:=Callee.builtin Builtin.delete,args:=#[m,x],argTypes:=#[t,K] }) (h:YN w b l) (L:Qz P K) (ht:P.underlying t=some (.map K E)) (p:Int×Int) (hp:I64p p)
 (hm:a.eval m= .map (some b)) (hx:a.eval x=jQ p)
 (hK':∀w',YN w' b (l.filter fun q=>q≠p)->w.grownBy w' (some b)->wpList P ops Q rest (a.put o.dst (.tuple #[])) w') :
 wpList P ops Q (o :: rest) a w:=by
 refine wpList_plain hg fun K2 hK2=> ?_;obtain ⟨w',hrun,h1,h2⟩:=ja3 (P:=P) h L ht hp o.type;unfold Oper.wp;simp [execOp,hop,hm,hx,resolve,invoke,builtin,hrun,Result.andThen];exact hK2 _ _ (hK' w' h1 h2)
theorem jcn (hg:o.guard=none) (m:Operand) (hop:o.op=Op.range t m) (h:YN w b l) (ht:P.underlying t=some (.map K E)) (hm:a.eval m= .map (some b))
 (hK':∀w',jaC w' b w.heap.size l l->Below w.heap.size w w'->w'.heap.size=w.heap.size+1->wpList P ops Q rest (a.put o.dst (.pointer (some ⟨w.heap.size,0,none⟩))) w') :
 wpList P ops Q (o :: rest) a w:=by
 refine wpList_plain hg fun K2 hK2=> ?_;obtain ⟨w',hrun,h1,h2,h3⟩:=jcw (P:=P) h ht;unfold Oper.wp;simp [execOp,hop,hm,hrun,Result.andThen];exact hK2 _ _ (hK' w' h1 h2 h3)
theorem jdy (hg:o.guard=none) (it:Operand) (hop:o.op=Op.next it false) {r:Nat} {rem:List (Int×Int)} (h:jaC w b r l rem) (hit:a.eval it= .pointer (some ⟨r,0,none⟩))
 (hDone:rem=[]->wpList P ops Q rest (a.put o.dst (.tuple #[.bool false])) w)
 (hMore:∀p w',p∈rem->jaC w' b r l (rem.filter fun q=>q≠p)->w.grownBy w' (some r)->w'.heap.size=w.heap.size->(Instr.entry (.pointer (some ⟨r,0,none⟩))).run P w'= .ok (.tuple #[jQ p,.int .i64 1]) w'->
  wpList P ops Q rest (a.put o.dst (.tuple #[.bool true,jQ p,.int .i64 1])) w') :
 wpList P ops Q (o :: rest) a w:=by
 refine wpList_plain hg fun K2 hK2=> ?_;unfold Oper.wp;rcases jdX (P:=P) h o.type with ⟨h0,hrun⟩ | ⟨p,w',hp,hrun,h1,h2,h3,h4⟩
 ·simp [execOp,hop,hit,hrun,Result.andThen];exact hK2 _ _ (hDone h0)
 ·simp [execOp,hop,hit,hrun,Result.andThen];exact hK2 _ _ (hMore p w' hp h1 h2 h3 h4)
end
end Go.Proofs.YtcnininelndjoaaGreat
namespace Go.Proofs.YtcnininelndjoaaGreat
open Go.Proofs.Tryz
open Go.RowKit

def yG (l:List Int):List Value:=l.map (Value.int .u64)
theorem KG (l:List Int):(yG l).length=l.length:=by simp [yG]
theorem yW {l:List Int} {k:Nat} (h:k < l.length):(yG l)[k]? =some (.int .u64 (l.getD k 0)):=by simp [yG,h]
theorem jbE (l:List Int) (k:Nat) (v:Int):(yG l).set k (.int .u64 v)=yG (l.set k v):=by simp [yG]
structure PMs (w:World) (b:Nat) (S:Nat->Prop) (s:NM) (wv kv:Value) (pb:Nat):Prop where
 cells:w.heap[b]? =some (.cells #[wv,kv,.map (some pb)] 91)
 wr:w.ownsRow 0 38 1 wv s.W.length (yG s.W)
 kr:w.ownsRow 0 38 1 kv s.K.length (yG s.K)
 mp:YN w pb s.P
 ne:∀k,wv.ownBlock=some k->kv.ownBlock≠some k
 inb:S b
 inp:S pb
 inw:∀k,wv.ownBlock=some k->S k
 ink:∀k,kv.ownBlock=some k->S k
 lt:∀k,S k->k < w.heap.size
 inv:s.Inv
def PM (w:World) (b:Nat) (S:Nat->Prop) (s:NM):Prop:=∃wv kv pb,PMs w b S s wv kv pb
theorem X9 {w:World} {e size g:Nat} {v:Value} {n:Nat} {xs:List Value} {l:List (Int×Int)} (h:w.ownsRow 0 e size v n xs) (hg:YN w g l):v.ownBlock≠some g:=by
 obtain ⟨es,clk,hb,-⟩:=hg;rcases h.2 with ⟨rfl,-⟩ | ⟨g',cap,cur,rfl,-,hg',-⟩
 ·simp [Value.ownBlock]
 ·intro e1;have:g'=g:=by simpa [Value.ownBlock] using e1
  subst this;rw [hb] at hg';cases hg'
section
variable {w w':World} {b:Nat} {S:Nat->Prop} {s:NM} {wv kv:Value} {pb:Nat}
theorem PMs.cell (h:PMs w b S s wv kv pb) (o:Nat):w.cell? ⟨b,o,none⟩=(#[wv,kv,.map (some pb)]:Array Value)[o]? :=jd h.cells
theorem PMs.pb_ne (h:PMs w b S s wv kv pb):pb≠b:=by
 obtain ⟨es,clk,hb,-⟩:=h.mp;intro e;subst e;rw [h.cells] at hb;cases hb
theorem PMs.wb_ne (h:PMs w b S s wv kv pb):wv.ownBlock≠some b:=jA h.wr h.cells zd
theorem PMs.kb_ne (h:PMs w b S s wv kv pb):kv.ownBlock≠some b:=jA h.kr h.cells zd
theorem PMs.wp_ne (h:PMs w b S s wv kv pb):wv.ownBlock≠some pb:=X9 h.wr h.mp
theorem PMs.kp_ne (h:PMs w b S s wv kv pb):kv.ownBlock≠some pb:=X9 h.kr h.mp
theorem PMs.wform (h:PMs w b S s wv kv pb):∃g c,wv= .slice (some ⟨g,0,none⟩) s.W.length c:=Joins.ownsRow_form h.wr h.inv.pos
theorem PMs.kform (h:PMs w b S s wv kv pb):∃g c,kv= .slice (some ⟨g,0,none⟩) s.K.length c:=Joins.ownsRow_form h.kr (by rw [h.inv.kl];exact h.inv.pos)
end

theorem qT:qN PM where
 keep:=by
  rintro w w' b S T s ⟨wv,kv,pb,h⟩ F hd;have hk:∀k,S k->w'.heap[k]? =w.heap[k]? :=fun k x=>F.block k (h.lt k x) (hd k x);exact ⟨wv,kv,pb,⟨(hk b h.inb).trans h.cells,jh h.wr fun k x=>hk k (h.inw k x),jh h.kr fun k x=>hk k (h.ink k x),h.mp.block (hk pb h.inp),h.ne,h.inb,h.inp,h.inw,h.ink,fun k x=>Nat.lt_of_lt_of_le (h.lt k x) F.size,h.inv⟩⟩
 lt:=fun ⟨_,_,_,h⟩=>h.lt;mono:=fun ⟨wv,kv,pb,h⟩ hs hl=>⟨wv,kv,pb,⟨h.cells,h.wr,h.kr,h.mp,h.ne,hs _ h.inb,hs _ h.inp,fun k x=>hs k (h.inw k x),fun k x=>hs k (h.ink k x),hl,h.inv⟩⟩
theorem PM.inv {w:World} {b:Nat} {S:Nat->Prop} {s:NM} (h:PM w b S s):s.Inv:=by
 obtain ⟨_,_,_,h⟩:=h;exact h.inv
theorem jc1 (b:Nat) (i:Int) (w:World) (ad:Option Addr) (n c:Nat) (kv:Value) (h0:w.cell? ⟨b,0,none⟩=some (.slice ad n c)) (h1:0<=i) (h2:i < n) :
 Calls prog 91 #[.pointer (some ⟨b,0,none⟩),.int .i64 i] w fun e w'=>e= .returned (.bool true)/\w=w':=by
 go_enter func91,ntmps91;go_wp2;go_ret;exact ⟨rfl,rfl⟩
theorem jc2 (b:Nat) (i:Int) (w:World) (h1:i < 0) :
 Calls prog 91 #[.pointer (some ⟨b,0,none⟩),.int .i64 i] w fun e w'=>e= .returned (.bool false)/\w=w':=by
 go_enter func91,ntmps91;go_wp2;go_ret;exact ⟨rfl,rfl⟩
theorem jbi (b:Nat) (i:Int) (w:World) (ad:Option Addr) (n c:Nat) (h0:w.cell? ⟨b,0,none⟩=some (.slice ad n c)) (h1:0<=i) (h2:(n:Int)<=i) :
 Calls prog 91 #[.pointer (some ⟨b,0,none⟩),.int .i64 i] w fun e w'=>e= .returned (.bool false)/\w=w':=by
 have hd:decide (i < (n:Int))=false:=by simp;omega
 go_enter func91,ntmps91;go_wp2;go_ret;exact ⟨rfl,rfl⟩
theorem Qq (b:Nat) (i:Int) (w:World) (S:Nat->Prop) (s:NM) (h:PM w b S s) :
 Calls prog 91 #[.pointer (some ⟨b,0,none⟩),.int .i64 i] w fun e w'=>e= .returned (.bool (s.th i))/\w=w':=by
 obtain ⟨wv,kv,pb,hv⟩:=h;obtain ⟨g,c,rfl⟩:=hv.wform;have h0:=hv.cell 0;simp at h0;by_cases h1:i < 0
 ·have:s.th i=false:=by simp [NM.th];omega
  rw [this];exact jc2 b i w h1
 ·by_cases h2:(s.W.length:Int)<=i
  ·have:s.th i=false:=by simp [NM.th];omega
   rw [this];exact jbi b i w _ _ _ h0 zo h2
  ·have:s.th i=true:=by simp [NM.th];omega
   rw [this];exact jc1 b i w _ _ _ kv h0 zo zo
theorem jeM (i:Int) (w:World) :
 Calls prog 92 #[.int .i64 i] w fun e w'=>e= .returned (.bool (NM.som i))/\w=w':=by
 by_cases h1:i < 0
 ·have e1:NM.som i=false:=by simp [NM.som];omega
  rw [e1];go_enter func92,ntmps92;go_wp2;go_ret;exact ⟨rfl,rfl⟩
 ·by_cases h2:i<=16
  ·have e1:NM.som i=true:=by simp [NM.som];omega
   rw [e1];go_enter func92,ntmps92;go_wp2;go_ret;exact ⟨rfl,rfl⟩
  ·have e1:NM.som i=false:=by simp [NM.som];omega
   rw [e1];go_enter func92,ntmps92;go_wp2;go_ret;exact ⟨rfl,rfl⟩
theorem jeT (b:Nat) (i:Int) (w:World) (S:Nat->Prop) (s:NM) (h:PM w b S s) :
 Calls prog 50 #[.pointer (some ⟨b,0,none⟩),.int .i64 i] w fun e w'=>e= .returned (.tuple #[.int .u64 (s.load i).1,.bool (s.load i).2])/\w=w':=by
 have H:=Qq b i w S s h;obtain ⟨wv,kv,pb,hv⟩:=h;obtain ⟨g,c,rfl⟩:=hv.wform;have h0:=hv.cell 0;simp at h0;unfold NM.load;cases ht:s.th i
 ·rw [ht] at H;have HH:=zh H;clear H hv;go_enter func50,ntmps50;go_wp2_with fail;refine zM HH.out ?_;rintro w1 rfl;go_wp2;exact bodyPost_ret (v:= .tuple #[.int .u64 0,.bool false]) (by simp [results,results50,go_sem]) rfl ⟨rfl,rfl⟩
 ·rw [ht] at H;have HH:=zh H;obtain ⟨h1,h2⟩:=NM.th_iff.1 ht;obtain ⟨n,rfl⟩:=Int.eq_ofNat_of_zero_le h1;have hc:=(hv.wr.cellAt n zo).trans (yW zo);simp only [Int.toNat_natCast,if_true];clear H hv ht;go_enter func50,ntmps50;go_wp2_with fail;refine zM HH.out ?_;rintro w1 rfl;go_wp2;exact bodyPost_ret (v:= .tuple #[.int .u64 (s.W.getD n 0),.bool true]) (by simp [results,results50,go_sem]) rfl ⟨rfl,rfl⟩
theorem PMs.store {w:World} {b g c pb:Nat} {S:Nat->Prop} {s:NM} {kv:Value} (h:PMs w b S s (.slice (some ⟨g,0,none⟩) s.W.length c) kv pb) {k:Nat} (hk:k < s.W.length) {v:Int} (hv:NM.U64 v) :
 PM (w.setCell ⟨g,k,none⟩ (.int .u64 v)) b (upd S w (w.setCell ⟨g,k,none⟩ (.int .u64 v))) { s with W:=s.W.set k v }/\Fr S w (w.setCell ⟨g,k,none⟩ (.int .u64 v)):=by
 have F:Fr S w (w.setCell ⟨g,k,none⟩ (.int .u64 v)):=(Fr.refl _ _).setCell _ _ (Or.inl (h.inw g rfl));have hw:=h.wb_ne;have hp:=h.wp_ne;have e1:=h.ne g rfl;simp [Value.ownBlock] at hw hp;have hW:=(h.wr.stored k (.int .u64 v)).1;rw [jbE] at hW;have hinv:({ s with W:=s.W.set k v }:NM).Inv:=by
  have:=h.inv.store (k:Int) hv;unfold NM.store at this;rw [if_pos (NM.th_iff.2 ⟨zo,zo⟩)] at this;simpa using this
 refine ⟨⟨_,kv,pb,⟨(jg (fun e=>hw e.symm)).trans h.cells,?_,jh h.kr fun j x=>jg (fun e=>e1 (e ▸ x)),h.mp.block (jg (fun e=>hp e.symm)),?_,Or.inl h.inb,Or.inl h.inp,fun j x=>Or.inl (h.inw j x),fun j x=>Or.inl (h.ink j x),?_,hinv⟩⟩,F⟩
 ·show (w.setCell ⟨g,k,none⟩ (.int .u64 v)).ownsRow 0 38 1 (.slice (some ⟨g,0,none⟩) s.W.length c) (s.W.set k v).length (yG (s.W.set k v));rw [List.length_set];exact hW
 ·exact h.ne
 ·intro j x;rcases x with x | x
  ·simpa using h.lt j x
  ·exact x.2
theorem PMs.same {w:World} {b pb:Nat} {S:Nat->Prop} {s:NM} {wv kv:Value} (h:PMs w b S s wv kv pb):PM w b (upd S w w) s/\Fr S w w:=
 ⟨⟨wv,kv,pb,⟨h.cells,h.wr,h.kr,h.mp,h.ne,Or.inl h.inb,Or.inl h.inp,fun k x=>Or.inl (h.inw k x),fun k x=>Or.inl (h.ink k x),fun k x=>by rcases x with x | x;exact h.lt k x;omega,h.inv⟩⟩,Fr.refl _ _⟩
theorem jc3 (b:Nat) (i v:Int) (w:World) (S:Nat->Prop) (s:NM) (h:PM w b S s) (hu:NM.U64 v) :
 Calls prog 51 #[.pointer (some ⟨b,0,none⟩),.int .i64 i,.int .u64 v] w fun e w'=>e= .returned (.bool (s.store i v).1)/\(PM w' b (upd S w w') (s.store i v).2/\Fr S w w'):=by
 have H:=Qq b i w S s h;obtain ⟨wv,kv,pb,hv⟩:=h;obtain ⟨g,c,rfl⟩:=hv.wform;have h0:=hv.cell 0;simp at h0;unfold NM.store;cases ht:s.th i
 ·rw [ht] at H;have HH:=zh H;have HV:=zh hv;clear H hv;go_enter func51,ntmps51;go_wp2_with fail;refine zM HH.out ?_;rintro w1 rfl;go_wp2;go_ret;exact ⟨rfl,HV.out.same⟩
 ·rw [ht] at H;have HH:=zh H;obtain ⟨h1,h2⟩:=NM.th_iff.1 ht;obtain ⟨n,rfl⟩:=Int.eq_ofNat_of_zero_le h1;have hc:=(hv.wr.cellAt n zo).trans (yW zo);have hf:=hv.wr.frozenAt n;have HV:=zh (hv.store (k:=n) zo hu);simp only [Int.toNat_natCast,if_true];clear H hv ht;go_enter func51,ntmps51;go_wp2_with fail;refine zM HH.out ?_;rintro w1 rfl;go_wp2;go_ret;exact ⟨rfl,HV.out⟩

theorem and1 (n k:Nat):bits BinOp.and IntKind.i64 ((n:Int) / 2 ^ k) 1=((n / 2 ^ k % 2:Nat):Int):=by
 have e:((n:Int) / 2 ^ k)=((n / 2 ^ k:Nat):Int):=zT;rw [e];generalize n / 2 ^ k=x;show IntKind.i64.wrap ((BitVec.ofInt 64 (x:Int) &&& BitVec.ofInt 64 1).toNat:Int)=_;have h1:BitVec.ofInt 64 (x:Int)=BitVec.ofNat 64 x:=BitVec.ofInt_natCast ..;have h2:BitVec.ofInt 64 1=BitVec.ofNat 64 1:=zd;rw [h1,h2,<-BitVec.ofNat_and,BitVec.toNat_ofNat,Nat.and_one_is_mod,Nat.mod_eq_of_lt zo];exact jD _ zo
theorem bit_and (n k:Nat):(bits BinOp.and IntKind.i64 ((n:Int) / 2 ^ k) 1 == 1)=NM.bitB (n:Int) k:=by
 rw [and1];unfold NM.bitB;rw [Int.toNat_natCast,Nat.testBit_eq_decide_div_mod_eq];generalize n / 2 ^ k=x;rcases Nat.mod_two_eq_zero_or_one x with h | h <;> rw [h] <;> rfl
theorem PMs.keepCell {w:World} {b g c pb:Nat} {S:Nat->Prop} {s:NM} {wv:Value} (h:PMs w b S s wv (.slice (some ⟨g,0,none⟩) s.K.length c) pb) {k:Nat} {v:Int} (hv:NM.U64 v) :
 PMs (w.setCell ⟨g,k,none⟩ (.int .u64 v)) b S { s with K:=s.K.set k v } wv (.slice (some ⟨g,0,none⟩) s.K.length c) pb/\Fr S w (w.setCell ⟨g,k,none⟩ (.int .u64 v)):=by
 have F:Fr S w (w.setCell ⟨g,k,none⟩ (.int .u64 v)):=(Fr.refl _ _).setCell _ _ (Or.inl (h.ink g rfl));have hw:=h.kb_ne;have hp:=h.kp_ne;have e1:wv.ownBlock≠some g:=fun e=>h.ne g e rfl;simp [Value.ownBlock] at hw hp;have hK:=(h.kr.stored k (.int .u64 v)).1;rw [jbE] at hK;have hi:=h.inv;refine ⟨⟨(jg (fun e=>hw e.symm)).trans h.cells,jh h.wr fun j x=>jg (fun e=>e1 (e ▸ x)),?_,h.mp.block (jg (fun e=>hp e.symm)),h.ne,h.inb,h.inp,h.inw,h.ink,fun j x=>by simpa using h.lt j x,⟨by simpa using hi.kl,hi.pos,hi.small,hi.oct,hi.wu,NM.set_u hi.ku _ hv,hi.nd,hi.pb⟩⟩,F⟩;show (w.setCell ⟨g,k,none⟩ (.int .u64 v)).ownsRow 0 38 1 (.slice (some ⟨g,0,none⟩) s.K.length c) (s.K.set k v).length (yG (s.K.set k v));rw [List.length_set];exact hK
theorem PMs.drew {w:World} {b pb:Nat} {S:Nat->Prop} {s:NM} {wv kv:Value} (h:PMs w b S s wv kv pb):PMs w.drew b S s wv kv pb:=
 ⟨h.cells,h.wr,h.kr,h.mp,h.ne,h.inb,h.inp,h.inw,h.ink,h.lt,h.inv⟩
structure KpRel (w:World) (b:Nat) (S:Nat->Prop) (s:NM) (l:Nat) (m:Int) (wv kv:Value) (pb:Nat) (v7:Value) (wr:World) (k:Nat):Prop where
 le:k<=8
 eq:v7= .int .i64 k
 ps:PMs wr b S { s with K:=NM.keepI s.W l m k s.K } wv kv pb
 fr:Fr S w wr
def KpRelE (w:World) (b:Nat) (S:Nat->Prop) (s:NM) (l:Nat) (m:Int) (wv kv:Value) (pb:Nat) (v7:Value) (wr:World):Prop:=∃k,KpRel w b S s l m wv kv pb v7 wr k
theorem PMs.up {w w':World} {b pb:Nat} {S:Nat->Prop} {s:NM} {wv kv:Value} (h:PMs w' b S s wv kv pb) (F:Fr S w w'):PM w' b (upd S w w') s/\Fr S w w':=
 ⟨⟨wv,kv,pb,⟨h.cells,h.wr,h.kr,h.mp,h.ne,Or.inl h.inb,Or.inl h.inp,fun k x=>Or.inl (h.inw k x),fun k x=>Or.inl (h.ink k x),fun k x=>by rcases x with x | x;exact h.lt k x;exact x.2,h.inv⟩⟩,F⟩
theorem jeV (b l m:Nat) (w:World) (S:Nat->Prop) (s:NM) (h:PM w b S s) (hl:l < s.W.length / 8) (h2:m<=255) :
 Calls prog 94 #[.pointer (some ⟨b,0,none⟩),.int .i64 l,.int .i64 m] w fun e w'=>e= .returned (.tuple #[])/\(PM w' b (upd S w w') { s with K:=NM.keepI s.W l m 8 s.K }/\Fr S w w'):=by
 obtain ⟨wv,kv,pb,hv⟩:=h;obtain ⟨g,c,rfl⟩:=hv.wform;obtain ⟨gk,ck,rfl⟩:=hv.kform;have hi:=hv.inv;have hs:=hi.small;have hkl:=hi.kl;have hku:∀v∈s.W,NM.U64 v:=hi.wu;have HV:=zh hv;clear hv hi;go_enter func94,ntmps94;go_wp2;go_loopw [7] (fun i wr=>KpRelE w b S s l m (.slice (some ⟨g,0,none⟩) s.W.length c) (.slice (some ⟨gk,0,none⟩) s.K.length ck) pb i wr) (fun i _=>8 - (intOf i).toNat);case atStart=>exact ⟨0,zo,rfl,HV.out,Fr.refl _ _⟩
 case round=>
  obtain ⟨k,hk,rfl,hp,hf⟩:=hrel;by_cases hlt:k < 8
  ·have q0:=hp.cell 0;have q1:=hp.cell 1;have hc:=(hp.wr.cellAt (l*8+k) (by simp;omega)).trans (yW (by simp;omega));have hlen:(NM.keepI s.W l m k s.K).length=s.K.length:=NM.keepI_len _ _ _ _ _;have hkr:=hp.kr;dsimp only at hkr;rw [hlen] at hkr;have hc2:=(hkr.cellAt (l*8+k) zo).trans (yW zo);have hf2:=hkr.frozenAt (l*8+k);have hw1:IntKind.i64.wrap ((l:Int)*8)=((l*8:Nat):Int):=jD _ zo;have hw2:IntKind.i64.wrap (((l*8:Nat):Int)+k)=((l*8+k:Nat):Int):=jD _ zo;have hw3:IntKind.i64.wrap ((l:Int)*8+k)=((l*8+k:Nat):Int):=jD _ zo;have hx1:((l*8+k:Nat):Int) < s.W.length:=zo;have hx2:((l*8+k:Nat):Int) < s.K.length:=zo;have hkl8:(k:Int) < 8:=zo;have hb:=bit_and m k;have hpd:=hp.drew;rw [show (⟨s.W,NM.keepI s.W l m k s.K,s.P⟩:NM).W=s.W from rfl] at hc;have hu:=NM.getD_u hku (l*8+k);simp at q0 q1;obtain ⟨x,hx⟩:∃x,s.W.getD (l*8+k) 0=x:=⟨_,rfl⟩
   rw [hx] at hu;rw [hx] at hc;generalize (NM.keepI s.W l m k s.K).getD (l*8+k) 0=y at*
   have hst:NM.bitB (m:Int) k=true->NM.keepI s.W l m (k+1) s.K=(NM.keepI s.W l m k s.K).set (l*8+k) x:=fun h=>by
    rw [show NM.keepI s.W l m (k+1) s.K=if NM.bitB (m:Int) k=true then (NM.keepI s.W l m k s.K).set (8*l+k) (s.W.getD (8*l+k) 0) else NM.keepI s.W l m k s.K from rfl,if_pos h,Nat.mul_comm 8 l,hx]
   have hno:NM.bitB (m:Int) k=false->NM.keepI s.W l m (k+1) s.K=NM.keepI s.W l m k s.K:=fun h=>by simp [NM.keepI,h]
   have HSt:=zh hst;have HNo:=zh hno;have HPd:=zh hpd;have HP:=zh hp;have HU:=zh hu;have HLn:=zh hlen;have hfd:=zh hf;clear hst hno hpd hp hu hx hkr hlen hf hku;go_wp2
   ·rename_i hbt;go_region;have h9:=HPd.out;rw [<-HLn.out] at h9;obtain ⟨n1,n2⟩:=h9.keepCell (k:=l*8+k) HU.out;rw [HLn.out] at n1;have n3:Fr S w (wr.drew.setCell ⟨gk,l*8+k,none⟩ (.int .u64 x)):=hfd.out.drew.trans n2 (fun i hi=>Or.inl hi);dsimp only at n1;rw [<-HSt.out hbt] at n1;have HN1:=zh n1;have HN3:=zh n3;clear n1 n2 n3 h9;go_wp2;go_roundw;case rel=>exact ⟨k+1,zo,by go_num,HN1.out,HN3.out⟩
    case measure=>simp [intOf];omega
   ·rename_i hbf;go_roundw;case rel=>exact ⟨k+1,zo,by go_num,by rw [HNo.out hbf];exact HP.out,hfd.out⟩
    case measure=>simp [intOf];omega
  ·have hke:k=8:=zo;have hp8:=hp;rw [hke] at hp8;have hkl8:¬(k:Int) < 8:=zo;have HP:=zh hp8;have HF:=zh hf;clear hp hf hp8 hke;go_wp2;go_end0;exact ⟨rfl,HP.out.up HF.out⟩

theorem fLaid:laidOutB prog=true:=by kernel_rfl
theorem fWide:(match prog.underlying 153 with | some (.array _ _) | some (.struct _)=>true | _=>false)=true:=by rw [underlying153]
theorem fLaw:WideMaps.KeyLaw prog 153:=deep_law_laid fLaid (m:=2) zo (of_decide_eq_true zk) zk fWide
theorem fCells:prog.cellsOf 153=2:=by kernel_rfl
theorem iCells:prog.cellsOf 3=1:=by kernel_rfl
theorem fType:prog.keyType 153=true:=by kernel_rfl
theorem fSize:∃m,prog.types.size=m+1:=⟨_,(by kernel_rfl:prog.types.size=(389 - 101)+1)⟩
theorem fKey (p:Int×Int) (h:I64p p):∃l,keyOf prog 153 (jQ p)=some l:=by
 obtain ⟨⟨a1,a2⟩,a3,a4⟩:=h;obtain ⟨m,hm⟩:=fSize;have hf:(jQ p).formed prog 153=true:=by simp [jQ,Value.formed,underlying153,fCells]
 unfold keyOf;simp only [underlying153,fType,hf,hm,Bool.and_true,if_true];have wf:∀n:Int,-9223372036854775808<=n->n<=9223372036854775807->(Lit.int .i64 n).wf=true:=fun n h1 h2=>by
  simp [Lit.wf];exact ⟨h1,h2⟩
 have w1:=wf _ a1 a2;have w2:=wf _ a3 a4;simp [jQ,Value.cells,Program.keyLits,underlying153,underlying3,fCells,iCells,w1,w2]
theorem fPair:Qz prog 153:=⟨fLaw,fKey⟩
theorem uPend:prog.underlying 89=some (.map 153 3):=underlying89
theorem PMs.pendI {w w':World} {b pb:Nat} {S:Nat->Prop} {s:NM} {wv kv:Value} {P':List (Int×Int)} (h:PMs w b S s wv kv pb) (hm:YN w' pb P') (hg:w.grownBy w' (some pb)) (hi:({ s with P:=P' }:NM).Inv):PMs w' b S { s with P:=P' } wv kv pb/\Fr S w w':=by
 have F:Fr S w w':=(Fr.refl _ _).grown hg (fun k hk=>by cases hk;exact Or.inl h.inp);have hw:=h.wp_ne;have hk:=h.kp_ne;refine ⟨⟨(hg.block b (h.lt b h.inb) (fun e=>h.pb_ne (Option.some.inj e.symm))).trans h.cells,jh h.wr fun j x=>hg.block j (h.lt j (h.inw j x)) (fun e=>hw (x.trans e)),jh h.kr fun j x=>hg.block j (h.lt j (h.ink j x)) (fun e=>hk (x.trans e)),hm,h.ne,h.inb,h.inp,h.inw,h.ink,fun j x=>Nat.lt_of_lt_of_le (h.lt j x) hg.size,hi⟩,F⟩
theorem jc7 (b:Nat) (who i:Int) (w:World) (S:Nat->Prop) (s:NM) (h:PM w b S s) :
 Calls prog 52 #[.pointer (some ⟨b,0,none⟩),.int .i64 who,.int .i64 i] w fun e w'=>e= .returned (.bool (s.flush who i).1)/\(PM w' b (upd S w w') (s.flush who i).2/\Fr S w w'):=by
 have H:=Qq b i w S s h;have H2:=jeM who w;have hi:=h.inv;obtain ⟨wv,kv,pb,hv⟩:=h;have h0:=hv.cell 2;simp at h0;unfold NM.flush;cases ht:s.th i
 ·rw [ht] at H;have HH:=zh H;have HV:=zh hv;simp only [Bool.false_eq_true,false_and,if_false];clear H hv;go_enter func52,ntmps52;go_wp2_with fail;refine zM HH.out ?_;rintro w1 rfl;go_wp2;go_ret;exact ⟨rfl,HV.out.same⟩
 ·rw [ht] at H;have HH:=zh H;cases hs:NM.som who
  ·rw [hs] at H2;have HH2:=zh H2;have HV:=zh hv;simp only [Bool.false_eq_true,and_false,if_false];clear H hv H2;go_enter func52,ntmps52;go_wp2_with fail;refine zM HH.out ?_;rintro w1 rfl;go_wp2_with fail;refine zM HH2.out ?_;rintro w1 rfl;go_wp2;go_ret;exact ⟨rfl,HV.out.same⟩
  ·rw [hs] at H2;have HH2:=zh H2;obtain ⟨h1,h2⟩:=NM.th_iff.1 ht;have hsm:=hi.small;have hwho:0<=who/\who<=16:=by simpa [NM.som] using hs
   have hfl:=hi.flush who i;unfold NM.flush at hfl;rw [if_pos ⟨ht,hs⟩] at hfl;have HF:=zh hfl;have HV:=zh hv;have HM:=zh hv.mp;have hp:I64p (who,i / 8):=⟨by dsimp only;omega,by dsimp only;omega⟩
   have HPr:=zh hp;simp only [true_and,if_true];clear H hv H2 hfl hi hp;go_enter func52,ntmps52;go_wp2_with fail;refine zM HH.out ?_;rintro w1 rfl;go_wp2_with fail;refine zM HH2.out ?_;rintro w1 rfl;go_wp2_with (at_mapUpdate;refine jaE rfl _ _ _ rfl HM.out fPair uPend (who,i / 8) HPr.out rfl rfl rfl ?_;intro w2 hm2 hg2);obtain ⟨n1,n2⟩:=HV.out.pendI (P':=NM.addP s.P (who,i / 8)) hm2 hg2 HF.out;have HN:=zh (n1.up n2);clear n1 n2 hm2 hg2;go_wp2;go_ret;exact ⟨rfl,HN.out⟩
theorem infoU64n:(prog.info? 38).map (fun i=>(i.zero,i.size,i.bytes))=some (some (.int .u64 0),1,8):=by kernel_rfl
theorem jbv (ad:Addr) (n c:Nat) (xs:List Int) (w:World) (hl:xs.length=n) (hb:n*8<=140737488355328) (hc:∀j,j < n->w.cell? (ad.add j)=some (.int .u64 (xs.getD j 0))) :
 Calls prog 35 #[.slice (some ad) n c] w fun e w'=>∃v',e= .returned v'/\w'.ownsRow w.heap.size 38 1 v' n (yG xs)/\v'≠ .slice none 0 0/\Below w.heap.size w w':=by
 have A:=zh hc;have q22:∀(w:World) (a:Option Addr) (n c n' c':Nat),(binOp .eql 24 (.slice a n c) (.slice none n' c')).run prog w= .ok (.bool a.isNone) w:=fun w a n c n' c'=>Lib.run_eql_slice_nil w _ _ a n c n' c' underlying24;obtain ⟨i0,hi,hz0,hz1,hz2⟩:=info_parts infoU64n;clear hc;go_enter func35,ntmps35;go_wp2_with (at_builtin;refine wpList_append_own _ rfl _ _ 24 rfl w.heap.size 38 i0 (.int .u64 0) 1 8 underlying24 hi hz0 hz1 hz2 rfl zd _ _ _ rfl (World.ownsRow_made w #[] 0 (Nat.le_refl _) (Nat.zero_le _) rfl) ad n c (yG xs) rfl ?qc1 ?qc2 ?qc3 ?qc4 ?qc5 ?qc6 ?_);case qc1=>simp [yG,hl]
 case qc2=>
  intro j u hj;have hjn:j < n:=by
   have:=(List.getElem?_eq_some_iff.1 hj).1;simp [yG] at this;omega
  refine Lib.cell?_alloc_some _ ?_;rw [A.out j hjn,<-hj,yW zo]
 case qc3=>intro u hu;obtain ⟨x,_,rfl⟩:=List.mem_map.1 hu;rfl
 case qc4=>unfold maxLen;omega
 case qc5=>omega
 case qc6=>simp
 intro v' w1 hown hgrow hnil;have HO:=zh (show w1.ownsRow w.heap.size 38 1 v' n (yG xs) by simpa using hown);have HG:=zh hgrow;have HN:=zh hnil;clear hown hgrow hnil;go_wp2;go_ret;exact ⟨v',rfl,HO.out,HN.out,((Below.refl _ w).alloc (Nat.le_refl _) _).grown HG.out zT (by intro k hk;simp [Value.ownBlock] at hk;omega)⟩

theorem JU {w w':World} {base e size:Nat} {v:Value} {n:Nat} {xs:List Value} (h:w.ownsRow base e size v n xs) (hb:∀k,v.ownBlock=some k->w'.heap[k]? =w.heap[k]?):w'.ownsRow base e size v n xs:=by
 rcases h.2 with ⟨rfl,h0⟩ | ⟨g,cap,cur,rfl,h1,hg,h2⟩
 ·exact ⟨h.1,Or.inl ⟨rfl,h0⟩⟩
 ·exact ⟨h.1,Or.inr ⟨g,cap,cur,rfl,h1,(hb g rfl).trans hg,h2⟩⟩
theorem Yf (w:World) (g:Nat) (cs:Array Value):(w.setRow g cs).heap.size=w.heap.size:=by simp [World.setRow]
theorem YX {w:World} {g:Nat} {cs ds:Array Value} {e:TypeId} {fr:Nat×Nat} (h:w.heap[g]? =some (.cells cs e fr)):(w.setRow g ds).heap[g]? =some (.cells ds e fr):=by
 simp only [World.setRow];rw [Array.getElem?_modify,if_pos rfl,h];rfl
theorem qK {w:World} {g k:Nat} {ds:Array Value} (h:k≠g):(w.setRow g ds).heap[k]? =w.heap[k]? :=by
 simp only [World.setRow];rw [Array.getElem?_modify,if_neg (Ne.symm h)]
theorem jfm {S:Nat->Prop} (w:World) {g:Nat} (ds:Array Value) (hg:S g):Fr S w (w.setRow g ds):=
 ⟨rfl,rfl,rfl,by rw [Yf];exact Nat.le_refl _,fun k _ hn=>qK (fun e=>hn (e ▸ hg))⟩
theorem PMs.back {w:World} {b g c gk ck pb:Nat} {S:Nat->Prop} {s:NM} (h:PMs w b S s (.slice (some ⟨g,0,none⟩) s.W.length c) (.slice (some ⟨gk,0,none⟩) s.K.length ck) pb) :
 ∃r w1,(∀ty,(Builtin.copy_ #[24,24] ty #[.slice (some ⟨g,0,none⟩) s.W.length c,.slice (some ⟨gk,0,none⟩) s.K.length ck]).run prog w= .ok r w1)/\
  PMs w1 b S { s with W:=s.K } (.slice (some ⟨g,0,none⟩) s.W.length c) (.slice (some ⟨gk,0,none⟩) s.K.length ck) pb/\Fr S w w1:=by
 have hi:=h.inv;have hkl:=hi.kl;rcases h.wr.2 with ⟨h0,-⟩ | ⟨g',cap,cur,h0,-,hg,hnc,hcm,hcs,htake⟩
 ·cases h0
 simp only [Value.slice.injEq,Option.some.injEq,Addr.mk.injEq,and_true,true_and] at h0;obtain ⟨rfl,rfl⟩:=h0;have hw:=h.wb_ne;have hp:=h.wp_ne;have e1:=h.ne g rfl;simp [Value.ownBlock] at hw hp e1;have q2:=h.kr.cells (g:=gk) rfl;have hlen:(yG s.K).length=Nat.min s.K.length s.W.length:=by rw [KG,hkl];simp
 have hsz:cur.size=c:=by simpa using hcs
 have hcopy:=fun ty=>run_copy_row (P:=prog) w 24 24 ty 38 g 0 s.W.length c ⟨gk,0,none⟩ s.K.length ck cur 38 (yG s.K) underlying24 zk hg hlen q2 (by rw [KG,hkl,hsz];omega) (by intro v hv;obtain ⟨z,-,rfl⟩:=List.mem_map.1 hv;rfl);refine ⟨_,_,hcopy,?_,jfm w _ (h.inw g rfl)⟩;generalize hds:(cur.toList.take 0++yG s.K++cur.toList.drop (0+(yG s.K).length)).toArray=ds;have hdl:ds.size=c:=by
  rw [<-hds];simp [KG];omega
 have hdt:ds.toList.take s.K.length=yG s.K:=by
  rw [<-hds];simp [List.take_append,KG,List.take_of_length_le]
 refine ⟨(qK (fun e=>hw e.symm)).trans h.cells,⟨by simp [KG],.inr ⟨g,c,ds,by rw [hkl],Nat.zero_le _,YX hg,by show s.K.length<=c;omega,hcm,by simpa using hdl,by rw [Nat.mul_one];exact hdt⟩⟩,jh h.kr fun j x=>qK (fun e=>e1 (by simp [Value.ownBlock] at x;omega)),h.mp.block (qK (fun e=>hp e.symm)),h.ne,h.inb,h.inp,h.inw,h.ink,fun j x=>by rw [Yf];exact h.lt j x,?_⟩;exact ⟨rfl,by show 0 < s.K.length;rw [hkl];exact hi.pos,by show s.K.length<=_;rw [hkl];exact hi.small,by show s.K.length % 8=0;rw [hkl];exact hi.oct,hi.ku,hi.ku,hi.nd,by show∀p∈s.P,_;rw [show (({ s with W:=s.K }:NM).W.length)=s.W.length from hkl];exact hi.pb⟩
def RowW (w:World) (n:Nat) (xs:List Int) (e:Ending) (w':World):Prop:=∃v',e= .returned v'/\w'.ownsRow w.heap.size 38 1 v' n (yG xs)/\v'≠ .slice none 0 0/\Below w.heap.size w w'
theorem jc0 (b:Nat) (w:World) (S:Nat->Prop) (s:NM) (h:PM w b S s) :
 Calls prog 20 #[.pointer (some ⟨b,0,none⟩)] w (RowW w s.W.length s.W):=by
 obtain ⟨wv,kv,pb,hv⟩:=h;obtain ⟨g,c,rfl⟩:=hv.wform;have h0:=hv.cell 0;simp at h0;have hs:=hv.inv.small;have HC:=zh (jbv ⟨g,0,none⟩ s.W.length c s.W w rfl zo (fun j hj=>(hv.wr.cells (g:=g) rfl j _ (yW hj))));clear hv;go_enter func20,ntmps20;go_wp2_with fail;refine HC.out.mono ?_;rintro e w1 ⟨v,rfl,ho⟩;have HO:=zh ho;clear ho;go_wp2;go_ret;exact ⟨v,rfl,HO.out⟩
theorem jeU (b:Nat) (w:World) (S:Nat->Prop) (s:NM) (h:PM w b S s) :
 Calls prog 21 #[.pointer (some ⟨b,0,none⟩)] w (RowW w s.W.length s.K):=by
 obtain ⟨wv,kv,pb,hv⟩:=h;obtain ⟨g,c,rfl⟩:=hv.kform;have h0:=hv.cell 1;simp at h0;have hs:=hv.inv.small;have hkl:=hv.inv.kl;have HC:=zh (jbv ⟨g,0,none⟩ s.W.length c s.K w hkl zo (fun j hj=>(hv.kr.cells (g:=g) rfl j _ (yW zo))));rw [hkl] at h0;clear hv hkl;go_enter func21,ntmps21;go_wp2_with fail;refine HC.out.mono ?_;rintro e w1 ⟨v,rfl,ho⟩;have HO:=zh ho;clear ho;go_wp2;go_ret;exact ⟨v,rfl,HO.out⟩
theorem pm_made {w0 w:World} {v1 v2:Value} {pb:Nat} {s:NM} (hb:Below w0.heap.size w0 w) (r1:w.ownsRow w0.heap.size 38 1 v1 s.W.length (yG s.W)) (r2:w.ownsRow w0.heap.size 38 1 v2 s.K.length (yG s.K))
 (hne:∀k,v1.ownBlock=some k->v2.ownBlock≠some k) (hp:YN w pb s.P) (hpb:w0.heap.size<=pb) (hi:s.Inv) :
 ∃S,PM (w.alloc (.cells #[v1,v2,.map (some pb)] 91)) w.heap.size S s/\(∀k,S k->w0.heap.size<=k)/\Below w0.heap.size w0 (w.alloc (.cells #[v1,v2,.map (some pb)] 91)):=by
 have hz:=hb.size;have hpl:=hp.lt;refine ⟨fun k=>w0.heap.size<=k/\k < w.heap.size+1,⟨v1,v2,pb,⟨heap_alloc_new w _,Joins.ownsRow_le (r1.alloc _) (Nat.zero_le _),Joins.ownsRow_le (r2.alloc _) (Nat.zero_le _),hp.block (Below.heap_alloc _ _ _ hpl),hne,⟨hz,zo⟩,⟨hpb,zo⟩,?_,?_,?_,hi⟩⟩,fun k h=>h.1,hb.alloc hz _⟩
 ·intro k hk;have:=r1.lt k hk;exact ⟨this.1,zo⟩
 ·intro k hk;have:=r2.lt k hk;exact ⟨this.1,zo⟩
 ·intro k hk;simp;omega
def NewP (w:World) (s:NM) (e:Ending) (w':World):Prop:=∃b,e= .returned (.pointer (some ⟨b,0,none⟩))/\w.heap.size<=b/\(∃S,PM w' b S s/\∀k,S k->w.heap.size<=k)/\Below w.heap.size w w'
theorem NM.new_inv {xs:List Int} (h1:xs.length≠0) (h2:xs.length % 8=0) (h3:xs.length<=65536) (hu:∀v∈xs,NM.U64 v):(⟨xs,xs,[]⟩:NM).Inv:=⟨rfl,by show 0 < xs.length;omega,h3,h2,hu,hu,zT,zT⟩
theorem jb1 (ad:Addr) (n c:Nat) (xs:List Int) (w:World) (hl:xs.length=n) (h1:n≠0) (h2:n % 8=0) (h3:n<=65536) (hu:∀v∈xs,NM.U64 v) (hc:∀j,j < n->w.cell? (ad.add j)=some (.int .u64 (xs.getD j 0))) :
 Calls prog 9 #[.slice (some ad) n c] w (NewP w ⟨xs,xs,[]⟩):=by
 have HC:=zh (fun W (hb:Below w.heap.size w W)=>jbv ad n c xs W hl zo (fun j hj=>(hb.cell (World.block_lt_of_cell? w _ (hc j hj))).trans (hc j hj)));have h1b:((n:Int) == 0)=false:=by simp;omega
 have h2b:((n:Int) % 8 != 0)=false:=by simp;omega
 have h3b:¬(65536:Int) < n:=zo;have HI:=zh (NM.new_inv (xs:=xs) zo zo zo hu);have HL:=zh hl;have HN0:=zh (show 0 < n by omega);have hmk:∀W:World,(Instr.makeMap 89 none).run prog W= .ok (.map (some W.heap.size)) (W.alloc (.map #[] 0)):=fun W=>run_makeMap _ W;clear hc hu h1 h2 h3 hl;go_enter func9,ntmps9;go_wp2_with fail;refine (HC.out _ (Below.refl _ _)).mono ?_;rintro e w1 ⟨v1,rfl,o1,-,b1⟩;obtain ⟨g1,c1,rfl⟩:=Joins.ownsRow_form o1 HN0.out;have O1:=zh o1;have B1:=zh b1;clear o1 b1;go_wp2_with fail;refine (HC.out _ B1.out).mono ?_;rintro e w2 ⟨v2,rfl,o2,-,b2⟩;obtain ⟨g2,c2,rfl⟩:=Joins.ownsRow_form o2 HN0.out;have hz1:=B1.out.size;have B2:=zh (B1.out.trans (b2.mono hz1));have O1b:=zh (show w2.ownsRow w.heap.size 38 1 (.slice (some ⟨g1,0,none⟩) n c1) n (yG xs) from JU O1.out fun k hk=>b2.block k (O1.out.lt k hk).2);have O2:=zh (Joins.ownsRow_le o2 hz1);have hne:=zh (show∀k,(Value.slice (some ⟨g1,0,none⟩) n c1).ownBlock=some k->(Value.slice (some ⟨g2,0,none⟩) n c2).ownBlock≠some k from fun k hk hk2=>by have:=(O1.out.lt k hk).2;have:=(o2.lt k hk2).1;omega);clear o2 b2;go_wp2;go_ret;have hz2:=B2.out.size;obtain ⟨S,p1,p2,p3⟩:=pm_made (w0:=w) (w:=w2.alloc (.map #[] 0)) (pb:=w2.heap.size) (s:=⟨xs,xs,[]⟩) (B2.out.alloc hz2 _) (by show (w2.alloc _).ownsRow _ _ _ _ xs.length _;rw [HL.out];exact O1b.out.alloc _) (by show (w2.alloc _).ownsRow _ _ _ _ xs.length _;rw [HL.out];exact O2.out.alloc _) hne.out (YN.made w2) hz2 HI.out;rw [World.size_alloc] at p1;exact ⟨_,rfl,zo,⟨S,p1,p2⟩,p3⟩

structure WX (w:World) (t p s:Int) (ad:Addr) (n:Nat) (ws:List Int):Prop where
 right:jq t p s=true
 len:ws.length=n
 num:(n:Int)=qa t p
 u64:∀v∈ws,U64 v
 cells:∀k,k < n->w.cell? (ad.add k)=some (.int .u64 (ws.getD k 0))
theorem yE {ws:List Int} (h:∀v∈ws,U64 v) (k:Nat):U64 (ws.getD k 0):=by
 by_cases hk:k < ws.length
 ·have e:ws.getD k 0=ws[k]:=by simp [hk]
  rw [e];exact h _ (List.getElem_mem hk)
 ·have e:ws.getD k 0=0:=by simp [show¬k < ws.length from hk]
  rw [e];exact ⟨zo,zo⟩
theorem WX.keep {w w':World} {t p s:Int} {ad:Addr} {n:Nat} {ws:List Int} (h:WX w t p s ad n ws) (hb:Below w.heap.size w w'):WX w' t p s ad n ws:=
 ⟨h.right,h.len,h.num,h.u64,fun k hk=>(hb.cell (World.block_lt_of_cell? w _ (h.cells k hk))).trans (h.cells k hk)⟩
theorem WX.at {w w':World} {t p s:Int} {ad:Addr} {n:Nat} {ws:List Int} (h:WX w t p s ad n ws) (hb:Below w.heap.size w w') {k:Nat} (hk:k < n):w'.cell? (ad.add k)=some (.int .u64 (ws.getD k 0)):=(h.keep hb).cells k hk
theorem WX.bd {w:World} {t p s:Int} {ad:Addr} {n:Nat} {ws:List Int} (h:WX w t p s ad n ws):1<=t/\t<=16/\0<=jk t p/\jk t p<=10000/\16+jk t p<=jG t p/\jG t p<=10000/\(n:Int)=jG t p+120*(t+1):=by
 have h1:=jn h.right;have h2:=jI h.right;have:=h.num;omega
def yP (l:List (Int×Int)):List Value:=l.flatMap fun x=>[.int .i64 x.1,.int .u32 x.2]
theorem X8 (l:List (Int×Int)) (x:Int×Int):yP (l++[x])=yP l++[.int .i64 x.1,.int .u32 x.2]:=by simp [yP]
theorem infoPr:(prog.info? 106).map (fun i=>(i.zero,i.size,i.bytes))=some (some (.agg #[.int .i64 0,.int .u32 0]),2,16):=by kernel_rfl
theorem drop_at {l:List Int} {k:Nat} (h:k < l.length):l.drop k=l.getD k 0 :: l.drop (k+1):=by
 rw [List.drop_eq_getElem_cons h];simp [h]
theorem Ji {w:World} {B e sz n:Nat} {v:Value} {xs:List Value} (h:w.ownsRow B e sz v n xs):∃a c,v= .slice a n c:=by
 rcases h.2 with ⟨h5,h6⟩ | ⟨g',cap',cur,h5,-⟩
 ·exact ⟨_,_,by rw [h5,h6]⟩
 ·exact ⟨_,_,h5⟩
end Go.Proofs.YtcnininelndjoaaGreat
namespace Go.Proofs.YtcnininelndjoaaGreat
open Go.Proofs.Tryz
open Go.ChangeShapes Go.RowKit

theorem flat_len {α:Type} (f:α->List Value) (sz:Nat) (hf:∀a,(f a).length=sz) (l:List α):(l.flatMap f).length=l.length*sz:=by
 induction l with
 | nil=>simp
 | cons y ys ih=>simp [ih,hf,Nat.succ_mul];omega
theorem jap {α:Type} (f:α->List Value) (sz:Nat) (hf:∀a,(f a).length=sz) {l:List α} {k:Nat} {a:α} (h:l[k]? =some a) {j:Nat} {u:Value} (hj:(f a)[j]? =some u):(l.flatMap f)[k*sz+j]? =some u:=by
 induction l generalizing k with
 | nil=>simp at h
 | cons p r ih=>
  have hjl:j < sz:=by have:=(List.getElem?_eq_some_iff.1 hj).1;rw [hf] at this;exact this
  cases k with
  | zero=>
   simp at h;subst h;rw [List.flatMap_cons,List.getElem?_append_left (by rw [hf];omega),Nat.zero_mul,Nat.zero_add];exact hj
  | succ k=>
   rw [List.flatMap_cons,List.getElem?_append_right (by rw [hf,Nat.succ_mul];omega),hf];rw [show (k+1)*sz+j - sz=k*sz+j by rw [Nat.succ_mul];omega];exact ih (by simpa using h)
section
variable {H:Type} {enc:TypeId×Value->H} {w:World} {base:Nat} {spare:Nat->Bool} {held:Bool}
end

theorem Rd.keepBy {w w':World} {v:Value} {sz n:Nat} {xs:List Value} {B:Nat} (hh:Rd w v sz n xs) (hb:Below B w w') (hB:w.heap.size<=B):Rd w' v sz n xs:=by
 obtain ⟨hl,hh⟩:=hh;refine ⟨hl,hh.imp_right ?_⟩;rintro ⟨ad,c,rfl,hcc⟩;exact ⟨ad,c,rfl,fun j u hj=>(hb.cell (Nat.lt_of_lt_of_le (World.block_lt_of_cell? w _ (hcc j u hj)) hB)).trans (hcc j u hj)⟩
theorem Rd.len {w:World} {v:Value} {sz n:Nat} {xs:List Value} (h:Rd w v sz n xs):∃a c,v= .slice a n c:=by
 obtain ⟨hl,⟨rfl,h0⟩ | ⟨ad,c,rfl,hcc⟩⟩:=h
 ·exact ⟨_,_,by rw [h0]⟩
 ·exact ⟨_,_,rfl⟩
end Go.Proofs.YtcnininelndjoaaGreat
namespace Go.Proofs.YtcnininelndjoaaGreat
open Go.Proofs.Tryz
open Go.RowKit

theorem VK {w:World} {B e sz n L o:Nat} {v u:Value} {xs:List Value} (h:w.ownsRow B e sz v n xs) (hk:v.ownBlock≠some L):(w.setCell ⟨L,o,none⟩ u).ownsRow B e sz v n xs:=
 JU h fun k x=>jg fun e=>hk (e ▸ x)
section
variable {w:World} {t p s:Int} {ad:Addr} {n:Nat} {ws:List Int}
def LogQ (w:World) (st n:Int) (op:Bool) (r:Option (List (Int×Int))) (e:Ending) (w':World):Prop:=match r with
 | some l=>∃v,e= .returned (.tuple #[.agg #[.int .u32 st,.bool op,.int .i64 n],v,.bool true])/\w'.ownsRow 0 106 2 v l.length (yP l)/\(∀k,v.ownBlock=some k->w.heap.size<=k)/\Below w.heap.size w w'
 | none=>e= .returned (.tuple #[.agg #[.int .u32 0,.bool false,.int .i64 0],.slice none 0 0,.bool false])/\Below w.heap.size w w'
end

theorem QA (s:Int):∀(l1 l2:List (Int×Int)) (ws:List Int),jV s (l1++l2) ws=jV s l2 (jV s l1 ws)
 | [],_,_=>rfl
 | x :: l1,l2,ws=>by
  show jV s (l1++l2) _=jV s l2 (jV s l1 _);rw [QA]
theorem jcp (s:Int) (l:List (Int×Int)) (x:Int×Int) (ws:List Int):jV s (l++[x]) ws=if hiW ((jV s l ws).getD (16+x.1).toNat 0) < s then (jV s l ws).set (16+x.1).toNat (jH s x.2) else jV s l ws:=by
 rw [QA];rfl
theorem Vd {ws:List Int} {s:Int} {n:Nat}:kW ws s n=true↔∀i,i < n->hiW (ws.getD (16+i) 0)<=s:=by
 simp [kW]
def SlwRel (w:World) (t p s:Int) (ws:List Int) (st:Int) (N:Nat) (v:Value) (wr:World):Prop:=
 ∃k:Nat,k<=N/\v= .int .i64 k/\(∀j,j < k->hiW (ws.getD (16+j) 0)<=st)/\(∀o:Nat,wr.cell? ⟨w.heap.size,o,none⟩=(#[.int .i64 t,.int .i64 p,.int .i64 s]:Array Value)[o]?)/\BS w [w.heap.size] wr
theorem Vb (l:List Int) (i:Nat) (v:Int):(jW l).set i (.int .u64 v)=jW (l.set i v):=by simp [jW,List.map_set]
theorem Xg {w:World} {B g c n:Nat} {l:List Int} (h:w.ownsRow B 38 1 (.slice (some ⟨g,0,none⟩) n c) n (jW l)) {i:Nat} (hi:i < n):∃z,w.cell? ⟨g,i,none⟩=some z:=by
 refine ⟨_,(h.cellAt i zo).trans (List.getElem?_eq_getElem ?_)⟩;have:=h.1;omega
theorem jcW {v s m:Int} (h:qg v s=some m):qo v=some (s,true,m):=by
 unfold qg at h;split at h
 ·rename_i st k hn;split at h
  ·rename_i hs;subst hs;cases h;exact hn
  ·cases h
 ·cases h
theorem jes {w:World} {a:Option Addr} {m c:Nat} {l:List (Int×Int)} (h:w.ownsRow 0 106 2 (.slice a m c) l.length (yP l)) {k:Nat} (hk:k < l.length) :
 ∃g,a=some ⟨g,0,none⟩/\w.cell? ⟨g,k*2,none⟩=some (.int .i64 (l.getD k (0,0)).1)/\w.cell? ⟨g,k*2+1,none⟩=some (.int .u32 (l.getD k (0,0)).2):=by
 obtain ⟨g,cap,e⟩:=Joins.ownsRow_form h zo;simp only [Value.slice.injEq] at e;obtain ⟨rfl,rfl,rfl⟩:=e;have hx:l[k]? =some (l.getD k (0,0)):=by simp [hk]
 have hlen:∀x:Int×Int,([.int .i64 x.1,.int .u32 x.2]:List Value).length=2:=fun _=>rfl;have hfl:(yP l).length=l.length*2:=flat_len _ 2 hlen l;refine ⟨g,rfl,?_,?_⟩
 ·rw [h.cellAt (k*2) zo];exact jap _ 2 hlen hx (j:=0) rfl
 ·rw [h.cellAt (k*2+1) zo];exact jap _ 2 hlen hx (j:=1) rfl
section
variable {w:World} {t p s:Int} {ad:Addr} {n:Nat} {ws:List Int}
end

theorem made_rep (N:Nat):madeCells #[.int .u32 0] N=(yL (List.replicate N 0)).toArray:=by
 apply Array.ext';simp [madeCells,yL,Nat.mod_one];exact List.eq_replicate_iff.2 ⟨zT,zT⟩

theorem XJ (n:Nat) (w:World) (h1:1<=n) (h2:n<=1024) :
 Calls prog 169 #[.agg #[.int .i64 1,.int .i64 n,.int .i64 0]] w (zW (.bool true) w):=by
 have:=Yi 1 n 0 w;rwa [show yr 1 n 0=true by simp [yr];omega] at this
theorem jcB (n:Nat) (w:World) (h1:1<=n) (h2:n<=1024) :
 Calls prog 183 #[.agg #[.int .i64 1,.int .i64 n,.int .i64 0]] w (zW (.tuple #[.int .u32 (1+16*n),.bool true]) w):=by
 have H:=zh (fun w=>XJ n w h1 h2);have hw:IntKind.u32.wrap (1+16*(n:Int))=1+16*n:=IntWalk.u32_in _ zo;go_enter func183,ntmps183;go_wp2_with fail;refine zM (H.out _) fun w1 ha=> ?_;obtain ⟨hac,haf⟩:=jB ha;have haz0:w.heap.size < w1.heap.size:=zL ha;go_wp2;refine bodyPost_ret (v:= .tuple #[.int .u32 (1+16*n),.bool true]) (by simp [results,results183,go_sem]) rfl ⟨rfl,?_⟩;exact zR
theorem jaY (n:Nat) (w:World) (h1:1<=n) (h2:n<=1024) :
 Calls prog 133 #[.int .i64 1,.int .i64 n,.int .i64 0] w (zW (.int .u32 (1+16*n)) w):=by
 have H:=zh (fun w=>jcB n w h1 h2);generalize (1+16*(n:Int))=v at*
 go_enter func133,ntmps133;go_wp2_with fail;refine zM (H.out _) fun w1 b1=> ?_;go_wp2;go_ret;exact ⟨rfl,b1⟩
theorem rbof_any (n:Nat) (w:World) (h1:1<=n) (h2:n<=1024) :
 Calls prog 132 #[.int .i64 n] w (zW (.int .i64 (qr n)) w):=by
 have H:=zh (fun w=>jbO n w zo zo);generalize qr n=v at*
 go_enter func132,ntmps132;go_wp2_with fail;refine zM (H.out _) fun w1 b1=> ?_;go_wp2;go_ret;exact ⟨rfl,b1⟩
theorem row_made (w:World) (N:Nat) (hN:N<=1000000):(w.alloc (.cells (madeCells #[.int .u32 0] N) 44)).ownsRow 0 44 1 (.slice (some ⟨w.heap.size,0,none⟩) N N) N (yL (List.replicate N 0)):=by
 refine ⟨by simp [yL],Or.inr ⟨w.heap.size,N,madeCells #[.int .u32 0] N,rfl,Nat.zero_le _,heap_alloc_new w _,Nat.le_refl _,by unfold maxLen;omega,?_,?_⟩⟩
 ·simp [size_madeCells]
 ·rw [made_rep];simp [yL]
end Go.Proofs.YtcnininelndjoaaGreat

