/- parts of the proof, merged by a program. -/
import Derived.Test.YtcnininelndjoaaGreatMma2
import Derived.Test.YtcnininelndjoaaGreatMma3
import Derived.Test.YtcnininelndjoaaGreatMma4
import Derived.Test.YtcnininelndjoaaGreatMma7
import Derived.Test.YtcnininelndjoaaGreatMma8
import Derived.Test.YtcnininelndjoaaGreatMma9
import Derived.Test.YtcnininelndjoaaGreatMma12
import Derived.Deep.Cut
import Derived.Laws.CopyOwn
set_option linter.unusedSimpArgs false
set_option linter.unusedVariables false
set_option maxRecDepth 100000
set_option maxHeartbeats 4000000
namespace Go.Proofs.YtcnininelndjoaaGreat
open Go.Proofs.Tryz
open Go.RowKit

structure VOK (t p:Int) (x:TS) (v:Int):Prop where
 u:U64 v
 tip:x.ph=0->∃s u,QF v=some (s,u)/\0<=u/\u<=t/\0<=s/\s < 2180000000
 ent:x.ph=2->∃e,qN v=some e/\0<=e.1/\e.1 < jo t p
def K6 (x:TS):TS:=if x.i+1=x.l.length then x.to 5 else { x with ph:=3,i:=x.i+1 }
theorem jac {x:TS} (h:x.i < x.l.length):ju { x with ph:=3,i:=x.i+1 }=K6 x:=by
 unfold K6;by_cases he:x.i+1=x.l.length
 ·rw [if_pos he];have:x.l≠[]:=fun e=>by rw [e] at h;simp at h
  have h0:0≠x.l.length:=zo;simp [ju,qb,qB,qA,qy,qx,TS.to,he,this,h0]
 ·rw [if_neg he];simp [ju,qb,qB,qA,qy,qx,TS.to,he]
theorem toldT3 {t p z v:Int} {x:TS} (h:x.ph=3) (hi:x.i < x.l.length):jv t p z v x=if hiW v < hiW x.note then { x with ph:=4 } else K6 x:=by
 unfold jv km;rw [h];show ju (if hiW v < hiW x.note then { x with ph:=4 } else { x with ph:=3,i:=x.i+1 })=_;split
 ·simp [ju,qb,qB,qA,qy,qx]
 ·rw [<-jac hi]
theorem toldT4 {t p z v:Int} {x:TS} (h:x.ph=4) (hi:x.i < x.l.length):jv t p z v x=K6 x:=by
 unfold jv km;rw [h];exact jac hi
section
variable {w0 w:World} {S:Nat->Prop} {b:Nat} {t p s:Int} {Ls:List (Nat×Obj)}
theorem jeU {x:TS} (h:QW w0 S b t p s Ls .nilFunc x.s x.made x.page [] w) (hr:jq t p s=true) (hd:TuD t p x) {k0 kl kx ku kn kb:Nat} {y:Int×Int} {r:List (Int×Int)} {js jx ja jl jb:Nat} (hy:x.l.drop x.i=y :: r) (ht:TuB Ls b x k0 kl kx ku kn kb) (hc:CeB Ls b x y r js jx ja jl jb kl kx ku kn kb) (hi:JG t p (K6 x)) (hs:StB t p (K6 x)) :
 Calls prog 232 #[pB jx,pB js,pB jl,pB jb] w fun e w'=>e= .returned (.tuple #[])/\jah w0 S b t p s (MS w0 S b t p s (K6 x)) w':=by
 obtain ⟨o,n,hw⟩:=hd.nw;obtain ⟨m0,lv,hl,tc⟩:=ht;obtain ⟨ms,mx,ma,mb,ad,c,ml,hlr⟩:=hc;have hcap:r.length+1<=c:=by
  obtain ⟨a',c',e1,h2,-⟩:=hlr;simp only [List.length_cons,Value.slice.injEq,true_and] at e1 h2;obtain ⟨-,rfl⟩:=e1;exact h2
 have hdr:x.l.drop (x.i+1)=r:=by rw [<-List.tail_drop,hy];rfl
 have hln:x.l.length=x.i+1+r.length:=by
  have e1:=congrArg List.length hy;simp at e1;omega
 have hF:=Xu (Φ:=fun w'=>jah w0 S b t p s (MS w0 S b t p s (K6 x)) w'/\∃Ls' rest' q',(∀l∈Ls,l∈Ls')/\QW w0 S b t p s Ls' rest' x.s x.made x.page q' w') h ms mx ml mb hcap (fun W g=> ?_) (fun W h=>h.2)
 ·exact hF.mono (fun e w' h=>⟨h.1,h.2.1⟩)
 ·have hlt:=hlr.tail;unfold K6 at hi hs ⊢;cases r with
  | nil=>
   have he:x.i+1=x.l.length:=by simp at hln;omega
   rw [if_pos he] at hi hs ⊢;have hc:=YW (sv:=hiW x.note) (a:=if c=1 then some ad else some ⟨ad.block,ad.off+2,none⟩) (c:=c - 1) g zT hr tc hl hd.l.1 (fun z hz=>(hd.l.2 z hz).1) hd.u0 hd.u1 hd.nv hw;refine zM hc fun w' h1=> ?_;refine ⟨rfl,⟨⟨hi,hs,?_⟩,_,_,_,_,_,_,h1,.inl (by simp [clF])⟩,_,_,_,fun l hl=>hl,h1⟩;unfold MR;show _/\_;refine ⟨⟨hd.u0,hd.u1,hd.nv,⟨o,n,hw⟩,hd.l⟩,Ls,k0,m0,?_⟩;show QW _ _ _ _ _ _ _ _ _ _ _ (List.drop 0 _) _;rw [List.drop_zero];unfold flC;show QW _ _ _ _ _ _ _ _ _ _ _ (flF x.l++_++clF (jz t p x.u) (YC x.note)) _;rw [jaA hw];exact h1
  | cons y2 r2=>
   have he:¬x.i+1=x.l.length:=by simp at hln;omega
   rw [if_neg he] at hi hs ⊢;have hmem:y2∈x.l:=by
    have:y2∈x.l.drop (x.i+1):=by rw [hdr];simp
    exact List.mem_of_mem_drop this
   have hne1:¬c=1:=by simp at hcap;omega
   rw [if_neg hne1] at hlt ⊢;have hcc:=Yg (kl:=kl) (kx:=kx) (ku:=ku) (kn:=kn) (kb:=kb) (sv:=hiW x.note) g zT hr (show KG Ls (.slice (some ⟨ad.block,ad.off+2,none⟩) (r2.length+1) (c - 1)) (y2 :: r2) from hlt) (by have:=hd.l.1;simp at hln;omega) (hd.l.2 y2 hmem).1;refine zM hcc ?_;rintro w' ⟨jx',js',ja',jl',jb',h1⟩;refine ⟨rfl,⟨⟨hi,hs,?_⟩,_,_,_,_,_,_,h1,.inl zT⟩,_,_,_,fun l hl=>by simp [hl],h1⟩;unfold MR;show _/\_;refine ⟨⟨hd.u0,hd.u1,hd.nv,⟨o,n,hw⟩,hd.l⟩,_,k0,kl,kx,ku,kn,kb,y2,r2,js',jx',ja',jl',jb',hdr,⟨by simp [m0],lv,hl.sub (fun z hz=>by simp [hz]),tc.sub (fun z hz=>by simp [hz])⟩,⟨zT,zT,zT,zT,⟨ad.block,ad.off+2,none⟩,c - 1,zT,?_⟩,h1⟩;exact KG.sub (Ls':=(ja',oN (16+y2.1)) :: (jb',oF (t1V kl kx ku kn kb)) :: (jl',oL (.slice (some ⟨ad.block,ad.off+2,none⟩) (r2.length+1) (c - 1))) :: (js',oH (hiW x.note)) :: (jx',oX b) :: Ls) hlt (fun z hz=>by simp [hz])
theorem ent_c1:∀args w,(callFunc 229 args).run prog w= .ok (.enter 229 args) w:=enters_of func229 zk rfl
theorem jfu:∀args w,(callFunc 232 args).run prog w= .ok (.enter 232 args) w:=enters_of func232 zk rfl
theorem ent_s1:∀args w,(callFunc 144 args).run prog w= .ok (.enter 144 args) w:=enters_of func144 zk rfl
theorem told_4 {x:TS} {v:Int} {ok:Bool} (h:MS w0 S b t p s x w) (hr:jq t p s=true) (hp:x.ph=4) (hi:JG t p (jv t p s v x)) (hs:StB t p (jv t p s v x)) :
 Calls prog 54 #[.pointer (some ⟨b,0,none⟩),.int .u64 v,.bool ok] w fun e w'=>e= .returned (.tuple #[])/\MS w0 S b t p s (jv t p s v x) w':=by
 have hlt:=h.inv.h3 zo;rw [toldT4 hp hlt] at hi hs ⊢;have hm:=h.mr;unfold MR at hm;rw [hp] at hm;obtain ⟨hd,Ls,k0,kl,kx,ku,kn,kb,y,r,js,jx,ja,jl,jb,hy,ht,hc,hq⟩:=hm;exact qm hq rfl fun W g=> .inr ⟨_,_,_,_,_,_,g,jfu,fun W2 g2=>jeU g2 hr hd hy ht hc hi hs⟩
theorem told_3 {x:TS} {v:Int} {ok:Bool} (h:MS w0 S b t p s x w) (hr:jq t p s=true) (hp:x.ph=3) (hv:U64 v) (hi:JG t p (jv t p s v x)) (hs:StB t p (jv t p s v x)) :
 Calls prog 54 #[.pointer (some ⟨b,0,none⟩),.int .u64 v,.bool ok] w fun e w'=>e= .returned (.tuple #[])/\MS w0 S b t p s (jv t p s v x) w':=by
 have hlt:=h.inv.h3 zo;rw [toldT3 hp hlt] at hi hs ⊢;have hm:=h.mr;unfold MR at hm;rw [hp] at hm;obtain ⟨hd,Ls,k0,kl,kx,ku,kn,kb,y,r,js,jx,ja,jl,jb,hy,ht,hc,hq⟩:=hm;obtain ⟨ms,mx,ma,mb,ad,c,ml,hlr⟩:=id hc;have hmem:y∈x.l:=List.mem_of_mem_drop (by rw [hy];exact List.mem_cons_self:y∈x.l.drop x.i);refine Jj hq rfl ent_c1 fun W g=> ?_;refine zM (jaU g zT ms mx ma ml mb hlr hv (K1 hd.nv) (hd.l.2 y hmem).2) fun w' h1=> ?_;refine ⟨rfl,?_⟩;by_cases hlo:hiW v < hiW x.note
 ·rw [if_pos hlo] at hi hs h1 ⊢;refine .inl ⟨⟨hi,hs,?_⟩,_,_,_,_,_,_,h1,.inl zT⟩;unfold MR;show _/\_;exact ⟨⟨hd.u0,hd.u1,hd.nv,hd.nw,hd.l⟩,Ls,k0,kl,kx,ku,kn,kb,y,r,js,jx,ja,jl,jb,hy,ht,hc,h1⟩
 ·rw [if_neg hlo] at hi hs h1 ⊢;exact .inr ⟨_,_,_,_,_,_,h1,jfu,fun W2 g2=>jeU g2 hr hd hy ht hc hi hs⟩
end

theorem Vb {t p z:Int} {x:TS} (h0:x.page<=p.toNat) (h1:KnI (jo t p).toNat x.known) (h2:0<=x.n) (h3:x.n<=96) (h4:x.l.length<=96) (h5:x.wr.length<=96):JG t p (jB t p z x):=(YM t p z (p.toNat - x.page) x zo h1 h2 h3 h4 h5).1
theorem jbb (t p:Int) (x:TS):(flC t p x).length=x.l.length+4:=by simp [flC,flF,clF]
theorem Yp (t p:Int) (x:TS):∀y∈flC t p x,y.told= .nilFunc:=by
 intro y hy;simp [flC,flF,clF] at hy;rcases hy with ⟨a,b,-,rfl⟩ | rfl | rfl | rfl | rfl <;> rfl
theorem K5 {l:List Stp} (h:∀y∈l,y.told= .nilFunc) {k:Nat} (hk:k < l.length):∃y,l.drop k=y :: l.drop (k+1)/\y.told= .nilFunc:=
 ⟨l[k],List.drop_eq_getElem_cons hk,h _ (List.getElem_mem hk)⟩
theorem qe (t p st:Int) (wr:List (Int×Int)) (kx j:Nat):(lgC t p st wr kx).drop (wr.length+(wr.length+7) / 8+j)=(tlF t p (kG (st+1) wr.length true) (kg (st+1) t) (ch1V kx)).drop j:=by
 unfold lgC;rw [show wr.length+(wr.length+7) / 8=(lgF t p wr++fsF t p ((wr.length+7) / 8)).length by simp [lgF,fsF],List.drop_append];simp
theorem je8 (t p st:Int) (wr:List (Int×Int)) (kx:Nat) {k:Nat} (hk:k < wr.length+(wr.length+7) / 8):∃y,(lgC t p st wr kx).drop k=y :: (lgC t p st wr kx).drop (k+1)/\y.told= .nilFunc:=by
 have hl:(lgC t p st wr kx).length=wr.length+(wr.length+7) / 8+6:=by simp [lgC,lgF,fsF,tlF];omega
 refine ⟨_,List.drop_eq_getElem_cons zo,?_⟩;have:(lgC t p st wr kx)[k]'(by omega)=(lgF t p wr++fsF t p ((wr.length+7) / 8))[k]'(by simp [lgF,fsF];omega):=by
  unfold lgC;rw [List.getElem_append_left]
 rw [this];have hm:=List.getElem_mem (l:=lgF t p wr++fsF t p ((wr.length+7) / 8)) (n:=k) (by simp [lgF,fsF];omega);generalize (lgF t p wr++fsF t p ((wr.length+7) / 8))[k]'(by simp [lgF,fsF];omega)=y at hm;rcases List.mem_append.1 hm with hm | hm
 ·obtain ⟨z,-,rfl⟩:=List.mem_map.1 hm;rfl
 ·obtain ⟨z,-,rfl⟩:=List.mem_map.1 hm;rfl
theorem ent_beh (own:Bool):∀args w,(callFunc (jbO own) args).run prog w= .ok (.enter (jbO own) args) w:=by
 cases own
 ·exact enters_of func153 zk rfl
 ·exact enters_of func198 zk rfl
theorem ent_ch1:∀args w,(callFunc 196 args).run prog w= .ok (.enter 196 args) w:=enters_of func196 zk rfl
theorem ent_ch2:∀args w,(callFunc 197 args).run prog w= .ok (.enter 197 args) w:=enters_of func197 zk rfl
theorem toldT5 {t p z v:Int} {x:TS} (h:x.ph=5) (hi:x.i < x.l.length):jv t p z v x=if x.i+1=x.l.length then x.to 6 else { x with ph:=5,i:=x.i+1 }:=by
 unfold jv km;rw [h];show ju { x with ph:=5,i:=x.i+1 }=_;by_cases he:x.i+1=x.l.length
 ·rw [if_pos he];simp [ju,qb,qB,qA,qy,qx,TS.to,he]
 ·rw [if_neg he];simp [ju,qb,qB,qA,qy,qx,he]
theorem jau (x:TS) (k:Nat) (h:k≠2/\k≠3/\k≠5/\k≠11/\k≠12):ju (x.to k)=x.to k:=by
 obtain ⟨h1,h2,h3,h4,h5⟩:=h;simp [ju,qb,qB,qA,qy,qx,TS.to,h1,h2,h3,h4,h5]
theorem jdx {t p z v:Int} {x:TS} (h:x.ph=6\/x.ph=7\/x.ph=8\/x.ph=13\/x.ph=14\/x.ph=15\/x.ph=17):jv t p z v x=x.to (x.ph+1):=by
 unfold jv km;rcases h with h | h | h | h | h | h | h <;> rw [h] <;> exact jau x _ zd
theorem jdD {t p z v:Int} {x:TS} (h:x.ph=11) (hi:x.i < x.wr.length):jv t p z v x=if x.i+1=x.wr.length then x.to 12 else { x with ph:=11,i:=x.i+1 }:=by
 unfold jv km;rw [h];show ju { x with ph:=11,i:=x.i+1 }=_;by_cases he:x.i+1=x.wr.length
 ·rw [if_pos he];have h0:x.wr≠[]:=fun e=>by rw [e] at hi;simp at hi
  simp [ju,qb,qB,qA,qy,qx,TS.to,he,h0]
 ·rw [if_neg he];simp [ju,qb,qB,qA,qy,qx,he]
theorem jdC {t p z v:Int} {x:TS} (h:x.ph=12):jv t p z v x=if x.wr.length<=x.i+8 then x.to 13 else { x with ph:=12,i:=x.i+8 }:=by
 unfold jv km;rw [h];show ju { x with ph:=12,i:=x.i+8 }=_;by_cases he:x.wr.length<=x.i+8
 ·rw [if_pos he];simp [ju,qb,qB,qA,qy,qx,TS.to,he]
 ·rw [if_neg he];simp [ju,qb,qB,qA,qy,qx,he]
section
variable {w0 w:World} {S:Nat->Prop} {b:Nat} {t p s:Int} {Ls:List (Nat×Obj)}
theorem told_5 {x:TS} {v:Int} {ok:Bool} (h:MS w0 S b t p s x w) (hp:x.ph=5) (hi:JG t p (jv t p s v x)) (hs:StB t p (jv t p s v x)) :
 Calls prog 54 #[.pointer (some ⟨b,0,none⟩),.int .u64 v,.bool ok] w fun e w'=>e= .returned (.tuple #[])/\MS w0 S b t p s (jv t p s v x) w':=by
 have hlt:=h.inv.h3 zo;rw [toldT5 hp hlt] at hi hs ⊢;have hm:=h.mr;unfold MR at hm;rw [hp] at hm;obtain ⟨hd,Ls,k0,m0,hq⟩:=hm;have hlen:=jbb t p x;obtain ⟨y,e1,e2⟩:=K5 (Yp t p x) (k:=x.i) zo;rw [e1] at hq;refine qm hq e2 fun W g=> .inl ⟨⟨hi,hs,?_⟩,_,_,_,_,_,_,g,.inl (fun e=>by have:=congrArg List.length e;simp [hlen] at this;omega)⟩;split
 ·rename_i he;unfold MR;show _/\_;refine ⟨⟨hd.u0,hd.u1,hd.nv,hd.nw,hd.l⟩,Ls,k0,m0,?_⟩;show QW _ _ _ _ _ _ _ _ _ _ _ (List.drop x.l.length (flC t p x)) _;rw [<-he];exact g
 ·unfold MR;show _/\_;exact ⟨⟨hd.u0,hd.u1,hd.nv,hd.nw,hd.l⟩,Ls,k0,m0,g⟩
theorem told_678 {x:TS} {v:Int} {ok:Bool} (h:MS w0 S b t p s x w) (hp:x.ph=6\/x.ph=7\/x.ph=8) (hi:JG t p (jv t p s v x)) (hs:StB t p (jv t p s v x)) :
 Calls prog 54 #[.pointer (some ⟨b,0,none⟩),.int .u64 v,.bool ok] w fun e w'=>e= .returned (.tuple #[])/\MS w0 S b t p s (jv t p s v x) w':=by
 rw [jdx zo] at hi hs ⊢;have hlen:=jbb t p x;have hm:=h.mr;unfold MR at hm;rcases hp with hp | hp | hp <;> rw [hp] at hm hi hs ⊢;all_goals obtain ⟨hd,Ls,k0,m0,hq⟩:=hm
 ·obtain ⟨y,e1,e2⟩:=K5 (Yp t p x) (k:=x.l.length) zo;rw [e1] at hq;exact qm hq e2 fun W g=> .inl ⟨⟨hi,hs,(show _/\_ from ⟨⟨hd.u0,hd.u1,hd.nv,hd.nw,hd.l⟩,Ls,k0,m0,g⟩)⟩,_,_,_,_,_,_,g,.inl (fun e=>by have:=congrArg List.length e;simp [hlen] at this)⟩
 ·obtain ⟨y,e1,e2⟩:=K5 (Yp t p x) (k:=x.l.length+1) zo;rw [e1] at hq;exact qm hq e2 fun W g=> .inl ⟨⟨hi,hs,(show _/\_ from ⟨⟨hd.u0,hd.u1,hd.nv,hd.nw,hd.l⟩,Ls,k0,m0,g⟩)⟩,_,_,_,_,_,_,g,.inl (fun e=>by have:=congrArg List.length e;simp [hlen] at this)⟩
 ·obtain ⟨y,e1,e2⟩:=K5 (Yp t p x) (k:=x.l.length+2) zo;rw [e1] at hq;exact qm hq e2 fun W g=> .inl ⟨⟨hi,hs,(show _/\_ from ⟨⟨hd.u0,hd.u1,hd.nv,hd.nw,hd.l⟩,Ls,k0,m0,g⟩)⟩,_,_,_,_,_,_,g,.inl (fun e=>by have:=congrArg List.length e;simp [hlen] at this)⟩
end

theorem toldT9 {t p z v:Int} {x:TS} (h:JG t p x) (hp:x.ph=9):jv t p z v x=jB t p z { x with page:=if x.own=true then x.page+1 else x.page,known:=[] }:=by
 unfold jv km;rw [hp];have ho:=h.own zo zo;have hpg:=h.page;refine KO (Vb (t:=t) (p:=p) (z:=z) (x:={ x with ph:=9,page:=if x.own=true then x.page+1 else x.page,known:=[] }) ?_ (KnI.nil _) h.n0 h.n h.l h.wr) |>.trans ?_
 ·dsimp only;split
  ·have:=ho (by assumption);omega
  ·exact hpg
 ·rw [<-hp]
theorem jdE {t p z v:Int} {x:TS} (h:JG t p x) (hp:x.ph=10):jv t p z v x=jB t p z { x with known:=x.known++[(x.need,loW v)] }:=by
 unfold jv km;rw [hp];obtain ⟨h1,h2⟩:=h.h10 hp;refine KO (Vb (t:=t) (p:=p) (z:=z) (x:={ x with ph:=10,known:=x.known++[(x.need,loW v)] }) (by dsimp only;omega) (h2.val _) h.n0 h.n h.l h.wr) |>.trans ?_
 rw [<-hp]
theorem jdB {t p z v:Int} {x:TS} (hp:x.ph=16):jv t p z v x=({ x with note:=x.openN,s:=x.s+1,made:=x.s+1,u:=t,l:=x.wr,own:=true }:TS).to 17:=by
 unfold jv km;rw [hp];exact jau _ _ zd
theorem jdA {t p z v:Int} {x:TS} (hp:x.ph=18):jv t p z v x=ju (x.to 3):=by
 unfold jv km;rw [hp];rfl
section
variable {w0 w:World} {S:Nat->Prop} {b:Nat} {t p s:Int} {Ls:List (Nat×Obj)}
theorem told_9 {x:TS} {v:Int} {ok:Bool} (h:MS w0 S b t p s x w) (hr:jq t p s=true) (hp:x.ph=9) (hi:JG t p (jv t p s v x)) (hs:StB t p (jv t p s v x)) :
 Calls prog 54 #[.pointer (some ⟨b,0,none⟩),.int .u64 v,.bool ok] w fun e w'=>e= .returned (.tuple #[])/\MS w0 S b t p s (jv t p s v x) w':=by
 rw [toldT9 h.inv hp] at hi hs ⊢;have hst:=h.st;have hrb:=jt hr;have hlen:=jbb t p x;have ho:=h.inv.own zo zo;have hpg:=h.inv.page;have hm:=h.mr;unfold MR at hm;rw [hp] at hm;obtain ⟨hd,Ls,k0,m0,hq⟩:=hm;obtain ⟨y,e1,e2⟩:=K5 (Yp t p x) (k:=x.l.length+3) zo;rw [e1,List.drop_of_length_le zo] at hq;have hmu:(0:Int)<=(mu t p x:Int):=Int.natCast_nonneg _;refine qm hq e2 fun W g=> .inr ⟨_,_,_,_,jbO x.own,#[pB k0],g,ent_beh x.own,fun W2 g2=> ?_⟩;have hsm:=Jt t p s;by_cases hown:x.own=true
 ·have hlt:=ho hown;have eb:jbO x.own=198:=by unfold jbO;rw [if_pos hown]
  have hc:=jep (x:=x) g2 hr m0 zo ⟨hst.1,zo⟩;rw [if_pos hown] at hi hs ⊢;rw [eb];refine zM hc fun w' h1=> ?_;refine ⟨rfl,QL (y:=jB t p s { x with page:=x.page+1,known:=[] }) (Ls:=Ls) ?_ hi hs (KM _ _ _ _ _)⟩;have e:=hsm (p.toNat - (x.page+1)) { x with page:=x.page+1,known:=[] };show SwR w0 S b t p s Ls .nilFunc (qr t p s (p.toNat - (x.page+1)) { x with page:=x.page+1,known:=[] }).s (qr t p s (p.toNat - (x.page+1)) { x with page:=x.page+1,known:=[] }).made _ _;rw [e.1,e.2.1];exact h1
 ·have eb:jbO x.own=153:=by unfold jbO;rw [if_neg hown]
  have hc:=jaR (x:=x) g2 hr m0 zo ⟨hst.1,zo⟩;rw [if_neg hown] at hi hs ⊢;rw [eb];refine zM hc fun w' h1=> ?_;refine ⟨rfl,QL (y:=jB t p s { x with known:=[] }) (Ls:=Ls) ?_ hi hs (KM _ _ _ _ _)⟩;have e:=hsm (p.toNat - x.page) { x with known:=[] };show SwR w0 S b t p s Ls .nilFunc (qr t p s (p.toNat - x.page) { x with known:=[] }).s (qr t p s (p.toNat - x.page) { x with known:=[] }).made _ _;rw [e.1,e.2.1];exact h1
theorem told_10 {x:TS} {v:Int} {ok:Bool} (h:MS w0 S b t p s x w) (hr:jq t p s=true) (hp:x.ph=10) (hv:U64 v) (hi:JG t p (jv t p s v x)) (hs:StB t p (jv t p s v x)) :
 Calls prog 54 #[.pointer (some ⟨b,0,none⟩),.int .u64 v,.bool ok] w fun e w'=>e= .returned (.tuple #[])/\MS w0 S b t p s (jv t p s v x) w':=by
 rw [jdE h.inv hp] at hi hs ⊢;have hst:=h.st;have hrb:=jt hr;have hmb:=jV hr;have hpg:=h.inv.page;obtain ⟨-,hki⟩:=h.inv.h10 hp;have hkl:=hki.le;have hmu:(0:Int)<=(mu t p x:Int):=Int.natCast_nonneg _;have hm:=h.mr;unfold MR at hm;rw [hp] at hm;obtain ⟨hnd,hok,Ls,kx,kk,kt,kv,wv,m1,m2,m3,m4,hq⟩:=hm;have hok':jc8 (x.known++[(x.need,loW v)]):=by
  refine ⟨by simp at hkl ⊢;omega,fun y hy=> ?_⟩;rcases List.mem_append.1 hy with hy | hy
  ·exact hok.2 y hy
  ·simp at hy;subst hy;exact KA v
 refine Jj hq rfl ent_s1 fun W g=> ?_;refine zM (jaQ g hr m1 m2 m3 m4 hok' hv zo ⟨hst.1,zo⟩) fun w' h1=> ?_;refine ⟨rfl,.inl (QL (y:=jB t p s { x with known:=x.known++[(x.need,loW v)] }) (Ls:=[]) ?_ hi hs (KM _ _ _ _ _))⟩;have e:=Jt t p s (p.toNat - x.page) { x with known:=x.known++[(x.need,loW v)] };show SwR w0 S b t p s [] .nilFunc (qr t p s (p.toNat - x.page) { x with known:=x.known++[(x.need,loW v)] }).s (qr t p s (p.toNat - x.page) { x with known:=x.known++[(x.need,loW v)] }).made _ _;rw [e.1,e.2.1];exact h1
theorem je9 (t p st:Int) (wr:List (Int×Int)) (kx:Nat):(lgC t p st wr kx).length=wr.length+(wr.length+7) / 8+6:=by simp [lgC,lgF,fsF,tlF];omega
theorem told_11 {x:TS} {v:Int} {ok:Bool} (h:MS w0 S b t p s x w) (hp:x.ph=11) (hi:JG t p (jv t p s v x)) (hs:StB t p (jv t p s v x)) :
 Calls prog 54 #[.pointer (some ⟨b,0,none⟩),.int .u64 v,.bool ok] w fun e w'=>e= .returned (.tuple #[])/\MS w0 S b t p s (jv t p s v x) w':=by
 have hlt:=h.inv.hi zo;rw [jdD hp hlt] at hi hs ⊢;have hm:=h.mr;unfold MR at hm;rw [hp] at hm;obtain ⟨hW,Ls,kx,kz,kn,kl,a,c,st,m1,m2,m3,m4,m5,hb,hc,-,hq⟩:=hm;have hq':QW w0 S b t p s Ls (Vf kx kz kn kl) x.s x.made x.page ((lgC t p st x.wr kx).drop x.i) w:=hq;rw [if_pos zd] at hc;obtain ⟨y,e1,e2⟩:=je8 t p st x.wr kx (k:=x.i) zo;rw [e1] at hq';have hlen:=je9 t p st x.wr kx;refine qm hq' e2 fun W g=> .inl ⟨⟨hi,hs,?_⟩,_,_,_,_,_,_,g,.inl (fun e=>by have:=congrArg List.length e;simp [hlen] at this;omega)⟩;split
 ·rename_i he;unfold MR;show _/\_;refine ⟨hW,Ls,kx,kz,kn,kl,a,c,st,m1,m2,m3,m4,m5,hb,hc,fun _=>rfl,?_⟩;show QW _ _ _ _ _ _ _ _ _ _ _ (List.drop (x.wr.length+0 / 8) (lgC t p st x.wr kx)) _;rw [show x.wr.length+0 / 8=x.i+1 by omega];exact g
 ·unfold MR;show _/\_;exact ⟨hW,Ls,kx,kz,kn,kl,a,c,st,m1,m2,m3,m4,m5,hb,hc,fun e=>absurd e (Nat.ne_of_beq_eq_false rfl),g⟩
theorem told_12 {x:TS} {v:Int} {ok:Bool} (h:MS w0 S b t p s x w) (hp:x.ph=12) (hi:JG t p (jv t p s v x)) (hs:StB t p (jv t p s v x)) :
 Calls prog 54 #[.pointer (some ⟨b,0,none⟩),.int .u64 v,.bool ok] w fun e w'=>e= .returned (.tuple #[])/\MS w0 S b t p s (jv t p s v x) w':=by
 have hlt:=h.inv.hi zo;rw [jdC hp] at hi hs ⊢;have hm:=h.mr;unfold MR at hm;rw [hp] at hm;obtain ⟨hW,Ls,kx,kz,kn,kl,a,c,st,m1,m2,m3,m4,m5,hb,hc,h8,hq⟩:=hm;have hq':QW w0 S b t p s Ls (Vf kx kz kn kl) x.s x.made x.page ((lgC t p st x.wr kx).drop (x.wr.length+x.i / 8)) w:=hq;rw [if_pos zd] at hc;have h8':=h8 rfl;obtain ⟨y,e1,e2⟩:=je8 t p st x.wr kx (k:=x.wr.length+x.i / 8) zo;rw [e1] at hq';have hlen:=je9 t p st x.wr kx;refine qm hq' e2 fun W g=> .inl ⟨⟨hi,hs,?_⟩,_,_,_,_,_,_,g,.inl (fun e=>by have:=congrArg List.length e;simp [hlen] at this;omega)⟩;split
 ·rename_i he;unfold MR;show _/\_;refine ⟨hW,Ls,kx,kz,kn,kl,a,c,st,m1,m2,m3,m4,m5,hb,hc,fun e=>absurd e (Nat.ne_of_beq_eq_false rfl),?_⟩;show QW _ _ _ _ _ _ _ _ _ _ _ (List.drop (x.wr.length+(x.wr.length+7) / 8+0) (lgC t p st x.wr kx)) _;rw [show x.wr.length+(x.wr.length+7) / 8+0=x.wr.length+x.i / 8+1 by omega];exact g
 ·unfold MR;show _/\_;refine ⟨hW,Ls,kx,kz,kn,kl,a,c,st,m1,m2,m3,m4,m5,hb,hc,fun _=>(show (x.i+8) % 8=0 by omega),?_⟩;show QW _ _ _ _ _ _ _ _ _ _ _ (List.drop (x.wr.length+(x.i+8) / 8) (lgC t p st x.wr kx)) _;rw [show x.wr.length+(x.i+8) / 8=x.wr.length+x.i / 8+1 by omega];exact g
theorem Vl {x:TS} {v:Int} {ok:Bool} {j:Nat} (h:MS w0 S b t p s x w) (hp:x.ph=13+j) (hj:j=0\/j=1\/j=2\/j=4) (hi:JG t p (jv t p s v x)) (hs:StB t p (jv t p s v x)) :
 Calls prog 54 #[.pointer (some ⟨b,0,none⟩),.int .u64 v,.bool ok] w fun e w'=>e= .returned (.tuple #[])/\MS w0 S b t p s (jv t p s v x) w':=by
 rw [jdx zo] at hi hs ⊢;have hm:=h.mr;unfold MR at hm;rw [hp] at hm hi hs ⊢;rcases hj with rfl | rfl | rfl | rfl;all_goals obtain ⟨hW,Ls,kx,kz,kn,kl,a,c,st,m1,m2,m3,m4,m5,hb,hc,-,hq⟩:=hm
 ·have hq':QW w0 S b t p s Ls (Vf kx kz kn kl) x.s x.made x.page ((lgC t p st x.wr kx).drop (x.wr.length+(x.wr.length+7) / 8+0)) w:=hq;have e3:=qe t p st x.wr kx 1;rw [qe] at hq';refine qm hq' rfl fun W g=> .inl ⟨⟨hi,hs,(show _/\_ from ⟨hW,Ls,kx,kz,kn,kl,a,c,st,m1,m2,m3,m4,m5,hb,hc,fun e=>absurd e (Nat.ne_of_beq_eq_false rfl),?_⟩)⟩,_,_,_,_,_,_,g,.inl zT⟩;show QW _ _ _ _ _ _ _ _ _ _ _ (List.drop (x.wr.length+(x.wr.length+7) / 8+1) (lgC t p st x.wr kx)) _;rw [e3];exact g
 ·have hq':QW w0 S b t p s Ls (Vf kx kz kn kl) x.s x.made x.page ((lgC t p st x.wr kx).drop (x.wr.length+(x.wr.length+7) / 8+1)) w:=hq;have e3:=qe t p st x.wr kx 2;rw [qe] at hq';refine qm hq' rfl fun W g=> .inl ⟨⟨hi,hs,(show _/\_ from ⟨hW,Ls,kx,kz,kn,kl,a,c,st,m1,m2,m3,m4,m5,hb,hc,fun e=>absurd e (Nat.ne_of_beq_eq_false rfl),?_⟩)⟩,_,_,_,_,_,_,g,.inl zT⟩;show QW _ _ _ _ _ _ _ _ _ _ _ (List.drop (x.wr.length+(x.wr.length+7) / 8+2) (lgC t p st x.wr kx)) _;rw [e3];exact g
 ·have hq':QW w0 S b t p s Ls (Vf kx kz kn kl) x.s x.made x.page ((lgC t p st x.wr kx).drop (x.wr.length+(x.wr.length+7) / 8+2)) w:=hq;have e3:=qe t p st x.wr kx 3;rw [qe] at hq';refine qm hq' rfl fun W g=> .inl ⟨⟨hi,hs,(show _/\_ from ⟨hW,Ls,kx,kz,kn,kl,a,c,st,m1,m2,m3,m4,m5,hb,hc,fun e=>absurd e (Nat.ne_of_beq_eq_false rfl),?_⟩)⟩,_,_,_,_,_,_,g,.inl zT⟩;show QW _ _ _ _ _ _ _ _ _ _ _ (List.drop (x.wr.length+(x.wr.length+7) / 8+3) (lgC t p st x.wr kx)) _;rw [e3];exact g
 ·have hq':QW w0 S b t p s Ls (Vf kx kz kn kl) x.s x.made x.page ((lgC t p st x.wr kx).drop (x.wr.length+(x.wr.length+7) / 8+4)) w:=hq;have e3:=qe t p st x.wr kx 5;rw [qe] at hq';refine qm hq' rfl fun W g=> .inl ⟨⟨hi,hs,(show _/\_ from ⟨hW,Ls,kx,kz,kn,kl,a,c,st,m1,m2,m3,m4,m5,hb,hc,fun e=>absurd e (Nat.ne_of_beq_eq_false rfl),?_⟩)⟩,_,_,_,_,_,_,g,.inl zT⟩;show QW _ _ _ _ _ _ _ _ _ _ _ (List.drop (x.wr.length+(x.wr.length+7) / 8+5) (lgC t p st x.wr kx)) _;rw [e3];exact g
theorem told_16 {x:TS} {v:Int} {ok:Bool} (h:MS w0 S b t p s x w) (hp:x.ph=16) (hi:JG t p (jv t p s v x)) (hs:StB t p (jv t p s v x)) :
 Calls prog 54 #[.pointer (some ⟨b,0,none⟩),.int .u64 v,.bool ok] w fun e w'=>e= .returned (.tuple #[])/\MS w0 S b t p s (jv t p s v x) w':=by
 rw [jdB hp] at hi hs ⊢;have hm:=h.mr;unfold MR at hm;rw [hp] at hm;obtain ⟨hW,Ls,kx,kz,kn,kl,a,c,st,m1,m2,m3,m4,m5,hb,hc,-,hq⟩:=hm;have hq':QW w0 S b t p s Ls (Vf kx kz kn kl) x.s x.made x.page ((lgC t p st x.wr kx).drop (x.wr.length+(x.wr.length+7) / 8+3)) w:=hq;rw [if_pos zd] at hc;have e3:=qe t p st x.wr kx 4;rw [qe] at hq';refine Jj hq' rfl ent_ch1 fun W g=> ?_;subst hc;refine zM (qch1_any g m1 hb v) fun w' h1=> ?_;refine ⟨rfl,.inl ⟨⟨hi,hs,(show _/\_ from ⟨hW,Ls,kx,kz,kn,kl,a,c,x.s,m1,m2,m3,m4,m5,hb,⟨rfl,rfl,rfl,rfl,rfl⟩,fun e=>absurd e (Nat.ne_of_beq_eq_false rfl),?_⟩)⟩,_,_,_,_,_,_,h1,.inl zT⟩⟩;show QW _ _ _ _ _ _ _ _ _ _ _ (List.drop (x.wr.length+(x.wr.length+7) / 8+4) (lgC t p x.s x.wr kx)) _;rw [e3];exact h1
theorem told_18 {x:TS} {v:Int} {ok:Bool} (h:MS w0 S b t p s x w) (hr:jq t p s=true) (hp:x.ph=18) (hi:JG t p (jv t p s v x)) (hs:StB t p (jv t p s v x)) :
 Calls prog 54 #[.pointer (some ⟨b,0,none⟩),.int .u64 v,.bool ok] w fun e w'=>e= .returned (.tuple #[])/\MS w0 S b t p s (jv t p s v x) w':=by
 rw [jdA hp] at hi hs ⊢;have hrb:=jt hr;have hm:=h.mr;unfold MR at hm;rw [hp] at hm;obtain ⟨hW,Ls,kx,kz,kn,kl,a,c,st,m1,m2,m3,m4,m5,hb,hc,-,hq⟩:=hm;have hq':QW w0 S b t p s Ls (Vf kx kz kn kl) x.s x.made x.page ((lgC t p st x.wr kx).drop (x.wr.length+(x.wr.length+7) / 8+5)) w:=hq;rw [if_neg zd] at hc;obtain ⟨c1,c2,c3,c4,c5⟩:=hc;rw [qe] at hq';refine qm hq' rfl fun W g=> .inr ⟨_,_,_,_,_,_,g,ent_ch2,fun W2 g2=> ?_⟩;refine qch2_any g2 m1 m2 m3 m4 ?_;have hno:=jeO (st:=st+1) (k:=(x.wr.length:Int)) zo zo (by have:=hW.1;omega);have hnj:kG (st+1) (x.wr.length:Int) true=kg (st+1) ((x.wr.length:Int)+2147483648):=rfl;have hnu:U64 x.note:=by
  have:=hW.1;rw [c2,hnj];unfold U64 kg;omega
 have hnw:qU x.note=some (hiW x.note,true,(x.wr.length:Int)):=by
  have:=hW.1;rw [c2,hnj,hno.1,jfe zo]
 have hd:TuD t p x:=⟨by rw [c3];omega,by rw [c3];omega,hnu,⟨_,_,hnw⟩,by rw [c4];exact hW⟩
 have hE:=VF (x:=x) g2 hr hd (k0:=kx) (a:=a) (c:=c) m1 (by rw [c4];exact m5) hi hs;rw [c3,c2,c4,c5] at hE;exact hE
end

theorem jdF {t p z v s0 u:Int} {x:TS} (hp:x.ph=0) (h:QF v=some (s0,u)):jv t p z v x=({ x with s:=s0,u:=u }:TS).to 1:=by
 unfold jv km;rw [hp,h];exact jau _ 1 zd
theorem jdz {t p z v:Int} {x:TS} (hi:JG t p x) (hp:x.ph=1) (h:qQ v x.s=none):jv t p z v x=jB t p z x:=by
 unfold jv km;rw [hp,h];exact KO (Vb hi.page (by rw [hi.hk zo];exact KnI.nil _) hi.n0 hi.n hi.l hi.wr)
theorem jat {t p z v n:Int} {x:TS} (hp:x.ph=1) (h:qQ v x.s=some n):jv t p z v x=if n=0 then ju (({ x with note:=v,n:=n }:TS).to 3) else ({ x with note:=v,n:=n }:TS).to 2:=by
 unfold jv km;rw [hp,h];show ju (TS.to { x with ph:=1,note:=v,n:=n } 2)=_;by_cases h0:n=0
 ·rw [if_pos h0];subst h0;simp [ju,qb,TS.to]
 ·rw [if_neg h0];have h0':¬(0:Int)=n:=fun e=>h0 e.symm;simp [ju,qb,qB,qA,qy,qx,TS.to,h0']
theorem jdy {t p z v:Int} {x:TS} {e:Int×Int} (hp:x.ph=2) (h:qN v=some e):jv t p z v x=if (x.i:Int)+1=x.n then ju (({ x with l:=x.l++[e] }:TS).to 3) else { x with ph:=2,l:=x.l++[e],i:=x.i+1 }:=by
 unfold jv km;rw [hp,h];show ju { x with ph:=2,l:=x.l++[e],i:=x.i+1 }=_;by_cases h0:(x.i:Int)+1=x.n
 ·rw [if_pos h0];simp [ju,qb,TS.to,h0]
 ·rw [if_neg h0];simp [ju,qb,qB,qA,qy,qx,h0]
theorem ent_tip:∀args w,(callFunc 39 args).run prog w= .ok (.enter 39 args) w:=enters_of func39 zk rfl
theorem ent_tip1:∀args w,(callFunc 83 args).run prog w= .ok (.enter 83 args) w:=enters_of func83 zk rfl
theorem ent_r1:∀args w,(callFunc 148 args).run prog w= .ok (.enter 148 args) w:=enters_of func148 zk rfl
theorem ent_r2:∀args w,(callFunc 151 args).run prog w= .ok (.enter 151 args) w:=enters_of func151 zk rfl
theorem jeL {v s n:Int} (hv:U64 v) (h:qQ v s=some n):qU v=some (hiW v,true,n):=by
 unfold qQ at h;split at h
 ·rename_i st n' hw;split at h
  ·cases h;have:=(Jc hv hw).1;rw [hw,this]
  ·cases h
 ·cases h
section
variable {w0 w:World} {S:Nat->Prop} {b:Nat} {t p s:Int} {Ls:List (Nat×Obj)}
theorem QW.tne {rest:Value} {st md pg:Int} {q:List Stp} (h:QW w0 S b t p s Ls rest st md pg q w) {k g:Nat} {cs cu:Array Value} {T T2:TypeId} (hm:(k,Obj.cells cs T)∈Ls) (hg:(g,Obj.cells cu T2)∈Ls) (hT:T≠T2):k≠g:=fun e=>by
 have a1:=(h.ls _ hm).1;have a2:=(h.ls _ hg).1;dsimp only at a1 a2;rw [e,a2] at a1;simp only [Option.some.injEq,Obj.cells.injEq] at a1;exact hT a1.2.1.symm
theorem told_0 {x:TS} {v:Int} {ok:Bool} (h:MS w0 S b t p s x w) (hr:jq t p s=true) (hp:x.ph=0) (hv:VOK t p x v) (hi:JG t p (jv t p s v x)) (hs:StB t p (jv t p s v x)) :
 Calls prog 54 #[.pointer (some ⟨b,0,none⟩),.int .u64 v,.bool ok] w fun e w'=>e= .returned (.tuple #[])/\MS w0 S b t p s (jv t p s v x) w':=by
 obtain ⟨s0,u,ht,hu0,hu,hs0⟩:=hv.tip hp;rw [jdF hp ht] at hi hs ⊢;have hm:=h.mr;unfold MR at hm;rw [hp] at hm;obtain ⟨Ls,hq⟩:=hm;refine Jj hq rfl ent_tip fun W g=> ?_;refine zM (jaP g hr hv.u ht hu0 hu) ?_;rintro w' ⟨kx,ks,ku,h1⟩;exact ⟨rfl,.inl ⟨⟨hi,hs,(show _/\_ from ⟨⟨hu0,hu⟩,_,ks,kx,ku,by simp [TS.to],zT,by simp [TS.to],h1⟩)⟩,_,_,_,_,_,_,h1,.inl zT⟩⟩
theorem told_1 {x:TS} {v:Int} {ok:Bool} (h:MS w0 S b t p s x w) (hr:jq t p s=true) (hp:x.ph=1) (hv:U64 v) (hi:JG t p (jv t p s v x)) (hs:StB t p (jv t p s v x)) :
 Calls prog 54 #[.pointer (some ⟨b,0,none⟩),.int .u64 v,.bool ok] w fun e w'=>e= .returned (.tuple #[])/\MS w0 S b t p s (jv t p s v x) w':=by
 have hst:=h.st;have hrb:=jt hr;have hmu:(0:Int)<=(mu t p x:Int):=Int.natCast_nonneg _;have hpg:=h.inv.page;have hkn:=h.inv.hk zo;have hl0:=h.inv.h1 zo;have hown:=h.inv.h0 zo;have hm:=h.mr;unfold MR at hm;rw [hp] at hm;obtain ⟨hu,Ls,ks,kx,ku,m1,m2,m3,hq⟩:=hm;refine Jj hq rfl ent_tip1 fun W g=> ?_;cases ho:qQ v x.s with
 | none=>
  rw [jdz h.inv hp ho] at hi hs ⊢;refine zM (qtip1_no (x:=x) (u:=0) g hr m1 m2 hv ho hkn zo ⟨hst.1,zo⟩) fun w' h1=> ?_;refine ⟨rfl,.inl (QL (y:=jB t p s x) (Ls:=Ls) ?_ hi hs (KM _ _ _ _ _))⟩;have e:=Jt t p s (p.toNat - x.page) x;show SwR w0 S b t p s Ls .nilFunc (qr t p s (p.toNat - x.page) x).s (qr t p s (p.toNat - x.page) x).made _ _;rw [e.1,e.2.1];exact h1
 | some n=>
  rw [jat hp ho] at hi hs ⊢;have hnw:=jeL hv ho;have hnb:=Jc hv hnw;obtain ⟨N,rfl⟩:∃N:Nat,n=(N:Int):=⟨n.toNat,zo⟩
  have hd:∀k,TuD t p (({ x with note:=v,n:=(N:Int) }:TS).to k):=fun k=>⟨hu.1,hu.2,hv,⟨_,_,hnw⟩,by show WrOK t p x.l;rw [hl0];exact ⟨zT,zT⟩⟩
  refine jel g m1 m2 m3 hv ho fun W2 g2=> ?_;refine zM (jen g2 hr hu.1 hu.2 zo) ?_;rintro w' ⟨kx',ku',kn',kl',gg,bs,Ls',hbl,hsub,q1,q2,q3,q4,q5,q6,q7,h1⟩;refine ⟨rfl,?_⟩;by_cases h0:(N:Int)=0
  ·rw [if_pos h0] at hi hs ⊢;have hN:N=0:=zo;subst hN;have hb0:bs=[]:=List.eq_nil_of_length_eq_zero hbl;subst hb0;refine .inr ⟨_,_,_,_,_,_,h1,ent_r2,fun W3 g3=>YV (Ψ:=fun _ _=>True) g3 q1 q2 q3 q4 ?_⟩;have hE:=VF (x:={ x with note:=v,n:=((0:Nat):Int) }) g3 hr (hd x.ph |> fun d=>⟨d.u0,d.u1,d.nv,d.nw,d.l⟩) (k0:=kx') (a:=some ⟨gg,0,none⟩) (c:=0) q1 (by show KG Ls' (.slice (some ⟨gg,0,none⟩) x.l.length 0) x.l;rw [hl0];exact ⟨_,_,rfl,Nat.le_refl _,fun hn=>absurd rfl hn⟩) hi hs;have eb:jbO x.own=153:=by rw [hown];rfl
   have el:x.l.length=0:=by rw [hl0];rfl
   have hE':Calls prog 152 #[.pointer (some ⟨b,0,none⟩),.int .i64 x.u,.int .u64 v,.slice (some ⟨gg,0,none⟩) x.l.length 0,.func (.func (jbO x.own)) #[] #[pB kx']] W3 _:=hE;rw [el,eb] at hE';exact hE'
  ·rw [if_neg h0] at hi hs ⊢;have hne:ldF t p x.u kl' bs≠[]:=fun e=>by
    have:=congrArg List.length e;simp [ldF] at this;rw [this] at hbl;simp at hbl;omega
   refine .inl ⟨⟨hi,hs,(show _/\_ from ⟨hd 2,Ls',kx',ku',kn',kl',gg,N,bs,rfl,hbl,q1,q2,q3,q4,?_,q7,h1⟩)⟩,_,_,_,_,_,_,h1,.inl hne⟩;show (gg,Obj.cells (jU (yk N x.l)).toArray _)∈Ls';rw [hl0];exact q5
theorem told_2 {x:TS} {v:Int} {ok:Bool} (h:MS w0 S b t p s x w) (hr:jq t p s=true) (hp:x.ph=2) (hv:VOK t p x v) (hi:JG t p (jv t p s v x)) (hs:StB t p (jv t p s v x)) :
 Calls prog 54 #[.pointer (some ⟨b,0,none⟩),.int .u64 v,.bool ok] w fun e w'=>e= .returned (.tuple #[])/\MS w0 S b t p s (jv t p s v x) w':=by
 obtain ⟨e,he,hc0,hc1⟩:=hv.ent hp;have helo:e.2=loW v:=by
  unfold qN at he;split at he
  ·cases he;rfl
  ·cases he
 rw [jdy hp he] at hi hs ⊢;obtain ⟨hil,hin⟩:=h.inv.h2 hp;have hn96:=h.inv.n;have hown:=h.inv.h0 zo;have hm:=h.mr;unfold MR at hm;rw [hp] at hm;obtain ⟨hd,Ls,kx,ku,kn,kl,g,N,bs,hN,hbl,m1,m2,m3,m4,m5,m6,hq⟩:=hm;have hib:x.i < bs.length:=zo;have hget:(ldF t p x.u kl bs)[x.i]? =some ⟨1,ky t p x.u x.i,0,r1V kl bs[x.i]⟩:=by simp [ldF,hib]
 have hdrop:(ldF t p x.u kl bs).drop x.i=⟨1,ky t p x.u x.i,0,r1V kl bs[x.i]⟩ :: (ldF t p x.u kl bs).drop (x.i+1):=by
  obtain ⟨h1,h2⟩:=List.getElem?_eq_some_iff.1 hget;rw [List.drop_eq_getElem_cons h1,h2]
 rw [hdrop] at hq;have hdl:∀k,TuD t p (({ x with l:=x.l++[e],i:=k }:TS)):=fun k=>⟨hd.u0,hd.u1,hd.nv,hd.nw,by
  refine ⟨?_,fun y hy=> ?_⟩
  ·show (x.l++[e]).length<=96;simp;omega
  ·have hy':y∈x.l++[e]:=hy;rcases List.mem_append.1 hy' with hy | hy
   ·exact hd.l.2 y hy
   ·simp at hy;subst hy;exact ⟨⟨hc0,hc1⟩,by rw [helo];exact KA v⟩⟩
 refine Jj hq rfl ent_r1 fun W g1=> ?_;have hbi:=m6 x.i bs[x.i] (by simp [hib]);have hnx:=g1.tne m1 m5 zd;have hnu:=g1.tne m2 m5 zd;have hnn:=g1.tne m3 m5 zd;have hnl:=g1.tne m4 m5 zd;have hnb:∀j k:Nat,bs[j]? =some k->k≠g:=fun j k e=>g1.tne (m6 j k e) m5 zd;have hmf:∀z∈Ls,z.1≠g->z∈(g,Obj.cells (jU (yk N (x.l++[e]))).toArray 106) :: Ls.filter (fun z=>z.1≠g):=fun z hz hzg=>List.mem_cons_of_mem _ (List.mem_filter.2 ⟨hz,by simpa using hzg⟩);refine (jcv (Ls':=(g,Obj.cells (jU (yk N (x.l++[e]))).toArray 106) :: Ls.filter (fun z=>z.1≠g)) g1 m4 (by rw [<-hil];exact hbi) m5 zo zo hv.u he (fun z hz=> ?_)).mono ?_
 ·rcases List.mem_cons.1 hz with rfl | hz
  ·exact .inl rfl
  ·obtain ⟨h1,h2⟩:=List.mem_filter.1 hz;exact .inr ⟨h1,by simpa using h2⟩
 rintro e' w' ⟨rfl,h1⟩;refine ⟨rfl,?_⟩;by_cases h0:(x.i:Int)+1=x.n
 ·rw [if_pos h0] at hi hs ⊢;have hz:(ldF t p x.u kl bs).drop (x.i+1)=[]:=List.drop_of_length_le (by simp [ldF];omega);rw [hz] at h1;refine .inr ⟨_,_,_,_,_,_,h1,ent_r2,fun W3 g3=>YV (Ψ:=fun _ _=>True) g3 (hmf _ m1 hnx) (hmf _ m2 hnu) (hmf _ m3 hnn) (hmf _ m4 hnl) ?_⟩;have hlenN:(x.l++[e]).length=N:=by simp;omega
  have hE:=VF (x:={ x with l:=x.l++[e] }) g3 hr (hdl x.i) (k0:=kx) (a:=some ⟨g,0,none⟩) (c:=N) (hmf _ m1 hnx) ?_ hi hs
  ·have eb:jbO x.own=153:=by rw [hown];rfl
   have hE':Calls prog 152 #[.pointer (some ⟨b,0,none⟩),.int .i64 x.u,.int .u64 x.note,.slice (some ⟨g,0,none⟩) (x.l++[e]).length N,.func (.func (jbO x.own)) #[] #[pB kx]] W3 _:=hE;rw [hlenN,eb] at hE';exact hE'
  ·show KG _ (.slice (some ⟨g,0,none⟩) (x.l++[e]).length N) (x.l++[e]);refine ⟨_,_,rfl,zo,fun _=>⟨g,0,_,rfl,List.mem_cons_self,fun i y hy=> ?_⟩⟩;have hp:=yU (yk N (x.l++[e])) i;have hf:yk N (x.l++[e])=x.l++[e]:=by unfold yk;rw [hlenN];simp
   rw [hf,hy] at hp;rw [hf];simpa using hp
 ·rw [if_neg h0] at hi hs ⊢;have hne:(ldF t p x.u kl bs).drop (x.i+1)≠[]:=fun e=>by
   have:=congrArg List.length e;simp [ldF] at this;omega
  refine .inl ⟨⟨hi,hs,(show _/\_ from ⟨?_,_,kx,ku,kn,kl,g,N,bs,hN,hbl,hmf _ m1 hnx,hmf _ m2 hnu,hmf _ m3 hnn,hmf _ m4 hnl,List.mem_cons_self,fun j k e=>hmf _ (m6 j k e) (hnb j k e),h1⟩)⟩,_,_,_,_,_,_,h1,.inl hne⟩;exact ⟨hd.u0,hd.u1,hd.nv,hd.nw,(hdl 0).l⟩
end

def doM (t:Int) (m:NM) (d a v:Int):Int×NM:=if d=1 then ((m.load a).1,m) else if d=2 then (0,(m.store a v).2) else if d=4 then (0,(m.flush t a).2) else (0,(m.fence t).2)
theorem jbC {t p:Int} {x:TS} {d a v:Int} (h:jN t p x=some (d,a,v)):d=1\/d=2\/d=4\/d=5:=by
 unfold jN at h;split at h <;> simp at h <;> omega

theorem yv (t:Int) (m:NM) (a v:Int):doM t m 1 a v=((m.load a).1,m):=by simp [doM]
theorem Yn {m:NM} {a:Int} {k:Nat} (h:a=(k:Int)) (hk:k < m.W.length):(m.load a).1=m.W.getD k 0:=by
 subst h;unfold NM.load;rw [if_pos (NM.th_iff.2 ⟨zo,zo⟩)];simp
section
variable {t z:Int} {vs:List Int} {P:Nat} {x y:TS} {m:NM}
end

section
variable {t z:Int} {vs:List Int} {P:Nat} {x y:TS} {m:NM} {A:List Int} {u:Int}
theorem Wr.len (h:Wr t P z vs x):0 < x.wr.length:=List.length_pos_iff.2 h.ne
end

section
variable {t z:Int} {vs:List Int} {P:Nat} {x:TS} {m:NM}
theorem jfv (hmi:m.Inv) (d a v:Int):U64 (doM t m d a v).1:=by
 have z0:U64 0:=by unfold U64;omega
 unfold doM;split
 ·unfold NM.load;split
  ·exact NM.getD_u hmi.wu _
  ·exact z0
 ·split
  ·exact z0
  ·split <;> exact z0
theorem doM_inv (hmi:m.Inv) {d a v:Int} (hv:U64 v):(doM t m d a v).2.Inv:=by
 unfold doM;split
 ·exact hmi
 ·split
  ·exact hmi.store a hv
  ·split
   ·exact hmi.flush t a
   ·exact hmi.fence t
theorem jas {x:TS} {a v q q':Int} (hn:jN t P x=some (5,a,v)):jv t P z q x=jv t P z q' x:=by
 have hc:x.ph=6\/x.ph=9\/x.ph=15\/x.ph=18:=by
  unfold jN at hn;split at hn <;> simp at hn <;> simp [*]
 rcases hc with e | e | e | e <;> (unfold jv km;rw [e];rfl)
end

def jfs (t p s:Int) (ws:List Int):Option (List Int):=match q8 t p s ws with
 | some vs=>if p<=64/\(Ve vs t p s).2=true/\hiW (ws.getD 8 0) < 2147483648 then some vs else none
 | none=>none
def FitQ (w:World) (r:Option (List Int)) (e:Ending) (w':World):Prop:=match r with
 | none=>(∃v,e= .returned (.tuple #[v,.bool false]))/\Below w.heap.size w w'
 | some vs=>∃v,e= .returned (.tuple #[v,.bool true])/\w'.ownsRow 0 44 1 v vs.length (yP vs)/\(∀k,v.ownBlock=some k->w.heap.size<=k)/\Below w.heap.size w w'
theorem Qf {t p s:Int} {ws vs:List Int} (h:q8 t p s ws=some vs):jq t p s=true/\(ws.length:Int)=qM t p/\(vs.length:Int)=jo t p/\(∀v∈vs,VS.U32 v)/\∃st u o,KB t p ws=some (st,u,o):=by
 unfold q8 at h;split at h
 ·rename_i hr;unfold Xq at hr;simp at hr;obtain ⟨x,hx,rfl⟩:=Option.map_eq_some_iff.1 h;have hmb:=jV hr.1;exact ⟨hr.1,hr.2,by rw [QS];omega,jdn _ _,x.1,x.2.1,x.2.2,hx⟩
 ·cases h
section
variable {t p s:Int} {w:World} {wv:Value} {xs:List Int}
theorem jaL (hW:Rd w wv 1 xs.length (yl xs)) (hu:∀v∈xs,U64 v):Calls prog 25 #[.agg #[.int .i64 t,.int .i64 p,.int .i64 s],wv] w (SetQ w (q8 t p s xs)):=by
 by_cases hb:jq t p s=true/\(xs.length:Int)=qM t p
 ·have hmb:=jV hb.1;have hrb:=jt hb.1;obtain ⟨hl,⟨-,hn⟩ | ⟨ad,c,rfl,hc⟩⟩:=hW
  ·omega
  ·exact jaK ⟨hb.1,rfl,hb.2,hu,fun k hk=>hc k _ (by simp [yl,hk])⟩ c
 ·have hn:q8 t p s xs=none:=by
   unfold q8 Xq;rw [if_neg (by simpa using hb)]
  have h':jq t p s=false\/(xs.length:Int)≠qM t p:=by
   cases hr:jq t p s
   ·exact .inl rfl
   ·exact .inr (fun e=>hb ⟨hr,e⟩)
  rw [hn];obtain ⟨a,c,rfl⟩:∃a c,wv= .slice a xs.length c:=by
   rcases hW.2 with ⟨rfl,hn⟩ | ⟨ad,c,rfl,-⟩
   ·exact ⟨none,0,by rw [hn]⟩
   ·exact ⟨_,_,rfl⟩
  exact jca a xs.length c w h'
theorem jbr (hW:Rd w wv 1 xs.length (yl xs)) (hu:∀v∈xs,U64 v) :
 Calls prog 7 #[.agg #[.int .i64 t,.int .i64 p,.int .i64 s],wv] w (FitQ w (jfs t p s xs)):=by
 have HK:=zh (fun (W:World) (hb:Below w.heap.size w W)=>jaL (t:=t) (p:=p) (s:=s) (Rd.keepBy hW hb (Nat.le_refl _)) hu);have B0:=zh ((Below.refl w.heap.size w).alloc (Nat.le_refl _) (.cells #[.int .i64 t,.int .i64 p,.int .i64 s] 23));have HF:=zh (fun w=>jft t p s w);cases hs:q8 t p s xs with
 | none=>
  rw [hs] at HK;have hf:jfs t p s xs=none:=by unfold jfs;rw [hs]
  rw [hf];obtain ⟨a,c,rfl⟩:∃a c,wv= .slice a xs.length c:=by
   rcases hW.2 with ⟨rfl,hn⟩ | ⟨ad,c,rfl,-⟩
   ·exact ⟨none,0,by rw [hn]⟩
   ·exact ⟨_,_,rfl⟩
  generalize xs.length=n at*
  clear hW hu hs hf;go_enter func7,ntmps7;go_wp2_with fail;refine zM (HK.out _ B0.out) fun w1 b1=> ?_;have B1:=zh (B0.out.trans (b1.mono B0.out.size));clear b1;go_wp2;refine bodyPost_ret (v:= .tuple #[.slice none 0 0,.bool false]) (by simp [results,results7,go_sem]) rfl ⟨⟨_,rfl⟩,B1.out⟩
 | some vs=>
  rw [hs] at HK;obtain ⟨hr,hn,hvn,hvu,st,u,o,hla⟩:=Qf hs;have hmb:=jV hr;have hrb:=jt hr;have hset:Kl t p s xs st u o vs:=⟨hu,hla,hs⟩
  obtain ⟨htip,-,-,-⟩:=hset.tip;have hst:st=hiW (xs.getD 8 0):=by
   unfold QF at htip;split at htip
   ·simp only [Option.some.injEq,Prod.mk.injEq] at htip;exact htip.1.symm
   ·cases htip
  have hpos:0 < vs.length:=by unfold jo at hvn;omega
  obtain ⟨hl0,⟨-,hn0⟩ | ⟨ad,c,rfl,hc⟩⟩:=hW
  ·omega
  have h8c:w.cell? (ad.add 8)=some (.int .u64 (xs.getD 8 0)):=hc 8 _ (by
   have:8 < xs.length:=zo;simp [yl,this])
  have HT:=zh (fun w=>Q9 (xs.getD 8 0) st u w (XY hu 8) htip);have HS:=zh (fun (W:World) (v:Value) (R:W.ownsRow 0 44 1 v vs.length (yP vs))=>show Calls prog 32 #[.agg #[.int .i64 t,.int .i64 p,.int .i64 s],v] W fun e w'=>e= .returned (.bool (Ve vs t p s).2)/\Below W.heap.size W w' by
   obtain ⟨P,rfl⟩:∃P:Nat,p=P:=⟨p.toNat,zo⟩
   obtain ⟨ad,c,rfl,hx⟩:=(Rd.of_row R).xv hvu hr zo hvn;exact jb9 c W hx)
  have hf:jfs t p s xs=if p<=64/\(Ve vs t p s).2=true/\st < 2147483648 then some vs else none:=by unfold jfs;rw [hs,hst]
  rw [hf];generalize hrr:(if p<=64/\(Ve vs t p s).2=true/\st < 2147483648 then some vs else none)=r;have HR:=zh hrr;clear hrr;have z8:=World.block_lt_of_cell? w _ h8c;have hn8:(8:Int) < xs.length:=zo;generalize xs.getD 8 0=w8 at*
  generalize (Ve vs t p s).2=ck at*
  generalize xs.length=n at*
  clear hs hr hn hvn hvu hla hmb hrb hset htip hst hl0 hc hu hf o;unfold SetQ at HK;dsimp only at HK;go_enter func7,ntmps7;go_wp2_with fail;refine (HK.out _ B0.out).mono ?_;rintro e w1 ⟨v,rfl,o1,f1,b1⟩;obtain ⟨g,cap,rfl⟩:=Joins.ownsRow_form o1 hpos;have B1:=zh (B0.out.trans (b1.mono B0.out.size));have F1:=zh (fun k hk=>Nat.le_trans B0.out.size (f1 k hk));have O1:=zh o1;have c0:=(b1.cell (p:=⟨w.heap.size,0,none⟩) zT).trans (jd (o:=0) (heap_alloc_new w (.cells #[.int .i64 t,.int .i64 p,.int .i64 s] 23)));have c1:=(b1.cell (p:=⟨w.heap.size,1,none⟩) zT).trans (jd (o:=1) (heap_alloc_new w (.cells #[.int .i64 t,.int .i64 p,.int .i64 s] 23)));have c2:=(b1.cell (p:=⟨w.heap.size,2,none⟩) zT).trans (jd (o:=2) (heap_alloc_new w (.cells #[.int .i64 t,.int .i64 p,.int .i64 s] 23)));simp at c0 c1 c2;clear o1 f1 HK;go_wp2_with fail;refine zM (HF.out _) fun w2 b2=> ?_;have zc:w.heap.size < w1.heap.size:=zL b1;have B2:=zh (B1.out.trans (b2.mono B1.out.size));have O2:=zh (je (w':=w2) O1.out (fun k hk=>b2.block k (jn O1.out hk)));have d0:=(b2.cell (p:=⟨w.heap.size,0,none⟩) zc).trans c0;have d1:=(b2.cell (p:=⟨w.heap.size,1,none⟩) zc).trans c1;have d2:=(b2.cell (p:=⟨w.heap.size,2,none⟩) zc).trans c2;have zc2:w.heap.size < w2.heap.size:=Nat.lt_of_lt_of_le zc b2.size;clear b1 b2 c0 c1 c2 HF;by_cases hp:p<=64
  ·have hr:=HR.out;simp only [hp,true_and] at hr;have HR:=zh hr;clear hr;simp only [hp,decide_true];go_wp2_with fail;refine zM (HS.out _ _ O2.out) fun w3 b3=> ?_;have B3:=zh (B2.out.trans (b3.mono B2.out.size));have O3:=zh (je (w':=w3) O2.out (fun k hk=>b3.block k (jn O2.out hk)));clear b3 HS;cases ck with
   | false=>
    have hr:=HR.out;simp only [Bool.false_eq_true,false_and,if_false] at hr;subst hr;go_wp2;refine bodyPost_ret (v:= .tuple #[.slice none 0 0,.bool false]) (by simp [results,results7,go_sem]) rfl ⟨⟨_,rfl⟩,B3.out⟩
   | true=>
    have hr:=HR.out;simp only [true_and] at hr;have HR:=zh hr;clear hr;have e8:w3.cell? ⟨ad.block,ad.off+8,none⟩=some (.int .u64 w8):=by
     have:=(B3.out.cell (p:=ad.add 8) z8).trans h8c;simpa [Addr.add] using this
    go_wp2_with fail;refine zM (HT.out _) fun w4 b4=> ?_;have B4:=zh (B3.out.trans (b4.mono B3.out.size));have O4:=zh (je (w':=w4) O3.out (fun k hk=>b4.block k (jn O3.out hk)));clear b4 HT;by_cases hst:st < 2147483648
    ·have hr:=HR.out;simp only [hst,and_true,if_true] at hr;subst hr;go_wp2;refine bodyPost_ret (v:= .tuple #[.slice (some ⟨g,0,none⟩) vs.length cap,.bool true]) (by simp [results,results7,go_sem]) rfl ?_;exact ⟨_,rfl,O4.out,F1.out,B4.out⟩
    ·have hr:=HR.out;simp only [hst,and_false,if_false] at hr;subst hr;go_wp2;refine bodyPost_ret (v:= .tuple #[.slice (some ⟨g,0,none⟩) vs.length cap,.bool false]) (by simp [results,results7,go_sem];omega) rfl ⟨⟨_,rfl⟩,B4.out⟩
  ·have hr:=HR.out;simp only [hp,false_and,if_false] at hr;subst hr;simp only [hp,decide_false];go_wp2;refine bodyPost_ret (v:= .tuple #[.slice none 0 0,.bool false]) (by simp [results,results7,go_sem]) rfl ⟨⟨_,rfl⟩,B2.out⟩
end

def nxt (t p z:Int) (q:TS×NM):TS×NM:=match jN t p q.1 with
 | some (d,a,v)=>(jv t p z (doM t q.2 d a v).1 q.1,(doM t q.2 d a v).2)
 | none=>q
def jbn (t p z:Int) (q:TS×NM):Nat->TS×NM
 | 0=>q
 | k+1=>nxt t p z (jbn t p z q k)
theorem VD {t p z:Int} {x:TS} {m:NM} {d a v:Int} (h:jN t p x=some (d,a,v)):nxt t p z (x,m)=(jv t p z (doM t m d a v).1 x,(doM t m d a v).2):=by
 unfold nxt;rw [h]
section
variable {t z:Int} {vs:List Int} {P:Nat} {x:TS} {m:NM} {s0:Int} {k:Nat}
def VG (t:Int) (P:Nat):Nat:=400+P*(410+(jo t P).toNat)
theorem jeX (hr:jq t P z=true):VG t P<=11000000:=by
 have hb:=jt hr;have hm:=jV hr;have h1:P*(410+(jo t P).toNat)<=1024*10410:=Nat.mul_le_mul zo zo;unfold VG;omega
end

def refL (N i0 i1 K P:Nat):List Int:=((((List.replicate N (0:Int)).set 0 P).set (2+K) 1).set i0 (1+16*P)).set i1 1
theorem KJ (l:List Int) (i:Nat) (v:Int):(yP l).set i (.int .u32 v)=yP (l.set i v):=by simp [yP,List.map_set]
theorem QI {w:World} {g c n:Nat} {l:List Int} (h:w.ownsRow 0 44 1 (.slice (some ⟨g,0,none⟩) n c) n (yP l)) {i:Nat} (hi:i < n):∃z,w.cell? ⟨g,i,none⟩=some z:=by
 refine ⟨_,(h.cellAt i zo).trans (List.getElem?_eq_getElem ?_)⟩;have:=h.1;omega
theorem jaF (t s:Int) (P N i0 i1 K:Nat) (w:World) (hr:jq t P s=true) (hN:jo t P=N) (h0:ofF t P s 0 0=i0) (h1:ofF t P s ((P:Int) - 1) 1=i1) (hK:Kh P=K) (hK2:K < 11) (hi0:i0 < N) (hi1:i1 < N) :
 Calls prog 76 #[.agg #[.int .i64 t,.int .i64 P,.int .i64 s]] w (ValsP w (refL N i0 i1 K P)):=by
 obtain ⟨b1,b2,b3,b4,b5,b6⟩:=jt hr;have H1:=fun w=>qT t P s w;have hcf:kY t P s=jo t P:=by simp [kY,hr]
 rw [hcf,hN] at H1;have hcb:58<=N/\N<=10000:=by unfold jo at hN;omega
 have HH1:=zh H1;have HBo:=zh (show∀w,Calls prog 132 #[.int .i64 P] w fun e w'=>e= .returned (.int .i64 (K:Int))/\Below w.heap.size w w' by
  intro w;have:=Vv P w zo zo;rwa [hK] at this)
 have HBi:=zh (fun w=>Vw K w hK2);have HIn:=zh (show∀w,Calls prog 115 #[.agg #[.int .i64 t,.int .i64 P,.int .i64 s],.int .i64 0] w fun e w'=>e= .returned (.int .i64 (i0:Int))/\Below w.heap.size w w' by
  intro w;have:=qD t P s 0 w;rwa [h0] at this)
 have HFo:=zh (show∀w,Calls prog 134 #[.agg #[.int .i64 t,.int .i64 P,.int .i64 s],.int .i64 ((P:Int) - 1)] w fun e w'=>e= .returned (.int .i64 (i1:Int))/\Below w.heap.size w w' by
  intro w;have:=kR t P s ((P:Int) - 1) w;rwa [h1] at this)
 have HVa:=zh (fun w=>Q8 P w zo zo);have hmk:∀w:World,(Instr.makeSlice 25 (.int .i64 (N:Int)) (.int .i64 (N:Int))).run prog w= .ok (.slice (some ⟨w.heap.size,0,none⟩) N N) (w.alloc (.cells (madeCells #[.int .u32 0] N) 44)):=run_make_row' (P:=prog) 25 44 (.int .u32 0) 4 underlying25 ja6 rfl .i64 .i64 N zo zo;have hnb:((N:Int) == 0)=false:=by simp;omega
 have hw1:IntKind.u32.wrap (P:Int)=P:=IntWalk.u32_in _ zo;have c0:=jp w #[.int .i64 t,.int .i64 P,.int .i64 s] 23;have S0:=((BS.start w).alloc (.cells #[.int .i64 t,.int .i64 P,.int .i64 s] 23))
 have hK3:2+K < N:=zo;generalize hk2:2+K=k2 at*
 have hFL:refL N i0 i1 K P=((((List.replicate N (0:Int)).set 0 P).set k2 1).set i0 (1+16*P)).set i1 1:=by unfold refL;rw [hk2]
 rw [hFL];generalize hiv:(1+16*(P:Int))=iv at*
 clear H1 hcf hr hN h0 h1 hK hK2 hk2 hFL hiv;go_enter func76,ntmps76;go_wp2_with fail;refine zM (jF S0 (HH1.out _)) ?_;rintro w1 ⟨S1,S1l⟩;have c1:=jc S1l zT c0;clear S1l;have l1:=(S1.ls w.heap.size zT).1;go_upto_region 4 with fail
 refine j5 ?_;intro wm hwm;have RM:wm.ownsRow 0 44 1 (.slice (some ⟨w1.heap.size,0,none⟩) N N) N (yP (List.replicate N 0)):=by rw [hwm];exact row_made w1 N zo
 have S1a:BS w [w1.heap.size,w.heap.size] wm:=by rw [hwm];exact S1.alloc _
 have c1a:∀o:Nat,wm.cell? ⟨w.heap.size,o,none⟩=(#[.int .i64 t,.int .i64 P,.int .i64 s]:Array Value)[o]? :=by rw [hwm];exact jC _ l1 c1
 have S2:=S1a.setCell (L:=w1.heap.size) zT 0 (.int .u32 P);have R2:=(RM.stored 0 (.int .u32 P)).1;obtain ⟨z0,q0⟩:=QI RM (i:=0) zo;have f0:=RM.frozenAt 0;rw [KJ] at R2;have c2:∀o:Nat,(wm.setCell ⟨w1.heap.size,0,none⟩ (.int .u32 P)).cell? ⟨w.heap.size,o,none⟩=(#[.int .i64 t,.int .i64 P,.int .i64 s]:Array Value)[o]? :=fun o=>(World.cell?_of_block (a:=⟨w.heap.size,o,none⟩) (ji (L:=w1.heap.size) (M:=w.heap.size) zo)).trans (c1a o);clear RM hwm hmk;go_wp2_with fail;refine zM (jF S2 (HBo.out _)) ?_;rintro w3 ⟨S3,S3l⟩;have c3:=jc S3l zT c2;have R3:=kL S3l (fun k hk=>by simp [Value.ownBlock] at hk;simp [hk]) R2;clear S3l;clear S0 S1 S1a S2 R2 c0 c1 c1a c2 q0 f0;go_wp2_with fail;refine zM (jF S3 (HBi.out _)) ?_;rintro w4 ⟨S4,S4l⟩;have c4:=jc S4l zT c3;have R4:=kL S4l (fun k hk=>by simp [Value.ownBlock] at hk;simp [hk]) R3;clear S4l;obtain ⟨z4,q4⟩:=QI R4 hK3;have f4:=R4.frozenAt k2;have S5:=S4.setCell (L:=w1.heap.size) zT k2 (.int .u32 1);have R5:=(R4.stored k2 (.int .u32 1)).1;rw [KJ] at R5;have c5:∀o:Nat,(w4.setCell ⟨w1.heap.size,k2,none⟩ (.int .u32 1)).cell? ⟨w.heap.size,o,none⟩=(#[.int .i64 t,.int .i64 P,.int .i64 s]:Array Value)[o]? :=fun o=>(World.cell?_of_block (a:=⟨w.heap.size,o,none⟩) (ji (L:=w1.heap.size) (M:=w.heap.size) zo)).trans (c4 o);clear S3 R3 c3;go_wp2_with fail;have hiN:∀i:Nat,i < N->(i:Int) < N:=fun i hi=>by omega
 have hj0:=hiN i0 hi0;have hj1:=hiN i1 hi1;refine Vj (zP c5) fun hHeld=> ?_;refine wT 0 ?_;refine wY ?_;refine wR 2 fun K hK=> ?_;go_simp;refine zM (jF S5.drew (HIn.out _)) ?_;rintro w6 ⟨S6,S6l⟩;have c6:=jc S6l zT hHeld;have R6:=kL S6l (fun k hk=>by simp [Value.ownBlock] at hk;simp [hk]) (je (w':=(w4.setCell ⟨w1.heap.size,k2,none⟩ (.int .u32 1)).drew) R5 (fun _ _=>rfl));clear S6l;dsimp only;refine wK hK (c6) fun hHeld=> ?_;clear hK K;refine wR 5 fun K hK=> ?_;go_simp;refine zM (jF S6 (HVa.out _)) ?_;rintro w7 ⟨S7,S7l⟩;have c7:=jc S7l zT hHeld;have R7:=kL S7l (fun k hk=>by simp [Value.ownBlock] at hk;simp [hk]) R6;clear S7l;dsimp only;refine wK hK (c7) fun hHeld=> ?_;clear hK K;refine wY ?_;refine wR 7 fun K hK=> ?_;obtain ⟨z7,q7⟩:=QI R7 hi0;have f7:=R7.frozenAt i0;go_simp;have c8:∀o:Nat,(w7.setCell ⟨w1.heap.size,i0,none⟩ (.int .u32 iv)).cell? ⟨w.heap.size,o,none⟩=(#[.int .i64 t,.int .i64 P,.int .i64 s]:Array Value)[o]? :=fun o=>(World.cell?_of_block (a:=⟨w.heap.size,o,none⟩) (ji (L:=w1.heap.size) (M:=w.heap.size) zo)).trans (c7 o);refine wK hK (c8) fun hHeld=> ?_;clear hK K;refine wD ?_;have R8:=(R7.stored i0 (.int .u32 iv)).1;rw [KJ] at R8;have S8:=S7.setCell (L:=w1.heap.size) zT i0 (.int .u32 iv);go_wp2_with fail;refine zM (jF S8 (HFo.out _)) ?_;rintro w9 ⟨S9,S9l⟩;have c9:=jc S9l zT c8;have R9:=kL S9l (fun k hk=>by simp [Value.ownBlock] at hk;simp [hk]) R8;clear S9l;obtain ⟨z9,q9⟩:=QI R9 hi1;have f9:=R9.frozenAt i1;have R10:=(R9.stored i1 (.int .u32 1)).1;rw [KJ] at R10;have S10:=S9.setCell (L:=w1.heap.size) zT i1 (.int .u32 1);clear R4 R5 R6 R7 R8 S4 S5 S6 S7 S8 c4 c5 c6 c7 c8 q4 q7 f4 f7;go_wp2;go_ret;refine ⟨_,rfl,?_,fun k hk=> ?_,S10.bel⟩
 ·simpa using R10
 ·simp [Value.ownBlock] at hk;subst hk;exact (S9.ls w1.heap.size zT).2

def Jr (l src:List Int) (off:Nat):Nat->List Int
 | 0=>l
 | k+1=>(Jr l src off k).set (off+k) (src.getD k 0)
theorem Jq (l src:List Int) (off:Nat):∀k,(Jr l src off k).length=l.length
 | 0=>rfl
 | k+1=>by simp [Jr,Jq l src off k]
theorem jaa (l src:List Int) (off:Nat):∀k j,(Jr l src off k)[j]? =if off<=j/\j < off+k/\j < l.length then some (src.getD (j - off) 0) else l[j]?
 | 0,j=>by rw [if_neg zo];rfl
 | k+1,j=>by
  unfold Jr;by_cases h:off+k=j
  ·subst h;by_cases h2:off+k < l.length
   ·rw [List.getElem?_set_self (by rw [Jq];exact h2),if_pos zo,show off+k - off=k by omega]
   ·rw [List.getElem?_eq_none (by rw [List.length_set,Jq];omega),if_neg zo,List.getElem?_eq_none zo]
  ·rw [List.getElem?_set_ne h,jaa l src off k j];by_cases h3:off<=j/\j < off+k/\j < l.length
   ·rw [if_pos h3,if_pos zo]
   ·rw [if_neg h3,if_neg zo]
def V3 (N:Nat) (h v:List Int):List Int:=Jr ((Jr (List.replicate N 0) h 0 8).set 8 4294967296) v 16 v.length
theorem jbX (N:Nat) (h v:List Int):(V3 N h v).length=N:=by simp [V3,Jq]
theorem copied (N:Nat) (h:List Int) (hh:h.length=8) (hN:8<=N):h++(List.replicate N (0:Int)).drop 8=Jr (List.replicate N 0) h 0 8:=by
 apply List.ext_getElem?;intro j;rw [jaa,List.getElem?_append];by_cases hj:j < 8
 ·rw [if_pos zo,if_pos (by simp;omega)];simp [hh,hj]
 ·rw [if_neg zo,if_neg zo,List.getElem?_drop];congr 1;omega
theorem uset (l:List Int) (i:Nat) (v:Int):(kA l).set i (.int .u64 v)=kA (l.set i v):=by simp [kA,List.map_set]
theorem row_at {w:World} {g n:Nat} {l:List Int} (hg:w.heap[g]? =some (.cells (kA l).toArray 38)) (hn:l.length=n) (h:n<=1000000):w.ownsRow 0 38 1 (.slice (some ⟨g,0,none⟩) n n) n (kA l):=by
 refine ⟨by simpa [kA] using hn,Or.inr ⟨g,n,(kA l).toArray,rfl,Nat.zero_le _,hg,Nat.le_refl _,by unfold maxLen;omega,by simpa [kA] using hn,?_⟩⟩;have:(kA l).length=n:=by simpa [kA] using hn
 simp [<-this]
theorem lcell {w:World} {g c n:Nat} {l:List Int} (h:w.ownsRow 0 38 1 (.slice (some ⟨g,0,none⟩) n c) n (kA l)) {i:Nat} (hi:i < n):∃z,w.cell? ⟨g,i,none⟩=some z:=by
 refine ⟨_,(h.cellAt i zo).trans (List.getElem?_eq_getElem ?_)⟩;have:=h.1;omega
theorem jcQ (N:Nat):madeCells #[.int .u64 0] N=(kA (List.replicate N 0)).toArray:=by
 apply Array.ext';simp [madeCells,kA,Nat.mod_one];exact List.eq_replicate_iff.2 ⟨zT,zT⟩
def FwRel (w:World) (t p s:Int) (N C:Nat) (l l2:List Int) (g1 gv cv:Nat) (i:Value) (wr:World):Prop:=
 ∃k:Nat,k<=C/\i= .int .i64 k/\wr.ownsRow 0 38 1 (.slice (some ⟨g1,0,none⟩) N N) N (kA (Jr l2 l 16 k))/\wr.ownsRow 0 44 1 (.slice (some ⟨gv,0,none⟩) C cv) C (yP l)/\
  (∀o:Nat,wr.cell? ⟨w.heap.size,o,none⟩=(#[.int .i64 t,.int .i64 p,.int .i64 s]:Array Value)[o]?)/\BS w [gv,g1,w.heap.size] wr

def RwRelA (w:World) (t p s:Int) (N:Nat) (hd:List Int) (g1 gh ch:Nat) (i:Value) (wr:World):Prop:=
 ∃k:Nat,k<=8/\i= .int .i64 k/\wr.ownsRow 0 38 1 (.slice (some ⟨g1,0,none⟩) N N) N (kA (Jr (List.replicate N 0) hd 0 k))/\wr.ownsRow 0 38 1 (.slice (some ⟨gh,0,none⟩) 8 ch) 8 (kA hd)/\
  (∀o:Nat,wr.cell? ⟨w.heap.size,o,none⟩=(#[.int .i64 t,.int .i64 p,.int .i64 s]:Array Value)[o]?)/\BS w [gh,g1,w.heap.size] wr
theorem YD (t p s x:Nat) (N C:Nat) (l:List Int) (w:World) (hr:jq t p s=true) (hx:t+p*65536+s*4294967296=x) (hn:qM t p=(N:Int)) (hc:jo t p=(C:Int)) (hl:l.length=C) (hu:∀x∈l,0<=x/\x < 4294967296)
 (hV:∀w,Calls prog 76 #[.agg #[.int .i64 t,.int .i64 p,.int .i64 s]] w (ValsP w l)) :
 Calls prog 34 #[.agg #[.int .i64 t,.int .i64 p,.int .i64 s]] w (jfJ w (V3 N (XX x N) l)):=by
 obtain ⟨b1,b2,b3,b4,b5,b6⟩:=jt hr;have HW:=zh (fun w=>JT t p s w hr);rw [hn] at HW;have HE:=zh (fun w=>Vu t p s x N w hr hx hn);have HV:=zh hV;have HT:=zh rjoin10;have HU:=zh hu;have hNC:C+16<=N/\N<=100000:=by unfold qM jO at hn;unfold jo at hn hc;omega
 have hC:0 < C:=by unfold jo at hc;omega
 have hhl:(XX x N).length=8:=rfl;have hWL:V3 N (XX x N) l=Jr ((Jr (List.replicate N 0) (XX x N) 0 8).set 8 4294967296) l 16 C:=by rw [<-hl];rfl
 rw [hWL];generalize hHd:XX x (N:Int)=hd at*
 have hmk:∀w:World,(Instr.makeSlice 24 (.int .i64 (N:Int)) (.int .i64 (N:Int))).run prog w= .ok (.slice (some ⟨w.heap.size,0,none⟩) N N) (w.alloc (.cells (madeCells #[.int .u64 0] N) 38)):=run_make_row' (P:=prog) 24 38 (.int .u64 0) 8 underlying24 ja5 rfl .i64 .i64 N zo zo;have hnb:((N:Int) == 0)=false:=by simp;omega
 have c0:=jp w #[.int .i64 t,.int .i64 p,.int .i64 s] 23;have S0:=((BS.start w).alloc (.cells #[.int .i64 t,.int .i64 p,.int .i64 s] 23))
 clear hV hr hx hn hc hu hWL hHd;go_enter func34,ntmps34;go_wp2_with fail;refine zM (jF S0 (HW.out _)) ?_;rintro w1 ⟨S1,S1l⟩;have c1:=jc S1l zT c0;clear S1l;have l1':=(S1.ls w.heap.size zT).1;have g1:(w1.alloc (.cells (madeCells #[.int .u64 0] N) 38)).heap[w1.heap.size]? =some (.cells (kA (List.replicate N 0)).toArray 38):=by rw [jcQ];exact heap_alloc_new w1 _
 have Rm:=row_at g1 (show (List.replicate N (0:Int)).length=N by simp) zo;have S1a:=S1.alloc (.cells (madeCells #[.int .u64 0] N) 38);have c1a:=jC (.cells (madeCells #[.int .u64 0] N) 38) (S1.ls w.heap.size zT).1 c1;go_wp2_with fail;refine (HE.out _).mono ?_;rintro e w2 ⟨v,rfl,R,hf,b2⟩;rw [hhl] at R;obtain ⟨gh,ch,rfl⟩:=Joins.ownsRow_form R zo;have S2:=S1a.below b2;have c2:=((BS.start _).below b2).oldbox c1a (S1a.ls w.heap.size zT).1;have R2:=((BS.start _).below b2).row Rm;have hgh:w1.heap.size < gh:=by have:=hf gh rfl;simp at this;omega
 have S2b:BS w [gh,w1.heap.size,w.heap.size] w2:=⟨S2.bel,fun L hL=>by
  simp at hL;rcases hL with rfl | rfl | rfl
  ·exact ⟨jn R rfl,zo⟩
  ·exact S2.ls _ zT
  ·exact S2.ls _ zT⟩
 have HR:RwRelA w t p s N hd w1.heap.size gh ch (.int .i64 0) w2:=⟨0,zo,rfl,R2,R,c2,S2b⟩
 have hne:w1.heap.size≠w.heap.size:=zo;have hgw:gh≠w1.heap.size:=zo;have hgw2:gh≠w.heap.size:=zo;have hg1w:w.heap.size<=w1.heap.size:=zo;clear R2 R c2 S2b S2 b2 hf S1a c1a Rm g1 S1 c1 S0 c0 HW HE hmk l1' hgh;generalize w1.heap.size=g1 at*
 go_wp2;go_loopw [5] (fun i wr=>RwRelA w t p s N hd g1 gh ch i wr) (fun i _=>8 - (intOf i).toNat);case atStart=>exact HR
 case round=>
  clear HR;obtain ⟨k,hk,rfl,R8,RH8,c8,S8⟩:=hrel;by_cases hlt:k < 8
  ·have q0:=RH8.cellAt k zo;have hyk:(kA hd)[k]? =some (.int .u64 (hd.getD k 0)):=by simp [kA,hhl,hlt]
   rw [hyk] at q0;obtain ⟨z1,q1⟩:=lcell R8 (i:=k) zo;have f1:=R8.frozenAt k;have hfk:Jr (List.replicate N 0) hd 0 (k+1)=(Jr (List.replicate N 0) hd 0 k).set k (hd.getD k 0):=by simp [Jr]
   have HFk:=zh hfk;clear hyk hfk;generalize hd.getD k 0=y at*
   have R11:=(R8.stored k (.int .u64 y)).1;rw [uset] at R11;have S11:=S8.setCell (L:=g1) zT k (.int .u64 y);have RH11:=je (w':=wr.setCell ⟨g1,k,none⟩ (.int .u64 y)) RH8 (fun b hb=>by simp [Value.ownBlock] at hb;subst hb;exact ji (L:=g1) zo);have c11:∀o:Nat,(wr.setCell ⟨g1,k,none⟩ (.int .u64 y)).cell? ⟨w.heap.size,o,none⟩=(#[.int .i64 t,.int .i64 p,.int .i64 s]:Array Value)[o]? :=fun o=>(World.cell?_of_block (a:=⟨w.heap.size,o,none⟩) (ji (L:=g1) (M:=w.heap.size) zo)).trans (c8 o);have HRR:=zh (And.intro R11 (And.intro RH11 (And.intro c11 S11)));have hkN:(k:Int) < N:=zo;clear R11 RH11 c11 S11 R8 RH8 S8 c8;go_wp2;go_roundw;case rel=>exact ⟨k+1,zo,by go_num,by rw [HFk.out];exact HRR.out.1,HRR.out.2.1,HRR.out.2.2.1,HRR.out.2.2.2⟩
   case measure=>simp [intOf];omega
  ·have h32:k=8:=zo;rw [h32] at R8;have HK:=zh h32;generalize hL1:Jr (List.replicate N 0) hd 0 8=l1 at*
   have hl1:l1.length=N:=by rw [<-hL1,Jq];simp
   clear hL1 RH8 h32;go_wp2_with fail;refine zM (HT.out _) fun w3 b3=> ?_;have S3:=S8.below b3;have R3:=((BS.start _).below b3).row R8;have c3:=((BS.start _).below b3).oldbox c8 (S8.ls w.heap.size zT).1;obtain ⟨z3,q3⟩:=lcell R3 (i:=8) zo;have f3:=R3.frozenAt 8;have S4:=S3.setCell (L:=g1) zT 8 (.int .u64 4294967296);have R4:=(R3.stored 8 (.int .u64 4294967296)).1;rw [uset] at R4;have c4:∀o:Nat,(w3.setCell ⟨g1,8,none⟩ (.int .u64 4294967296)).cell? ⟨w.heap.size,o,none⟩=(#[.int .i64 t,.int .i64 p,.int .i64 s]:Array Value)[o]? :=fun o=>(World.cell?_of_block (a:=⟨w.heap.size,o,none⟩) (ji (L:=g1) (M:=w.heap.size) zo)).trans (c3 o);clear S8 R8 c8 b3;go_wp2_with fail;clear q3 f3 S3 R3 c3;refine (HV.out _).mono ?_;rintro e w6 ⟨v,rfl,RV,hfv,b6⟩;rw [hl] at RV;obtain ⟨gv,cv,rfl⟩:=Joins.ownsRow_form RV zo;have S6:=S4.below b6;have R6:=((BS.start _).below b6).row R4;have c6:=((BS.start _).below b6).oldbox c4 (S4.ls w.heap.size zT).1;have hgv:g1 < gv:=by have:=hfv gv rfl;have:=(S4.ls g1 zT).1;omega
   have S7:BS w [gv,g1,w.heap.size] w6:=⟨S6.bel,fun L hL=>by
    simp at hL;rcases hL with rfl | rfl | rfl
    ·exact ⟨jn RV rfl,by have:=S4.bel.size;have:=hfv _ rfl;omega⟩
    ·exact S6.ls _ zT
    ·exact S6.ls _ zT⟩
   have HR:FwRel w t p s N C l (l1.set 8 4294967296) g1 gv cv (.int .i64 0) w6:=⟨0,zo,rfl,R6,RV,c6,S7⟩
   have hgw3:gv≠g1:=zo;have hgw4:gv≠w.heap.size:=zo;have hll:(l1.set 8 4294967296).length=N:=by simp [hl1]
   clear S4 R4 c4 S6 b6 hfv R6 RV c6 S7 HV HT hgv;generalize l1.set 8 4294967296=l2 at*
   go_wp2;go_loopw [7] (fun i wr=>FwRel w t p s N C l l2 g1 gv cv i wr) (fun i _=>C - (intOf i).toNat);case atStart=>exact HR
   case round=>
    clear HR;obtain ⟨k2,hk2,rfl,R8,RV8,c8,S8⟩:=hrel;by_cases hlt2:k2 < C
    ·have hy:=HU.out (l.getD k2 0) (by rw [List.getD_eq_getElem?_getD,List.getElem?_eq_getElem zo];exact List.getElem_mem _);have v8:wr.cell? ⟨gv,k2,none⟩=some (.int .u32 (l.getD k2 0)):=by
      rw [RV8.cellAt k2 zo];simp [yP,hl,hlt2]
     have hfk:Jr l2 l 16 (k2+1)=(Jr l2 l 16 k2).set (16+k2) (l.getD k2 0):=rfl;have HFk:=zh hfk;have hk16:(16:Int)+k2=((16+k2:Nat):Int):=zo;have hwr:IntKind.i64.wrap ((16:Int)+k2)=((16+k2:Nat):Int):=by rw [hk16];exact IntWalk.i64_in _ zo
     have hkN:16+k2 < N:=zo;have hkN2:((16+k2:Nat):Int) < N:=zo;have hwy:IntKind.u64.wrap (l.getD k2 0)=l.getD k2 0:=j7 _ zo zo;clear hfk hy HU;generalize l.getD k2 0=y at*
     generalize hf1:Jr l2 l 16 k2=f1 at*
     generalize 16+k2=k3 at*
     obtain ⟨z1,q1⟩:=lcell R8 hkN;have f8:=R8.frozenAt k3;have R11:=(R8.stored k3 (.int .u64 y)).1;rw [uset] at R11;have S11:=S8.setCell (L:=g1) zT k3 (.int .u64 y);have RV11:=je (w':=wr.setCell ⟨g1,k3,none⟩ (.int .u64 y)) RV8 (fun b hb=>by simp [Value.ownBlock] at hb;subst hb;exact ji (L:=g1) zo);have c11:∀o:Nat,(wr.setCell ⟨g1,k3,none⟩ (.int .u64 y)).cell? ⟨w.heap.size,o,none⟩=(#[.int .i64 t,.int .i64 p,.int .i64 s]:Array Value)[o]? :=fun o=>(World.cell?_of_block (a:=⟨w.heap.size,o,none⟩) (ji (L:=g1) (M:=w.heap.size) zo)).trans (c8 o);have HRR:=zh (And.intro R11 (And.intro RV11 (And.intro c11 S11)));clear R11 RV11 c11 S11 R8 RV8 S8 c8;go_wp2;go_roundw;case rel=>exact ⟨k2+1,zo,by go_num,by rw [HFk.out];exact HRR.out.1,HRR.out.2.1,HRR.out.2.2.1,HRR.out.2.2.2⟩
     case measure=>simp [intOf];omega
    ·obtain rfl:k2=C:=by omega
     go_wp2;go_ret;refine ⟨_,rfl,?_,fun k hk=> ?_,S8.bel⟩
     ·have:(Jr l2 l 16 k2).length=N:=by rw [Jq];exact hll
      rw [this];exact R8
     ·simp [Value.ownBlock] at hk;subst hk;exact (S8.ls g1 zT).2

def xN8:Nat:=1+8*65536+10*4294967296
def frL8:List Int:=refL 82 34 77 3 8
def WN8:List Int:=V3 344 (XX xN8 344) frL8
theorem JR:WN8.length=344:=jbX _ _ _
theorem jam:∀x∈WN8,U64 x:=by
 have h:(WN8.all fun x=>decide (0<=x/\x<=18446744073709551615))=true:=by decide+kernel
 intro x hx;have:=List.all_eq_true.1 h x hx;simp at this;exact ⟨zo,zo⟩
def m8:NM:=⟨WN8,WN8,[]⟩
theorem m8_inv:m8.Inv where
 kl:=rfl
 pos:=by
  have h:=JR;unfold m8;dsimp only;omega
 small:=by
  have h:=JR;unfold m8;dsimp only;omega
 oct:=by
  have h:=JR;unfold m8;dsimp only;omega
 wu:=jam;ku:=jam;nd:=List.nodup_nil;pb:=fun p hp=>by cases hp
theorem run8:∀k,k < 10->(jN 1 8 (jbn 1 8 10 (TS.begin,m8) k).1).map (·.1)=some 1:=by decide+kernel
theorem end8:(jbn 1 8 10 (TS.begin,m8) 10).1.ph=19/\(jbn 1 8 10 (TS.begin,m8) 10).1.page=8/\(jbn 1 8 10 (TS.begin,m8) 10).1.made=0:=by decide+kernel
theorem jdW:∀k,k<=10->(jbn 1 8 10 (TS.begin,m8) k).2=m8
 | 0,_=>rfl
 | k+1,h=>by
  have ih:=jdW k zo;have hn:=run8 k zo;obtain ⟨y,hy,he⟩:=Option.map_eq_some_iff.1 hn;obtain ⟨d,a,v⟩:=y;dsimp only at he;subst he;show (nxt 1 8 10 (jbn 1 8 10 (TS.begin,m8) k)).2=m8;unfold nxt;rw [hy];dsimp only;rw [yv];exact ih
theorem run8_two:∀k,k < 10->(jbn 1 8 10 (TS.begin,m8) k).1.ph≠2:=by decide+kernel
theorem tip8:QF (m8.load 8).1=some (1,0):=by decide+kernel
theorem vok8 {k:Nat} (hk:k < 10) {d a v:Int} (hn:jN 1 8 (jbn 1 8 10 (TS.begin,m8) k).1=some (d,a,v)):VOK 1 8 (jbn 1 8 10 (TS.begin,m8) k).1 (doM 1 (jbn 1 8 10 (TS.begin,m8) k).2 d a v).1:=by
 rw [jdW k zo];refine ⟨jfv m8_inv d a v,fun hp=> ?_,fun hp=>absurd hp (run8_two k hk)⟩;have e:jN 1 8 (jbn 1 8 10 (TS.begin,m8) k).1=some (1,8,0):=by unfold jN;rw [hp];rfl
 rw [e] at hn;cases hn;exact ⟨1,0,by rw [yv];exact tip8,zd,zd,zd,zd⟩

section
variable {w0 w:World} {S:Nat->Prop} {b:Nat} {t p s:Int} {Ls:List (Nat×Obj)}
theorem mu_bd {x:TS} (hr:jq t p s=true) (h:JG t p x) (hp:x.ph=0):(mu t p x:Int)<=11000000:=by
 have hb:=jt hr;have hm:=jV hr;have e:mu t p x=400+(p.toNat - x.page)*(410+(jo t p).toNat):=by simp [mu,hp]
 have h1:(p.toNat - x.page)*(410+(jo t p).toNat)<=1024*10410:=Nat.mul_le_mul zo zo;rw [e];omega
theorem told_st {x:TS} {v:Int} (hr:jq t p s=true) (h:MS w0 S b t p s x w) (hp:x.ph≠19) (hv:VOK t p x v):StB t p (jv t p s v x):=by
 have hl:=(QX (z:=s) h.inv hp v).2;have hst:=h.st;unfold StB;rcases Nat.eq_zero_or_pos x.ph with h0 | h0
 ·obtain ⟨s0,u,ht,-,-,hs0⟩:=hv.tip h0;have hm:=mu_bd hr h.inv h0;have e:(jv t p s v x).s=s0:=by rw [jdF h0 ht];rfl
  rw [e];omega
 ·have:=told_s t p s v x h0;omega
theorem ms_told {x:TS} {v:Int} {ok:Bool} (h:MS w0 S b t p s x w) (hr:jq t p s=true) (hp:x.ph≠19) (hv:VOK t p x v) :
 Calls prog 54 #[.pointer (some ⟨b,0,none⟩),.int .u64 v,.bool ok] w fun e w'=>e= .returned (.tuple #[])/\MS w0 S b t p s (jv t p s v x) w':=by
 have hi:=(QX (z:=s) h.inv hp v).1;have hs:=told_st hr h hp hv;have hph:=h.inv.ph;have hc:x.ph=0\/x.ph=1\/x.ph=2\/x.ph=3\/x.ph=4\/x.ph=5\/(x.ph=6\/x.ph=7\/x.ph=8)\/x.ph=9\/x.ph=10\/x.ph=11\/x.ph=12\/x.ph=13\/x.ph=14\/x.ph=15\/x.ph=16\/x.ph=17\/x.ph=18:=zo;rcases hc with e | e | e | e | e | e | e | e | e | e | e | e | e | e | e | e | e
 ·exact told_0 h hr e hv hi hs
 ·exact told_1 h hr e hv.u hi hs
 ·exact told_2 h hr e hv hi hs
 ·exact told_3 h hr e hv.u hi hs
 ·exact told_4 h hr e hi hs
 ·exact told_5 h e hi hs
 ·exact told_678 h e hi hs
 ·exact told_9 h hr e hi hs
 ·exact told_10 h hr e hv.u hi hs
 ·exact told_11 h e hi hs
 ·exact told_12 h e hi hs
 ·exact Vl (j:=0) h e zo hi hs
 ·exact Vl (j:=1) h e zo hi hs
 ·exact Vl (j:=2) h e zo hi hs
 ·exact told_16 h e hi hs
 ·exact Vl (j:=4) h e zo hi hs
 ·exact told_18 h hr e hi hs
theorem QN {l:List Stp} {k:Nat} {y:Stp} (h:l[k]? =some y):l.drop k=y :: l.drop (k+1):=by
 obtain ⟨h1,h2⟩:=List.getElem?_eq_some_iff.1 h;rw [List.drop_eq_getElem_cons h1,h2]
theorem flC_at {x:TS} {i:Nat} {y:Int×Int} (h:x.l[i]? =some y):(flC t p x)[i]? =some ⟨4,16+y.1,0,.nilFunc⟩:=by
 have hi:=(List.getElem?_eq_some_iff.1 h).1;unfold flC;rw [List.append_assoc,List.getElem?_append_left (by simpa [flF] using hi)];simp [flF,h]
theorem QM (x:TS) (j:Nat):(flC t p x).drop (x.l.length+j)=(⟨5,0,0,.nilFunc⟩ :: clF (jz t p x.u) (YC x.note):List Stp).drop j:=by
 unfold flC;rw [List.append_assoc,show x.l.length=(flF x.l).length by simp [flF],List.drop_append];simp
theorem lgC_at {st:Int} {wr:List (Int×Int)} {kx i:Nat} {y:Int×Int} (h:wr[i]? =some y):(lgC t p st wr kx)[i]? =some ⟨2,ky t p t i,kg y.1 y.2,.nilFunc⟩:=by
 have hi:=(List.getElem?_eq_some_iff.1 h).1;unfold lgC;rw [List.append_assoc,List.getElem?_append_left (by simpa [lgF] using hi)];simp [lgF,h]
theorem lgC_fl {st:Int} {wr:List (Int×Int)} {kx j:Nat} (h:8*j < wr.length):(lgC t p st wr kx)[wr.length+j]? =some ⟨4,ky t p t (8*j:Nat),0,.nilFunc⟩:=by
 unfold lgC;rw [List.append_assoc,List.getElem?_append_right (by simp [lgF]),List.getElem?_append_left (by simp [lgF,fsF];omega)];have hl:(lgF t p wr).length=wr.length:=by simp [lgF]
 rw [hl,show wr.length+j - wr.length=j by omega];have hj:j < (wr.length+7) / 8:=zo;simp only [fsF,List.getElem?_map,List.getElem?_range hj,Option.map_some]
theorem ms_head {x:TS} (hr:jq t p s=true) (h:MS w0 S b t p s x w) (hp:x.ph≠19):∃Ls rest q d a v told st md pg,QW w0 S b t p s Ls rest st md pg (⟨d,a,v,told⟩ :: q) w/\jN t p x=some (d,a,v):=by
 have hrb:=jt hr;have hph:=h.inv.ph;have h3:=h.inv.h3;have hhi:=h.inv.hi;have hn:=h.inv.n;have hm:=h.mr;unfold MR at hm;have hc:x.ph=0\/x.ph=1\/x.ph=2\/x.ph=3\/x.ph=4\/x.ph=5\/x.ph=6\/x.ph=7\/x.ph=8\/x.ph=9\/x.ph=10\/x.ph=11\/x.ph=12\/x.ph=13\/x.ph=14\/x.ph=15\/x.ph=16\/x.ph=17\/x.ph=18:=zo;have hcell:∀y:Int×Int,(0<=y.1/\y.1 < jo t p)->jae t p y.1=16+y.1:=fun y hy=>by unfold jae;rw [if_pos hy]
 have hnote:0<=x.u/\x.u<=t->JM t p x.u=jz t p x.u:=fun hy=>by unfold JM;rw [if_pos hy]
 have hnt:JM t p t=jz t p t:=by unfold JM;rw [if_pos zo]
 rcases hc with e | e | e | e | e | e | e | e | e | e | e | e | e | e | e | e | e | e | e <;> rw [e] at hm
 ·obtain ⟨Ls,hq⟩:=hm;exact ⟨_,_,_,_,_,_,_,_,_,_,hq,by unfold jN;rw [e];rfl⟩
 ·obtain ⟨hu,Ls,ks,kx,ku,-,-,-,hq⟩:=hm;exact ⟨_,_,_,_,_,_,_,_,_,_,hq,by unfold jN;rw [e,hnote hu];rfl⟩
 ·obtain ⟨hd,Ls,kx,ku,kn,kl,g,N,bs,hN,hbl,-,-,-,-,-,-,hq⟩:=hm;obtain ⟨hil,hin⟩:=h.inv.h2 e;have hib:x.i < bs.length:=zo;have hget:(ldF t p x.u kl bs)[x.i]? =some ⟨1,ky t p x.u x.i,0,r1V kl bs[x.i]⟩:=by simp [ldF,hib]
  rw [QN hget] at hq;have hlog:VL t p x.u x.i=ky t p x.u x.i:=by unfold VL;rw [if_pos ⟨hd.u0,hd.u1,zo,zo⟩]
  exact ⟨_,_,_,_,_,_,_,_,_,_,hq,by unfold jN;rw [e,hlog];rfl⟩
 ·obtain ⟨hd,Ls,k0,kl,kx,ku,kn,kb,y,r,js,jx,ja,jl,jb,hy,ht,hcc,hq⟩:=hm;have hy':x.l[x.i]? =some y:=by rw [<-List.head?_drop,hy];rfl
  refine ⟨_,_,_,_,_,_,_,_,_,_,hq,?_⟩;have hg:x.l.getD x.i (0,0)=y:=by rw [List.getD_eq_getElem?_getD,hy'];rfl
  unfold jN;rw [e,hg,hcell y (hd.l.2 y (List.mem_of_getElem? hy')).1];rfl
 ·obtain ⟨hd,Ls,k0,kl,kx,ku,kn,kb,y,r,js,jx,ja,jl,jb,hy,ht,hcc,hq⟩:=hm;have hy':x.l[x.i]? =some y:=by rw [<-List.head?_drop,hy];rfl
  refine ⟨_,_,_,_,_,_,_,_,_,_,hq,?_⟩;have hg:x.l.getD x.i (0,0)=y:=by rw [List.getD_eq_getElem?_getD,hy'];rfl
  unfold jN;rw [e,hg,hcell y (hd.l.2 y (List.mem_of_getElem? hy')).1];rfl
 ·obtain ⟨hd,Ls,k0,m0,hq⟩:=hm;have hlt:=h3 zo;obtain ⟨y,hy'⟩:∃y,x.l[x.i]? =some y:=⟨_,List.getElem?_eq_getElem hlt⟩
  rw [QN (flC_at hy')] at hq;refine ⟨_,_,_,_,_,_,_,_,_,_,hq,?_⟩;have hg:x.l.getD x.i (0,0)=y:=by rw [List.getD_eq_getElem?_getD,hy'];rfl
  unfold jN;rw [e,hg,hcell y (hd.l.2 y (List.mem_of_getElem? hy')).1];rfl
 ·obtain ⟨hd,Ls,k0,m0,hq⟩:=hm;have e2:=QM (t:=t) (p:=p) x 0;rw [Nat.add_zero] at e2;rw [e2] at hq;exact ⟨_,_,_,_,_,_,_,_,_,_,hq,by unfold jN;rw [e];rfl⟩
 ·obtain ⟨hd,Ls,k0,m0,hq⟩:=hm;rw [QM] at hq;exact ⟨_,_,_,_,_,_,_,_,_,_,hq,by unfold jN;rw [e,hnote ⟨hd.u0,hd.u1⟩];rfl⟩
 ·obtain ⟨hd,Ls,k0,m0,hq⟩:=hm;rw [QM] at hq;exact ⟨_,_,_,_,_,_,_,_,_,_,hq,by unfold jN;rw [e,hnote ⟨hd.u0,hd.u1⟩];rfl⟩
 ·obtain ⟨hd,Ls,k0,m0,hq⟩:=hm;rw [QM] at hq;exact ⟨_,_,_,_,_,_,_,_,_,_,hq,by unfold jN;rw [e];rfl⟩
 ·obtain ⟨hnd,hok,Ls,kx,kk,kt,kv,wv,m1,m2,m3,m4,hq⟩:=hm;exact ⟨_,_,_,_,_,_,_,_,_,_,hq,by unfold jN;rw [e,hcell (x.need,0) hnd];rfl⟩
 ·obtain ⟨hW,Ls,kx,kz,kn,kl,a,c,st,m1,m2,m3,m4,m5,hb,hc,-,hq⟩:=hm;have hq':QW w0 S b t p s Ls (Vf kx kz kn kl) x.s x.made x.page ((lgC t p st x.wr kx).drop x.i) w:=hq;have hlt:=hhi zo;obtain ⟨y,hy'⟩:∃y,x.wr[x.i]? =some y:=⟨_,List.getElem?_eq_getElem hlt⟩
  rw [QN (lgC_at hy')] at hq';refine ⟨_,_,_,_,_,_,_,_,_,_,hq',?_⟩;have hg:x.wr.getD x.i (0,0)=y:=by rw [List.getD_eq_getElem?_getD,hy'];rfl
  have:=hW.1;have hlog:VL t p t x.i=ky t p t x.i:=by unfold VL;rw [if_pos ⟨zo,zo,zo,zo⟩]
  unfold jN;rw [e,hg,hlog];rfl
 ·obtain ⟨hW,Ls,kx,kz,kn,kl,a,c,st,m1,m2,m3,m4,m5,hb,hc,h8,hq⟩:=hm;have hq':QW w0 S b t p s Ls (Vf kx kz kn kl) x.s x.made x.page ((lgC t p st x.wr kx).drop (x.wr.length+x.i / 8)) w:=hq;have hlt:=hhi zo;have h8':=h8 rfl;rw [QN (lgC_fl zo),show 8*(x.i / 8)=x.i by omega] at hq';refine ⟨_,_,_,_,_,_,_,_,_,_,hq',?_⟩;have:=hW.1;have hlog:VL t p t x.i=ky t p t x.i:=by unfold VL;rw [if_pos ⟨zo,zo,zo,zo⟩]
  unfold jN;rw [e,hlog];rfl
 ·obtain ⟨hW,Ls,kx,kz,kn,kl,a,c,st,m1,m2,m3,m4,m5,hb,hc,-,hq⟩:=hm;have hq':QW w0 S b t p s Ls (Vf kx kz kn kl) x.s x.made x.page ((lgC t p st x.wr kx).drop (x.wr.length+(x.wr.length+7) / 8+0)) w:=hq;rw [if_pos zd] at hc;rw [qe] at hq';subst hc;exact ⟨_,_,_,_,_,_,_,_,_,_,hq',by unfold jN;rw [e,hnt];rfl⟩
 ·obtain ⟨hW,Ls,kx,kz,kn,kl,a,c,st,m1,m2,m3,m4,m5,hb,hc,-,hq⟩:=hm;have hq':QW w0 S b t p s Ls (Vf kx kz kn kl) x.s x.made x.page ((lgC t p st x.wr kx).drop (x.wr.length+(x.wr.length+7) / 8+1)) w:=hq;rw [qe] at hq';exact ⟨_,_,_,_,_,_,_,_,_,_,hq',by unfold jN;rw [e,hnt];rfl⟩
 ·obtain ⟨hW,Ls,kx,kz,kn,kl,a,c,st,m1,m2,m3,m4,m5,hb,hc,-,hq⟩:=hm;have hq':QW w0 S b t p s Ls (Vf kx kz kn kl) x.s x.made x.page ((lgC t p st x.wr kx).drop (x.wr.length+(x.wr.length+7) / 8+2)) w:=hq;rw [qe] at hq';exact ⟨_,_,_,_,_,_,_,_,_,_,hq',by unfold jN;rw [e];rfl⟩
 ·obtain ⟨hW,Ls,kx,kz,kn,kl,a,c,st,m1,m2,m3,m4,m5,hb,hc,-,hq⟩:=hm;have hq':QW w0 S b t p s Ls (Vf kx kz kn kl) x.s x.made x.page ((lgC t p st x.wr kx).drop (x.wr.length+(x.wr.length+7) / 8+3)) w:=hq;rw [if_pos zd] at hc;rw [qe] at hq';subst hc;exact ⟨_,_,_,_,_,_,_,_,_,_,hq',by unfold jN;rw [e];rfl⟩
 ·obtain ⟨hW,Ls,kx,kz,kn,kl,a,c,st,m1,m2,m3,m4,m5,hb,hc,-,hq⟩:=hm;have hq':QW w0 S b t p s Ls (Vf kx kz kn kl) x.s x.made x.page ((lgC t p st x.wr kx).drop (x.wr.length+(x.wr.length+7) / 8+4)) w:=hq;rw [qe] at hq';exact ⟨_,_,_,_,_,_,_,_,_,_,hq',by unfold jN;rw [e];rfl⟩
 ·obtain ⟨hW,Ls,kx,kz,kn,kl,a,c,st,m1,m2,m3,m4,m5,hb,hc,-,hq⟩:=hm;have hq':QW w0 S b t p s Ls (Vf kx kz kn kl) x.s x.made x.page ((lgC t p st x.wr kx).drop (x.wr.length+(x.wr.length+7) / 8+5)) w:=hq;rw [qe] at hq';exact ⟨_,_,_,_,_,_,_,_,_,_,hq',by unfold jN;rw [e];rfl⟩
end

theorem MR.imp {w0 w w0' w':World} {S S':Nat->Prop} {b:Nat} {t p s:Int} {x:TS} (hph:x.ph<=19) (f:∀Ls rest st md pg q,QW w0 S b t p s Ls rest st md pg q w->QW w0' S' b t p s Ls rest st md pg q w') (h:MR w0 S b t p s x w):MR w0' S' b t p s x w':=by
 unfold MR at h ⊢;have hc:x.ph=0\/x.ph=1\/x.ph=2\/x.ph=3\/x.ph=4\/x.ph=5\/x.ph=6\/x.ph=7\/x.ph=8\/x.ph=9\/x.ph=10\/x.ph=19\/x.ph=11\/x.ph=12\/x.ph=13\/x.ph=14\/x.ph=15\/x.ph=16\/x.ph=17\/x.ph=18:=zo;rcases hc with e | e | e | e | e | e | e | e | e | e | e | e | e | e | e | e | e | e | e | e <;> rw [e] at h ⊢
 ·obtain ⟨Ls,hq⟩:=h;exact ⟨Ls,f _ _ _ _ _ _ hq⟩
 ·obtain ⟨hu,Ls,ks,kx,ku,m1,m2,m3,hq⟩:=h;exact ⟨hu,Ls,ks,kx,ku,m1,m2,m3,f _ _ _ _ _ _ hq⟩
 ·obtain ⟨hd,Ls,kx,ku,kn,kl,g,N,bs,hN,hbl,m1,m2,m3,m4,m5,m6,hq⟩:=h;exact ⟨hd,Ls,kx,ku,kn,kl,g,N,bs,hN,hbl,m1,m2,m3,m4,m5,m6,f _ _ _ _ _ _ hq⟩
 ·obtain ⟨hd,Ls,k0,kl,kx,ku,kn,kb,y,r,js,jx,ja,jl,jb,hy,ht,hcc,hq⟩:=h;exact ⟨hd,Ls,k0,kl,kx,ku,kn,kb,y,r,js,jx,ja,jl,jb,hy,ht,hcc,f _ _ _ _ _ _ hq⟩
 ·obtain ⟨hd,Ls,k0,kl,kx,ku,kn,kb,y,r,js,jx,ja,jl,jb,hy,ht,hcc,hq⟩:=h;exact ⟨hd,Ls,k0,kl,kx,ku,kn,kb,y,r,js,jx,ja,jl,jb,hy,ht,hcc,f _ _ _ _ _ _ hq⟩
 ·obtain ⟨hd,Ls,k0,m0,hq⟩:=h;exact ⟨hd,Ls,k0,m0,f _ _ _ _ _ _ hq⟩
 ·obtain ⟨hd,Ls,k0,m0,hq⟩:=h;exact ⟨hd,Ls,k0,m0,f _ _ _ _ _ _ hq⟩
 ·obtain ⟨hd,Ls,k0,m0,hq⟩:=h;exact ⟨hd,Ls,k0,m0,f _ _ _ _ _ _ hq⟩
 ·obtain ⟨hd,Ls,k0,m0,hq⟩:=h;exact ⟨hd,Ls,k0,m0,f _ _ _ _ _ _ hq⟩
 ·obtain ⟨hd,Ls,k0,m0,hq⟩:=h;exact ⟨hd,Ls,k0,m0,f _ _ _ _ _ _ hq⟩
 ·obtain ⟨hnd,hok,Ls,kx,kk,kt,kv,wv,m1,m2,m3,m4,hq⟩:=h;exact ⟨hnd,hok,Ls,kx,kk,kt,kv,wv,m1,m2,m3,m4,f _ _ _ _ _ _ hq⟩
 ·obtain ⟨Ls,hq⟩:=h;exact ⟨Ls,f _ _ _ _ _ _ hq⟩
 all_goals
  obtain ⟨hW,Ls,kx,kz,kn,kl,a,c,st,m1,m2,m3,m4,m5,hb,hc,h8,hq⟩:=h;exact ⟨hW,Ls,kx,kz,kn,kl,a,c,st,m1,m2,m3,m4,m5,hb,hc,h8,f _ _ _ _ _ _ hq⟩
section
variable {w0 w:World} {S:Nat->Prop} {b:Nat} {t p s:Int} {Ls:List (Nat×Obj)} {rest:Value} {st md pg:Int} {q:List Stp}
theorem MS.below {x:TS} {w':World} (h:MS w0 S b t p s x w) (hb:Below w.heap.size w w'):MS w0 S b t p s x w':=⟨h.inv,h.st,h.mr.imp h.inv.ph (fun _ _ _ _ _ _ hq=>hq.below hb)⟩
theorem MS.drew {x:TS} (h:MS w0 S b t p s x w):MS w0 S b t p s x w.drew:=⟨h.inv,h.st,h.mr.imp h.inv.ph (fun _ _ _ _ _ _ hq=>hq.drew)⟩
theorem MS.some {x:TS} (h:MS w0 S b t p s x w):∃Ls rest q,QW w0 S b t p s Ls rest x.s x.made x.page q w:=by
 have hm:=h.mr;have hph:=h.inv.ph;unfold MR at hm;have hc:x.ph=0\/x.ph=1\/x.ph=2\/x.ph=3\/x.ph=4\/x.ph=5\/x.ph=6\/x.ph=7\/x.ph=8\/x.ph=9\/x.ph=10\/x.ph=19\/x.ph=11\/x.ph=12\/x.ph=13\/x.ph=14\/x.ph=15\/x.ph=16\/x.ph=17\/x.ph=18:=zo;rcases hc with e | e | e | e | e | e | e | e | e | e | e | e | e | e | e | e | e | e | e | e <;> rw [e] at hm
 ·obtain ⟨Ls,hq⟩:=hm;exact ⟨_,_,_,hq⟩
 ·obtain ⟨hu,Ls,ks,kx,ku,m1,m2,m3,hq⟩:=hm;exact ⟨_,_,_,hq⟩
 ·obtain ⟨hd,Ls,kx,ku,kn,kl,g,N,bs,hN,hbl,m1,m2,m3,m4,m5,m6,hq⟩:=hm;exact ⟨_,_,_,hq⟩
 ·obtain ⟨hd,Ls,k0,kl,kx,ku,kn,kb,y,r,js,jx,ja,jl,jb,hy,ht,hcc,hq⟩:=hm;exact ⟨_,_,_,hq⟩
 ·obtain ⟨hd,Ls,k0,kl,kx,ku,kn,kb,y,r,js,jx,ja,jl,jb,hy,ht,hcc,hq⟩:=hm;exact ⟨_,_,_,hq⟩
 ·obtain ⟨hd,Ls,k0,m0,hq⟩:=hm;exact ⟨_,_,_,hq⟩
 ·obtain ⟨hd,Ls,k0,m0,hq⟩:=hm;exact ⟨_,_,_,hq⟩
 ·obtain ⟨hd,Ls,k0,m0,hq⟩:=hm;exact ⟨_,_,_,hq⟩
 ·obtain ⟨hd,Ls,k0,m0,hq⟩:=hm;exact ⟨_,_,_,hq⟩
 ·obtain ⟨hd,Ls,k0,m0,hq⟩:=hm;exact ⟨_,_,_,hq⟩
 ·obtain ⟨hnd,hok,Ls,kx,kk,kt,kv,wv,m1,m2,m3,m4,hq⟩:=hm;exact ⟨_,_,_,hq⟩
 ·obtain ⟨Ls,hq⟩:=hm;exact ⟨_,_,_,hq⟩
 all_goals
  obtain ⟨hW,Ls,kx,kz,kn,kl,a,c,st,m1,m2,m3,m4,m5,hb,hc,h8,hq⟩:=hm;exact ⟨_,_,_,hq⟩
theorem MS.fr {x:TS} (h:MS w0 S b t p s x w):Fr S w0 w:=by
 obtain ⟨Ls,rest,q,hq⟩:=h.some;exact hq.fr
theorem MS.over {x:TS} (h:MS w0 S b t p s x w) (hp:x.ph=19):∃Ls,QW w0 S b t p s Ls .nilFunc x.s x.made x.page [] w:=by
 have hm:=h.mr;unfold MR at hm;rw [hp] at hm;exact hm
def j8 (d z a v:Int):Value:= .agg #[.int .i64 d,.int .i64 z,.int .i64 a,.int .i64 0,.int .u64 0,.int .u64 v]
theorem yo.slot {T sz n:Nat} {v:Value} {xs:List Value} (h:yo w T sz v n xs):∃a c,v= .slice a n c:=h.shape
theorem jcx (h:QW w0 S b t p s Ls rest st md pg [] w):Calls prog 14 #[.pointer (some ⟨b,0,none⟩)] w (zW (.tuple #[j8 0 0 0 0,.bool false]) w):=by
 obtain ⟨a,c,c3⟩:=h.left;have hb:=h.lt;have HB:=zh ((Below.refl w.heap.size w).alloc (Nat.le_refl _) (.cells #[.int .i64 0,.int .i64 0,.int .i64 0,.int .i64 0,.int .u64 0,.int .u64 0] 40));simp only [List.length_nil] at c3;clear h;go_enter func14,ntmps14;go_wp2_with fail;have k:=fun o:Nat=>jd (o:=o) (heap_alloc_new w (.cells #[.int .i64 0,.int .i64 0,.int .i64 0,.int .i64 0,.int .u64 0,.int .u64 0] 40));refine bodyPost_ret (v:= .tuple #[j8 0 0 0 0,.bool false]) (by simp [results,results14,go_sem,k,j8]) rfl ⟨rfl,HB.out⟩
theorem jcw {y:Stp} (h:QW w0 S b t p s Ls rest st md pg (y :: q) w):Calls prog 14 #[.pointer (some ⟨b,0,none⟩)] w (zW (.tuple #[j8 y.d t y.at_ y.v,.bool true]) w):=by
 obtain ⟨g,off,cap,c3,-,d0,d1,d2,d3,d4,d5,-⟩:=h.head;have hb:=h.lt;have hg:=World.block_lt_of_cell? w _ d0;dsimp only at hg;have HB:=zh ((Below.refl w.heap.size w).alloc (Nat.le_refl _) (.cells #[.int .i64 y.d,.int .i64 t,.int .i64 y.at_,.int .i64 0,.int .u64 0,.int .u64 y.v] 40));clear h;generalize q.length=n at*
 go_enter func14,ntmps14;go_wp2_with fail;have k:=fun o:Nat=>jd (o:=o) (heap_alloc_new w (.cells #[.int .i64 y.d,.int .i64 t,.int .i64 y.at_,.int .i64 0,.int .u64 0,.int .u64 y.v] 40));refine bodyPost_ret (v:= .tuple #[j8 y.d t y.at_ y.v,.bool true]) (by simp [results,results14,go_sem,k,j8]) rfl ⟨rfl,HB.out⟩
theorem jeo (h:QW w0 S b t p s Ls rest st md pg q w):Calls prog 17 #[.pointer (some ⟨b,0,none⟩)] w fun e w'=>e= .returned (.int .u32 md)/\w=w':=by
 have c6:=h.c4.2.2.1;clear h;go_enter func17,ntmps17;go_wp2;go_ret;exact ⟨rfl,rfl⟩
theorem jct (h:QW w0 S b t p s Ls rest st md pg q w):Calls prog 16 #[.pointer (some ⟨b,0,none⟩)] w fun e w'=>e= .returned (.int .i64 pg)/\w=w':=by
 have c7:=h.c4.2.2.2;clear h;go_enter func16,ntmps16;go_wp2;go_ret;exact ⟨rfl,rfl⟩
end

section
variable {w0 w w':World} {S T:Nat->Prop} {b:Nat} {t p s:Int} {x:TS}
def MSA (w:World) (S:Nat->Prop) (b:Nat) (t p s:Int) (x:TS):Prop:=MS w S b t p s x w/\∀k,S k->k < w.heap.size
theorem QW.move {Ls:List (Nat×Obj)} {rest:Value} {st md pg:Int} {q:List Stp} (h:QW w0 S b t p s Ls rest st md pg q w) (hf:Fr T w w') (hT:∀k,k < w.heap.size->T k->¬(S k\/w0.heap.size<=k)) :
 QW w' (fun k=>(S k\/w0.heap.size<=k)/\k < w.heap.size) b t p s Ls rest st md pg q w':=by
 have hlt:=h.lt;have hll:=h.llt;obtain ⟨⟨lv,h1,h2⟩,h3,h4,h5⟩:=h;have hk:∀k,k < w.heap.size->(S k\/w0.heap.size<=k)->w'.heap[k]? =w.heap[k]? :=fun k h1 h2=>hf.block k h1 (fun ht=>hT k h1 ht h2);refine ⟨⟨lv,⟨(hk b hlt (.inl h4)).trans h1.box,h1.row.block (fun k hkk=>hk k (h1.row.lt k hkk) (h2 k hkk).1),h1.ne⟩,fun k hkk=>⟨.inl ⟨(h2 k hkk).1,h1.row.lt k hkk⟩,(h2 k hkk).2⟩⟩,fun l hl=>⟨(hk _ (hll l hl) (h3 l hl).2.2).trans (h3 l hl).1,(h3 l hl).2.1,.inl ⟨(h3 l hl).2.2,hll l hl⟩⟩,⟨.inl h4,hlt⟩,Fr.refl _ _⟩
theorem MS.move (h:MS w0 S b t p s x w) (hf:Fr T w w') (hT:∀k,k < w.heap.size->T k->¬(S k\/w0.heap.size<=k)):MSA w' (fun k=>(S k\/w0.heap.size<=k)/\k < w.heap.size) b t p s x:=
 ⟨⟨h.inv,h.st,h.mr.imp h.inv.ph (fun _ _ _ _ _ _ hq=>hq.move hf hT)⟩,fun k hk=>Nat.lt_of_lt_of_le hk.2 hf.size⟩
theorem MS.less {S':Nat->Prop} (h:MS w S b t p s x w) (hs:∀k,S k->S' k):MS w S' b t p s x w:=
 ⟨h.inv,h.st,h.mr.imp h.inv.ph (fun _ _ _ _ _ _ hq=>⟨by
  obtain ⟨lv,h1,h2⟩:=hq.ex;exact ⟨lv,h1,fun k hk=>⟨(h2 k hk).1.imp (hs k) id,(h2 k hk).2⟩⟩,fun l hl=>⟨(hq.ls l hl).1,(hq.ls l hl).2.1,(hq.ls l hl).2.2.imp (hs _) id⟩,hs _ hq.sb,Fr.refl _ _⟩)⟩
theorem MSA.keep (h:MSA w S b t p s x) (hf:Fr T w w') (hT:∀k,T k->¬S k):MSA w' S b t p s x:=by
 have hm:=h.1.move hf (fun k hk ht hs=>by
  rcases hs with hs | hs
  ·exact hT k ht hs
  ·omega)
 refine ⟨hm.1.less fun k hk=> ?_,fun k hk=>Nat.lt_of_lt_of_le (h.2 k hk) hf.size⟩;rcases hk.1 with hs | hs
 ·exact hs
 ·exact absurd hk.2 zo
theorem msa_told {v:Int} {ok:Bool} (h:MSA w S b t p s x) (hr:jq t p s=true) (hp:x.ph≠19) (hv:VOK t p x v) :
 Calls prog 54 #[.pointer (some ⟨b,0,none⟩),.int .u64 v,.bool ok] w fun e w'=>e= .returned (.tuple #[])/\(∃S',MSA w' S' b t p s (jv t p s v x)/\∀k,S' k->S k\/w.heap.size<=k)/\Fr S w w':=by
 refine zM (ms_told h.1 hr hp hv) fun w' h1=> ?_;have hm:=h1.move (T:=fun _=>False) (Fr.refl _ w') (fun _ _ hf=>hf.elim);exact ⟨rfl,⟨_,hm,fun k hk=>hk.1⟩,h1.fr⟩
theorem VE (h:MSA w S b t p s x) (hr:jq t p s=true) :
 Calls prog 14 #[.pointer (some ⟨b,0,none⟩)] w (zW (match jN t p x with | some (d,a,v)=> .tuple #[j8 d t a v,.bool true] | none=> .tuple #[j8 0 0 0 0,.bool false]) w):=by
 by_cases hp:x.ph=19
 ·obtain ⟨Ls,hq⟩:=h.1.over hp;rw [(Jm h.1.inv).2 hp];exact jcx hq
 ·obtain ⟨Ls,rest,q,d,a,v,told,st,md,pg,hq,e⟩:=ms_head hr h.1 hp;rw [e];exact jcw hq
theorem msa_made (h:MSA w S b t p s x):Calls prog 17 #[.pointer (some ⟨b,0,none⟩)] w fun e w'=>e= .returned (.int .u32 x.made)/\w=w':=by
 obtain ⟨Ls,rest,q,hq⟩:=h.1.some;exact jeo hq
theorem jeT (h:MSA w S b t p s x):Calls prog 16 #[.pointer (some ⟨b,0,none⟩)] w fun e w'=>e= .returned (.int .i64 x.page)/\w=w':=by
 obtain ⟨Ls,rest,q,hq⟩:=h.1.some;exact jct hq
theorem XK (w:World) (hr:jq t p s=true) :
 Calls prog 11 #[.agg #[.int .i64 t,.int .i64 p,.int .i64 s]] w fun e w'=>(∃b,e= .returned (.pointer (some ⟨b,0,none⟩))/\∃S',MSA w' S' b t p s TS.begin/\∀k,S' k->w.heap.size<=k)/\Below w.heap.size w w':=by
 refine (ja0 t p s w hr).mono ?_;rintro e w' ⟨⟨b,rfl,hb,lv,hM,hlv⟩,hB⟩;have hq:QW w (fun k=>w.heap.size<=k) b t p s [] .nilFunc 0 0 0 [⟨1,8,0,tipV b⟩] w':=by
  refine ⟨⟨lv,⟨hM.box,?_,hM.ne⟩,fun k hk=>⟨.inr (hlv k hk),zT⟩⟩,zT,hb,Fr.of_below hB⟩;have:=yo.of_own hM.row;exact this
 have hms:MS w (fun k=>w.heap.size<=k) b t p s TS.begin w':=by
  refine ⟨Yx t p,?_,?_⟩
  ·have:=mu_bd (x:=TS.begin) hr (Yx t p) rfl;refine ⟨Int.le_refl _,?_⟩;show (0:Int)+_<=_;omega
  ·exact ⟨[],hq⟩
 have hm:=hms.move (T:=fun _=>False) (Fr.refl _ w') (fun _ _ hf=>hf.elim);exact ⟨⟨b,rfl,_,hm,fun k hk=>hk.1.elim id id⟩,hB⟩
end
end Go.Proofs.YtcnininelndjoaaGreat

