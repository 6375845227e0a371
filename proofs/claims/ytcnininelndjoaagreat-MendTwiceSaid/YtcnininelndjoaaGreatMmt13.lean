/- parts of the proof, merged by a program. -/
import Derived.Test.YtcnininelndjoaaGreatMmt2
import Derived.Test.YtcnininelndjoaaGreatMmt3
import Derived.Test.YtcnininelndjoaaGreatMmt4
import Derived.Test.YtcnininelndjoaaGreatMmt7
import Derived.Test.YtcnininelndjoaaGreatMmt8
import Derived.Test.YtcnininelndjoaaGreatMmt9
import Derived.Test.YtcnininelndjoaaGreatMmt12
import Derived.Deep.Cut
import Derived.Laws.CopyOwn
set_option linter.unusedSimpArgs false
set_option linter.unusedVariables false
set_option maxRecDepth 100000
set_option maxHeartbeats 4000000
namespace Go.Proofs.YtcnininelndjoaaGreat
open Go.Proofs.Tryz
open Go.RowKit

structure VOK (t p:Int) (x:TS) (v:Int):Prop where
 u:U64 v
 tip:x.ph=0->∃s u,KC v=some (s,u)/\0<=u/\u<=t/\0<=s/\s < 2180000000
 ent:x.ph=2->∃e,qj v=some e/\0<=e.1/\e.1 < jk t p
def YH (x:TS):TS:=if x.i+1=x.l.length then x.to 5 else { x with ph:=3,i:=x.i+1 }
theorem jav {x:TS} (h:x.i < x.l.length):jY { x with ph:=3,i:=x.i+1 }=YH x:=by
 unfold YH;by_cases he:x.i+1=x.l.length
 ·rw [if_pos he];have:x.l≠[]:=fun e=>by rw [e] at h;simp at h
  have h0:0≠x.l.length:=zo;simp [jY,qt,yc,yb,ya,q8,TS.to,he,this,h0]
 ·rw [if_neg he];simp [jY,qt,yc,yb,ya,q8,TS.to,he]
theorem toldT3 {t p z v:Int} {x:TS} (h:x.ph=3) (hi:x.i < x.l.length):jy t p z v x=if hiW v < hiW x.note then { x with ph:=4 } else YH x:=by
 unfold jy kI;rw [h];show jY (if hiW v < hiW x.note then { x with ph:=4 } else { x with ph:=3,i:=x.i+1 })=_;split
 ·simp [jY,qt,yc,yb,ya,q8]
 ·rw [<-jav hi]
theorem toldT4 {t p z v:Int} {x:TS} (h:x.ph=4) (hi:x.i < x.l.length):jy t p z v x=YH x:=by
 unfold jy kI;rw [h];exact jav hi
section
variable {w0 w:World} {S:Nat->Prop} {b:Nat} {t p s:Int} {Ls:List (Nat×Obj)}
theorem jeO {x:TS} (h:QW w0 S b t p s Ls .nilFunc x.s x.made x.page [] w) (hr:jq t p s=true) (hd:TuD t p x) {k0 kl kx ku kn kb:Nat} {y:Int×Int} {r:List (Int×Int)} {js jx ja jl jb:Nat} (hy:x.l.drop x.i=y :: r) (ht:TuB Ls b x k0 kl kx ku kn kb) (hc:CeB Ls b x y r js jx ja jl jb kl kx ku kn kb) (hi:yJ t p (YH x)) (hs:StB t p (YH x)) :
 Calls prog 232 #[pB jx,pB js,pB jl,pB jb] w fun e w'=>e= .returned (.tuple #[])/\jaB w0 S b t p s (MS w0 S b t p s (YH x)) w':=by
 obtain ⟨o,n,hw⟩:=hd.nw;obtain ⟨m0,lv,hl,tc⟩:=ht;obtain ⟨ms,mx,ma,mb,ad,c,ml,hlr⟩:=hc;have hcap:r.length+1<=c:=by
  obtain ⟨a',c',e1,h2,-⟩:=hlr;simp only [List.length_cons,Value.slice.injEq,true_and] at e1 h2;obtain ⟨-,rfl⟩:=e1;exact h2
 have hdr:x.l.drop (x.i+1)=r:=by rw [<-List.tail_drop,hy];rfl
 have hln:x.l.length=x.i+1+r.length:=by
  have e1:=congrArg List.length hy;simp at e1;omega
 have hF:=XQ (Φ:=fun w'=>jaB w0 S b t p s (MS w0 S b t p s (YH x)) w'/\∃Ls' rest' q',(∀l∈Ls,l∈Ls')/\QW w0 S b t p s Ls' rest' x.s x.made x.page q' w') h ms mx ml mb hcap (fun W g=> ?_) (fun W h=>h.2)
 ·exact hF.mono (fun e w' h=>⟨h.1,h.2.1⟩)
 ·have hlt:=hlr.tail;unfold YH at hi hs ⊢;cases r with
  | nil=>
   have he:x.i+1=x.l.length:=by simp at hln;omega
   rw [if_pos he] at hi hs ⊢;have hc:=Vi (sv:=hiW x.note) (a:=if c=1 then some ad else some ⟨ad.block,ad.off+2,none⟩) (c:=c - 1) g zT hr tc hl hd.l.1 (fun z hz=>(hd.l.2 z hz).1) hd.u0 hd.u1 hd.nv hw;refine zM hc fun w' h1=> ?_;refine ⟨rfl,⟨⟨hi,hs,?_⟩,_,_,_,_,_,_,h1,.inl (by simp [clF])⟩,_,_,_,fun l hl=>hl,h1⟩;unfold MR;show _/\_;refine ⟨⟨hd.u0,hd.u1,hd.nv,⟨o,n,hw⟩,hd.l⟩,Ls,k0,m0,?_⟩;show QW _ _ _ _ _ _ _ _ _ _ _ (List.drop 0 _) _;rw [List.drop_zero];unfold flC;show QW _ _ _ _ _ _ _ _ _ _ _ (flF x.l++_++clF (jo t p x.u) (Jv x.note)) _;rw [jaT hw];exact h1
  | cons y2 r2=>
   have he:¬x.i+1=x.l.length:=by simp at hln;omega
   rw [if_neg he] at hi hs ⊢;have hmem:y2∈x.l:=by
    have:y2∈x.l.drop (x.i+1):=by rw [hdr];simp
    exact List.mem_of_mem_drop this
   have hne1:¬c=1:=by simp at hcap;omega
   rw [if_neg hne1] at hlt ⊢;have hcc:=Yk (kl:=kl) (kx:=kx) (ku:=ku) (kn:=kn) (kb:=kb) (sv:=hiW x.note) g zT hr (show KB Ls (.slice (some ⟨ad.block,ad.off+2,none⟩) (r2.length+1) (c - 1)) (y2 :: r2) from hlt) (by have:=hd.l.1;simp at hln;omega) (hd.l.2 y2 hmem).1;refine zM hcc ?_;rintro w' ⟨jx',js',ja',jl',jb',h1⟩;refine ⟨rfl,⟨⟨hi,hs,?_⟩,_,_,_,_,_,_,h1,.inl zT⟩,_,_,_,fun l hl=>by simp [hl],h1⟩;unfold MR;show _/\_;refine ⟨⟨hd.u0,hd.u1,hd.nv,⟨o,n,hw⟩,hd.l⟩,_,k0,kl,kx,ku,kn,kb,y2,r2,js',jx',ja',jl',jb',hdr,⟨by simp [m0],lv,hl.sub (fun z hz=>by simp [hz]),tc.sub (fun z hz=>by simp [hz])⟩,⟨zT,zT,zT,zT,⟨ad.block,ad.off+2,none⟩,c - 1,zT,?_⟩,h1⟩;exact KB.sub (Ls':=(ja',oN (16+y2.1)) :: (jb',oF (t1V kl kx ku kn kb)) :: (jl',oL (.slice (some ⟨ad.block,ad.off+2,none⟩) (r2.length+1) (c - 1))) :: (js',oH (hiW x.note)) :: (jx',oX b) :: Ls) hlt (fun z hz=>by simp [hz])
theorem ent_c1:∀args w,(callFunc 229 args).run prog w= .ok (.enter 229 args) w:=enters_of func229 zk rfl
theorem jfp:∀args w,(callFunc 232 args).run prog w= .ok (.enter 232 args) w:=enters_of func232 zk rfl
theorem ent_s1:∀args w,(callFunc 144 args).run prog w= .ok (.enter 144 args) w:=enters_of func144 zk rfl
theorem told_4 {x:TS} {v:Int} {ok:Bool} (h:MS w0 S b t p s x w) (hr:jq t p s=true) (hp:x.ph=4) (hi:yJ t p (jy t p s v x)) (hs:StB t p (jy t p s v x)) :
 Calls prog 54 #[.pointer (some ⟨b,0,none⟩),.int .u64 v,.bool ok] w fun e w'=>e= .returned (.tuple #[])/\MS w0 S b t p s (jy t p s v x) w':=by
 have hlt:=h.inv.h3 zo;rw [toldT4 hp hlt] at hi hs ⊢;have hm:=h.mr;unfold MR at hm;rw [hp] at hm;obtain ⟨hd,Ls,k0,kl,kx,ku,kn,kb,y,r,js,jx,ja,jl,jb,hy,ht,hc,hq⟩:=hm;exact kY hq rfl fun W g=> .inr ⟨_,_,_,_,_,_,g,jfp,fun W2 g2=>jeO g2 hr hd hy ht hc hi hs⟩
theorem told_3 {x:TS} {v:Int} {ok:Bool} (h:MS w0 S b t p s x w) (hr:jq t p s=true) (hp:x.ph=3) (hv:U64 v) (hi:yJ t p (jy t p s v x)) (hs:StB t p (jy t p s v x)) :
 Calls prog 54 #[.pointer (some ⟨b,0,none⟩),.int .u64 v,.bool ok] w fun e w'=>e= .returned (.tuple #[])/\MS w0 S b t p s (jy t p s v x) w':=by
 have hlt:=h.inv.h3 zo;rw [toldT3 hp hlt] at hi hs ⊢;have hm:=h.mr;unfold MR at hm;rw [hp] at hm;obtain ⟨hd,Ls,k0,kl,kx,ku,kn,kb,y,r,js,jx,ja,jl,jb,hy,ht,hc,hq⟩:=hm;obtain ⟨ms,mx,ma,mb,ad,c,ml,hlr⟩:=id hc;have hmem:y∈x.l:=List.mem_of_mem_drop (by rw [hy];exact List.mem_cons_self:y∈x.l.drop x.i);refine Jj hq rfl ent_c1 fun W g=> ?_;refine zM (jbd g zT ms mx ma ml mb hlr hv (Qt hd.nv) (hd.l.2 y hmem).2) fun w' h1=> ?_;refine ⟨rfl,?_⟩;by_cases hlo:hiW v < hiW x.note
 ·rw [if_pos hlo] at hi hs h1 ⊢;refine .inl ⟨⟨hi,hs,?_⟩,_,_,_,_,_,_,h1,.inl zT⟩;unfold MR;show _/\_;exact ⟨⟨hd.u0,hd.u1,hd.nv,hd.nw,hd.l⟩,Ls,k0,kl,kx,ku,kn,kb,y,r,js,jx,ja,jl,jb,hy,ht,hc,h1⟩
 ·rw [if_neg hlo] at hi hs h1 ⊢;exact .inr ⟨_,_,_,_,_,_,h1,jfp,fun W2 g2=>jeO g2 hr hd hy ht hc hi hs⟩
end

theorem jfl {t p z:Int} {x:TS} (h0:x.page<=p.toNat) (h1:KnI (jk t p).toNat x.known) (h2:0<=x.n) (h3:x.n<=96) (h4:x.l.length<=96) (h5:x.wr.length<=96):yJ t p (jL t p z x):=(Vc t p z (p.toNat - x.page) x zo h1 h2 h3 h4 h5).1
theorem jbu (t p:Int) (x:TS):(flC t p x).length=x.l.length+4:=by simp [flC,flF,clF]
theorem YA (t p:Int) (x:TS):∀y∈flC t p x,y.told= .nilFunc:=by
 intro y hy;simp [flC,flF,clF] at hy;rcases hy with ⟨a,b,-,rfl⟩ | rfl | rfl | rfl | rfl <;> rfl
theorem Qa {l:List Stp} (h:∀y∈l,y.told= .nilFunc) {k:Nat} (hk:k < l.length):∃y,l.drop k=y :: l.drop (k+1)/\y.told= .nilFunc:=
 ⟨l[k],List.drop_eq_getElem_cons hk,h _ (List.getElem_mem hk)⟩
theorem kN (t p st:Int) (wr:List (Int×Int)) (kx j:Nat):(lgC t p st wr kx).drop (wr.length+(wr.length+7) / 8+j)=(tlF t p (j9 (st+1) wr.length true) (jH (st+1) t) (ch1V kx)).drop j:=by
 unfold lgC;rw [show wr.length+(wr.length+7) / 8=(lgF t p wr++fsF t p ((wr.length+7) / 8)).length by simp [lgF,fsF],List.drop_append];simp
theorem je3 (t p st:Int) (wr:List (Int×Int)) (kx:Nat) {k:Nat} (hk:k < wr.length+(wr.length+7) / 8):∃y,(lgC t p st wr kx).drop k=y :: (lgC t p st wr kx).drop (k+1)/\y.told= .nilFunc:=by
 have hl:(lgC t p st wr kx).length=wr.length+(wr.length+7) / 8+6:=by simp [lgC,lgF,fsF,tlF];omega
 refine ⟨_,List.drop_eq_getElem_cons zo,?_⟩;have:(lgC t p st wr kx)[k]'(by omega)=(lgF t p wr++fsF t p ((wr.length+7) / 8))[k]'(by simp [lgF,fsF];omega):=by
  unfold lgC;rw [List.getElem_append_left]
 rw [this];have hm:=List.getElem_mem (l:=lgF t p wr++fsF t p ((wr.length+7) / 8)) (n:=k) (by simp [lgF,fsF];omega);generalize (lgF t p wr++fsF t p ((wr.length+7) / 8))[k]'(by simp [lgF,fsF];omega)=y at hm;rcases List.mem_append.1 hm with hm | hm
 ·obtain ⟨z,-,rfl⟩:=List.mem_map.1 hm;rfl
 ·obtain ⟨z,-,rfl⟩:=List.mem_map.1 hm;rfl
theorem ent_beh (own:Bool):∀args w,(callFunc (jcf own) args).run prog w= .ok (.enter (jcf own) args) w:=by
 cases own
 ·exact enters_of func153 zk rfl
 ·exact enters_of func198 zk rfl
theorem ent_ch1:∀args w,(callFunc 196 args).run prog w= .ok (.enter 196 args) w:=enters_of func196 zk rfl
theorem ent_ch2:∀args w,(callFunc 197 args).run prog w= .ok (.enter 197 args) w:=enters_of func197 zk rfl
theorem toldT5 {t p z v:Int} {x:TS} (h:x.ph=5) (hi:x.i < x.l.length):jy t p z v x=if x.i+1=x.l.length then x.to 6 else { x with ph:=5,i:=x.i+1 }:=by
 unfold jy kI;rw [h];show jY { x with ph:=5,i:=x.i+1 }=_;by_cases he:x.i+1=x.l.length
 ·rw [if_pos he];simp [jY,qt,yc,yb,ya,q8,TS.to,he]
 ·rw [if_neg he];simp [jY,qt,yc,yb,ya,q8,he]
theorem Q7 (x:TS) (k:Nat) (h:k≠2/\k≠3/\k≠5/\k≠11/\k≠12):jY (x.to k)=x.to k:=by
 obtain ⟨h1,h2,h3,h4,h5⟩:=h;simp [jY,qt,yc,yb,ya,q8,TS.to,h1,h2,h3,h4,h5]
theorem KI {t p z v:Int} {x:TS} (h:x.ph=6\/x.ph=7\/x.ph=8\/x.ph=13\/x.ph=14\/x.ph=15\/x.ph=17):jy t p z v x=x.to (x.ph+1):=by
 unfold jy kI;rcases h with h | h | h | h | h | h | h <;> rw [h] <;> exact Q7 x _ zd
theorem jdL {t p z v:Int} {x:TS} (h:x.ph=11) (hi:x.i < x.wr.length):jy t p z v x=if x.i+1=x.wr.length then x.to 12 else { x with ph:=11,i:=x.i+1 }:=by
 unfold jy kI;rw [h];show jY { x with ph:=11,i:=x.i+1 }=_;by_cases he:x.i+1=x.wr.length
 ·rw [if_pos he];have h0:x.wr≠[]:=fun e=>by rw [e] at hi;simp at hi
  simp [jY,qt,yc,yb,ya,q8,TS.to,he,h0]
 ·rw [if_neg he];simp [jY,qt,yc,yb,ya,q8,he]
theorem jdK {t p z v:Int} {x:TS} (h:x.ph=12):jy t p z v x=if x.wr.length<=x.i+8 then x.to 13 else { x with ph:=12,i:=x.i+8 }:=by
 unfold jy kI;rw [h];show jY { x with ph:=12,i:=x.i+8 }=_;by_cases he:x.wr.length<=x.i+8
 ·rw [if_pos he];simp [jY,qt,yc,yb,ya,q8,TS.to,he]
 ·rw [if_neg he];simp [jY,qt,yc,yb,ya,q8,he]
section
variable {w0 w:World} {S:Nat->Prop} {b:Nat} {t p s:Int} {Ls:List (Nat×Obj)}
theorem told_5 {x:TS} {v:Int} {ok:Bool} (h:MS w0 S b t p s x w) (hp:x.ph=5) (hi:yJ t p (jy t p s v x)) (hs:StB t p (jy t p s v x)) :
 Calls prog 54 #[.pointer (some ⟨b,0,none⟩),.int .u64 v,.bool ok] w fun e w'=>e= .returned (.tuple #[])/\MS w0 S b t p s (jy t p s v x) w':=by
 have hlt:=h.inv.h3 zo;rw [toldT5 hp hlt] at hi hs ⊢;have hm:=h.mr;unfold MR at hm;rw [hp] at hm;obtain ⟨hd,Ls,k0,m0,hq⟩:=hm;have hlen:=jbu t p x;obtain ⟨y,e1,e2⟩:=Qa (YA t p x) (k:=x.i) zo;rw [e1] at hq;refine kY hq e2 fun W g=> .inl ⟨⟨hi,hs,?_⟩,_,_,_,_,_,_,g,.inl (fun e=>by have:=congrArg List.length e;simp [hlen] at this;omega)⟩;split
 ·rename_i he;unfold MR;show _/\_;refine ⟨⟨hd.u0,hd.u1,hd.nv,hd.nw,hd.l⟩,Ls,k0,m0,?_⟩;show QW _ _ _ _ _ _ _ _ _ _ _ (List.drop x.l.length (flC t p x)) _;rw [<-he];exact g
 ·unfold MR;show _/\_;exact ⟨⟨hd.u0,hd.u1,hd.nv,hd.nw,hd.l⟩,Ls,k0,m0,g⟩
theorem told_678 {x:TS} {v:Int} {ok:Bool} (h:MS w0 S b t p s x w) (hp:x.ph=6\/x.ph=7\/x.ph=8) (hi:yJ t p (jy t p s v x)) (hs:StB t p (jy t p s v x)) :
 Calls prog 54 #[.pointer (some ⟨b,0,none⟩),.int .u64 v,.bool ok] w fun e w'=>e= .returned (.tuple #[])/\MS w0 S b t p s (jy t p s v x) w':=by
 rw [KI zo] at hi hs ⊢;have hlen:=jbu t p x;have hm:=h.mr;unfold MR at hm;rcases hp with hp | hp | hp <;> rw [hp] at hm hi hs ⊢;all_goals obtain ⟨hd,Ls,k0,m0,hq⟩:=hm
 ·obtain ⟨y,e1,e2⟩:=Qa (YA t p x) (k:=x.l.length) zo;rw [e1] at hq;exact kY hq e2 fun W g=> .inl ⟨⟨hi,hs,(show _/\_ from ⟨⟨hd.u0,hd.u1,hd.nv,hd.nw,hd.l⟩,Ls,k0,m0,g⟩)⟩,_,_,_,_,_,_,g,.inl (fun e=>by have:=congrArg List.length e;simp [hlen] at this)⟩
 ·obtain ⟨y,e1,e2⟩:=Qa (YA t p x) (k:=x.l.length+1) zo;rw [e1] at hq;exact kY hq e2 fun W g=> .inl ⟨⟨hi,hs,(show _/\_ from ⟨⟨hd.u0,hd.u1,hd.nv,hd.nw,hd.l⟩,Ls,k0,m0,g⟩)⟩,_,_,_,_,_,_,g,.inl (fun e=>by have:=congrArg List.length e;simp [hlen] at this)⟩
 ·obtain ⟨y,e1,e2⟩:=Qa (YA t p x) (k:=x.l.length+2) zo;rw [e1] at hq;exact kY hq e2 fun W g=> .inl ⟨⟨hi,hs,(show _/\_ from ⟨⟨hd.u0,hd.u1,hd.nv,hd.nw,hd.l⟩,Ls,k0,m0,g⟩)⟩,_,_,_,_,_,_,g,.inl (fun e=>by have:=congrArg List.length e;simp [hlen] at this)⟩
end

theorem toldT9 {t p z v:Int} {x:TS} (h:yJ t p x) (hp:x.ph=9):jy t p z v x=jL t p z { x with page:=if x.own=true then x.page+1 else x.page,known:=[] }:=by
 unfold jy kI;rw [hp];have ho:=h.own zo zo;have hpg:=h.page;refine KN (jfl (t:=t) (p:=p) (z:=z) (x:={ x with ph:=9,page:=if x.own=true then x.page+1 else x.page,known:=[] }) ?_ (KnI.nil _) h.n0 h.n h.l h.wr) |>.trans ?_
 ·dsimp only;split
  ·have:=ho (by assumption);omega
  ·exact hpg
 ·rw [<-hp]
theorem jaL {t p z v:Int} {x:TS} (h:yJ t p x) (hp:x.ph=10):jy t p z v x=jL t p z { x with known:=x.known++[(x.need,loW v)] }:=by
 unfold jy kI;rw [hp];obtain ⟨h1,h2⟩:=h.h10 hp;refine KN (jfl (t:=t) (p:=p) (z:=z) (x:={ x with ph:=10,known:=x.known++[(x.need,loW v)] }) (by dsimp only;omega) (h2.val _) h.n0 h.n h.l h.wr) |>.trans ?_
 rw [<-hp]
theorem jdJ {t p z v:Int} {x:TS} (hp:x.ph=16):jy t p z v x=({ x with note:=x.openN,s:=x.s+1,made:=x.s+1,u:=t,l:=x.wr,own:=true }:TS).to 17:=by
 unfold jy kI;rw [hp];exact Q7 _ _ zd
theorem jdI {t p z v:Int} {x:TS} (hp:x.ph=18):jy t p z v x=jY (x.to 3):=by
 unfold jy kI;rw [hp];rfl
section
variable {w0 w:World} {S:Nat->Prop} {b:Nat} {t p s:Int} {Ls:List (Nat×Obj)}
theorem told_9 {x:TS} {v:Int} {ok:Bool} (h:MS w0 S b t p s x w) (hr:jq t p s=true) (hp:x.ph=9) (hi:yJ t p (jy t p s v x)) (hs:StB t p (jy t p s v x)) :
 Calls prog 54 #[.pointer (some ⟨b,0,none⟩),.int .u64 v,.bool ok] w fun e w'=>e= .returned (.tuple #[])/\MS w0 S b t p s (jy t p s v x) w':=by
 rw [toldT9 h.inv hp] at hi hs ⊢;have hst:=h.st;have hrb:=jn hr;have hlen:=jbu t p x;have ho:=h.inv.own zo zo;have hpg:=h.inv.page;have hm:=h.mr;unfold MR at hm;rw [hp] at hm;obtain ⟨hd,Ls,k0,m0,hq⟩:=hm;obtain ⟨y,e1,e2⟩:=Qa (YA t p x) (k:=x.l.length+3) zo;rw [e1,List.drop_of_length_le zo] at hq;have hmu:(0:Int)<=(mu t p x:Int):=Int.natCast_nonneg _;refine kY hq e2 fun W g=> .inr ⟨_,_,_,_,jcf x.own,#[pB k0],g,ent_beh x.own,fun W2 g2=> ?_⟩;have hsm:=Jt t p s;by_cases hown:x.own=true
 ·have hlt:=ho hown;have eb:jcf x.own=198:=by unfold jcf;rw [if_pos hown]
  have hc:=jek (x:=x) g2 hr m0 zo ⟨hst.1,zo⟩;rw [if_pos hown] at hi hs ⊢;rw [eb];refine zM hc fun w' h1=> ?_;refine ⟨rfl,QU (y:=jL t p s { x with page:=x.page+1,known:=[] }) (Ls:=Ls) ?_ hi hs (KJ _ _ _ _ _)⟩;have e:=hsm (p.toNat - (x.page+1)) { x with page:=x.page+1,known:=[] };show SwR w0 S b t p s Ls .nilFunc (kH t p s (p.toNat - (x.page+1)) { x with page:=x.page+1,known:=[] }).s (kH t p s (p.toNat - (x.page+1)) { x with page:=x.page+1,known:=[] }).made _ _;rw [e.1,e.2.1];exact h1
 ·have eb:jcf x.own=153:=by unfold jcf;rw [if_neg hown]
  have hc:=jba (x:=x) g2 hr m0 zo ⟨hst.1,zo⟩;rw [if_neg hown] at hi hs ⊢;rw [eb];refine zM hc fun w' h1=> ?_;refine ⟨rfl,QU (y:=jL t p s { x with known:=[] }) (Ls:=Ls) ?_ hi hs (KJ _ _ _ _ _)⟩;have e:=hsm (p.toNat - x.page) { x with known:=[] };show SwR w0 S b t p s Ls .nilFunc (kH t p s (p.toNat - x.page) { x with known:=[] }).s (kH t p s (p.toNat - x.page) { x with known:=[] }).made _ _;rw [e.1,e.2.1];exact h1
theorem told_10 {x:TS} {v:Int} {ok:Bool} (h:MS w0 S b t p s x w) (hr:jq t p s=true) (hp:x.ph=10) (hv:U64 v) (hi:yJ t p (jy t p s v x)) (hs:StB t p (jy t p s v x)) :
 Calls prog 54 #[.pointer (some ⟨b,0,none⟩),.int .u64 v,.bool ok] w fun e w'=>e= .returned (.tuple #[])/\MS w0 S b t p s (jy t p s v x) w':=by
 rw [jaL h.inv hp] at hi hs ⊢;have hst:=h.st;have hrb:=jn hr;have hmb:=jI hr;have hpg:=h.inv.page;obtain ⟨-,hki⟩:=h.inv.h10 hp;have hkl:=hki.le;have hmu:(0:Int)<=(mu t p x:Int):=Int.natCast_nonneg _;have hm:=h.mr;unfold MR at hm;rw [hp] at hm;obtain ⟨hnd,hok,Ls,kx,kk,kt,kv,wv,m1,m2,m3,m4,hq⟩:=hm;have hok':KnOK (x.known++[(x.need,loW v)]):=by
  refine ⟨by simp at hkl ⊢;omega,fun y hy=> ?_⟩;rcases List.mem_append.1 hy with hy | hy
  ·exact hok.2 y hy
  ·simp at hy;subst hy;exact KZ v
 refine Jj hq rfl ent_s1 fun W g=> ?_;refine zM (ja9 g hr m1 m2 m3 m4 hok' hv zo ⟨hst.1,zo⟩) fun w' h1=> ?_;refine ⟨rfl,.inl (QU (y:=jL t p s { x with known:=x.known++[(x.need,loW v)] }) (Ls:=[]) ?_ hi hs (KJ _ _ _ _ _))⟩;have e:=Jt t p s (p.toNat - x.page) { x with known:=x.known++[(x.need,loW v)] };show SwR w0 S b t p s [] .nilFunc (kH t p s (p.toNat - x.page) { x with known:=x.known++[(x.need,loW v)] }).s (kH t p s (p.toNat - x.page) { x with known:=x.known++[(x.need,loW v)] }).made _ _;rw [e.1,e.2.1];exact h1
theorem je4 (t p st:Int) (wr:List (Int×Int)) (kx:Nat):(lgC t p st wr kx).length=wr.length+(wr.length+7) / 8+6:=by simp [lgC,lgF,fsF,tlF];omega
theorem told_11 {x:TS} {v:Int} {ok:Bool} (h:MS w0 S b t p s x w) (hp:x.ph=11) (hi:yJ t p (jy t p s v x)) (hs:StB t p (jy t p s v x)) :
 Calls prog 54 #[.pointer (some ⟨b,0,none⟩),.int .u64 v,.bool ok] w fun e w'=>e= .returned (.tuple #[])/\MS w0 S b t p s (jy t p s v x) w':=by
 have hlt:=h.inv.hi zo;rw [jdL hp hlt] at hi hs ⊢;have hm:=h.mr;unfold MR at hm;rw [hp] at hm;obtain ⟨hW,Ls,kx,kz,kn,kl,a,c,st,m1,m2,m3,m4,m5,hb,hc,-,hq⟩:=hm;have hq':QW w0 S b t p s Ls (Vw kx kz kn kl) x.s x.made x.page ((lgC t p st x.wr kx).drop x.i) w:=hq;rw [if_pos zd] at hc;obtain ⟨y,e1,e2⟩:=je3 t p st x.wr kx (k:=x.i) zo;rw [e1] at hq';have hlen:=je4 t p st x.wr kx;refine kY hq' e2 fun W g=> .inl ⟨⟨hi,hs,?_⟩,_,_,_,_,_,_,g,.inl (fun e=>by have:=congrArg List.length e;simp [hlen] at this;omega)⟩;split
 ·rename_i he;unfold MR;show _/\_;refine ⟨hW,Ls,kx,kz,kn,kl,a,c,st,m1,m2,m3,m4,m5,hb,hc,fun _=>rfl,?_⟩;show QW _ _ _ _ _ _ _ _ _ _ _ (List.drop (x.wr.length+0 / 8) (lgC t p st x.wr kx)) _;rw [show x.wr.length+0 / 8=x.i+1 by omega];exact g
 ·unfold MR;show _/\_;exact ⟨hW,Ls,kx,kz,kn,kl,a,c,st,m1,m2,m3,m4,m5,hb,hc,fun e=>absurd e (Nat.ne_of_beq_eq_false rfl),g⟩
theorem told_12 {x:TS} {v:Int} {ok:Bool} (h:MS w0 S b t p s x w) (hp:x.ph=12) (hi:yJ t p (jy t p s v x)) (hs:StB t p (jy t p s v x)) :
 Calls prog 54 #[.pointer (some ⟨b,0,none⟩),.int .u64 v,.bool ok] w fun e w'=>e= .returned (.tuple #[])/\MS w0 S b t p s (jy t p s v x) w':=by
 have hlt:=h.inv.hi zo;rw [jdK hp] at hi hs ⊢;have hm:=h.mr;unfold MR at hm;rw [hp] at hm;obtain ⟨hW,Ls,kx,kz,kn,kl,a,c,st,m1,m2,m3,m4,m5,hb,hc,h8,hq⟩:=hm;have hq':QW w0 S b t p s Ls (Vw kx kz kn kl) x.s x.made x.page ((lgC t p st x.wr kx).drop (x.wr.length+x.i / 8)) w:=hq;rw [if_pos zd] at hc;have h8':=h8 rfl;obtain ⟨y,e1,e2⟩:=je3 t p st x.wr kx (k:=x.wr.length+x.i / 8) zo;rw [e1] at hq';have hlen:=je4 t p st x.wr kx;refine kY hq' e2 fun W g=> .inl ⟨⟨hi,hs,?_⟩,_,_,_,_,_,_,g,.inl (fun e=>by have:=congrArg List.length e;simp [hlen] at this;omega)⟩;split
 ·rename_i he;unfold MR;show _/\_;refine ⟨hW,Ls,kx,kz,kn,kl,a,c,st,m1,m2,m3,m4,m5,hb,hc,fun e=>absurd e (Nat.ne_of_beq_eq_false rfl),?_⟩;show QW _ _ _ _ _ _ _ _ _ _ _ (List.drop (x.wr.length+(x.wr.length+7) / 8+0) (lgC t p st x.wr kx)) _;rw [show x.wr.length+(x.wr.length+7) / 8+0=x.wr.length+x.i / 8+1 by omega];exact g
 ·unfold MR;show _/\_;refine ⟨hW,Ls,kx,kz,kn,kl,a,c,st,m1,m2,m3,m4,m5,hb,hc,fun _=>(show (x.i+8) % 8=0 by omega),?_⟩;show QW _ _ _ _ _ _ _ _ _ _ _ (List.drop (x.wr.length+(x.i+8) / 8) (lgC t p st x.wr kx)) _;rw [show x.wr.length+(x.i+8) / 8=x.wr.length+x.i / 8+1 by omega];exact g
theorem VE {x:TS} {v:Int} {ok:Bool} {j:Nat} (h:MS w0 S b t p s x w) (hp:x.ph=13+j) (hj:j=0\/j=1\/j=2\/j=4) (hi:yJ t p (jy t p s v x)) (hs:StB t p (jy t p s v x)) :
 Calls prog 54 #[.pointer (some ⟨b,0,none⟩),.int .u64 v,.bool ok] w fun e w'=>e= .returned (.tuple #[])/\MS w0 S b t p s (jy t p s v x) w':=by
 rw [KI zo] at hi hs ⊢;have hm:=h.mr;unfold MR at hm;rw [hp] at hm hi hs ⊢;rcases hj with rfl | rfl | rfl | rfl;all_goals obtain ⟨hW,Ls,kx,kz,kn,kl,a,c,st,m1,m2,m3,m4,m5,hb,hc,-,hq⟩:=hm
 ·have hq':QW w0 S b t p s Ls (Vw kx kz kn kl) x.s x.made x.page ((lgC t p st x.wr kx).drop (x.wr.length+(x.wr.length+7) / 8+0)) w:=hq;have e3:=kN t p st x.wr kx 1;rw [kN] at hq';refine kY hq' rfl fun W g=> .inl ⟨⟨hi,hs,(show _/\_ from ⟨hW,Ls,kx,kz,kn,kl,a,c,st,m1,m2,m3,m4,m5,hb,hc,fun e=>absurd e (Nat.ne_of_beq_eq_false rfl),?_⟩)⟩,_,_,_,_,_,_,g,.inl zT⟩;show QW _ _ _ _ _ _ _ _ _ _ _ (List.drop (x.wr.length+(x.wr.length+7) / 8+1) (lgC t p st x.wr kx)) _;rw [e3];exact g
 ·have hq':QW w0 S b t p s Ls (Vw kx kz kn kl) x.s x.made x.page ((lgC t p st x.wr kx).drop (x.wr.length+(x.wr.length+7) / 8+1)) w:=hq;have e3:=kN t p st x.wr kx 2;rw [kN] at hq';refine kY hq' rfl fun W g=> .inl ⟨⟨hi,hs,(show _/\_ from ⟨hW,Ls,kx,kz,kn,kl,a,c,st,m1,m2,m3,m4,m5,hb,hc,fun e=>absurd e (Nat.ne_of_beq_eq_false rfl),?_⟩)⟩,_,_,_,_,_,_,g,.inl zT⟩;show QW _ _ _ _ _ _ _ _ _ _ _ (List.drop (x.wr.length+(x.wr.length+7) / 8+2) (lgC t p st x.wr kx)) _;rw [e3];exact g
 ·have hq':QW w0 S b t p s Ls (Vw kx kz kn kl) x.s x.made x.page ((lgC t p st x.wr kx).drop (x.wr.length+(x.wr.length+7) / 8+2)) w:=hq;have e3:=kN t p st x.wr kx 3;rw [kN] at hq';refine kY hq' rfl fun W g=> .inl ⟨⟨hi,hs,(show _/\_ from ⟨hW,Ls,kx,kz,kn,kl,a,c,st,m1,m2,m3,m4,m5,hb,hc,fun e=>absurd e (Nat.ne_of_beq_eq_false rfl),?_⟩)⟩,_,_,_,_,_,_,g,.inl zT⟩;show QW _ _ _ _ _ _ _ _ _ _ _ (List.drop (x.wr.length+(x.wr.length+7) / 8+3) (lgC t p st x.wr kx)) _;rw [e3];exact g
 ·have hq':QW w0 S b t p s Ls (Vw kx kz kn kl) x.s x.made x.page ((lgC t p st x.wr kx).drop (x.wr.length+(x.wr.length+7) / 8+4)) w:=hq;have e3:=kN t p st x.wr kx 5;rw [kN] at hq';refine kY hq' rfl fun W g=> .inl ⟨⟨hi,hs,(show _/\_ from ⟨hW,Ls,kx,kz,kn,kl,a,c,st,m1,m2,m3,m4,m5,hb,hc,fun e=>absurd e (Nat.ne_of_beq_eq_false rfl),?_⟩)⟩,_,_,_,_,_,_,g,.inl zT⟩;show QW _ _ _ _ _ _ _ _ _ _ _ (List.drop (x.wr.length+(x.wr.length+7) / 8+5) (lgC t p st x.wr kx)) _;rw [e3];exact g
theorem told_16 {x:TS} {v:Int} {ok:Bool} (h:MS w0 S b t p s x w) (hp:x.ph=16) (hi:yJ t p (jy t p s v x)) (hs:StB t p (jy t p s v x)) :
 Calls prog 54 #[.pointer (some ⟨b,0,none⟩),.int .u64 v,.bool ok] w fun e w'=>e= .returned (.tuple #[])/\MS w0 S b t p s (jy t p s v x) w':=by
 rw [jdJ hp] at hi hs ⊢;have hm:=h.mr;unfold MR at hm;rw [hp] at hm;obtain ⟨hW,Ls,kx,kz,kn,kl,a,c,st,m1,m2,m3,m4,m5,hb,hc,-,hq⟩:=hm;have hq':QW w0 S b t p s Ls (Vw kx kz kn kl) x.s x.made x.page ((lgC t p st x.wr kx).drop (x.wr.length+(x.wr.length+7) / 8+3)) w:=hq;rw [if_pos zd] at hc;have e3:=kN t p st x.wr kx 4;rw [kN] at hq';refine Jj hq' rfl ent_ch1 fun W g=> ?_;subst hc;refine zM (qch1_any g m1 hb v) fun w' h1=> ?_;refine ⟨rfl,.inl ⟨⟨hi,hs,(show _/\_ from ⟨hW,Ls,kx,kz,kn,kl,a,c,x.s,m1,m2,m3,m4,m5,hb,⟨rfl,rfl,rfl,rfl,rfl⟩,fun e=>absurd e (Nat.ne_of_beq_eq_false rfl),?_⟩)⟩,_,_,_,_,_,_,h1,.inl zT⟩⟩;show QW _ _ _ _ _ _ _ _ _ _ _ (List.drop (x.wr.length+(x.wr.length+7) / 8+4) (lgC t p x.s x.wr kx)) _;rw [e3];exact h1
theorem told_18 {x:TS} {v:Int} {ok:Bool} (h:MS w0 S b t p s x w) (hr:jq t p s=true) (hp:x.ph=18) (hi:yJ t p (jy t p s v x)) (hs:StB t p (jy t p s v x)) :
 Calls prog 54 #[.pointer (some ⟨b,0,none⟩),.int .u64 v,.bool ok] w fun e w'=>e= .returned (.tuple #[])/\MS w0 S b t p s (jy t p s v x) w':=by
 rw [jdI hp] at hi hs ⊢;have hrb:=jn hr;have hm:=h.mr;unfold MR at hm;rw [hp] at hm;obtain ⟨hW,Ls,kx,kz,kn,kl,a,c,st,m1,m2,m3,m4,m5,hb,hc,-,hq⟩:=hm;have hq':QW w0 S b t p s Ls (Vw kx kz kn kl) x.s x.made x.page ((lgC t p st x.wr kx).drop (x.wr.length+(x.wr.length+7) / 8+5)) w:=hq;rw [if_neg zd] at hc;obtain ⟨c1,c2,c3,c4,c5⟩:=hc;rw [kN] at hq';refine kY hq' rfl fun W g=> .inr ⟨_,_,_,_,_,_,g,ent_ch2,fun W2 g2=> ?_⟩;refine qch2_any g2 m1 m2 m3 m4 ?_;have hno:=Yo (st:=st+1) (k:=(x.wr.length:Int)) zo zo (by have:=hW.1;omega);have hnj:j9 (st+1) (x.wr.length:Int) true=jH (st+1) ((x.wr.length:Int)+2147483648):=rfl;have hnu:U64 x.note:=by
  have:=hW.1;rw [c2,hnj];unfold U64 jH;omega
 have hnw:qo x.note=some (hiW x.note,true,(x.wr.length:Int)):=by
  have:=hW.1;rw [c2,hnj,hno.1,JA zo]
 have hd:TuD t p x:=⟨by rw [c3];omega,by rw [c3];omega,hnu,⟨_,_,hnw⟩,by rw [c4];exact hW⟩
 have hE:=VU (x:=x) g2 hr hd (k0:=kx) (a:=a) (c:=c) m1 (by rw [c4];exact m5) hi hs;rw [c3,c2,c4,c5] at hE;exact hE
end

theorem Xk {t p z v s0 u:Int} {x:TS} (hp:x.ph=0) (h:KC v=some (s0,u)):jy t p z v x=({ x with s:=s0,u:=u }:TS).to 1:=by
 unfold jy kI;rw [hp,h];exact Q7 _ 1 zd
theorem jaK {t p z v:Int} {x:TS} (hi:yJ t p x) (hp:x.ph=1) (h:qg v x.s=none):jy t p z v x=jL t p z x:=by
 unfold jy kI;rw [hp,h];exact KN (jfl hi.page (by rw [hi.hk zo];exact KnI.nil _) hi.n0 hi.n hi.l hi.wr)
theorem jdH {t p z v n:Int} {x:TS} (hp:x.ph=1) (h:qg v x.s=some n):jy t p z v x=if n=0 then jY (({ x with note:=v,n:=n }:TS).to 3) else ({ x with note:=v,n:=n }:TS).to 2:=by
 unfold jy kI;rw [hp,h];show jY (TS.to { x with ph:=1,note:=v,n:=n } 2)=_;by_cases h0:n=0
 ·rw [if_pos h0];subst h0;simp [jY,qt,TS.to]
 ·rw [if_neg h0];have h0':¬(0:Int)=n:=fun e=>h0 e.symm;simp [jY,qt,yc,yb,ya,q8,TS.to,h0']
theorem toldT2 {t p z v:Int} {x:TS} {e:Int×Int} (hp:x.ph=2) (h:qj v=some e):jy t p z v x=if (x.i:Int)+1=x.n then jY (({ x with l:=x.l++[e] }:TS).to 3) else { x with ph:=2,l:=x.l++[e],i:=x.i+1 }:=by
 unfold jy kI;rw [hp,h];show jY { x with ph:=2,l:=x.l++[e],i:=x.i+1 }=_;by_cases h0:(x.i:Int)+1=x.n
 ·rw [if_pos h0];simp [jY,qt,TS.to,h0]
 ·rw [if_neg h0];simp [jY,qt,yc,yb,ya,q8,h0]
theorem ent_tip:∀args w,(callFunc 39 args).run prog w= .ok (.enter 39 args) w:=enters_of func39 zk rfl
theorem ent_tip1:∀args w,(callFunc 83 args).run prog w= .ok (.enter 83 args) w:=enters_of func83 zk rfl
theorem ent_r1:∀args w,(callFunc 148 args).run prog w= .ok (.enter 148 args) w:=enters_of func148 zk rfl
theorem ent_r2:∀args w,(callFunc 151 args).run prog w= .ok (.enter 151 args) w:=enters_of func151 zk rfl
theorem jeG {v s n:Int} (hv:U64 v) (h:qg v s=some n):qo v=some (hiW v,true,n):=by
 unfold qg at h;split at h
 ·rename_i st n' hw;split at h
  ·cases h;have:=(Jc hv hw).1;rw [hw,this]
  ·cases h
 ·cases h
section
variable {w0 w:World} {S:Nat->Prop} {b:Nat} {t p s:Int} {Ls:List (Nat×Obj)}
theorem QW.tne {rest:Value} {st md pg:Int} {q:List Stp} (h:QW w0 S b t p s Ls rest st md pg q w) {k g:Nat} {cs cu:Array Value} {T T2:TypeId} (hm:(k,Obj.cells cs T)∈Ls) (hg:(g,Obj.cells cu T2)∈Ls) (hT:T≠T2):k≠g:=fun e=>by
 have a1:=(h.ls _ hm).1;have a2:=(h.ls _ hg).1;dsimp only at a1 a2;rw [e,a2] at a1;simp only [Option.some.injEq,Obj.cells.injEq] at a1;exact hT a1.2.1.symm
theorem told_0 {x:TS} {v:Int} {ok:Bool} (h:MS w0 S b t p s x w) (hr:jq t p s=true) (hp:x.ph=0) (hv:VOK t p x v) (hi:yJ t p (jy t p s v x)) (hs:StB t p (jy t p s v x)) :
 Calls prog 54 #[.pointer (some ⟨b,0,none⟩),.int .u64 v,.bool ok] w fun e w'=>e= .returned (.tuple #[])/\MS w0 S b t p s (jy t p s v x) w':=by
 obtain ⟨s0,u,ht,hu0,hu,hs0⟩:=hv.tip hp;rw [Xk hp ht] at hi hs ⊢;have hm:=h.mr;unfold MR at hm;rw [hp] at hm;obtain ⟨Ls,hq⟩:=hm;refine Jj hq rfl ent_tip fun W g=> ?_;refine zM (ja8 g hr hv.u ht hu0 hu) ?_;rintro w' ⟨kx,ks,ku,h1⟩;exact ⟨rfl,.inl ⟨⟨hi,hs,(show _/\_ from ⟨⟨hu0,hu⟩,_,ks,kx,ku,by simp [TS.to],zT,by simp [TS.to],h1⟩)⟩,_,_,_,_,_,_,h1,.inl zT⟩⟩
theorem told_1 {x:TS} {v:Int} {ok:Bool} (h:MS w0 S b t p s x w) (hr:jq t p s=true) (hp:x.ph=1) (hv:U64 v) (hi:yJ t p (jy t p s v x)) (hs:StB t p (jy t p s v x)) :
 Calls prog 54 #[.pointer (some ⟨b,0,none⟩),.int .u64 v,.bool ok] w fun e w'=>e= .returned (.tuple #[])/\MS w0 S b t p s (jy t p s v x) w':=by
 have hst:=h.st;have hrb:=jn hr;have hmu:(0:Int)<=(mu t p x:Int):=Int.natCast_nonneg _;have hpg:=h.inv.page;have hkn:=h.inv.hk zo;have hl0:=h.inv.h1 zo;have hown:=h.inv.h0 zo;have hm:=h.mr;unfold MR at hm;rw [hp] at hm;obtain ⟨hu,Ls,ks,kx,ku,m1,m2,m3,hq⟩:=hm;refine Jj hq rfl ent_tip1 fun W g=> ?_;cases ho:qg v x.s with
 | none=>
  rw [jaK h.inv hp ho] at hi hs ⊢;refine zM (qtip1_no (x:=x) (u:=0) g hr m1 m2 hv ho hkn zo ⟨hst.1,zo⟩) fun w' h1=> ?_;refine ⟨rfl,.inl (QU (y:=jL t p s x) (Ls:=Ls) ?_ hi hs (KJ _ _ _ _ _))⟩;have e:=Jt t p s (p.toNat - x.page) x;show SwR w0 S b t p s Ls .nilFunc (kH t p s (p.toNat - x.page) x).s (kH t p s (p.toNat - x.page) x).made _ _;rw [e.1,e.2.1];exact h1
 | some n=>
  rw [jdH hp ho] at hi hs ⊢;have hnw:=jeG hv ho;have hnb:=Jc hv hnw;obtain ⟨N,rfl⟩:∃N:Nat,n=(N:Int):=⟨n.toNat,zo⟩
  have hd:∀k,TuD t p (({ x with note:=v,n:=(N:Int) }:TS).to k):=fun k=>⟨hu.1,hu.2,hv,⟨_,_,hnw⟩,by show WrOK t p x.l;rw [hl0];exact ⟨zT,zT⟩⟩
  refine jeg g m1 m2 m3 hv ho fun W2 g2=> ?_;refine zM (jei g2 hr hu.1 hu.2 zo) ?_;rintro w' ⟨kx',ku',kn',kl',gg,bs,Ls',hbl,hsub,q1,q2,q3,q4,q5,q6,q7,h1⟩;refine ⟨rfl,?_⟩;by_cases h0:(N:Int)=0
  ·rw [if_pos h0] at hi hs ⊢;have hN:N=0:=zo;subst hN;have hb0:bs=[]:=List.eq_nil_of_length_eq_zero hbl;subst hb0;refine .inr ⟨_,_,_,_,_,_,h1,ent_r2,fun W3 g3=>Vh (Ψ:=fun _ _=>True) g3 q1 q2 q3 q4 ?_⟩;have hE:=VU (x:={ x with note:=v,n:=((0:Nat):Int) }) g3 hr (hd x.ph |> fun d=>⟨d.u0,d.u1,d.nv,d.nw,d.l⟩) (k0:=kx') (a:=some ⟨gg,0,none⟩) (c:=0) q1 (by show KB Ls' (.slice (some ⟨gg,0,none⟩) x.l.length 0) x.l;rw [hl0];exact ⟨_,_,rfl,Nat.le_refl _,fun hn=>absurd rfl hn⟩) hi hs;have eb:jcf x.own=153:=by rw [hown];rfl
   have el:x.l.length=0:=by rw [hl0];rfl
   have hE':Calls prog 152 #[.pointer (some ⟨b,0,none⟩),.int .i64 x.u,.int .u64 v,.slice (some ⟨gg,0,none⟩) x.l.length 0,.func (.func (jcf x.own)) #[] #[pB kx']] W3 _:=hE;rw [el,eb] at hE';exact hE'
  ·rw [if_neg h0] at hi hs ⊢;have hne:ldF t p x.u kl' bs≠[]:=fun e=>by
    have:=congrArg List.length e;simp [ldF] at this;rw [this] at hbl;simp at hbl;omega
   refine .inl ⟨⟨hi,hs,(show _/\_ from ⟨hd 2,Ls',kx',ku',kn',kl',gg,N,bs,rfl,hbl,q1,q2,q3,q4,?_,q7,h1⟩)⟩,_,_,_,_,_,_,h1,.inl hne⟩;show (gg,Obj.cells (j8 (yg N x.l)).toArray _)∈Ls';rw [hl0];exact q5
theorem told_2 {x:TS} {v:Int} {ok:Bool} (h:MS w0 S b t p s x w) (hr:jq t p s=true) (hp:x.ph=2) (hv:VOK t p x v) (hi:yJ t p (jy t p s v x)) (hs:StB t p (jy t p s v x)) :
 Calls prog 54 #[.pointer (some ⟨b,0,none⟩),.int .u64 v,.bool ok] w fun e w'=>e= .returned (.tuple #[])/\MS w0 S b t p s (jy t p s v x) w':=by
 obtain ⟨e,he,hc0,hc1⟩:=hv.ent hp;have helo:e.2=loW v:=by
  unfold qj at he;split at he
  ·cases he;rfl
  ·cases he
 rw [toldT2 hp he] at hi hs ⊢;obtain ⟨hil,hin⟩:=h.inv.h2 hp;have hn96:=h.inv.n;have hown:=h.inv.h0 zo;have hm:=h.mr;unfold MR at hm;rw [hp] at hm;obtain ⟨hd,Ls,kx,ku,kn,kl,g,N,bs,hN,hbl,m1,m2,m3,m4,m5,m6,hq⟩:=hm;have hib:x.i < bs.length:=zo;have hget:(ldF t p x.u kl bs)[x.i]? =some ⟨1,jJ t p x.u x.i,0,r1V kl bs[x.i]⟩:=by simp [ldF,hib]
 have hdrop:(ldF t p x.u kl bs).drop x.i=⟨1,jJ t p x.u x.i,0,r1V kl bs[x.i]⟩ :: (ldF t p x.u kl bs).drop (x.i+1):=by
  obtain ⟨h1,h2⟩:=List.getElem?_eq_some_iff.1 hget;rw [List.drop_eq_getElem_cons h1,h2]
 rw [hdrop] at hq;have hdl:∀k,TuD t p (({ x with l:=x.l++[e],i:=k }:TS)):=fun k=>⟨hd.u0,hd.u1,hd.nv,hd.nw,by
  refine ⟨?_,fun y hy=> ?_⟩
  ·show (x.l++[e]).length<=96;simp;omega
  ·have hy':y∈x.l++[e]:=hy;rcases List.mem_append.1 hy' with hy | hy
   ·exact hd.l.2 y hy
   ·simp at hy;subst hy;exact ⟨⟨hc0,hc1⟩,by rw [helo];exact KZ v⟩⟩
 refine Jj hq rfl ent_r1 fun W g1=> ?_;have hbi:=m6 x.i bs[x.i] (by simp [hib]);have hnx:=g1.tne m1 m5 zd;have hnu:=g1.tne m2 m5 zd;have hnn:=g1.tne m3 m5 zd;have hnl:=g1.tne m4 m5 zd;have hnb:∀j k:Nat,bs[j]? =some k->k≠g:=fun j k e=>g1.tne (m6 j k e) m5 zd;have hmf:∀z∈Ls,z.1≠g->z∈(g,Obj.cells (j8 (yg N (x.l++[e]))).toArray 106) :: Ls.filter (fun z=>z.1≠g):=fun z hz hzg=>List.mem_cons_of_mem _ (List.mem_filter.2 ⟨hz,by simpa using hzg⟩);refine (jcL (Ls':=(g,Obj.cells (j8 (yg N (x.l++[e]))).toArray 106) :: Ls.filter (fun z=>z.1≠g)) g1 m4 (by rw [<-hil];exact hbi) m5 zo zo hv.u he (fun z hz=> ?_)).mono ?_
 ·rcases List.mem_cons.1 hz with rfl | hz
  ·exact .inl rfl
  ·obtain ⟨h1,h2⟩:=List.mem_filter.1 hz;exact .inr ⟨h1,by simpa using h2⟩
 rintro e' w' ⟨rfl,h1⟩;refine ⟨rfl,?_⟩;by_cases h0:(x.i:Int)+1=x.n
 ·rw [if_pos h0] at hi hs ⊢;have hz:(ldF t p x.u kl bs).drop (x.i+1)=[]:=List.drop_of_length_le (by simp [ldF];omega);rw [hz] at h1;refine .inr ⟨_,_,_,_,_,_,h1,ent_r2,fun W3 g3=>Vh (Ψ:=fun _ _=>True) g3 (hmf _ m1 hnx) (hmf _ m2 hnu) (hmf _ m3 hnn) (hmf _ m4 hnl) ?_⟩;have hlenN:(x.l++[e]).length=N:=by simp;omega
  have hE:=VU (x:={ x with l:=x.l++[e] }) g3 hr (hdl x.i) (k0:=kx) (a:=some ⟨g,0,none⟩) (c:=N) (hmf _ m1 hnx) ?_ hi hs
  ·have eb:jcf x.own=153:=by rw [hown];rfl
   have hE':Calls prog 152 #[.pointer (some ⟨b,0,none⟩),.int .i64 x.u,.int .u64 x.note,.slice (some ⟨g,0,none⟩) (x.l++[e]).length N,.func (.func (jcf x.own)) #[] #[pB kx]] W3 _:=hE;rw [hlenN,eb] at hE';exact hE'
  ·show KB _ (.slice (some ⟨g,0,none⟩) (x.l++[e]).length N) (x.l++[e]);refine ⟨_,_,rfl,zo,fun _=>⟨g,0,_,rfl,List.mem_cons_self,fun i y hy=> ?_⟩⟩;have hp:=Jo (yg N (x.l++[e])) i;have hf:yg N (x.l++[e])=x.l++[e]:=by unfold yg;rw [hlenN];simp
   rw [hf,hy] at hp;rw [hf];simpa using hp
 ·rw [if_neg h0] at hi hs ⊢;have hne:(ldF t p x.u kl bs).drop (x.i+1)≠[]:=fun e=>by
   have:=congrArg List.length e;simp [ldF] at this;omega
  refine .inl ⟨⟨hi,hs,(show _/\_ from ⟨?_,_,kx,ku,kn,kl,g,N,bs,hN,hbl,hmf _ m1 hnx,hmf _ m2 hnu,hmf _ m3 hnn,hmf _ m4 hnl,List.mem_cons_self,fun j k e=>hmf _ (m6 j k e) (hnb j k e),h1⟩)⟩,_,_,_,_,_,_,h1,.inl hne⟩;exact ⟨hd.u0,hd.u1,hd.nv,hd.nw,(hdl 0).l⟩
end

def doM (t:Int) (m:NM) (d a v:Int):Int×NM:=if d=1 then ((m.load a).1,m) else if d=2 then (0,(m.store a v).2) else if d=4 then (0,(m.flush t a).2) else (0,(m.fence t).2)
theorem nextT_do {t p:Int} {x:TS} {d a v:Int} (h:jp t p x=some (d,a,v)):d=1\/d=2\/d=4\/d=5:=by
 unfold jp at h;split at h <;> simp at h <;> omega

theorem qe (t:Int) (m:NM) (a v:Int):doM t m 1 a v=((m.load a).1,m):=by simp [doM]
theorem J2 (t:Int) (m:NM) (a v:Int):doM t m 2 a v=(0,(m.store a v).2):=by simp [doM]
theorem J3 (t:Int) (m:NM) (a v:Int):doM t m 4 a v=(0,(m.flush t a).2):=by simp [doM]
theorem Qb (t:Int) (m:NM) (a v:Int):doM t m 5 a v=(0,(m.fence t).2):=by simp [doM]
theorem Jd {m:NM} {a:Int} {k:Nat} (h:a=(k:Int)) (hk:k < m.W.length):(m.load a).1=m.W.getD k 0:=by
 subst h;unfold NM.load;rw [if_pos (NM.th_iff.2 ⟨zo,zo⟩)];simp
section
variable {t z:Int} {vs:List Int} {P:Nat} {x y:TS} {m:NM}
theorem SH.cells {C:List Int} {K:Nat} (h:SH t z P vs C K):C.length=(jk t P).toNat:=by
 have h1:=h.len;have h2:=h.num;unfold jk;omega
theorem jcb (hsh:SH t z P vs vs 0):∀(k:Nat) (y:TS) (u:Int),y.page+k=P->m.K=m.W->kQ t P z m.W y.s u none (SP t P z vs y.page)->KnC (SP t P z vs y.page) y.known->CI t P z vs (kH t P z k y) m/\jY (kH t P z k y)=kH t P z k y
 | 0,y,u,hk,hKW,hs,_=>by
  refine ⟨.c19 u rfl hKW (by show y.page=(P:Int).toNat;simp;omega) ?_,Q7 y 19 zd⟩;have:y.page=(P:Int).toNat:=by simp;omega
  rw [<-this];exact hs
 | k+1,y,u,hk,hKW,hs,hc=>by
  have hP:=jn hsh.right;have hSP:=hsh.all zo y.page;unfold kH;by_cases h0:0<=(thF t P z y.page y.known).1
  ·rw [if_pos h0];refine ⟨.c10 u rfl hKW (by show y.page < (P:Int).toNat;simp;omega) hs hc,Q7 _ 10 zd⟩
  ·rw [if_neg h0];have hw:=jbF (p:=P) (q:=y.page) hSP.cells hc h0;by_cases hn:(thF t P z y.page y.known).2=[]
   ·rw [if_pos hn];refine jcb hsh k _ u (by dsimp only;omega) hKW ?_ (KnC.nil _);dsimp only;show kQ t P z m.W y.s u none (JT t P z y.page (SP t P z vs y.page));rw [jeD (by rw [<-hw];exact hn)];exact hs
   ·rw [if_neg hn];refine ⟨.c11 m.W u hs ⟨hw,hn,by show y.page < (P:Int).toNat;simp;omega⟩ ?_ (.inl ⟨rfl,rfl⟩),?_⟩
    ·rw [hKW];exact NM.Mix.refl _
    ·have:0≠(thF t P z y.page y.known).2.length:=by have:=List.length_pos_iff.2 hn;omega
     simp [jY,qt,yc,yb,ya,q8,TS.to,this,hn]
theorem ci_go (hsh:SH t z P vs vs 0) (y:TS) (u:Int) (hk:y.page<=P) (hKW:m.K=m.W) (hs:kQ t P z m.W y.s u none (SP t P z vs y.page)) (hc:KnC (SP t P z vs y.page) y.known):CI t P z vs (jL t P z y) m:=
 (jcb hsh _ y u (by simp;omega) hKW hs hc).1
theorem cj_no (h:x.own=false):Cj t P z vs x=SP t P z vs x.page:=by unfold Cj;rw [h];rfl
theorem cj_own (h:x.own=true):Cj t P z vs x=JT t P z x.page (SP t P z vs x.page):=by unfold Cj;rw [h];rfl
theorem ci_0 {s u:Int} {o:Option (List (Int×Int))} (hx:x=TS.begin) (hk:m.K=m.W) (hs:kQ t P z m.W s u o vs) {d a v:Int} (hn:jp t P x=some (d,a,v)):CI t P z vs (jy t P z (doM t m d a v).1 x) (doM t m d a v).2:=by
 subst hx;have e:jp t P TS.begin=some (1,8,0):=rfl;rw [e] at hn;cases hn;obtain ⟨hr,hl⟩:=hs.right;have hmb:=jI hr;have hrb:=jn hr;rw [qe,Jd (a:=8) (k:=8) rfl zo];rw [Xk rfl hs.tip.1];exact .c1 o rfl ⟨rfl,rfl,rfl,rfl⟩ hk hs
theorem ci_1 (hsh:SH t z P vs vs 0) (hi:yJ t P x) {o:Option (List (Int×Int))} (hp:x.ph=1) (h0:x.own=false/\x.page=0/\x.known=[]/\x.l=[]) (hk:m.K=m.W) (hs:kQ t P z m.W x.s x.u o vs) {d a v:Int} (hn:jp t P x=some (d,a,v)) :
 CI t P z vs (jy t P z (doM t m d a v).1 x) (doM t m d a v).2:=by
 have e:jp t P x=some (1,qX t P x.u,0):=by unfold jp;rw [hp];rfl
 rw [e] at hn;cases hn;obtain ⟨hr,hl⟩:=hs.right;obtain ⟨-,hu,-,-⟩:=hs.tip;have ly:=kV hr hu.1 hu.2;have ea:qX t P x.u=(((jo t P x.u).toNat:Nat):Int):=by unfold qX;rw [if_pos hu];omega
 rw [qe,Jd (k:=(jo t P x.u).toNat) ea zo];dsimp only;cases o with
 | none=>
  rw [jaK hi hp hs.shut];refine ci_go hsh x x.u zo hk ?_ ?_
  ·rw [h0.2.1];exact hs
  ·rw [h0.2.2.1];exact KnC.nil _
 | some L=>
  obtain ⟨k,hko,hno,hen,hkl,hk96,hb⟩:=hs.open_;rw [jdH hp hko];by_cases hk0:k=0
  ·rw [if_pos hk0,Vu,if_pos h0.2.2.2];have hL:L=[]:=List.eq_nil_of_length_eq_zero zo;rw [hL] at hs;refine .c3 m.W 0 (fun h=>absurd (show x.own=true from h) (by simp [h0.1])) ?_ rfl ?_ ?_ (.inr (.inr (.inr ⟨rfl,?_,?_⟩)))
   ·show kQ t P z m.W x.s x.u (some x.l) _;rw [h0.2.2.2,cj_no (by show x.own=false;exact h0.1)];show kQ t P z m.W x.s x.u (some []) (SP t P z vs x.page);rw [h0.2.1];exact hs
   ·show m.W=jV x.s (x.l.take 0) m.W;rfl
   ·rw [hk];exact NM.Mix.refl _
   ·show 0=x.l.length;rw [h0.2.2.2];rfl
   ·intro i y (hy:x.l[i]? =some y);rw [h0.2.2.2] at hy;simp at hy
  ·rw [if_neg hk0];refine .c2 L rfl ⟨h0.1,h0.2.1⟩ hk hs rfl hkl.symm ?_ ?_
   ·show x.l=L.take 0;rw [h0.2.2.2];rfl
   ·show 0 < L.length;omega
theorem ci_2 (hi:yJ t P x) {L:List (Int×Int)} (hp:x.ph=2) (h0:x.own=false/\x.page=0) (hk:m.K=m.W) (hs:kQ t P z m.W x.s x.u (some L) vs) (hnt:x.note=m.W.getD (jo t P x.u).toNat 0) (hN:x.n=L.length) (hl:x.l=L.take x.i) (hiL:x.i < L.length) {d a v:Int} (hn:jp t P x=some (d,a,v)) :
 CI t P z vs (jy t P z (doM t m d a v).1 x) (doM t m d a v).2:=by
 have e:jp t P x=some (1,YP t P x.u x.i,0):=by unfold jp;rw [hp];rfl
 rw [e] at hn;cases hn;obtain ⟨hr,hlen⟩:=hs.right;obtain ⟨-,hu,-,-⟩:=hs.tip;obtain ⟨k,hko,hno,hen,hkl,hk96,hb⟩:=hs.open_;obtain ⟨l1,l2,l3,l4,l5,l6,l7,l8⟩:=kV hr hu.1 hu.2;have ea:YP t P x.u x.i=(((jJ t P x.u 0).toNat+x.i:Nat):Int):=by unfold YP;rw [if_pos ⟨hu.1,hu.2,zo,zo⟩];exact l8 x.i
 rw [qe,Jd ea zo];dsimp only;have hen:=hs.entry hiL;rw [toldT2 hp hen];have hsn:x.l++[L[x.i]]=L.take (x.i+1):=by
  rw [hl,List.take_add_one,List.getElem?_eq_getElem hiL];rfl
 by_cases hd:(x.i:Int)+1=x.n
 ·have hfull:x.l++[L[x.i]]=L:=by rw [hsn];exact List.take_of_length_le zo
  rw [if_pos hd,Vu,if_neg zT];refine .c3 m.W 0 (fun h=>absurd (show x.own=true from h) (by simp [h0.1])) ?_ hnt rfl ?_ (.inl ⟨rfl,rfl⟩)
  ·show kQ t P z m.W x.s x.u (some (x.l++[L[x.i]])) _;rw [hfull,cj_no (by show x.own=false;exact h0.1)];show kQ t P z m.W x.s x.u (some L) (SP t P z vs x.page);rw [h0.2];exact hs
  ·rw [hk];exact NM.Mix.refl _
 ·rw [if_neg hd];exact .c2 L rfl h0 hk hs hnt hN hsn (by show x.i+1 < L.length;omega)
end

section
variable {t z:Int} {vs:List Int} {P:Nat} {x y:TS} {m:NM} {A:List Int} {j:Nat}
theorem Vo {A C:List Int} {s u:Int} {l:List (Int×Int)} (hs:kQ t P z A s u (some l) C):hiW (A.getD (jo t P u).toNat 0)=s:=by
 obtain ⟨k,-,hn,-⟩:=hs.open_;exact (Jc (K5 hs.u64 _) hn).1.symm
theorem jft (hl:x.i < x.l.length) (ho:x.own=true->x.page < (P:Int).toNat) (hs:kQ t P z A x.s x.u (some x.l) (Cj t P z vs x)) (hnt:x.note=A.getD (jo t P x.u).toNat 0) (hW:m.W=jV x.s (x.l.take (x.i+1)) A) (hM:NM.Mix A m.W m.K):CI t P z vs (YH x) m:=by
 unfold YH;by_cases he:x.i+1=x.l.length
 ·rw [if_pos he];exact .c3 A x.l.length ho hs hnt (by rw [<-he];exact hW) hM (.inr (.inr (.inl ⟨rfl,rfl,fun i y (hi:i < 0) _=>absurd hi (Nat.not_lt_zero _)⟩)))
 ·rw [if_neg he];exact .c3 A (x.i+1) ho hs hnt hW hM (.inl ⟨rfl,rfl⟩)
theorem jby {A C:List Int} {s u:Int} {l:List (Int×Int)} (hs:kQ t P z A s u (some l) C) {i:Nat} {y:Int×Int} (hy:l[i]? =some y):Je t P (l.getD i (0,0)).1=(((16+y.1).toNat:Nat):Int)/\(16+y.1).toNat < A.length/\(l.getD i (0,0))=y:=by
 obtain ⟨k,-,-,-,-,-,hb⟩:=hs.open_;obtain ⟨hr,hlen⟩:=hs.right;have hmb:=jI hr;have hrb:=jn hr;have hy2:=hb y (List.mem_of_getElem? hy);have e:l.getD i (0,0)=y:=by rw [List.getD_eq_getElem?_getD,hy];rfl
 rw [e];refine ⟨?_,zo,rfl⟩;unfold Je;rw [if_pos ⟨hy2.1,hy2.2.1⟩];omega
theorem ci_3 (hi:yJ t P x) (ho:x.own=true->x.page < (P:Int).toNat) (hs:kQ t P z A x.s x.u (some x.l) (Cj t P z vs x)) (hnt:x.note=A.getD (jo t P x.u).toNat 0) (hW:m.W=jV x.s (x.l.take x.i) A) (hM:NM.Mix A m.W m.K) (hp:x.ph=3) {d a v:Int} (hn:jp t P x=some (d,a,v)) :
 CI t P z vs (jy t P z (doM t m d a v).1 x) (doM t m d a v).2:=by
 have e:jp t P x=some (1,Je t P (x.l.getD x.i (0,0)).1,0):=by unfold jp;rw [hp];rfl
 rw [e] at hn;cases hn;have hl:=hi.h3 (.inl hp);obtain ⟨y,hy⟩:∃y,x.l[x.i]? =some y:=⟨_,List.getElem?_eq_getElem hl⟩
 obtain ⟨e1,e2,e3⟩:=jby hs hy;rw [qe,Jd e1 (by rw [hM.wl];exact e2)];dsimp only;have hst:=Vo hs;have hns:hiW x.note=x.s:=by rw [hnt];exact hst
 rw [toldT3 hp hl,hns];by_cases hlt:hiW (m.W.getD (16+y.1).toNat 0) < x.s
 ·rw [if_pos hlt];refine .c3 A x.i ho hs hnt hW hM (.inr (.inl ⟨rfl,rfl,fun y' (hy':x.l[x.i]? =some y')=> ?_⟩));rw [hy] at hy';cases hy';exact hlt
 ·rw [if_neg hlt];refine jft hl ho hs hnt ?_ hM;rw [yM _ _ _ _ _ hy,<-hW,if_neg hlt]
theorem ci_4 (hi:yJ t P x) (ho:x.own=true->x.page < (P:Int).toNat) (hs:kQ t P z A x.s x.u (some x.l) (Cj t P z vs x)) (hnt:x.note=A.getD (jo t P x.u).toNat 0) (hW:m.W=jV x.s (x.l.take x.i) A) (hM:NM.Mix A m.W m.K) (hp:x.ph=4) (hlo:∀y:Int×Int,x.l[x.i]? =some y->hiW (m.W.getD (16+y.1).toNat 0) < x.s) {d a v:Int} (hn:jp t P x=some (d,a,v)) :
 CI t P z vs (jy t P z (doM t m d a v).1 x) (doM t m d a v).2:=by
 have e:jp t P x=some (2,Je t P (x.l.getD x.i (0,0)).1,jH (hiW x.note) (x.l.getD x.i (0,0)).2):=by unfold jp;rw [hp];rfl
 rw [e] at hn;cases hn;have hl:=hi.h3 (.inr (.inl hp));obtain ⟨y,hy⟩:∃y,x.l[x.i]? =some y:=⟨_,List.getElem?_eq_getElem hl⟩
 obtain ⟨e1,e2,e3⟩:=jby hs hy;obtain ⟨k,-,-,-,-,-,hb⟩:=hs.open_;have hb2:∀y∈x.l,0<=y.2/\y.2 < 4294967296:=fun y hy=>(hb y hy).2.2;have hst:=Vo hs;have hlt:=hlo y hy;have hns:hiW x.note=x.s:=by rw [hnt];exact hst
 rw [J2,toldT4 hp hl,e1,e3,hns];have hth:m.th (((16+y.1).toNat:Nat):Int)=true:=NM.th_iff.2 ⟨zo,by rw [hM.wl];omega⟩;obtain ⟨w1,w2,w3⟩:=KL (v:=jH x.s y.2) hth;have en:(((16+y.1).toNat:Nat):Int).toNat=(16+y.1).toNat:=zo;rw [en] at w1;have hA:m.W.getD (16+y.1).toNat 0=A.getD (16+y.1).toNat 0:=by
  rcases Xi (s:=x.s) hb2 x.i e2 with h1 | h1
  ·rw [hW];exact h1
  ·rw [<-hW] at h1;rw [qZ _ _ _ _ hb2 e2] at h1;cases hen:Qw x.l (16+y.1).toNat with
   | none=>rw [hen] at h1;exact h1
   | some v=>
    rw [hen] at h1;dsimp only at h1;split at h1
    ·have hv:0<=v/\v < 4294967296:=by
      unfold Qw at hen;obtain ⟨y',hy',rfl⟩:=Option.map_eq_some_iff.1 hen;exact hb2 y' (List.mem_of_find?_eq_some hy')
     rw [h1,JA hv] at hlt;omega
    ·exact h1
 refine jft (A:=A) hl ho hs hnt ?_ ?_
 ·dsimp only;rw [w1,yM _ _ _ _ _ hy,<-hW,if_pos hlt]
 ·dsimp only;rw [w1,w2];exact hM.store (.inl hA)
theorem ci_5 (hi:yJ t P x) (ho:x.own=true->x.page < (P:Int).toNat) (hs:kQ t P z A x.s x.u (some x.l) (Cj t P z vs x)) (hnt:x.note=A.getD (jo t P x.u).toNat 0) (hW:m.W=jV x.s (x.l.take x.l.length) A) (hM:NM.Mix A m.W m.K) (hp:x.ph=5) (hf:∀(i:Nat) (y:Int×Int),i < x.i->x.l[i]? =some y->LnP m t (16+y.1).toNat) {d a v:Int} (hn:jp t P x=some (d,a,v)) :
 CI t P z vs (jy t P z (doM t m d a v).1 x) (doM t m d a v).2:=by
 have e:jp t P x=some (4,Je t P (x.l.getD x.i (0,0)).1,0):=by unfold jp;rw [hp];rfl
 rw [e] at hn;cases hn;have hl:=hi.h3 (.inr (.inr hp));obtain ⟨y,hy⟩:∃y,x.l[x.i]? =some y:=⟨_,List.getElem?_eq_getElem hl⟩
 obtain ⟨e1,e2,e3⟩:=jby hs hy;have hrb:=jn hs.right.1;rw [J3,toldT5 hp hl,e1];have hth:m.th (((16+y.1).toNat:Nat):Int)=true:=NM.th_iff.2 ⟨zo,by rw [hM.wl];omega⟩;have hmem:=J0 (who:=t) hth (by simp [NM.som];omega);obtain ⟨w1,w2⟩:=K7 m t (((16+y.1).toNat:Nat):Int);dsimp only;generalize (m.flush t (((16+y.1).toNat:Nat):Int)).2=m' at*
 have hfl:∀(i:Nat) (y':Int×Int),i < x.i+1->x.l[i]? =some y'->LnP m' t (16+y'.1).toNat:=by
  intro i y' hi' hy';unfold LnP;rw [hmem];by_cases hii:i < x.i
  ·exact .inl (hf i y' hii hy')
  ·have:i=x.i:=zo;subst this;rw [hy] at hy';cases hy';exact .inr zT
 rw [<-w1] at hW hM;rw [<-w2] at hM;by_cases he:x.i+1=x.l.length
 ·rw [if_pos he];refine .c3 A x.l.length ho hs hnt hW hM (.inr (.inr (.inr ⟨rfl,rfl,fun i y' hy'=>hfl i y' ?_ hy'⟩)));rw [he];exact (List.getElem?_eq_some_iff.1 hy').1
 ·rw [if_neg he];exact .c3 A x.l.length ho hs hnt hW hM (.inr (.inr (.inl ⟨rfl,rfl,hfl⟩)))
theorem ci_6 (hmi:m.Inv) (ho:x.own=true->x.page < (P:Int).toNat) (hs:kQ t P z A x.s x.u (some x.l) (Cj t P z vs x)) (hnt:x.note=A.getD (jo t P x.u).toNat 0) (hW:m.W=jV x.s (x.l.take x.l.length) A) (hM:NM.Mix A m.W m.K) (hp:x.ph=6) (hf:∀(i:Nat) (y:Int×Int),x.l[i]? =some y->LnP m t (16+y.1).toNat) {d a v:Int} (hn:jp t P x=some (d,a,v)) :
 CI t P z vs (jy t P z (doM t m d a v).1 x) (doM t m d a v).2:=by
 have e:jp t P x=some (5,0,0):=by unfold jp;rw [hp];rfl
 rw [e] at hn;cases hn;obtain ⟨k,-,-,-,-,-,hb⟩:=hs.open_;have hb2:∀y∈x.l,0<=y.2/\y.2 < 4294967296:=fun y hy=>(hb y hy).2.2;obtain ⟨hr,hlen⟩:=hs.right;obtain ⟨-,hu,-,-⟩:=hs.tip;have ly:=kV hr hu.1 hu.2;rw [List.take_length] at hW;obtain ⟨f1,f2⟩:=K9 (who:=t) hmi (fun k hk=>by
  rw [hM.wl] at hk;rcases hM.or k hk with h1 | h1
  ·by_cases hx:∀y∈x.l,(16+y.1).toNat≠k
   ·left;rw [h1,hW,Kv hb2 hk hx]
   ·right;simp only [Classical.not_forall,Classical.not_not] at hx;obtain ⟨y,hy,he⟩:=hx;obtain ⟨i,hi⟩:=List.getElem?_of_mem hy;have:=hf i y hi;unfold LnP at this;rw [he] at this;exact this
  ·exact .inl h1)
 rw [Qb,KI (.inl hp)];dsimp only;generalize (m.fence t).2=m' at*
 have hu64:∀w∈m'.W,U64 w:=fun w hw=>hmi.wu w (by rw [<-f2];exact hw);have hmw:m'.W=jV x.s x.l A:=f2.trans hW;rw [show x.ph+1=7 by omega];have hsw:kQ t P z m'.W x.s x.u (some x.l) (Cj t P z vs x):=hs.turning x.l.length ⟨by rw [qO],by rw [hmw,qO],fun k _=> .inr (by rw [hmw,List.take_length])⟩ hu64;refine .c7 rfl ho (by rw [f1,f2]) hsw ?_ ?_
 ·show x.note=m'.W.getD (jo t P x.u).toNat 0;rw [hnt,hmw,Kv hb2 zo (fun y hy=>by have:=hb y hy;omega)]
 ·show jV x.s x.l m'.W=m'.W;rw [hmw];exact Xj hb2 (qO _ _ _) (fun _ _=> .inr rfl)
theorem ci_7 (hp:x.ph=7) (ho:x.own=true->x.page < (P:Int).toNat) (hk:m.K=m.W) (hs:kQ t P z m.W x.s x.u (some x.l) (Cj t P z vs x)) (hnt:x.note=m.W.getD (jo t P x.u).toNat 0) (ht:jV x.s x.l m.W=m.W) {d a v:Int} (hn:jp t P x=some (d,a,v)) :
 CI t P z vs (jy t P z (doM t m d a v).1 x) (doM t m d a v).2:=by
 have e:jp t P x=some (2,qX t P x.u,Jv x.note):=by unfold jp;rw [hp];rfl
 rw [e] at hn;cases hn;obtain ⟨hr,hlen⟩:=hs.right;obtain ⟨-,hu,-,-⟩:=hs.tip;have ly:=kV hr hu.1 hu.2;have ea:qX t P x.u=(((jo t P x.u).toNat:Nat):Int):=by unfold qX;rw [if_pos hu];omega
 rw [J2,KI (.inr (.inl hp)),ea];have hth:m.th (((jo t P x.u).toNat:Nat):Int)=true:=NM.th_iff.2 ⟨zo,zo⟩;obtain ⟨w1,w2,w3⟩:=KL (v:=Jv x.note) hth;rw [show (((jo t P x.u).toNat:Nat):Int).toNat=(jo t P x.u).toNat by omega] at w1;rw [show x.ph+1=8 by omega];refine .c8 m.W ho hs hnt ht w1 ?_ (.inl rfl);dsimp only;rw [w1,w2,hk];exact (NM.Mix.refl _).store (.inl rfl)
theorem ci_8 (ho:x.own=true->x.page < (P:Int).toNat) (hs:kQ t P z A x.s x.u (some x.l) (Cj t P z vs x)) (hnt:x.note=A.getD (jo t P x.u).toNat 0) (ht:jV x.s x.l A=A) (hW:m.W=A.set (jo t P x.u).toNat (Jv x.note)) (hM:NM.Mix A m.W m.K) (hp:x.ph=8) {d a v:Int} (hn:jp t P x=some (d,a,v)) :
 CI t P z vs (jy t P z (doM t m d a v).1 x) (doM t m d a v).2:=by
 have e:jp t P x=some (4,qX t P x.u,0):=by unfold jp;rw [hp];rfl
 rw [e] at hn;cases hn;obtain ⟨hr,hlen⟩:=hs.right;have hrb:=jn hr;obtain ⟨-,hu,-,-⟩:=hs.tip;have ly:=kV hr hu.1 hu.2;have ea:qX t P x.u=(((jo t P x.u).toNat:Nat):Int):=by unfold qX;rw [if_pos hu];omega
 have hth:m.th (((jo t P x.u).toNat:Nat):Int)=true:=NM.th_iff.2 ⟨zo,by rw [hM.wl];omega⟩;have hmem:=J0 (who:=t) hth (by simp [NM.som];omega);obtain ⟨w1,w2⟩:=K7 m t (((jo t P x.u).toNat:Nat):Int);rw [J3,KI (.inr (.inr (.inl hp))),ea];dsimp only;generalize (m.flush t (((jo t P x.u).toNat:Nat):Int)).2=m' at*
 rw [show x.ph+1=9 by omega];refine .c8 A ho hs hnt ht (w1.trans hW) (by rw [w1,w2];exact hM) (.inr ⟨rfl,?_⟩);show LnP m' t (jo t P x.u).toNat;unfold LnP;rw [hmem];exact .inr zT
theorem ci_9 (hsh:SH t z P vs vs 0) (hi:yJ t P x) (hmi:m.Inv) (ho:x.own=true->x.page < (P:Int).toNat) (hs:kQ t P z A x.s x.u (some x.l) (Cj t P z vs x)) (hnt:x.note=A.getD (jo t P x.u).toNat 0) (ht:jV x.s x.l A=A) (hW:m.W=A.set (jo t P x.u).toNat (Jv x.note)) (hM:NM.Mix A m.W m.K) (hp:x.ph=9) (hf:LnP m t (jo t P x.u).toNat) {d a v:Int} (hn:jp t P x=some (d,a,v)) :
 CI t P z vs (jy t P z (doM t m d a v).1 x) (doM t m d a v).2:=by
 have e:jp t P x=some (5,0,0):=by unfold jp;rw [hp];rfl
 rw [e] at hn;cases hn;obtain ⟨f1,f2⟩:=K9 (who:=t) hmi (fun k hk=>by
  rw [hM.wl] at hk;rcases hM.or k hk with h1 | h1
  ·by_cases hkn:k=(jo t P x.u).toNat
   ·right;rw [hkn];exact hf
   ·left;rw [h1,hW,jaW k hk hkn]
  ·exact .inl h1)
 rw [Qb,toldT9 hi hp];dsimp only;generalize (m.fence t).2=m' at*
 have hpg:=hi.page;refine ci_go hsh _ x.u ?_ (by rw [f1,f2]) ?_ (KnC.nil _)
 ·dsimp only;split
  ·have:=ho (by assumption);simp at this hpg;omega
  ·simp at hpg;omega
 ·show kQ t P z m'.W x.s x.u none (Cj t P z vs x);rw [f2,hW,hnt];refine hs.shutting ht ?_;rw [<-hnt,<-hW];exact hmi.wu
end

section
variable {t z:Int} {vs:List Int} {P:Nat} {x y:TS} {m:NM} {A:List Int} {u:Int}
theorem ci_10 (hsh:SH t z P vs vs 0) (hi:yJ t P x) (hp:x.ph=10) (hk:m.K=m.W) (hpg:x.page < (P:Int).toNat) (hs:kQ t P z m.W x.s u none (SP t P z vs x.page)) (hc:KnC (SP t P z vs x.page) x.known) {d a v:Int} (hn:jp t P x=some (d,a,v)) :
 CI t P z vs (jy t P z (doM t m d a v).1 x) (doM t m d a v).2:=by
 have e:jp t P x=some (1,Je t P x.need,0):=by unfold jp;rw [hp];rfl
 rw [e] at hn;cases hn;obtain ⟨hr,hlen⟩:=hs.right;have hmb:=jI hr;have hrb:=jn hr;have hC:=hs.vals;have hki:=(hi.h10 hp).2.2 (x.need,0) zT;dsimp only at hki;have ea:Je t P x.need=((16+x.need.toNat:Nat):Int):=by
  unfold Je;rw [if_pos ⟨hki.1,zo⟩];omega
 rw [qe,Jd ea zo,jaL hi hp];dsimp only;refine ci_go hsh _ u (by dsimp only;simp at hpg;omega) hk hs ?_;show KnC (SP t P z vs x.page) (x.known++[(x.need,loW (m.W.getD (16+x.need.toNat) 0))]);have hne:(x.need:Int)=(x.need.toNat:Int):=zo;have hv:(SP t P z vs x.page)[x.need.toNat]? =some (loW (m.W.getD (16+x.need.toNat) 0)):=by
  rw [hC];unfold qY yn;rw [List.getElem?_map,List.getElem?_range hki.2];rfl
 generalize loW (m.W.getD (16+x.need.toNat) 0)=q at*
 rw [hne];exact hc.snoc hv
theorem Wr.len (h:Wr t P z vs x):0 < x.wr.length:=List.length_pos_iff.2 h.ne
theorem logt_bd (hr:jq t P z=true):(jJ t P t 0).toNat % 8=0:=by
 have hrb:=jn hr;have ly:=kV (u:=t) hr zo (Int.le_refl _);omega
theorem Ys (hr:jq t P z=true):16+(jk t P).toNat<=(jo t P t).toNat/\(jo t P t).toNat+8=(jJ t P t 0).toNat/\((jJ t P t 0).toNat+96:Int)<=qa t P/\qX t P t=(((jo t P t).toNat:Nat):Int)/\(∀i:Nat,i < 96->YP t P t i=(((jJ t P t 0).toNat+i:Nat):Int))/\NM.som t=true:=by
 have hrb:=jn hr;obtain ⟨l1,l2,l3,l4,l5,l6,l7,l8⟩:=kV (u:=t) hr zo (Int.le_refl _);refine ⟨l1,l2,l3,?_,fun i hi=> ?_,by simp [NM.som];omega⟩
 ·unfold qX;rw [if_pos zo];omega
 ·unfold YP;rw [if_pos zo];exact l8 i
theorem ci_11 (hi:yJ t P x) (hs:kQ t P z A x.s u none (SP t P z vs x.page)) (hw:Wr t P z vs x) (hM:NM.Mix A m.W m.K) (hp:x.ph=11) (hW:m.W=Xb (jJ t P t 0).toNat (YO x.wr) A x.i) {d a v:Int} (hn:jp t P x=some (d,a,v)) :
 CI t P z vs (jy t P z (doM t m d a v).1 x) (doM t m d a v).2:=by
 have e:jp t P x=some (2,YP t P t x.i,jH (x.wr.getD x.i (0,0)).1 (x.wr.getD x.i (0,0)).2):=by unfold jp;rw [hp];rfl
 rw [e] at hn;cases hn;obtain ⟨hr,hlen⟩:=hs.right;obtain ⟨l1,l2,l3,l4,l5,l6⟩:=Ys hr;have hil:=hi.hi (.inl hp);have h96:=hi.wr;have hth:m.th (((jJ t P t 0).toNat+x.i:Nat):Int)=true:=NM.th_iff.2 ⟨zo,by rw [hM.wl];omega⟩;rw [J2,jdL hp hil,l5 x.i zo];obtain ⟨w1,w2,w3⟩:=KL (v:=jH (x.wr.getD x.i (0,0)).1 (x.wr.getD x.i (0,0)).2) hth;rw [show (((jJ t P t 0).toNat+x.i:Nat):Int).toNat=(jJ t P t 0).toNat+x.i by omega] at w1;have hlw:(YO x.wr).getD x.i 0=jH (x.wr.getD x.i (0,0)).1 (x.wr.getD x.i (0,0)).2:=by
  simp [YO,List.getD_eq_getElem?_getD,hil]
 have hA:m.W.getD ((jJ t P t 0).toNat+x.i) 0=A.getD ((jJ t P t 0).toNat+x.i) 0:=by
  rw [hW,QV _ _ _ zo,if_neg zo]
 have hM':=hM.store (k:=(jJ t P t 0).toNat+x.i) (v:=jH (x.wr.getD x.i (0,0)).1 (x.wr.getD x.i (0,0)).2) (.inl hA);rw [<-w1,<-w2] at hM';have hW':(m.store (((jJ t P t 0).toNat+x.i:Nat):Int) (jH (x.wr.getD x.i (0,0)).1 (x.wr.getD x.i (0,0)).2)).2.W=Xb (jJ t P t 0).toNat (YO x.wr) A (x.i+1):=by
  rw [w1,hW];show _=(Xb (jJ t P t 0).toNat (YO x.wr) A x.i).set _ _;rw [hlw]
 dsimp only;generalize (m.store (((jJ t P t 0).toNat+x.i:Nat):Int) (jH (x.wr.getD x.i (0,0)).1 (x.wr.getD x.i (0,0)).2)).2=m' at*
 by_cases he:x.i+1=x.wr.length
 ·rw [if_pos he];exact .c11 A u hs ⟨hw.wr,hw.ne,hw.pg⟩ hM' (.inr (.inl ⟨rfl,by show m'.W=Xb _ (YO x.wr) A x.wr.length;rw [<-he];exact hW',rfl,fun k (hk:k < 0) _=>absurd hk (Nat.not_lt_zero _)⟩))
 ·rw [if_neg he];exact .c11 A u hs ⟨hw.wr,hw.ne,hw.pg⟩ hM' (.inl ⟨rfl,hW'⟩)
theorem ci_12 (hi:yJ t P x) (hs:kQ t P z A x.s u none (SP t P z vs x.page)) (hw:Wr t P z vs x) (hM:NM.Mix A m.W m.K) (hp:x.ph=12) (hW:m.W=Xb (jJ t P t 0).toNat (YO x.wr) A x.wr.length) (h8:x.i % 8=0) (hf:∀k,k < x.i->k < x.wr.length->LnP m t ((jJ t P t 0).toNat+k)) {d a v:Int} (hn:jp t P x=some (d,a,v)) :
 CI t P z vs (jy t P z (doM t m d a v).1 x) (doM t m d a v).2:=by
 have e:jp t P x=some (4,YP t P t x.i,0):=by unfold jp;rw [hp];rfl
 rw [e] at hn;cases hn;obtain ⟨hr,hlen⟩:=hs.right;obtain ⟨l1,l2,l3,l4,l5,l6⟩:=Ys hr;have hlb:=logt_bd hr;have hil:=hi.hi (.inr hp);have h96:=hi.wr;have hth:m.th (((jJ t P t 0).toNat+x.i:Nat):Int)=true:=NM.th_iff.2 ⟨zo,by rw [hM.wl];omega⟩;have hmem:=J0 (who:=t) hth l6;obtain ⟨w1,w2⟩:=K7 m t (((jJ t P t 0).toNat+x.i:Nat):Int);rw [J3,jdK hp,l5 x.i zo];dsimp only;generalize (m.flush t (((jJ t P t 0).toNat+x.i:Nat):Int)).2=m' at*
 have hf':∀k,k < x.i+8->k < x.wr.length->LnP m' t ((jJ t P t 0).toNat+k):=by
  intro k hk hkl;unfold LnP;rw [hmem];by_cases hki:k < x.i
  ·exact .inl (hf k hki hkl)
  ·right;have e8:((jJ t P t 0).toNat+k) / 8=((jJ t P t 0).toNat+x.i) / 8:=zo;rw [e8];simp
 rw [<-w1,<-w2] at hM;rw [<-w1] at hW;by_cases he:x.wr.length<=x.i+8
 ·rw [if_pos he];exact .c11 A u hs ⟨hw.wr,hw.ne,hw.pg⟩ hM (.inr (.inr (.inl ⟨rfl,hW,fun k hk=>hf' k (by have:k < x.wr.length:=hk;omega) hk⟩)))
 ·rw [if_neg he];exact .c11 A u hs ⟨hw.wr,hw.ne,hw.pg⟩ hM (.inr (.inl ⟨rfl,hW,by show (x.i+8) % 8=0;omega,hf'⟩))
theorem ci_13 (hi:yJ t P x) (hs:kQ t P z A x.s u none (SP t P z vs x.page)) (hw:Wr t P z vs x) (hM:NM.Mix A m.W m.K) (hp:x.ph=13) (hW:m.W=Xb (jJ t P t 0).toNat (YO x.wr) A x.wr.length) (hf:∀k,k < x.wr.length->LnP m t ((jJ t P t 0).toNat+k)) {d a v:Int} (hn:jp t P x=some (d,a,v)) :
 CI t P z vs (jy t P z (doM t m d a v).1 x) (doM t m d a v).2:=by
 have e:jp t P x=some (2,qX t P t,x.openN):=by unfold jp;rw [hp];rfl
 rw [e] at hn;cases hn;obtain ⟨hr,hlen⟩:=hs.right;obtain ⟨l1,l2,l3,l4,l5,l6⟩:=Ys hr;have hth:m.th (((jo t P t).toNat:Nat):Int)=true:=NM.th_iff.2 ⟨zo,by rw [hM.wl];omega⟩;rw [J2,KI (.inr (.inr (.inr (.inl hp)))),l4];obtain ⟨w1,w2,w3⟩:=KL (v:=x.openN) hth;rw [show (((jo t P t).toNat:Nat):Int).toNat=(jo t P t).toNat by omega] at w1;have hA:m.W.getD (jo t P t).toNat 0=A.getD (jo t P t).toNat 0:=by
  rw [hW,QV _ _ _ zo,if_neg zo]
 have hM':=hM.store (k:=(jo t P t).toNat) (v:=x.openN) (.inl hA);rw [<-w1,<-w2] at hM';rw [hW] at w1;dsimp only;rw [show x.ph+1=14 by omega];refine .c11 A u hs ⟨hw.wr,hw.ne,hw.pg⟩ hM' (.inr (.inr (.inr ⟨.inl rfl,w1,fun k hk=> ?_⟩)));have:=hf k hk;unfold LnP at this ⊢;rw [w3];exact this
theorem ci_14 (hs:kQ t P z A x.s u none (SP t P z vs x.page)) (hw:Wr t P z vs x) (hM:NM.Mix A m.W m.K) (hp:x.ph=14) (hW:m.W=(Xb (jJ t P t 0).toNat (YO x.wr) A x.wr.length).set (jo t P t).toNat x.openN) (hf:∀k,k < x.wr.length->LnP m t ((jJ t P t 0).toNat+k)) {d a v:Int} (hn:jp t P x=some (d,a,v)) :
 CI t P z vs (jy t P z (doM t m d a v).1 x) (doM t m d a v).2:=by
 have e:jp t P x=some (4,qX t P t,0):=by unfold jp;rw [hp];rfl
 rw [e] at hn;cases hn;obtain ⟨hr,hlen⟩:=hs.right;obtain ⟨l1,l2,l3,l4,l5,l6⟩:=Ys hr;have hth:m.th (((jo t P t).toNat:Nat):Int)=true:=NM.th_iff.2 ⟨zo,by rw [hM.wl];omega⟩;have hmem:=J0 (who:=t) hth l6;obtain ⟨w1,w2⟩:=K7 m t (((jo t P t).toNat:Nat):Int);rw [J3,KI (.inr (.inr (.inr (.inr (.inl hp))))),l4];dsimp only;generalize (m.flush t (((jo t P t).toNat:Nat):Int)).2=m' at*
 rw [<-w1,<-w2] at hM;rw [<-w1] at hW;rw [show x.ph+1=15 by omega];refine .c11 A u hs ⟨hw.wr,hw.ne,hw.pg⟩ hM (.inr (.inr (.inr ⟨.inr ⟨rfl,?_⟩,hW,fun k hk=> ?_⟩)))
 ·unfold LnP;rw [hmem];exact .inr zT
 ·have:=hf k hk;unfold LnP at this ⊢;rw [hmem];exact .inl this
theorem jac (hs:kQ t P z A x.s u none (SP t P z vs x.page)) {k:Nat} (hk:k < A.length):((Xb (jJ t P t 0).toNat (YO x.wr) A x.wr.length).set (jo t P t).toNat x.openN).getD k 0=if k=(jo t P t).toNat then x.openN else if (jJ t P t 0).toNat<=k/\k < (jJ t P t 0).toNat+x.wr.length then (YO x.wr).getD (k - (jJ t P t 0).toNat) 0 else A.getD k 0:=by
 by_cases e:k=(jo t P t).toNat
 ·rw [if_pos e,e,NM.getD_set_self (by rw [V0];omega)]
 ·rw [if_neg e,NM.getD_set_ne (fun h=>e h.symm),QV _ _ _ hk]
theorem ci_15 (hi:yJ t P x) (hmi:m.Inv) (hst:x.s+1 < 4294967296) (hs:kQ t P z A x.s u none (SP t P z vs x.page)) (hw:Wr t P z vs x) (hM:NM.Mix A m.W m.K) (hp:x.ph=15) (hnl:LnP m t (jo t P t).toNat) (hW:m.W=(Xb (jJ t P t 0).toNat (YO x.wr) A x.wr.length).set (jo t P t).toNat x.openN) (hf:∀k,k < x.wr.length->LnP m t ((jJ t P t 0).toNat+k)) {d a v:Int} (hn:jp t P x=some (d,a,v)) :
 CI t P z vs (jy t P z (doM t m d a v).1 x) (doM t m d a v).2:=by
 have e:jp t P x=some (5,0,0):=by unfold jp;rw [hp];rfl
 rw [e] at hn;cases hn;obtain ⟨hr,hlen⟩:=hs.right;obtain ⟨-,-,hs0,-⟩:=hs.tip;obtain ⟨l1,l2,l3,l4,l5,l6⟩:=Ys hr;have h96:=hi.wr;obtain ⟨f1,f2⟩:=K9 (who:=t) hmi (fun k hk=>by
  rw [hM.wl] at hk;rcases hM.or k hk with h1 | h1
  ·by_cases hkn:k=(jo t P t).toNat
   ·right;rw [hkn];exact hnl
   ·by_cases hkl:(jJ t P t 0).toNat<=k/\k < (jJ t P t 0).toNat+x.wr.length
    ·right;have:=hf (k - (jJ t P t 0).toNat) zo;rw [show (jJ t P t 0).toNat+(k - (jJ t P t 0).toNat)=k by omega] at this;exact this
    ·left;rw [h1,hW,jac hs hk,if_neg hkn,if_neg hkl]
  ·exact .inl h1)
 rw [Qb,KI (.inr (.inr (.inr (.inr (.inr (.inl hp)))))),show x.ph+1=16 by omega];dsimp only;generalize (m.fence t).2=m' at*
 have hu64:∀w∈m'.W,U64 w:=fun w hw=>hmi.wu w (by rw [<-f2];exact hw);have hg:∀k,k < A.length->m'.W.getD k 0=if k=(jo t P t).toNat then x.openN else if (jJ t P t 0).toNat<=k/\k < (jJ t P t 0).toNat+x.wr.length then (YO x.wr).getD (k - (jJ t P t 0).toNat) 0 else A.getD k 0:=fun k hk=>by
  rw [f2,hW];exact jac hs hk
 refine .c16 u rfl (by rw [f1,f2]) (hs.logging (by rw [f2,hM.wl]) hu64 (fun k hk hkn=> ?_) (.inr ?_)) ⟨hw.wr,hw.ne,hw.pg⟩ ⟨fun k hk=> ?_,?_⟩
 ·rw [hg k hk,if_neg zo,if_neg zo]
 ·rw [hg _ zo,if_pos rfl];exact jcV zo zo zo (by show x.s+1≠x.s;omega)
 ·have hk':k < x.wr.length:=hk;rw [hg _ zo,if_neg zo,if_pos zo,show (jJ t P t 0).toNat+k - (jJ t P t 0).toNat=k by omega];rfl
 ·rw [hg _ zo,if_pos rfl];rfl
theorem ci_16 (hst:x.s+1 < 4294967296) (hp:x.ph=16) (hk:m.K=m.W) (hs:kQ t P z m.W x.s u none (SP t P z vs x.page)) (hw:Wr t P z vs x) (hl:Laid t P x.wr x.openN m.W) {d a v:Int} (hn:jp t P x=some (d,a,v)) :
 CI t P z vs (jy t P z (doM t m d a v).1 x) (doM t m d a v).2:=by
 have e:jp t P x=some (2,8,jH (x.s+1) t):=by unfold jp;rw [hp];rfl
 rw [e] at hn;cases hn;obtain ⟨hr,hlen⟩:=hs.right;have hmb:=jI hr;have hrb:=jn hr;have hth:m.th 8=true:=NM.th_iff.2 ⟨zo,zo⟩;rw [J2,jdJ hp];obtain ⟨w1,w2,w3⟩:=KL (v:=jH (x.s+1) t) hth;rw [show (8:Int).toNat=8 by rfl] at w1;dsimp only;refine .c17 m.W u ?_ ⟨hw.wr,hw.ne,hw.pg⟩ hl ⟨rfl,rfl,rfl,rfl⟩ hst w1 ?_ (.inl rfl)
 ·show kQ t P z m.W (x.s+1 - 1) u none (SP t P z vs x.page);rw [show x.s+1 - 1=x.s by omega];exact hs
 ·rw [w1,w2,hk];exact (NM.Mix.refl _).store (.inl rfl)
theorem ci_17 (hs:kQ t P z A (x.s - 1) u none (SP t P z vs x.page)) (hw:Wr t P z vs x) (hl:Laid t P x.wr x.note A) (hx:x.note=j9 x.s x.wr.length true/\x.l=x.wr/\x.own=true/\x.u=t) (hs0:x.s < 4294967296) (hW:m.W=A.set 8 (jH x.s t)) (hM:NM.Mix A m.W m.K) (hp:x.ph=17) {d a v:Int} (hn:jp t P x=some (d,a,v)) :
 CI t P z vs (jy t P z (doM t m d a v).1 x) (doM t m d a v).2:=by
 have e:jp t P x=some (4,8,0):=by unfold jp;rw [hp];rfl
 rw [e] at hn;cases hn;obtain ⟨hr,hlen⟩:=hs.right;have hmb:=jI hr;have hrb:=jn hr;obtain ⟨l1,l2,l3,l4,l5,l6⟩:=Ys hr;have hth:m.th 8=true:=NM.th_iff.2 ⟨zo,by rw [hM.wl];omega⟩;have hmem:=J0 (who:=t) hth l6;obtain ⟨w1,w2⟩:=K7 m t 8;rw [J3,KI (.inr (.inr (.inr (.inr (.inr (.inr hp)))))),show x.ph+1=18 by omega];dsimp only;generalize (m.flush t 8).2=m' at*
 refine .c17 A u hs ⟨hw.wr,hw.ne,hw.pg⟩ hl hx hs0 (w1.trans hW) (by rw [w1,w2];exact hM) (.inr ⟨rfl,?_⟩);unfold LnP;rw [hmem];exact .inr rfl
theorem tip_laid (hsh:SH t z P vs vs 0) (hi:yJ t P x) (hs:kQ t P z A (x.s - 1) u none (SP t P z vs x.page)) (hw:Wr t P z vs x) (hl:Laid t P x.wr x.note A) (hx:x.note=j9 x.s x.wr.length true/\x.l=x.wr/\x.own=true/\x.u=t) (hs0:x.s < 4294967296) (hu:∀w∈A.set 8 (jH x.s t),U64 w) :
 kQ t P z (A.set 8 (jH x.s t)) x.s t (some x.wr) (SP t P z vs (x.page+1)):=by
 have hrb:=jn hsh.right;have hpg:=hw.pg;have hsx:x.s - 1+1=x.s:=zo;have:=hs.tipped (q:=x.page) (wr:=x.wr) zo hw.wr (fun y hy=>wrP_bd (hsh.all zo x.page) (by simp at hpg;omega) zo y (by rw [<-hw.wr];exact hy)) hi.wr (by rw [hsx,<-hx.1];exact hl) (by rw [hsx];exact hu);rw [hsx] at this;exact this
theorem ci_18 (hsh:SH t z P vs vs 0) (hi:yJ t P x) (hmi:m.Inv) (hs:kQ t P z A (x.s - 1) u none (SP t P z vs x.page)) (hw:Wr t P z vs x) (hl:Laid t P x.wr x.note A) (hx:x.note=j9 x.s x.wr.length true/\x.l=x.wr/\x.own=true/\x.u=t) (hs0:x.s < 4294967296) (hW:m.W=A.set 8 (jH x.s t)) (hM:NM.Mix A m.W m.K) (hp:x.ph=18) (hf:LnP m t 8) {d a v:Int} (hn:jp t P x=some (d,a,v)) :
 CI t P z vs (jy t P z (doM t m d a v).1 x) (doM t m d a v).2:=by
 have e:jp t P x=some (5,0,0):=by unfold jp;rw [hp];rfl
 rw [e] at hn;cases hn;obtain ⟨hr,hlen⟩:=hs.right;obtain ⟨l1,l2,l3,l4,l5,l6⟩:=Ys hr;obtain ⟨f1,f2⟩:=K9 (who:=t) hmi (fun k hk=>by
  rw [hM.wl] at hk;rcases hM.or k hk with h1 | h1
  ·by_cases hkn:k=8
   ·right;rw [hkn];exact hf
   ·left;rw [h1,hW,jaW k hk hkn]
  ·exact .inl h1)
 rw [Qb,jdI hp,Vu,if_neg (by rw [hx.2.1];exact hw.ne)];dsimp only;generalize (m.fence t).2=m' at*
 have hW':=f2.trans hW;refine .c3 m'.W 0 (fun _=>hw.pg) ?_ ?_ rfl ?_ (.inl ⟨rfl,rfl⟩)
 ·show kQ t P z m'.W x.s x.u (some x.l) _;rw [cj_own (by exact hx.2.2.1),hx.2.2.2,hx.2.1,hW'];exact tip_laid hsh hi hs hw hl hx hs0 (by rw [<-hW];exact hmi.wu)
 ·show x.note=m'.W.getD (jo t P x.u).toNat 0;rw [hx.2.2.2,hW',NM.getD_set_ne zo,hl.nt]
 ·rw [f1,f2];exact NM.Mix.refl _
theorem ci_step (hsh:SH t z P vs vs 0) (hi:yJ t P x) (hmi:m.Inv) (hst:x.s+1 < 4294967296) (h:CI t P z vs x m) {d a v:Int} (hn:jp t P x=some (d,a,v)):CI t P z vs (jy t P z (doM t m d a v).1 x) (doM t m d a v).2:=by
 rcases h with ⟨s,u,o,hx,hk,hs⟩ | ⟨o,hp,h0,hk,hs⟩ | ⟨L,hp,h0,hk,hs,hnt,hN,hl,hiL⟩ | ⟨A,j,ho,hs,hnt,hW,hM,hp⟩ | ⟨hp,ho,hk,hs,hnt,ht⟩ | ⟨A,ho,hs,hnt,ht,hW,hM,hp⟩ | ⟨u,hp,hk,hpg,hs,hc⟩ | ⟨A,u,hs,hw,hM,hp⟩ | ⟨u,hp,hk,hs,hw,hl⟩ | ⟨A,u,hs,hw,hl,hx,hs0,hW,hM,hp⟩ | ⟨u,hp,hk,hpg,hs⟩
 ·exact ci_0 hx hk hs hn
 ·exact ci_1 hsh hi hp h0 hk hs hn
 ·exact ci_2 hi hp h0 hk hs hnt hN hl hiL hn
 ·rcases hp with ⟨hp,rfl⟩ | ⟨hp,rfl,hlo⟩ | ⟨hp,rfl,hf⟩ | ⟨hp,rfl,hf⟩
  ·exact ci_3 hi ho hs hnt hW hM hp hn
  ·exact ci_4 hi ho hs hnt hW hM hp hlo hn
  ·exact ci_5 hi ho hs hnt hW hM hp hf hn
  ·exact ci_6 hmi ho hs hnt hW hM hp hf hn
 ·exact ci_7 hp ho hk hs hnt ht hn
 ·rcases hp with hp | ⟨hp,hf⟩
  ·exact ci_8 ho hs hnt ht hW hM hp hn
  ·exact ci_9 hsh hi hmi ho hs hnt ht hW hM hp hf hn
 ·exact ci_10 hsh hi hp hk hpg hs hc hn
 ·rcases hp with ⟨hp,hW⟩ | ⟨hp,hW,h8,hf⟩ | ⟨hp,hW,hf⟩ | ⟨hp | ⟨hp,hnl⟩,hW,hf⟩
  ·exact ci_11 hi hs hw hM hp hW hn
  ·exact ci_12 hi hs hw hM hp hW h8 hf hn
  ·exact ci_13 hi hs hw hM hp hW hf hn
  ·exact ci_14 hs hw hM hp hW hf hn
  ·exact ci_15 hi hmi hst hs hw hM hp hnl hW hf hn
 ·exact ci_16 hst hp hk hs hw hl hn
 ·rcases hp with hp | ⟨hp,hf⟩
  ·exact ci_17 hs hw hl hx hs0 hW hM hp hn
  ·exact ci_18 hsh hi hmi hs hw hl hx hs0 hW hM hp hf hn
 ·have e:jp t P x=none:=by unfold jp;rw [hp];rfl
  rw [e] at hn;cases hn
end

section
variable {t z:Int} {vs:List Int} {P:Nat} {x:TS} {m:NM}
theorem jfq (hmi:m.Inv) (d a v:Int):U64 (doM t m d a v).1:=by
 have z0:U64 0:=by unfold U64;omega
 unfold doM;split
 ·unfold NM.load;split
  ·exact NM.getD_u hmi.wu _
  ·exact z0
 ·split
  ·exact z0
  ·split <;> exact z0
theorem ci_vok (hmi:m.Inv) (h:CI t P z vs x m) (ht:x.ph=0->∀s u,KC (m.W.getD 8 0)=some (s,u)->s < 2180000000) {d a v:Int} (hn:jp t P x=some (d,a,v)):VOK t P x (doM t m d a v).1:=by
 refine ⟨jfq hmi d a v,fun hp=> ?_,fun hp=> ?_⟩
 ·have e:jp t P x=some (1,8,0):=by unfold jp;rw [hp];rfl
  rw [e] at hn;cases hn;have key:∀{s u:Int} {o:Option (List (Int×Int))} {C:List Int},kQ t P z m.W s u o C->∃s u,KC (doM t m 1 8 0).1=some (s,u)/\0<=u/\u<=t/\0<=s/\s < 2180000000:=by
   intro s u o C hs;obtain ⟨hr,hl⟩:=hs.right;have hmb:=jI hr;have hrb:=jn hr;obtain ⟨h1,h2,h3,-⟩:=hs.tip;rw [qe,Jd (a:=8) (k:=8) rfl zo];exact ⟨s,u,h1,h2.1,h2.2,h3.1,ht hp s u h1⟩
  rcases h with ⟨s,u,o,hx,hk,hs⟩ | ⟨o,hp1,h0,hk,hs⟩ | ⟨L,hp1,h0,hk,hs,hnt,hN,hl,hiL⟩ | ⟨A,j,ho,hs,hnt,hW,hM,hp1⟩ | ⟨hp1,ho,hk,hs,hnt,ht⟩ | ⟨A,ho,hs,hnt,ht,hW,hM,hp1⟩ | ⟨u,hp1,hk,hpg,hs,hc⟩ | ⟨A,u,hs,hw,hM,hp1⟩ | ⟨u,hp1,hk,hs,hw,hl⟩ | ⟨A,u,hs,hw,hl,hx,hs0,hW,hM,hp1⟩ | ⟨u,hp1,hk,hpg,hs⟩
  ·exact key hs
  ·omega
  ·omega
  ·rcases hp1 with h | h | h | h <;> omega
  ·omega
  ·rcases hp1 with h | h <;> omega
  ·omega
  ·rcases hp1 with h | h | h | ⟨h | h,-⟩ <;> omega
  ·omega
  ·rcases hp1 with h | h <;> omega
  ·omega
 ·rcases h with ⟨s,u,o,hx,hk,hs⟩ | ⟨o,hp1,h0,hk,hs⟩ | ⟨L,hp1,h0,hk,hs,hnt,hN,hl,hiL⟩ | ⟨A,j,ho,hs,hnt,hW,hM,hp1⟩ | ⟨hp1,ho,hk,hs,hnt,ht⟩ | ⟨A,ho,hs,hnt,ht,hW,hM,hp1⟩ | ⟨u,hp1,hk,hpg,hs,hc⟩ | ⟨A,u,hs,hw,hM,hp1⟩ | ⟨u,hp1,hk,hs,hw,hl⟩ | ⟨A,u,hs,hw,hl,hx,hs0,hW,hM,hp1⟩ | ⟨u,hp1,hk,hpg,hs⟩
  ·rw [hx] at hp;exact absurd hp zd
  ·omega
  ·have e:jp t P x=some (1,YP t P x.u x.i,0):=by unfold jp;rw [hp];rfl
   rw [e] at hn;cases hn;obtain ⟨hr,hlen⟩:=hs.right;obtain ⟨-,hu,-,-⟩:=hs.tip;obtain ⟨k,hko,hno,hen,hkl,hk96,hb⟩:=hs.open_;obtain ⟨l1,l2,l3,l4,l5,l6,l7,l8⟩:=kV hr hu.1 hu.2;have ea:YP t P x.u x.i=(((jJ t P x.u 0).toNat+x.i:Nat):Int):=by unfold YP;rw [if_pos ⟨hu.1,hu.2,zo,zo⟩];exact l8 x.i
   rw [qe,Jd ea zo];have hb2:=hb _ (List.getElem_mem hiL);exact ⟨_,hs.entry hiL,hb2.1,hb2.2.1⟩
  ·rcases hp1 with h | h | h | h <;> omega
  ·omega
  ·rcases hp1 with h | h <;> omega
  ·omega
  ·rcases hp1 with h | h | h | ⟨h | h,-⟩ <;> omega
  ·omega
  ·rcases hp1 with h | h <;> omega
  ·omega
theorem ci_over (h:CI t P z vs x m) (hp:x.ph=19):∃u,m.K=m.W/\x.page=P/\kQ t P z m.W x.s u none (SP t P z vs P):=by
 rcases h with ⟨s,u,o,hx,hk,hs⟩ | ⟨o,hp1,h0,hk,hs⟩ | ⟨L,hp1,h0,hk,hs,hnt,hN,hl,hiL⟩ | ⟨A,j,ho,hs,hnt,hW,hM,hp1⟩ | ⟨hp1,ho,hk,hs,hnt,ht⟩ | ⟨A,ho,hs,hnt,ht,hW,hM,hp1⟩ | ⟨u,hp1,hk,hpg,hs,hc⟩ | ⟨A,u,hs,hw,hM,hp1⟩ | ⟨u,hp1,hk,hs,hw,hl⟩ | ⟨A,u,hs,hw,hl,hx,hs0,hW,hM,hp1⟩ | ⟨u,hp1,hk,hpg,hs⟩
 ·rw [hx] at hp;exact absurd hp zd
 ·omega
 ·omega
 ·rcases hp1 with h | h | h | h <;> omega
 ·omega
 ·rcases hp1 with h | h <;> omega
 ·omega
 ·rcases hp1 with h | h | h | ⟨h | h,-⟩ <;> omega
 ·omega
 ·rcases hp1 with h | h <;> omega
 ·rw [show (P:Int).toNat=P by simp] at hpg hs;exact ⟨u,hk,hpg,hs⟩
theorem doM_inv (hmi:m.Inv) {d a v:Int} (hv:U64 v):(doM t m d a v).2.Inv:=by
 unfold doM;split
 ·exact hmi
 ·split
  ·exact hmi.store a hv
  ·split
   ·exact hmi.flush t a
   ·exact hmi.fence t
end

def jfn (t p s:Int) (ws:List Int):Option (List Int):=match kw t p s ws with
 | some vs=>if p<=64/\(J4 vs t p s).2=true/\hiW (ws.getD 8 0) < 2147483648 then some vs else none
 | none=>none
def FitQ (w:World) (r:Option (List Int)) (e:Ending) (w':World):Prop:=match r with
 | none=>(∃v,e= .returned (.tuple #[v,.bool false]))/\Below w.heap.size w w'
 | some vs=>∃v,e= .returned (.tuple #[v,.bool true])/\w'.ownsRow 0 44 1 v vs.length (yL vs)/\(∀k,v.ownBlock=some k->w.heap.size<=k)/\Below w.heap.size w w'
theorem Qm {t p s:Int} {ws vs:List Int} (h:kw t p s ws=some vs):jq t p s=true/\(ws.length:Int)=qa t p/\(vs.length:Int)=jk t p/\(∀v∈vs,VS.U32 v)/\∃st u o,qS t p ws=some (st,u,o):=by
 unfold kw at h;split at h
 ·rename_i hr;unfold KQ at hr;simp at hr;obtain ⟨x,hx,rfl⟩:=Option.map_eq_some_iff.1 h;have hmb:=jI hr.1;exact ⟨hr.1,hr.2,by rw [KE];omega,jdG _ _,x.1,x.2.1,x.2.2,hx⟩
 ·cases h
section
variable {t p s:Int} {w:World} {wv:Value} {xs:List Int}
theorem ja5 (hW:Rd w wv 1 xs.length (yG xs)) (hu:∀v∈xs,U64 v):Calls prog 25 #[.agg #[.int .i64 t,.int .i64 p,.int .i64 s],wv] w (SetQ w (kw t p s xs)):=by
 by_cases hb:jq t p s=true/\(xs.length:Int)=qa t p
 ·have hmb:=jI hb.1;have hrb:=jn hb.1;obtain ⟨hl,⟨-,hn⟩ | ⟨ad,c,rfl,hc⟩⟩:=hW
  ·omega
  ·exact ja4 ⟨hb.1,rfl,hb.2,hu,fun k hk=>hc k _ (by simp [yG,hk])⟩ c
 ·have hn:kw t p s xs=none:=by
   unfold kw KQ;rw [if_neg (by simpa using hb)]
  have h':jq t p s=false\/(xs.length:Int)≠qa t p:=by
   cases hr:jq t p s
   ·exact .inl rfl
   ·exact .inr (fun e=>hb ⟨hr,e⟩)
  rw [hn];obtain ⟨a,c,rfl⟩:∃a c,wv= .slice a xs.length c:=by
   rcases hW.2 with ⟨rfl,hn⟩ | ⟨ad,c,rfl,-⟩
   ·exact ⟨none,0,by rw [hn]⟩
   ·exact ⟨_,_,rfl⟩
  exact jcA a xs.length c w h'
theorem jbP (hW:Rd w wv 1 xs.length (yG xs)) (hu:∀v∈xs,U64 v) :
 Calls prog 7 #[.agg #[.int .i64 t,.int .i64 p,.int .i64 s],wv] w (FitQ w (jfn t p s xs)):=by
 have HK:=zh (fun (W:World) (hb:Below w.heap.size w W)=>ja5 (t:=t) (p:=p) (s:=s) (Rd.keepBy hW hb (Nat.le_refl _)) hu);have B0:=zh ((Below.refl w.heap.size w).alloc (Nat.le_refl _) (.cells #[.int .i64 t,.int .i64 p,.int .i64 s] 23));have HF:=zh (fun w=>jfo t p s w);cases hs:kw t p s xs with
 | none=>
  rw [hs] at HK;have hf:jfn t p s xs=none:=by unfold jfn;rw [hs]
  rw [hf];obtain ⟨a,c,rfl⟩:∃a c,wv= .slice a xs.length c:=by
   rcases hW.2 with ⟨rfl,hn⟩ | ⟨ad,c,rfl,-⟩
   ·exact ⟨none,0,by rw [hn]⟩
   ·exact ⟨_,_,rfl⟩
  generalize xs.length=n at*
  clear hW hu hs hf;go_enter func7,ntmps7;go_wp2_with fail;refine zM (HK.out _ B0.out) fun w1 b1=> ?_;have B1:=zh (B0.out.trans (b1.mono B0.out.size));clear b1;go_wp2;refine bodyPost_ret (v:= .tuple #[.slice none 0 0,.bool false]) (by simp [results,results7,go_sem]) rfl ⟨⟨_,rfl⟩,B1.out⟩
 | some vs=>
  rw [hs] at HK;obtain ⟨hr,hn,hvn,hvu,st,u,o,hla⟩:=Qm hs;have hmb:=jI hr;have hrb:=jn hr;have hset:kQ t p s xs st u o vs:=⟨hu,hla,hs⟩
  obtain ⟨htip,-,-,-⟩:=hset.tip;have hst:st=hiW (xs.getD 8 0):=by
   unfold KC at htip;split at htip
   ·simp only [Option.some.injEq,Prod.mk.injEq] at htip;exact htip.1.symm
   ·cases htip
  have hpos:0 < vs.length:=by unfold jk at hvn;omega
  obtain ⟨hl0,⟨-,hn0⟩ | ⟨ad,c,rfl,hc⟩⟩:=hW
  ·omega
  have h8c:w.cell? (ad.add 8)=some (.int .u64 (xs.getD 8 0)):=hc 8 _ (by
   have:8 < xs.length:=zo;simp [yG,this])
  have HT:=zh (fun w=>XD (xs.getD 8 0) st u w (K5 hu 8) htip);have HS:=zh (fun (W:World) (v:Value) (R:W.ownsRow 0 44 1 v vs.length (yL vs))=>show Calls prog 32 #[.agg #[.int .i64 t,.int .i64 p,.int .i64 s],v] W fun e w'=>e= .returned (.bool (J4 vs t p s).2)/\Below W.heap.size W w' by
   obtain ⟨P,rfl⟩:∃P:Nat,p=P:=⟨p.toNat,zo⟩
   obtain ⟨ad,c,rfl,hx⟩:=(Rd.of_row R).xv hvu hr zo hvn;exact jcy c W hx)
  have hf:jfn t p s xs=if p<=64/\(J4 vs t p s).2=true/\st < 2147483648 then some vs else none:=by unfold jfn;rw [hs,hst]
  rw [hf];generalize hrr:(if p<=64/\(J4 vs t p s).2=true/\st < 2147483648 then some vs else none)=r;have HR:=zh hrr;clear hrr;have z8:=World.block_lt_of_cell? w _ h8c;have hn8:(8:Int) < xs.length:=zo;generalize xs.getD 8 0=w8 at*
  generalize (J4 vs t p s).2=ck at*
  generalize xs.length=n at*
  clear hs hr hn hvn hvu hla hmb hrb hset htip hst hl0 hc hu hf o;unfold SetQ at HK;dsimp only at HK;go_enter func7,ntmps7;go_wp2_with fail;refine (HK.out _ B0.out).mono ?_;rintro e w1 ⟨v,rfl,o1,f1,b1⟩;obtain ⟨g,cap,rfl⟩:=Joins.ownsRow_form o1 hpos;have B1:=zh (B0.out.trans (b1.mono B0.out.size));have F1:=zh (fun k hk=>Nat.le_trans B0.out.size (f1 k hk));have O1:=zh o1;have c0:=(b1.cell (p:=⟨w.heap.size,0,none⟩) zT).trans (jd (o:=0) (heap_alloc_new w (.cells #[.int .i64 t,.int .i64 p,.int .i64 s] 23)));have c1:=(b1.cell (p:=⟨w.heap.size,1,none⟩) zT).trans (jd (o:=1) (heap_alloc_new w (.cells #[.int .i64 t,.int .i64 p,.int .i64 s] 23)));have c2:=(b1.cell (p:=⟨w.heap.size,2,none⟩) zT).trans (jd (o:=2) (heap_alloc_new w (.cells #[.int .i64 t,.int .i64 p,.int .i64 s] 23)));simp at c0 c1 c2;clear o1 f1 HK;go_wp2_with fail;refine zM (HF.out _) fun w2 b2=> ?_;have zc:w.heap.size < w1.heap.size:=zL b1;have B2:=zh (B1.out.trans (b2.mono B1.out.size));have O2:=zh (jh (w':=w2) O1.out (fun k hk=>b2.block k (jt O1.out hk)));have d0:=(b2.cell (p:=⟨w.heap.size,0,none⟩) zc).trans c0;have d1:=(b2.cell (p:=⟨w.heap.size,1,none⟩) zc).trans c1;have d2:=(b2.cell (p:=⟨w.heap.size,2,none⟩) zc).trans c2;have zc2:w.heap.size < w2.heap.size:=Nat.lt_of_lt_of_le zc b2.size;clear b1 b2 c0 c1 c2 HF;by_cases hp:p<=64
  ·have hr:=HR.out;simp only [hp,true_and] at hr;have HR:=zh hr;clear hr;simp only [hp,decide_true];go_wp2_with fail;refine zM (HS.out _ _ O2.out) fun w3 b3=> ?_;have B3:=zh (B2.out.trans (b3.mono B2.out.size));have O3:=zh (jh (w':=w3) O2.out (fun k hk=>b3.block k (jt O2.out hk)));clear b3 HS;cases ck with
   | false=>
    have hr:=HR.out;simp only [Bool.false_eq_true,false_and,if_false] at hr;subst hr;go_wp2;refine bodyPost_ret (v:= .tuple #[.slice none 0 0,.bool false]) (by simp [results,results7,go_sem]) rfl ⟨⟨_,rfl⟩,B3.out⟩
   | true=>
    have hr:=HR.out;simp only [true_and] at hr;have HR:=zh hr;clear hr;have e8:w3.cell? ⟨ad.block,ad.off+8,none⟩=some (.int .u64 w8):=by
     have:=(B3.out.cell (p:=ad.add 8) z8).trans h8c;simpa [Addr.add] using this
    go_wp2_with fail;refine zM (HT.out _) fun w4 b4=> ?_;have B4:=zh (B3.out.trans (b4.mono B3.out.size));have O4:=zh (jh (w':=w4) O3.out (fun k hk=>b4.block k (jt O3.out hk)));clear b4 HT;by_cases hst:st < 2147483648
    ·have hr:=HR.out;simp only [hst,and_true,if_true] at hr;subst hr;go_wp2;refine bodyPost_ret (v:= .tuple #[.slice (some ⟨g,0,none⟩) vs.length cap,.bool true]) (by simp [results,results7,go_sem]) rfl ?_;exact ⟨_,rfl,O4.out,F1.out,B4.out⟩
    ·have hr:=HR.out;simp only [hst,and_false,if_false] at hr;subst hr;go_wp2;refine bodyPost_ret (v:= .tuple #[.slice (some ⟨g,0,none⟩) vs.length cap,.bool false]) (by simp [results,results7,go_sem];omega) rfl ⟨⟨_,rfl⟩,B4.out⟩
  ·have hr:=HR.out;simp only [hp,false_and,if_false] at hr;subst hr;simp only [hp,decide_false];go_wp2;refine bodyPost_ret (v:= .tuple #[.slice none 0 0,.bool false]) (by simp [results,results7,go_sem]) rfl ⟨⟨_,rfl⟩,B2.out⟩
end

def nxt (t p z:Int) (q:TS×NM):TS×NM:=match jp t p q.1 with
 | some (d,a,v)=>(jy t p z (doM t q.2 d a v).1 q.1,(doM t q.2 d a v).2)
 | none=>q
def Jf (t p z:Int) (q:TS×NM):Nat->TS×NM
 | 0=>q
 | k+1=>nxt t p z (Jf t p z q k)
theorem VR {t p z:Int} {x:TS} {m:NM} {d a v:Int} (h:jp t p x=some (d,a,v)):nxt t p z (x,m)=(jy t p z (doM t m d a v).1 x,(doM t m d a v).2):=by
 unfold nxt;rw [h]
theorem told_pos (t p z v:Int) (x:TS):(jy t p z v x).ph≠0:=by
 have hsk:∀y:TS,y.ph≠0->(jY y).ph≠0:=by
  have h1:∀y:TS,y.ph≠0->(qt y).ph≠0:=fun y h=>by unfold qt;split;exact (by decide:(3:Nat)≠0);exact h
  have h2:∀y:TS,y.ph≠0->(yc y).ph≠0:=fun y h=>by unfold yc;split;exact (by decide:(5:Nat)≠0);exact h
  have h3:∀y:TS,y.ph≠0->(yb y).ph≠0:=fun y h=>by unfold yb;split;exact (by decide:(6:Nat)≠0);exact h
  have h4:∀y:TS,y.ph≠0->(ya y).ph≠0:=fun y h=>by unfold ya;split;exact (by decide:(12:Nat)≠0);exact h
  have h5:∀y:TS,y.ph≠0->(q8 y).ph≠0:=fun y h=>by unfold q8;split;exact (by decide:(13:Nat)≠0);exact h
  intro y h;exact h5 _ (h4 _ (h3 _ (h2 _ (h1 _ h))))
 have hsw:∀(k:Nat) (y:TS),(kH t p z k y).ph≠0:=by
  intro k;induction k with
  | zero=>intro y;exact (by decide:(19:Nat)≠0)
  | succ k ih=>
   intro y;unfold kH;split
   ·exact (by decide:(10:Nat)≠0)
   ·split
    ·exact ih _
    ·exact (by decide:(11:Nat)≠0)
 refine hsk _ ?_;unfold kI;split
 ·exact (by decide:(1:Nat)≠0)
 ·split
  ·exact hsw _ _
  ·exact (by decide:(2:Nat)≠0)
 ·rename_i e;intro h;rw [show x.ph=0 from h] at e;cases e
 ·rename_i e;split
  ·exact (by decide:(4:Nat)≠0)
  ·intro h;rw [show x.ph=0 from h] at e;cases e
 ·exact (by decide:(3:Nat)≠0)
 ·rename_i e;intro h;rw [show x.ph=0 from h] at e;cases e
 ·exact (by decide:(7:Nat)≠0)
 ·exact (by decide:(8:Nat)≠0)
 ·exact (by decide:(9:Nat)≠0)
 ·exact hsw _ _
 ·exact hsw _ _
 ·rename_i e;intro h;rw [show x.ph=0 from h] at e;cases e
 ·rename_i e;intro h;rw [show x.ph=0 from h] at e;cases e
 ·exact (by decide:(14:Nat)≠0)
 ·exact (by decide:(15:Nat)≠0)
 ·exact (by decide:(16:Nat)≠0)
 ·exact (by decide:(17:Nat)≠0)
 ·exact (by decide:(18:Nat)≠0)
 ·exact (by decide:(3:Nat)≠0)
 ·rename_i h0 _ _ _ _ _ _ _ _ _ _ _ _ _ _ _ _ _ _;exact h0
section
variable {t z:Int} {vs:List Int} {P:Nat} {x:TS} {m:NM} {s0:Int} {k:Nat}
theorem ci_u64 (hsh:SH t z P vs vs 0) (hi:yJ t P x) (hst:x.s+1 < 4294967296) (h:CI t P z vs x m) {d a v:Int} (hn:jp t P x=some (d,a,v)):U64 v:=by
 have hrb:=jn hsh.right;have z0:U64 0:=by unfold U64;omega
 have hwr:=hi.wr;rcases h with ⟨s,u,o,hx,hk,hs⟩ | ⟨o,hp,h0,hk,hs⟩ | ⟨L,hp,h0,hk,hs,hnt,hN,hl,hiL⟩ | ⟨A,j,ho,hs,hnt,hW,hM,hp⟩ | ⟨hp,ho,hk,hs,hnt,ht⟩ | ⟨A,ho,hs,hnt,ht,hW,hM,hp⟩ | ⟨u,hp,hk,hpg,hs,hc⟩ | ⟨A,u,hs,hw,hM,hp⟩ | ⟨u,hp,hk,hs,hw,hl⟩ | ⟨A,u,hs,hw,hl,hx,hs0,hW,hM,hp⟩ | ⟨u,hp,hk,hpg,hs⟩
 ·subst hx;have e:jp t P TS.begin=some (1,8,0):=rfl;rw [e] at hn;cases hn;exact z0
 ·have e:jp t P x=some (1,qX t P x.u,0):=by unfold jp;rw [hp];rfl
  rw [e] at hn;cases hn;exact z0
 ·have e:jp t P x=some (1,YP t P x.u x.i,0):=by unfold jp;rw [hp];rfl
  rw [e] at hn;cases hn;exact z0
 ·obtain ⟨k,-,-,-,-,-,hb⟩:=hs.open_;rcases hp with ⟨hp,-⟩ | ⟨hp,-⟩ | ⟨hp,-⟩ | ⟨hp,-⟩
  ·have e:jp t P x=some (1,Je t P (x.l.getD x.i (0,0)).1,0):=by unfold jp;rw [hp];rfl
   rw [e] at hn;cases hn;exact z0
  ·have e:jp t P x=some (2,Je t P (x.l.getD x.i (0,0)).1,jH (hiW x.note) (x.l.getD x.i (0,0)).2):=by unfold jp;rw [hp];rfl
   rw [e] at hn;cases hn;obtain ⟨y,hy⟩:∃y,x.l[x.i]? =some y:=⟨_,List.getElem?_eq_getElem (hi.h3 (.inr (.inl hp)))⟩
   have hg:x.l.getD x.i (0,0)=y:=by rw [List.getD_eq_getElem?_getD,hy];rfl
   rw [hg,hnt];exact Jz (Qt (K5 hs.u64 _)) (hb y (List.mem_of_getElem? hy)).2.2
  ·have e:jp t P x=some (4,Je t P (x.l.getD x.i (0,0)).1,0):=by unfold jp;rw [hp];rfl
   rw [e] at hn;cases hn;exact z0
  ·have e:jp t P x=some (5,0,0):=by unfold jp;rw [hp];rfl
   rw [e] at hn;cases hn;exact z0
 ·have e:jp t P x=some (2,qX t P x.u,Jv x.note):=by unfold jp;rw [hp];rfl
  rw [e] at hn;cases hn;obtain ⟨k,-,hno,-,hlk,hk96,-⟩:=hs.open_;obtain ⟨-,-,hs0,-⟩:=hs.tip;rw [hnt];unfold Jv;rw [hno];unfold j9;exact Jz zo (by simp;omega)
 ·rcases hp with hp | ⟨hp,-⟩
  ·have e:jp t P x=some (4,qX t P x.u,0):=by unfold jp;rw [hp];rfl
   rw [e] at hn;cases hn;exact z0
  ·have e:jp t P x=some (5,0,0):=by unfold jp;rw [hp];rfl
   rw [e] at hn;cases hn;exact z0
 ·have e:jp t P x=some (1,Je t P x.need,0):=by unfold jp;rw [hp];rfl
  rw [e] at hn;cases hn;exact z0
 ·obtain ⟨-,-,hs0,-⟩:=hs.tip;rcases hp with ⟨hp,-⟩ | ⟨hp,-⟩ | ⟨hp,-⟩ | ⟨hp | ⟨hp,-⟩,-⟩
  ·have e:jp t P x=some (2,YP t P t x.i,jH (x.wr.getD x.i (0,0)).1 (x.wr.getD x.i (0,0)).2):=by unfold jp;rw [hp];rfl
   rw [e] at hn;cases hn;obtain ⟨y,hy⟩:∃y,x.wr[x.i]? =some y:=⟨_,List.getElem?_eq_getElem (hi.hi (.inl hp))⟩
   have hg:x.wr.getD x.i (0,0)=y:=by rw [List.getD_eq_getElem?_getD,hy];rfl
   rw [hg];have hpg:=hw.pg;have hmb:=jI hsh.right;have hy2:=wrP_bd (hsh.all zo x.page) (by simp at hpg;omega) zo y (by rw [<-hw.wr];exact List.mem_of_getElem? hy);exact Jz zo hy2.2.2
  ·have e:jp t P x=some (4,YP t P t x.i,0):=by unfold jp;rw [hp];rfl
   rw [e] at hn;cases hn;exact z0
  ·have e:jp t P x=some (2,qX t P t,x.openN):=by unfold jp;rw [hp];rfl
   rw [e] at hn;cases hn;unfold TS.openN j9;exact Jz zo (by simp;omega)
  ·have e:jp t P x=some (4,qX t P t,0):=by unfold jp;rw [hp];rfl
   rw [e] at hn;cases hn;exact z0
  ·have e:jp t P x=some (5,0,0):=by unfold jp;rw [hp];rfl
   rw [e] at hn;cases hn;exact z0
 ·obtain ⟨-,-,hs0,-⟩:=hs.tip;have e:jp t P x=some (2,8,jH (x.s+1) t):=by unfold jp;rw [hp];rfl
  rw [e] at hn;cases hn;exact Jz zo zo
 ·rcases hp with hp | ⟨hp,-⟩
  ·have e:jp t P x=some (4,8,0):=by unfold jp;rw [hp];rfl
   rw [e] at hn;cases hn;exact z0
  ·have e:jp t P x=some (5,0,0):=by unfold jp;rw [hp];rfl
   rw [e] at hn;cases hn;exact z0
 ·have e:jp t P x=none:=by unfold jp;rw [hp];rfl
  rw [e] at hn;cases hn
def Yr (t:Int) (P:Nat):Nat:=400+P*(410+(jk t P).toNat)
theorem jbj (hr:jq t P z=true):Yr t P<=11000000:=by
 have hb:=jn hr;have hm:=jI hr;have h1:P*(410+(jk t P).toNat)<=1024*10410:=Nat.mul_le_mul zo zo;unfold Yr;omega
structure GI (t z:Int) (P:Nat) (vs:List Int) (s0:Int) (k:Nat) (x:TS) (m:NM):Prop where
 sh:SH t z P vs vs 0
 inv:yJ t P x
 mi:m.Inv
 ci:CI t P z vs x m
 s:x.ph≠0->x.s<=s0+k
 s1:x.ph=0->x.s=0/\∀s u,KC (m.W.getD 8 0)=some (s,u)->s=s0
 mu:mu t P x+k<=Yr t P
 b0:0<=s0/\s0 < 2180000000
theorem GI.sb (h:GI t z P vs s0 k x m):x.s+1 < 4294967296:=by
 have hm:=jbj h.sh.right;have hk:=h.mu;have hb:=h.b0;by_cases e:x.ph=0
 ·have:=(h.s1 e).1;omega
 ·have:=h.s e;omega
theorem GI.vok (h:GI t z P vs s0 k x m) {d a v:Int} (hn:jp t P x=some (d,a,v)):VOK t P x (doM t m d a v).1:=
 ci_vok h.mi h.ci (fun e s u hs=>by have:=(h.s1 e).2 s u hs;have:=h.b0;omega) hn
theorem GI.u64 (h:GI t z P vs s0 k x m) {d a v:Int} (hn:jp t P x=some (d,a,v)):U64 v:=ci_u64 h.sh h.inv h.sb h.ci hn
theorem GI.next (h:GI t z P vs s0 k x m) (hp:x.ph≠19):∃d a v,jp t P x=some (d,a,v):=by
 cases hn:jp t P x with
 | none=>exact absurd ((Jp h.inv).1 hn) hp
 | some y=>exact ⟨y.1,y.2.1,y.2.2,rfl⟩
theorem GI.step (h:GI t z P vs s0 k x m) (hp:x.ph≠19):GI t z P vs s0 (k+1) (nxt t P z (x,m)).1 (nxt t P z (x,m)).2:=by
 obtain ⟨d,a,v,hn⟩:=h.next hp;obtain ⟨h1,h2⟩:=Q4 (z:=z) h.inv hp (doM t m d a v).1;have hmu:=h.mu;have hb:=h.b0;rw [VR hn];refine ⟨h.sh,h1,doM_inv h.mi (h.u64 hn),ci_step h.sh h.inv h.mi h.sb h.ci hn,fun _=> ?_,fun e=> ?_,by dsimp only;omega,h.b0⟩
 ·dsimp only;by_cases e:x.ph=0
  ·obtain ⟨s,u,ht,-⟩:=(h.vok hn).tip e;have e2:jp t P x=some (1,8,0):=by unfold jp;rw [e];rfl
   rw [e2] at hn;cases hn;rw [Xk e ht];have ht':KC (m.W.getD 8 0)=some (s,u):=by
    have hc:=h.ci;rcases hc with ⟨s',u',o,hx,hk,hs⟩ | ⟨o,hp1,-⟩ | ⟨L,hp1,-⟩ | ⟨A,j,ho,hs,hnt,hW,hM,hp1⟩ | ⟨hp1,-⟩ | ⟨A,ho,hs,hnt,ht,hW,hM,hp1⟩ | ⟨u,hp1,-⟩ | ⟨A,u,hs,hw,hM,hp1⟩ | ⟨u,hp1,-⟩ | ⟨A,u,hs,hw,hl,hx,hs0,hW,hM,hp1⟩ | ⟨u,hp1,-⟩
    ·obtain ⟨hr,hl⟩:=hs.right;have hmb:=jI hr;have hrb:=jn hr;rw [qe,Jd (a:=8) (k:=8) rfl zo] at ht;exact ht
    ·omega
    ·omega
    ·rcases hp1 with h | h | h | h <;> omega
    ·omega
    ·rcases hp1 with h | h <;> omega
    ·omega
    ·rcases hp1 with h | h | h | ⟨h | h,-⟩ <;> omega
    ·omega
    ·rcases hp1 with h | h <;> omega
    ·omega
   have:=(h.s1 e).2 s u ht';show s<=s0+((k+1:Nat):Int)
   omega
  ·have h3:=told_s t P z (doM t m d a v).1 x zo;have h4:=h.s e;omega
 ·exact absurd e (told_pos _ _ _ _ _)
theorem GI.start (hsh:SH t z P vs vs 0) (hmi:m.Inv) (hk:m.K=m.W) {s u:Int} {o:Option (List (Int×Int))} (hs:kQ t P z m.W s u o vs) (hb:s < 2180000000):GI t z P vs s 0 TS.begin m:=by
 obtain ⟨h1,-,h3,-⟩:=hs.tip;refine ⟨hsh,YL t P,hmi,.c0 s u o rfl hk hs,fun e=>absurd rfl e,fun _=>⟨rfl,fun s' u' e=>by rw [h1] at e;cases e;rfl⟩,?_,⟨h3.1,hb⟩⟩;have:=begin_mu t (P:Int);unfold Yr;simp at this;omega
end

def refL (N i0 i1 K P:Nat):List Int:=((((List.replicate N (0:Int)).set 0 P).set (2+K) 1).set i0 (1+16*P)).set i1 1
theorem KF (l:List Int) (i:Nat) (v:Int):(yL l).set i (.int .u32 v)=yL (l.set i v):=by simp [yL,List.map_set]
theorem QS {w:World} {g c n:Nat} {l:List Int} (h:w.ownsRow 0 44 1 (.slice (some ⟨g,0,none⟩) n c) n (yL l)) {i:Nat} (hi:i < n):∃z,w.cell? ⟨g,i,none⟩=some z:=by
 refine ⟨_,(h.cellAt i zo).trans (List.getElem?_eq_getElem ?_)⟩;have:=h.1;omega
theorem jaZ (t s:Int) (P N i0 i1 K:Nat) (w:World) (hr:jq t P s=true) (hN:jk t P=N) (h0:ofF t P s 0 0=i0) (h1:ofF t P s ((P:Int) - 1) 1=i1) (hK:qr P=K) (hK2:K < 11) (hi0:i0 < N) (hi1:i1 < N) :
 Calls prog 76 #[.agg #[.int .i64 t,.int .i64 P,.int .i64 s]] w (ValsP w (refL N i0 i1 K P)):=by
 obtain ⟨b1,b2,b3,b4,b5,b6⟩:=jn hr;have H1:=fun w=>ym t P s w;have hcf:qb t P s=jk t P:=by simp [qb,hr]
 rw [hcf,hN] at H1;have hcb:58<=N/\N<=10000:=by unfold jk at hN;omega
 have HH1:=zh H1;have HBo:=zh (show∀w,Calls prog 132 #[.int .i64 P] w fun e w'=>e= .returned (.int .i64 (K:Int))/\Below w.heap.size w w' by
  intro w;have:=rbof_any P w zo zo;rwa [hK] at this)
 have HBi:=zh (fun w=>jbQ K w hK2);have HIn:=zh (show∀w,Calls prog 115 #[.agg #[.int .i64 t,.int .i64 P,.int .i64 s],.int .i64 0] w fun e w'=>e= .returned (.int .i64 (i0:Int))/\Below w.heap.size w w' by
  intro w;have:=KP t P s 0 w;rwa [h0] at this)
 have HFo:=zh (show∀w,Calls prog 134 #[.agg #[.int .i64 t,.int .i64 P,.int .i64 s],.int .i64 ((P:Int) - 1)] w fun e w'=>e= .returned (.int .i64 (i1:Int))/\Below w.heap.size w w' by
  intro w;have:=XM t P s ((P:Int) - 1) w;rwa [h1] at this)
 have HVa:=zh (fun w=>jaY P w zo zo);have hmk:∀w:World,(Instr.makeSlice 25 (.int .i64 (N:Int)) (.int .i64 (N:Int))).run prog w= .ok (.slice (some ⟨w.heap.size,0,none⟩) N N) (w.alloc (.cells (madeCells #[.int .u32 0] N) 44)):=run_make_row' (P:=prog) 25 44 (.int .u32 0) 4 underlying25 jfc rfl .i64 .i64 N zo zo;have hnb:((N:Int) == 0)=false:=by simp;omega
 have hw1:IntKind.u32.wrap (P:Int)=P:=IntWalk.u32_in _ zo;have c0:=jr w #[.int .i64 t,.int .i64 P,.int .i64 s] 23;have S0:=((BS.start w).alloc (.cells #[.int .i64 t,.int .i64 P,.int .i64 s] 23))
 have hK3:2+K < N:=zo;generalize hk2:2+K=k2 at*
 have hFL:refL N i0 i1 K P=((((List.replicate N (0:Int)).set 0 P).set k2 1).set i0 (1+16*P)).set i1 1:=by unfold refL;rw [hk2]
 rw [hFL];generalize hiv:(1+16*(P:Int))=iv at*
 clear H1 hcf hr hN h0 h1 hK hK2 hk2 hFL hiv;go_enter func76,ntmps76;go_wp2_with fail;refine zM (jv S0 (HH1.out _)) ?_;rintro w1 ⟨S1,S1l⟩;have c1:=jc S1l zT c0;clear S1l;have l1:=(S1.ls w.heap.size zT).1;go_upto_region 4 with fail
 refine jT ?_;intro wm hwm;have RM:wm.ownsRow 0 44 1 (.slice (some ⟨w1.heap.size,0,none⟩) N N) N (yL (List.replicate N 0)):=by rw [hwm];exact row_made w1 N zo
 have S1a:BS w [w1.heap.size,w.heap.size] wm:=by rw [hwm];exact S1.alloc _
 have c1a:∀o:Nat,wm.cell? ⟨w.heap.size,o,none⟩=(#[.int .i64 t,.int .i64 P,.int .i64 s]:Array Value)[o]? :=by rw [hwm];exact jC _ l1 c1
 have S2:=S1a.setCell (L:=w1.heap.size) zT 0 (.int .u32 P);have R2:=(RM.stored 0 (.int .u32 P)).1;obtain ⟨z0,q0⟩:=QS RM (i:=0) zo;have f0:=RM.frozenAt 0;rw [KF] at R2;have c2:∀o:Nat,(wm.setCell ⟨w1.heap.size,0,none⟩ (.int .u32 P)).cell? ⟨w.heap.size,o,none⟩=(#[.int .i64 t,.int .i64 P,.int .i64 s]:Array Value)[o]? :=fun o=>(World.cell?_of_block (a:=⟨w.heap.size,o,none⟩) (jg (L:=w1.heap.size) (M:=w.heap.size) zo)).trans (c1a o);clear RM hwm hmk;go_wp2_with fail;refine zM (jv S2 (HBo.out _)) ?_;rintro w3 ⟨S3,S3l⟩;have c3:=jc S3l zT c2;have R3:=kg S3l (fun k hk=>by simp [Value.ownBlock] at hk;simp [hk]) R2;clear S3l;clear S0 S1 S1a S2 R2 c0 c1 c1a c2 q0 f0;go_wp2_with fail;refine zM (jv S3 (HBi.out _)) ?_;rintro w4 ⟨S4,S4l⟩;have c4:=jc S4l zT c3;have R4:=kg S4l (fun k hk=>by simp [Value.ownBlock] at hk;simp [hk]) R3;clear S4l;obtain ⟨z4,q4⟩:=QS R4 hK3;have f4:=R4.frozenAt k2;have S5:=S4.setCell (L:=w1.heap.size) zT k2 (.int .u32 1);have R5:=(R4.stored k2 (.int .u32 1)).1;rw [KF] at R5;have c5:∀o:Nat,(w4.setCell ⟨w1.heap.size,k2,none⟩ (.int .u32 1)).cell? ⟨w.heap.size,o,none⟩=(#[.int .i64 t,.int .i64 P,.int .i64 s]:Array Value)[o]? :=fun o=>(World.cell?_of_block (a:=⟨w.heap.size,o,none⟩) (jg (L:=w1.heap.size) (M:=w.heap.size) zo)).trans (c4 o);clear S3 R3 c3;go_wp2_with fail;have hiN:∀i:Nat,i < N->(i:Int) < N:=fun i hi=>by omega
 have hj0:=hiN i0 hi0;have hj1:=hiN i1 hi1;refine Xe (zP c5) fun hHeld=> ?_;refine wT 0 ?_;refine wY ?_;refine wR 2 fun K hK=> ?_;go_simp;refine zM (jv S5.drew (HIn.out _)) ?_;rintro w6 ⟨S6,S6l⟩;have c6:=jc S6l zT hHeld;have R6:=kg S6l (fun k hk=>by simp [Value.ownBlock] at hk;simp [hk]) (jh (w':=(w4.setCell ⟨w1.heap.size,k2,none⟩ (.int .u32 1)).drew) R5 (fun _ _=>rfl));clear S6l;dsimp only;refine wK hK (c6) fun hHeld=> ?_;clear hK K;refine wR 5 fun K hK=> ?_;go_simp;refine zM (jv S6 (HVa.out _)) ?_;rintro w7 ⟨S7,S7l⟩;have c7:=jc S7l zT hHeld;have R7:=kg S7l (fun k hk=>by simp [Value.ownBlock] at hk;simp [hk]) R6;clear S7l;dsimp only;refine wK hK (c7) fun hHeld=> ?_;clear hK K;refine wY ?_;refine wR 7 fun K hK=> ?_;obtain ⟨z7,q7⟩:=QS R7 hi0;have f7:=R7.frozenAt i0;go_simp;have c8:∀o:Nat,(w7.setCell ⟨w1.heap.size,i0,none⟩ (.int .u32 iv)).cell? ⟨w.heap.size,o,none⟩=(#[.int .i64 t,.int .i64 P,.int .i64 s]:Array Value)[o]? :=fun o=>(World.cell?_of_block (a:=⟨w.heap.size,o,none⟩) (jg (L:=w1.heap.size) (M:=w.heap.size) zo)).trans (c7 o);refine wK hK (c8) fun hHeld=> ?_;clear hK K;refine wD ?_;have R8:=(R7.stored i0 (.int .u32 iv)).1;rw [KF] at R8;have S8:=S7.setCell (L:=w1.heap.size) zT i0 (.int .u32 iv);go_wp2_with fail;refine zM (jv S8 (HFo.out _)) ?_;rintro w9 ⟨S9,S9l⟩;have c9:=jc S9l zT c8;have R9:=kg S9l (fun k hk=>by simp [Value.ownBlock] at hk;simp [hk]) R8;clear S9l;obtain ⟨z9,q9⟩:=QS R9 hi1;have f9:=R9.frozenAt i1;have R10:=(R9.stored i1 (.int .u32 1)).1;rw [KF] at R10;have S10:=S9.setCell (L:=w1.heap.size) zT i1 (.int .u32 1);clear R4 R5 R6 R7 R8 S4 S5 S6 S7 S8 c4 c5 c6 c7 c8 q4 q7 f4 f7;go_wp2;go_ret;refine ⟨_,rfl,?_,fun k hk=> ?_,S10.bel⟩
 ·simpa using R10
 ·simp [Value.ownBlock] at hk;subst hk;exact (S9.ls w1.heap.size zT).2

def Js (l src:List Int) (off:Nat):Nat->List Int
 | 0=>l
 | k+1=>(Js l src off k).set (off+k) (src.getD k 0)
theorem Jr (l src:List Int) (off:Nat):∀k,(Js l src off k).length=l.length
 | 0=>rfl
 | k+1=>by simp [Js,Jr l src off k]
theorem jas (l src:List Int) (off:Nat):∀k j,(Js l src off k)[j]? =if off<=j/\j < off+k/\j < l.length then some (src.getD (j - off) 0) else l[j]?
 | 0,j=>by rw [if_neg zo];rfl
 | k+1,j=>by
  unfold Js;by_cases h:off+k=j
  ·subst h;by_cases h2:off+k < l.length
   ·rw [List.getElem?_set_self (by rw [Jr];exact h2),if_pos zo,show off+k - off=k by omega]
   ·rw [List.getElem?_eq_none (by rw [List.length_set,Jr];omega),if_neg zo,List.getElem?_eq_none zo]
  ·rw [List.getElem?_set_ne h,jas l src off k j];by_cases h3:off<=j/\j < off+k/\j < l.length
   ·rw [if_pos h3,if_pos zo]
   ·rw [if_neg h3,if_neg zo]
def Xd (N:Nat) (h v:List Int):List Int:=Js ((Js (List.replicate N 0) h 0 8).set 8 4294967296) v 16 v.length
theorem jco (N:Nat) (h v:List Int):(Xd N h v).length=N:=by simp [Xd,Jr]
theorem copied (N:Nat) (h:List Int) (hh:h.length=8) (hN:8<=N):h++(List.replicate N (0:Int)).drop 8=Js (List.replicate N 0) h 0 8:=by
 apply List.ext_getElem?;intro j;rw [jas,List.getElem?_append];by_cases hj:j < 8
 ·rw [if_pos zo,if_pos (by simp;omega)];simp [hh,hj]
 ·rw [if_neg zo,if_neg zo,List.getElem?_drop];congr 1;omega
theorem uset (l:List Int) (i:Nat) (v:Int):(jW l).set i (.int .u64 v)=jW (l.set i v):=by simp [jW,List.map_set]
theorem row_at {w:World} {g n:Nat} {l:List Int} (hg:w.heap[g]? =some (.cells (jW l).toArray 38)) (hn:l.length=n) (h:n<=1000000):w.ownsRow 0 38 1 (.slice (some ⟨g,0,none⟩) n n) n (jW l):=by
 refine ⟨by simpa [jW] using hn,Or.inr ⟨g,n,(jW l).toArray,rfl,Nat.zero_le _,hg,Nat.le_refl _,by unfold maxLen;omega,by simpa [jW] using hn,?_⟩⟩;have:(jW l).length=n:=by simpa [jW] using hn
 simp [<-this]
theorem lcell {w:World} {g c n:Nat} {l:List Int} (h:w.ownsRow 0 38 1 (.slice (some ⟨g,0,none⟩) n c) n (jW l)) {i:Nat} (hi:i < n):∃z,w.cell? ⟨g,i,none⟩=some z:=by
 refine ⟨_,(h.cellAt i zo).trans (List.getElem?_eq_getElem ?_)⟩;have:=h.1;omega
theorem jdb (N:Nat):madeCells #[.int .u64 0] N=(jW (List.replicate N 0)).toArray:=by
 apply Array.ext';simp [madeCells,jW,Nat.mod_one];exact List.eq_replicate_iff.2 ⟨zT,zT⟩
def FwRel (w:World) (t p s:Int) (N C:Nat) (l l2:List Int) (g1 gv cv:Nat) (i:Value) (wr:World):Prop:=
 ∃k:Nat,k<=C/\i= .int .i64 k/\wr.ownsRow 0 38 1 (.slice (some ⟨g1,0,none⟩) N N) N (jW (Js l2 l 16 k))/\wr.ownsRow 0 44 1 (.slice (some ⟨gv,0,none⟩) C cv) C (yL l)/\
  (∀o:Nat,wr.cell? ⟨w.heap.size,o,none⟩=(#[.int .i64 t,.int .i64 p,.int .i64 s]:Array Value)[o]?)/\BS w [gv,g1,w.heap.size] wr

def RwRelA (w:World) (t p s:Int) (N:Nat) (hd:List Int) (g1 gh ch:Nat) (i:Value) (wr:World):Prop:=
 ∃k:Nat,k<=8/\i= .int .i64 k/\wr.ownsRow 0 38 1 (.slice (some ⟨g1,0,none⟩) N N) N (jW (Js (List.replicate N 0) hd 0 k))/\wr.ownsRow 0 38 1 (.slice (some ⟨gh,0,none⟩) 8 ch) 8 (jW hd)/\
  (∀o:Nat,wr.cell? ⟨w.heap.size,o,none⟩=(#[.int .i64 t,.int .i64 p,.int .i64 s]:Array Value)[o]?)/\BS w [gh,g1,w.heap.size] wr
theorem YS (t p s x:Nat) (N C:Nat) (l:List Int) (w:World) (hr:jq t p s=true) (hx:t+p*65536+s*4294967296=x) (hn:qa t p=(N:Int)) (hc:jk t p=(C:Int)) (hl:l.length=C) (hu:∀x∈l,0<=x/\x < 4294967296)
 (hV:∀w,Calls prog 76 #[.agg #[.int .i64 t,.int .i64 p,.int .i64 s]] w (ValsP w l)) :
 Calls prog 34 #[.agg #[.int .i64 t,.int .i64 p,.int .i64 s]] w (jfK w (Xd N (jao x N) l)):=by
 obtain ⟨b1,b2,b3,b4,b5,b6⟩:=jn hr;have HW:=zh (fun w=>JM t p s w hr);rw [hn] at HW;have HE:=zh (fun w=>VL t p s x N w hr hx hn);have HV:=zh hV;have HT:=zh rjoin10;have HU:=zh hu;have hNC:C+16<=N/\N<=100000:=by unfold qa jG at hn;unfold jk at hn hc;omega
 have hC:0 < C:=by unfold jk at hc;omega
 have hhl:(jao x N).length=8:=rfl;have hWL:Xd N (jao x N) l=Js ((Js (List.replicate N 0) (jao x N) 0 8).set 8 4294967296) l 16 C:=by rw [<-hl];rfl
 rw [hWL];generalize hHd:jao x (N:Int)=hd at*
 have hmk:∀w:World,(Instr.makeSlice 24 (.int .i64 (N:Int)) (.int .i64 (N:Int))).run prog w= .ok (.slice (some ⟨w.heap.size,0,none⟩) N N) (w.alloc (.cells (madeCells #[.int .u64 0] N) 38)):=run_make_row' (P:=prog) 24 38 (.int .u64 0) 8 underlying24 jbr rfl .i64 .i64 N zo zo;have hnb:((N:Int) == 0)=false:=by simp;omega
 have c0:=jr w #[.int .i64 t,.int .i64 p,.int .i64 s] 23;have S0:=((BS.start w).alloc (.cells #[.int .i64 t,.int .i64 p,.int .i64 s] 23))
 clear hV hr hx hn hc hu hWL hHd;go_enter func34,ntmps34;go_wp2_with fail;refine zM (jv S0 (HW.out _)) ?_;rintro w1 ⟨S1,S1l⟩;have c1:=jc S1l zT c0;clear S1l;have l1':=(S1.ls w.heap.size zT).1;have g1:(w1.alloc (.cells (madeCells #[.int .u64 0] N) 38)).heap[w1.heap.size]? =some (.cells (jW (List.replicate N 0)).toArray 38):=by rw [jdb];exact heap_alloc_new w1 _
 have Rm:=row_at g1 (show (List.replicate N (0:Int)).length=N by simp) zo;have S1a:=S1.alloc (.cells (madeCells #[.int .u64 0] N) 38);have c1a:=jC (.cells (madeCells #[.int .u64 0] N) 38) (S1.ls w.heap.size zT).1 c1;go_wp2_with fail;refine (HE.out _).mono ?_;rintro e w2 ⟨v,rfl,R,hf,b2⟩;rw [hhl] at R;obtain ⟨gh,ch,rfl⟩:=Joins.ownsRow_form R zo;have S2:=S1a.below b2;have c2:=((BS.start _).below b2).oldbox c1a (S1a.ls w.heap.size zT).1;have R2:=((BS.start _).below b2).row Rm;have hgh:w1.heap.size < gh:=by have:=hf gh rfl;simp at this;omega
 have S2b:BS w [gh,w1.heap.size,w.heap.size] w2:=⟨S2.bel,fun L hL=>by
  simp at hL;rcases hL with rfl | rfl | rfl
  ·exact ⟨jt R rfl,zo⟩
  ·exact S2.ls _ zT
  ·exact S2.ls _ zT⟩
 have HR:RwRelA w t p s N hd w1.heap.size gh ch (.int .i64 0) w2:=⟨0,zo,rfl,R2,R,c2,S2b⟩
 have hne:w1.heap.size≠w.heap.size:=zo;have hgw:gh≠w1.heap.size:=zo;have hgw2:gh≠w.heap.size:=zo;have hg1w:w.heap.size<=w1.heap.size:=zo;clear R2 R c2 S2b S2 b2 hf S1a c1a Rm g1 S1 c1 S0 c0 HW HE hmk l1' hgh;generalize w1.heap.size=g1 at*
 go_wp2;go_loopw [5] (fun i wr=>RwRelA w t p s N hd g1 gh ch i wr) (fun i _=>8 - (intOf i).toNat);case atStart=>exact HR
 case round=>
  clear HR;obtain ⟨k,hk,rfl,R8,RH8,c8,S8⟩:=hrel;by_cases hlt:k < 8
  ·have q0:=RH8.cellAt k zo;have hyk:(jW hd)[k]? =some (.int .u64 (hd.getD k 0)):=by simp [jW,hhl,hlt]
   rw [hyk] at q0;obtain ⟨z1,q1⟩:=lcell R8 (i:=k) zo;have f1:=R8.frozenAt k;have hfk:Js (List.replicate N 0) hd 0 (k+1)=(Js (List.replicate N 0) hd 0 k).set k (hd.getD k 0):=by simp [Js]
   have HFk:=zh hfk;clear hyk hfk;generalize hd.getD k 0=y at*
   have R11:=(R8.stored k (.int .u64 y)).1;rw [uset] at R11;have S11:=S8.setCell (L:=g1) zT k (.int .u64 y);have RH11:=jh (w':=wr.setCell ⟨g1,k,none⟩ (.int .u64 y)) RH8 (fun b hb=>by simp [Value.ownBlock] at hb;subst hb;exact jg (L:=g1) zo);have c11:∀o:Nat,(wr.setCell ⟨g1,k,none⟩ (.int .u64 y)).cell? ⟨w.heap.size,o,none⟩=(#[.int .i64 t,.int .i64 p,.int .i64 s]:Array Value)[o]? :=fun o=>(World.cell?_of_block (a:=⟨w.heap.size,o,none⟩) (jg (L:=g1) (M:=w.heap.size) zo)).trans (c8 o);have HRR:=zh (And.intro R11 (And.intro RH11 (And.intro c11 S11)));have hkN:(k:Int) < N:=zo;clear R11 RH11 c11 S11 R8 RH8 S8 c8;go_wp2;go_roundw;case rel=>exact ⟨k+1,zo,by go_num,by rw [HFk.out];exact HRR.out.1,HRR.out.2.1,HRR.out.2.2.1,HRR.out.2.2.2⟩
   case measure=>simp [intOf];omega
  ·have h32:k=8:=zo;rw [h32] at R8;have HK:=zh h32;generalize hL1:Js (List.replicate N 0) hd 0 8=l1 at*
   have hl1:l1.length=N:=by rw [<-hL1,Jr];simp
   clear hL1 RH8 h32;go_wp2_with fail;refine zM (HT.out _) fun w3 b3=> ?_;have S3:=S8.below b3;have R3:=((BS.start _).below b3).row R8;have c3:=((BS.start _).below b3).oldbox c8 (S8.ls w.heap.size zT).1;obtain ⟨z3,q3⟩:=lcell R3 (i:=8) zo;have f3:=R3.frozenAt 8;have S4:=S3.setCell (L:=g1) zT 8 (.int .u64 4294967296);have R4:=(R3.stored 8 (.int .u64 4294967296)).1;rw [uset] at R4;have c4:∀o:Nat,(w3.setCell ⟨g1,8,none⟩ (.int .u64 4294967296)).cell? ⟨w.heap.size,o,none⟩=(#[.int .i64 t,.int .i64 p,.int .i64 s]:Array Value)[o]? :=fun o=>(World.cell?_of_block (a:=⟨w.heap.size,o,none⟩) (jg (L:=g1) (M:=w.heap.size) zo)).trans (c3 o);clear S8 R8 c8 b3;go_wp2_with fail;clear q3 f3 S3 R3 c3;refine (HV.out _).mono ?_;rintro e w6 ⟨v,rfl,RV,hfv,b6⟩;rw [hl] at RV;obtain ⟨gv,cv,rfl⟩:=Joins.ownsRow_form RV zo;have S6:=S4.below b6;have R6:=((BS.start _).below b6).row R4;have c6:=((BS.start _).below b6).oldbox c4 (S4.ls w.heap.size zT).1;have hgv:g1 < gv:=by have:=hfv gv rfl;have:=(S4.ls g1 zT).1;omega
   have S7:BS w [gv,g1,w.heap.size] w6:=⟨S6.bel,fun L hL=>by
    simp at hL;rcases hL with rfl | rfl | rfl
    ·exact ⟨jt RV rfl,by have:=S4.bel.size;have:=hfv _ rfl;omega⟩
    ·exact S6.ls _ zT
    ·exact S6.ls _ zT⟩
   have HR:FwRel w t p s N C l (l1.set 8 4294967296) g1 gv cv (.int .i64 0) w6:=⟨0,zo,rfl,R6,RV,c6,S7⟩
   have hgw3:gv≠g1:=zo;have hgw4:gv≠w.heap.size:=zo;have hll:(l1.set 8 4294967296).length=N:=by simp [hl1]
   clear S4 R4 c4 S6 b6 hfv R6 RV c6 S7 HV HT hgv;generalize l1.set 8 4294967296=l2 at*
   go_wp2;go_loopw [7] (fun i wr=>FwRel w t p s N C l l2 g1 gv cv i wr) (fun i _=>C - (intOf i).toNat);case atStart=>exact HR
   case round=>
    clear HR;obtain ⟨k2,hk2,rfl,R8,RV8,c8,S8⟩:=hrel;by_cases hlt2:k2 < C
    ·have hy:=HU.out (l.getD k2 0) (by rw [List.getD_eq_getElem?_getD,List.getElem?_eq_getElem zo];exact List.getElem_mem _);have v8:wr.cell? ⟨gv,k2,none⟩=some (.int .u32 (l.getD k2 0)):=by
      rw [RV8.cellAt k2 zo];simp [yL,hl,hlt2]
     have hfk:Js l2 l 16 (k2+1)=(Js l2 l 16 k2).set (16+k2) (l.getD k2 0):=rfl;have HFk:=zh hfk;have hk16:(16:Int)+k2=((16+k2:Nat):Int):=zo;have hwr:IntKind.i64.wrap ((16:Int)+k2)=((16+k2:Nat):Int):=by rw [hk16];exact IntWalk.i64_in _ zo
     have hkN:16+k2 < N:=zo;have hkN2:((16+k2:Nat):Int) < N:=zo;have hwy:IntKind.u64.wrap (l.getD k2 0)=l.getD k2 0:=jO _ zo zo;clear hfk hy HU;generalize l.getD k2 0=y at*
     generalize hf1:Js l2 l 16 k2=f1 at*
     generalize 16+k2=k3 at*
     obtain ⟨z1,q1⟩:=lcell R8 hkN;have f8:=R8.frozenAt k3;have R11:=(R8.stored k3 (.int .u64 y)).1;rw [uset] at R11;have S11:=S8.setCell (L:=g1) zT k3 (.int .u64 y);have RV11:=jh (w':=wr.setCell ⟨g1,k3,none⟩ (.int .u64 y)) RV8 (fun b hb=>by simp [Value.ownBlock] at hb;subst hb;exact jg (L:=g1) zo);have c11:∀o:Nat,(wr.setCell ⟨g1,k3,none⟩ (.int .u64 y)).cell? ⟨w.heap.size,o,none⟩=(#[.int .i64 t,.int .i64 p,.int .i64 s]:Array Value)[o]? :=fun o=>(World.cell?_of_block (a:=⟨w.heap.size,o,none⟩) (jg (L:=g1) (M:=w.heap.size) zo)).trans (c8 o);have HRR:=zh (And.intro R11 (And.intro RV11 (And.intro c11 S11)));clear R11 RV11 c11 S11 R8 RV8 S8 c8;go_wp2;go_roundw;case rel=>exact ⟨k2+1,zo,by go_num,by rw [HFk.out];exact HRR.out.1,HRR.out.2.1,HRR.out.2.2.1,HRR.out.2.2.2⟩
     case measure=>simp [intOf];omega
    ·obtain rfl:k2=C:=by omega
     go_wp2;go_ret;refine ⟨_,rfl,?_,fun k hk=> ?_,S8.bel⟩
     ·have:(Js l2 l 16 k2).length=N:=by rw [Jr];exact hll
      rw [this];exact R8
     ·simp [Value.ownBlock] at hk;subst hk;exact (S8.ls g1 zT).2

def xN8:Nat:=1+8*65536+10*4294967296
def frL8:List Int:=refL 82 34 77 3 8
def WN8:List Int:=Xd 344 (jao xN8 344) frL8
theorem JL:WN8.length=344:=jco _ _ _
theorem jaG:∀x∈WN8,U64 x:=by
 have h:(WN8.all fun x=>decide (0<=x/\x<=18446744073709551615))=true:=by decide+kernel
 intro x hx;have:=List.all_eq_true.1 h x hx;simp at this;exact ⟨zo,zo⟩
def m8:NM:=⟨WN8,WN8,[]⟩
theorem m8_inv:m8.Inv where
 kl:=rfl
 pos:=by
  have h:=JL;unfold m8;dsimp only;omega
 small:=by
  have h:=JL;unfold m8;dsimp only;omega
 oct:=by
  have h:=JL;unfold m8;dsimp only;omega
 wu:=jaG;ku:=jaG;nd:=List.nodup_nil;pb:=fun p hp=>by cases hp
theorem run8:∀k,k < 10->(jp 1 8 (Jf 1 8 10 (TS.begin,m8) k).1).map (·.1)=some 1:=by decide+kernel
theorem end8:(Jf 1 8 10 (TS.begin,m8) 10).1.ph=19/\(Jf 1 8 10 (TS.begin,m8) 10).1.page=8/\(Jf 1 8 10 (TS.begin,m8) 10).1.made=0:=by decide+kernel
theorem jdY:∀k,k<=10->(Jf 1 8 10 (TS.begin,m8) k).2=m8
 | 0,_=>rfl
 | k+1,h=>by
  have ih:=jdY k zo;have hn:=run8 k zo;obtain ⟨y,hy,he⟩:=Option.map_eq_some_iff.1 hn;obtain ⟨d,a,v⟩:=y;dsimp only at he;subst he;show (nxt 1 8 10 (Jf 1 8 10 (TS.begin,m8) k)).2=m8;unfold nxt;rw [hy];dsimp only;rw [qe];exact ih
theorem run8_two:∀k,k < 10->(Jf 1 8 10 (TS.begin,m8) k).1.ph≠2:=by decide+kernel
theorem tip8:KC (m8.load 8).1=some (1,0):=by decide+kernel
theorem vok8 {k:Nat} (hk:k < 10) {d a v:Int} (hn:jp 1 8 (Jf 1 8 10 (TS.begin,m8) k).1=some (d,a,v)):VOK 1 8 (Jf 1 8 10 (TS.begin,m8) k).1 (doM 1 (Jf 1 8 10 (TS.begin,m8) k).2 d a v).1:=by
 rw [jdY k zo];refine ⟨jfq m8_inv d a v,fun hp=> ?_,fun hp=>absurd hp (run8_two k hk)⟩;have e:jp 1 8 (Jf 1 8 10 (TS.begin,m8) k).1=some (1,8,0):=by unfold jp;rw [hp];rfl
 rw [e] at hn;cases hn;exact ⟨1,0,by rw [qe];exact tip8,zd,zd,zd,zd⟩

section
variable {w0 w:World} {S:Nat->Prop} {b:Nat} {t p s:Int} {Ls:List (Nat×Obj)}
theorem mu_bd {x:TS} (hr:jq t p s=true) (h:yJ t p x) (hp:x.ph=0):(mu t p x:Int)<=11000000:=by
 have hb:=jn hr;have hm:=jI hr;have e:mu t p x=400+(p.toNat - x.page)*(410+(jk t p).toNat):=by simp [mu,hp]
 have h1:(p.toNat - x.page)*(410+(jk t p).toNat)<=1024*10410:=Nat.mul_le_mul zo zo;rw [e];omega
theorem told_st {x:TS} {v:Int} (hr:jq t p s=true) (h:MS w0 S b t p s x w) (hp:x.ph≠19) (hv:VOK t p x v):StB t p (jy t p s v x):=by
 have hl:=(Q4 (z:=s) h.inv hp v).2;have hst:=h.st;unfold StB;rcases Nat.eq_zero_or_pos x.ph with h0 | h0
 ·obtain ⟨s0,u,ht,-,-,hs0⟩:=hv.tip h0;have hm:=mu_bd hr h.inv h0;have e:(jy t p s v x).s=s0:=by rw [Xk h0 ht];rfl
  rw [e];omega
 ·have:=told_s t p s v x h0;omega
theorem ms_told {x:TS} {v:Int} {ok:Bool} (h:MS w0 S b t p s x w) (hr:jq t p s=true) (hp:x.ph≠19) (hv:VOK t p x v) :
 Calls prog 54 #[.pointer (some ⟨b,0,none⟩),.int .u64 v,.bool ok] w fun e w'=>e= .returned (.tuple #[])/\MS w0 S b t p s (jy t p s v x) w':=by
 have hi:=(Q4 (z:=s) h.inv hp v).1;have hs:=told_st hr h hp hv;have hph:=h.inv.ph;have hc:x.ph=0\/x.ph=1\/x.ph=2\/x.ph=3\/x.ph=4\/x.ph=5\/(x.ph=6\/x.ph=7\/x.ph=8)\/x.ph=9\/x.ph=10\/x.ph=11\/x.ph=12\/x.ph=13\/x.ph=14\/x.ph=15\/x.ph=16\/x.ph=17\/x.ph=18:=zo;rcases hc with e | e | e | e | e | e | e | e | e | e | e | e | e | e | e | e | e
 ·exact told_0 h hr e hv hi hs
 ·exact told_1 h hr e hv.u hi hs
 ·exact told_2 h hr e hv hi hs
 ·exact told_3 h hr e hv.u hi hs
 ·exact told_4 h hr e hi hs
 ·exact told_5 h e hi hs
 ·exact told_678 h e hi hs
 ·exact told_9 h hr e hi hs
 ·exact told_10 h hr e hv.u hi hs
 ·exact told_11 h e hi hs
 ·exact told_12 h e hi hs
 ·exact VE (j:=0) h e zo hi hs
 ·exact VE (j:=1) h e zo hi hs
 ·exact VE (j:=2) h e zo hi hs
 ·exact told_16 h e hi hs
 ·exact VE (j:=4) h e zo hi hs
 ·exact told_18 h hr e hi hs
theorem QZ {l:List Stp} {k:Nat} {y:Stp} (h:l[k]? =some y):l.drop k=y :: l.drop (k+1):=by
 obtain ⟨h1,h2⟩:=List.getElem?_eq_some_iff.1 h;rw [List.drop_eq_getElem_cons h1,h2]
theorem flC_at {x:TS} {i:Nat} {y:Int×Int} (h:x.l[i]? =some y):(flC t p x)[i]? =some ⟨4,16+y.1,0,.nilFunc⟩:=by
 have hi:=(List.getElem?_eq_some_iff.1 h).1;unfold flC;rw [List.append_assoc,List.getElem?_append_left (by simpa [flF] using hi)];simp [flF,h]
theorem QY (x:TS) (j:Nat):(flC t p x).drop (x.l.length+j)=(⟨5,0,0,.nilFunc⟩ :: clF (jo t p x.u) (Jv x.note):List Stp).drop j:=by
 unfold flC;rw [List.append_assoc,show x.l.length=(flF x.l).length by simp [flF],List.drop_append];simp
theorem lgC_at {st:Int} {wr:List (Int×Int)} {kx i:Nat} {y:Int×Int} (h:wr[i]? =some y):(lgC t p st wr kx)[i]? =some ⟨2,jJ t p t i,jH y.1 y.2,.nilFunc⟩:=by
 have hi:=(List.getElem?_eq_some_iff.1 h).1;unfold lgC;rw [List.append_assoc,List.getElem?_append_left (by simpa [lgF] using hi)];simp [lgF,h]
theorem lgC_fl {st:Int} {wr:List (Int×Int)} {kx j:Nat} (h:8*j < wr.length):(lgC t p st wr kx)[wr.length+j]? =some ⟨4,jJ t p t (8*j:Nat),0,.nilFunc⟩:=by
 unfold lgC;rw [List.append_assoc,List.getElem?_append_right (by simp [lgF]),List.getElem?_append_left (by simp [lgF,fsF];omega)];have hl:(lgF t p wr).length=wr.length:=by simp [lgF]
 rw [hl,show wr.length+j - wr.length=j by omega];have hj:j < (wr.length+7) / 8:=zo;simp only [fsF,List.getElem?_map,List.getElem?_range hj,Option.map_some]
theorem ms_head {x:TS} (hr:jq t p s=true) (h:MS w0 S b t p s x w) (hp:x.ph≠19):∃Ls rest q d a v told st md pg,QW w0 S b t p s Ls rest st md pg (⟨d,a,v,told⟩ :: q) w/\jp t p x=some (d,a,v):=by
 have hrb:=jn hr;have hph:=h.inv.ph;have h3:=h.inv.h3;have hhi:=h.inv.hi;have hn:=h.inv.n;have hm:=h.mr;unfold MR at hm;have hc:x.ph=0\/x.ph=1\/x.ph=2\/x.ph=3\/x.ph=4\/x.ph=5\/x.ph=6\/x.ph=7\/x.ph=8\/x.ph=9\/x.ph=10\/x.ph=11\/x.ph=12\/x.ph=13\/x.ph=14\/x.ph=15\/x.ph=16\/x.ph=17\/x.ph=18:=zo;have hcell:∀y:Int×Int,(0<=y.1/\y.1 < jk t p)->Je t p y.1=16+y.1:=fun y hy=>by unfold Je;rw [if_pos hy]
 have hnote:0<=x.u/\x.u<=t->qX t p x.u=jo t p x.u:=fun hy=>by unfold qX;rw [if_pos hy]
 have hnt:qX t p t=jo t p t:=by unfold qX;rw [if_pos zo]
 rcases hc with e | e | e | e | e | e | e | e | e | e | e | e | e | e | e | e | e | e | e <;> rw [e] at hm
 ·obtain ⟨Ls,hq⟩:=hm;exact ⟨_,_,_,_,_,_,_,_,_,_,hq,by unfold jp;rw [e];rfl⟩
 ·obtain ⟨hu,Ls,ks,kx,ku,-,-,-,hq⟩:=hm;exact ⟨_,_,_,_,_,_,_,_,_,_,hq,by unfold jp;rw [e,hnote hu];rfl⟩
 ·obtain ⟨hd,Ls,kx,ku,kn,kl,g,N,bs,hN,hbl,-,-,-,-,-,-,hq⟩:=hm;obtain ⟨hil,hin⟩:=h.inv.h2 e;have hib:x.i < bs.length:=zo;have hget:(ldF t p x.u kl bs)[x.i]? =some ⟨1,jJ t p x.u x.i,0,r1V kl bs[x.i]⟩:=by simp [ldF,hib]
  rw [QZ hget] at hq;have hlog:YP t p x.u x.i=jJ t p x.u x.i:=by unfold YP;rw [if_pos ⟨hd.u0,hd.u1,zo,zo⟩]
  exact ⟨_,_,_,_,_,_,_,_,_,_,hq,by unfold jp;rw [e,hlog];rfl⟩
 ·obtain ⟨hd,Ls,k0,kl,kx,ku,kn,kb,y,r,js,jx,ja,jl,jb,hy,ht,hcc,hq⟩:=hm;have hy':x.l[x.i]? =some y:=by rw [<-List.head?_drop,hy];rfl
  refine ⟨_,_,_,_,_,_,_,_,_,_,hq,?_⟩;have hg:x.l.getD x.i (0,0)=y:=by rw [List.getD_eq_getElem?_getD,hy'];rfl
  unfold jp;rw [e,hg,hcell y (hd.l.2 y (List.mem_of_getElem? hy')).1];rfl
 ·obtain ⟨hd,Ls,k0,kl,kx,ku,kn,kb,y,r,js,jx,ja,jl,jb,hy,ht,hcc,hq⟩:=hm;have hy':x.l[x.i]? =some y:=by rw [<-List.head?_drop,hy];rfl
  refine ⟨_,_,_,_,_,_,_,_,_,_,hq,?_⟩;have hg:x.l.getD x.i (0,0)=y:=by rw [List.getD_eq_getElem?_getD,hy'];rfl
  unfold jp;rw [e,hg,hcell y (hd.l.2 y (List.mem_of_getElem? hy')).1];rfl
 ·obtain ⟨hd,Ls,k0,m0,hq⟩:=hm;have hlt:=h3 zo;obtain ⟨y,hy'⟩:∃y,x.l[x.i]? =some y:=⟨_,List.getElem?_eq_getElem hlt⟩
  rw [QZ (flC_at hy')] at hq;refine ⟨_,_,_,_,_,_,_,_,_,_,hq,?_⟩;have hg:x.l.getD x.i (0,0)=y:=by rw [List.getD_eq_getElem?_getD,hy'];rfl
  unfold jp;rw [e,hg,hcell y (hd.l.2 y (List.mem_of_getElem? hy')).1];rfl
 ·obtain ⟨hd,Ls,k0,m0,hq⟩:=hm;have e2:=QY (t:=t) (p:=p) x 0;rw [Nat.add_zero] at e2;rw [e2] at hq;exact ⟨_,_,_,_,_,_,_,_,_,_,hq,by unfold jp;rw [e];rfl⟩
 ·obtain ⟨hd,Ls,k0,m0,hq⟩:=hm;rw [QY] at hq;exact ⟨_,_,_,_,_,_,_,_,_,_,hq,by unfold jp;rw [e,hnote ⟨hd.u0,hd.u1⟩];rfl⟩
 ·obtain ⟨hd,Ls,k0,m0,hq⟩:=hm;rw [QY] at hq;exact ⟨_,_,_,_,_,_,_,_,_,_,hq,by unfold jp;rw [e,hnote ⟨hd.u0,hd.u1⟩];rfl⟩
 ·obtain ⟨hd,Ls,k0,m0,hq⟩:=hm;rw [QY] at hq;exact ⟨_,_,_,_,_,_,_,_,_,_,hq,by unfold jp;rw [e];rfl⟩
 ·obtain ⟨hnd,hok,Ls,kx,kk,kt,kv,wv,m1,m2,m3,m4,hq⟩:=hm;exact ⟨_,_,_,_,_,_,_,_,_,_,hq,by unfold jp;rw [e,hcell (x.need,0) hnd];rfl⟩
 ·obtain ⟨hW,Ls,kx,kz,kn,kl,a,c,st,m1,m2,m3,m4,m5,hb,hc,-,hq⟩:=hm;have hq':QW w0 S b t p s Ls (Vw kx kz kn kl) x.s x.made x.page ((lgC t p st x.wr kx).drop x.i) w:=hq;have hlt:=hhi zo;obtain ⟨y,hy'⟩:∃y,x.wr[x.i]? =some y:=⟨_,List.getElem?_eq_getElem hlt⟩
  rw [QZ (lgC_at hy')] at hq';refine ⟨_,_,_,_,_,_,_,_,_,_,hq',?_⟩;have hg:x.wr.getD x.i (0,0)=y:=by rw [List.getD_eq_getElem?_getD,hy'];rfl
  have:=hW.1;have hlog:YP t p t x.i=jJ t p t x.i:=by unfold YP;rw [if_pos ⟨zo,zo,zo,zo⟩]
  unfold jp;rw [e,hg,hlog];rfl
 ·obtain ⟨hW,Ls,kx,kz,kn,kl,a,c,st,m1,m2,m3,m4,m5,hb,hc,h8,hq⟩:=hm;have hq':QW w0 S b t p s Ls (Vw kx kz kn kl) x.s x.made x.page ((lgC t p st x.wr kx).drop (x.wr.length+x.i / 8)) w:=hq;have hlt:=hhi zo;have h8':=h8 rfl;rw [QZ (lgC_fl zo),show 8*(x.i / 8)=x.i by omega] at hq';refine ⟨_,_,_,_,_,_,_,_,_,_,hq',?_⟩;have:=hW.1;have hlog:YP t p t x.i=jJ t p t x.i:=by unfold YP;rw [if_pos ⟨zo,zo,zo,zo⟩]
  unfold jp;rw [e,hlog];rfl
 ·obtain ⟨hW,Ls,kx,kz,kn,kl,a,c,st,m1,m2,m3,m4,m5,hb,hc,-,hq⟩:=hm;have hq':QW w0 S b t p s Ls (Vw kx kz kn kl) x.s x.made x.page ((lgC t p st x.wr kx).drop (x.wr.length+(x.wr.length+7) / 8+0)) w:=hq;rw [if_pos zd] at hc;rw [kN] at hq';subst hc;exact ⟨_,_,_,_,_,_,_,_,_,_,hq',by unfold jp;rw [e,hnt];rfl⟩
 ·obtain ⟨hW,Ls,kx,kz,kn,kl,a,c,st,m1,m2,m3,m4,m5,hb,hc,-,hq⟩:=hm;have hq':QW w0 S b t p s Ls (Vw kx kz kn kl) x.s x.made x.page ((lgC t p st x.wr kx).drop (x.wr.length+(x.wr.length+7) / 8+1)) w:=hq;rw [kN] at hq';exact ⟨_,_,_,_,_,_,_,_,_,_,hq',by unfold jp;rw [e,hnt];rfl⟩
 ·obtain ⟨hW,Ls,kx,kz,kn,kl,a,c,st,m1,m2,m3,m4,m5,hb,hc,-,hq⟩:=hm;have hq':QW w0 S b t p s Ls (Vw kx kz kn kl) x.s x.made x.page ((lgC t p st x.wr kx).drop (x.wr.length+(x.wr.length+7) / 8+2)) w:=hq;rw [kN] at hq';exact ⟨_,_,_,_,_,_,_,_,_,_,hq',by unfold jp;rw [e];rfl⟩
 ·obtain ⟨hW,Ls,kx,kz,kn,kl,a,c,st,m1,m2,m3,m4,m5,hb,hc,-,hq⟩:=hm;have hq':QW w0 S b t p s Ls (Vw kx kz kn kl) x.s x.made x.page ((lgC t p st x.wr kx).drop (x.wr.length+(x.wr.length+7) / 8+3)) w:=hq;rw [if_pos zd] at hc;rw [kN] at hq';subst hc;exact ⟨_,_,_,_,_,_,_,_,_,_,hq',by unfold jp;rw [e];rfl⟩
 ·obtain ⟨hW,Ls,kx,kz,kn,kl,a,c,st,m1,m2,m3,m4,m5,hb,hc,-,hq⟩:=hm;have hq':QW w0 S b t p s Ls (Vw kx kz kn kl) x.s x.made x.page ((lgC t p st x.wr kx).drop (x.wr.length+(x.wr.length+7) / 8+4)) w:=hq;rw [kN] at hq';exact ⟨_,_,_,_,_,_,_,_,_,_,hq',by unfold jp;rw [e];rfl⟩
 ·obtain ⟨hW,Ls,kx,kz,kn,kl,a,c,st,m1,m2,m3,m4,m5,hb,hc,-,hq⟩:=hm;have hq':QW w0 S b t p s Ls (Vw kx kz kn kl) x.s x.made x.page ((lgC t p st x.wr kx).drop (x.wr.length+(x.wr.length+7) / 8+5)) w:=hq;rw [kN] at hq';exact ⟨_,_,_,_,_,_,_,_,_,_,hq',by unfold jp;rw [e];rfl⟩
end

theorem MR.imp {w0 w w0' w':World} {S S':Nat->Prop} {b:Nat} {t p s:Int} {x:TS} (hph:x.ph<=19) (f:∀Ls rest st md pg q,QW w0 S b t p s Ls rest st md pg q w->QW w0' S' b t p s Ls rest st md pg q w') (h:MR w0 S b t p s x w):MR w0' S' b t p s x w':=by
 unfold MR at h ⊢;have hc:x.ph=0\/x.ph=1\/x.ph=2\/x.ph=3\/x.ph=4\/x.ph=5\/x.ph=6\/x.ph=7\/x.ph=8\/x.ph=9\/x.ph=10\/x.ph=19\/x.ph=11\/x.ph=12\/x.ph=13\/x.ph=14\/x.ph=15\/x.ph=16\/x.ph=17\/x.ph=18:=zo;rcases hc with e | e | e | e | e | e | e | e | e | e | e | e | e | e | e | e | e | e | e | e <;> rw [e] at h ⊢
 ·obtain ⟨Ls,hq⟩:=h;exact ⟨Ls,f _ _ _ _ _ _ hq⟩
 ·obtain ⟨hu,Ls,ks,kx,ku,m1,m2,m3,hq⟩:=h;exact ⟨hu,Ls,ks,kx,ku,m1,m2,m3,f _ _ _ _ _ _ hq⟩
 ·obtain ⟨hd,Ls,kx,ku,kn,kl,g,N,bs,hN,hbl,m1,m2,m3,m4,m5,m6,hq⟩:=h;exact ⟨hd,Ls,kx,ku,kn,kl,g,N,bs,hN,hbl,m1,m2,m3,m4,m5,m6,f _ _ _ _ _ _ hq⟩
 ·obtain ⟨hd,Ls,k0,kl,kx,ku,kn,kb,y,r,js,jx,ja,jl,jb,hy,ht,hcc,hq⟩:=h;exact ⟨hd,Ls,k0,kl,kx,ku,kn,kb,y,r,js,jx,ja,jl,jb,hy,ht,hcc,f _ _ _ _ _ _ hq⟩
 ·obtain ⟨hd,Ls,k0,kl,kx,ku,kn,kb,y,r,js,jx,ja,jl,jb,hy,ht,hcc,hq⟩:=h;exact ⟨hd,Ls,k0,kl,kx,ku,kn,kb,y,r,js,jx,ja,jl,jb,hy,ht,hcc,f _ _ _ _ _ _ hq⟩
 ·obtain ⟨hd,Ls,k0,m0,hq⟩:=h;exact ⟨hd,Ls,k0,m0,f _ _ _ _ _ _ hq⟩
 ·obtain ⟨hd,Ls,k0,m0,hq⟩:=h;exact ⟨hd,Ls,k0,m0,f _ _ _ _ _ _ hq⟩
 ·obtain ⟨hd,Ls,k0,m0,hq⟩:=h;exact ⟨hd,Ls,k0,m0,f _ _ _ _ _ _ hq⟩
 ·obtain ⟨hd,Ls,k0,m0,hq⟩:=h;exact ⟨hd,Ls,k0,m0,f _ _ _ _ _ _ hq⟩
 ·obtain ⟨hd,Ls,k0,m0,hq⟩:=h;exact ⟨hd,Ls,k0,m0,f _ _ _ _ _ _ hq⟩
 ·obtain ⟨hnd,hok,Ls,kx,kk,kt,kv,wv,m1,m2,m3,m4,hq⟩:=h;exact ⟨hnd,hok,Ls,kx,kk,kt,kv,wv,m1,m2,m3,m4,f _ _ _ _ _ _ hq⟩
 ·obtain ⟨Ls,hq⟩:=h;exact ⟨Ls,f _ _ _ _ _ _ hq⟩
 all_goals
  obtain ⟨hW,Ls,kx,kz,kn,kl,a,c,st,m1,m2,m3,m4,m5,hb,hc,h8,hq⟩:=h;exact ⟨hW,Ls,kx,kz,kn,kl,a,c,st,m1,m2,m3,m4,m5,hb,hc,h8,f _ _ _ _ _ _ hq⟩
section
variable {w0 w:World} {S:Nat->Prop} {b:Nat} {t p s:Int} {Ls:List (Nat×Obj)} {rest:Value} {st md pg:Int} {q:List Stp}
theorem MS.below {x:TS} {w':World} (h:MS w0 S b t p s x w) (hb:Below w.heap.size w w'):MS w0 S b t p s x w':=⟨h.inv,h.st,h.mr.imp h.inv.ph (fun _ _ _ _ _ _ hq=>hq.below hb)⟩
theorem MS.drew {x:TS} (h:MS w0 S b t p s x w):MS w0 S b t p s x w.drew:=⟨h.inv,h.st,h.mr.imp h.inv.ph (fun _ _ _ _ _ _ hq=>hq.drew)⟩
theorem MS.some {x:TS} (h:MS w0 S b t p s x w):∃Ls rest q,QW w0 S b t p s Ls rest x.s x.made x.page q w:=by
 have hm:=h.mr;have hph:=h.inv.ph;unfold MR at hm;have hc:x.ph=0\/x.ph=1\/x.ph=2\/x.ph=3\/x.ph=4\/x.ph=5\/x.ph=6\/x.ph=7\/x.ph=8\/x.ph=9\/x.ph=10\/x.ph=19\/x.ph=11\/x.ph=12\/x.ph=13\/x.ph=14\/x.ph=15\/x.ph=16\/x.ph=17\/x.ph=18:=zo;rcases hc with e | e | e | e | e | e | e | e | e | e | e | e | e | e | e | e | e | e | e | e <;> rw [e] at hm
 ·obtain ⟨Ls,hq⟩:=hm;exact ⟨_,_,_,hq⟩
 ·obtain ⟨hu,Ls,ks,kx,ku,m1,m2,m3,hq⟩:=hm;exact ⟨_,_,_,hq⟩
 ·obtain ⟨hd,Ls,kx,ku,kn,kl,g,N,bs,hN,hbl,m1,m2,m3,m4,m5,m6,hq⟩:=hm;exact ⟨_,_,_,hq⟩
 ·obtain ⟨hd,Ls,k0,kl,kx,ku,kn,kb,y,r,js,jx,ja,jl,jb,hy,ht,hcc,hq⟩:=hm;exact ⟨_,_,_,hq⟩
 ·obtain ⟨hd,Ls,k0,kl,kx,ku,kn,kb,y,r,js,jx,ja,jl,jb,hy,ht,hcc,hq⟩:=hm;exact ⟨_,_,_,hq⟩
 ·obtain ⟨hd,Ls,k0,m0,hq⟩:=hm;exact ⟨_,_,_,hq⟩
 ·obtain ⟨hd,Ls,k0,m0,hq⟩:=hm;exact ⟨_,_,_,hq⟩
 ·obtain ⟨hd,Ls,k0,m0,hq⟩:=hm;exact ⟨_,_,_,hq⟩
 ·obtain ⟨hd,Ls,k0,m0,hq⟩:=hm;exact ⟨_,_,_,hq⟩
 ·obtain ⟨hd,Ls,k0,m0,hq⟩:=hm;exact ⟨_,_,_,hq⟩
 ·obtain ⟨hnd,hok,Ls,kx,kk,kt,kv,wv,m1,m2,m3,m4,hq⟩:=hm;exact ⟨_,_,_,hq⟩
 ·obtain ⟨Ls,hq⟩:=hm;exact ⟨_,_,_,hq⟩
 all_goals
  obtain ⟨hW,Ls,kx,kz,kn,kl,a,c,st,m1,m2,m3,m4,m5,hb,hc,h8,hq⟩:=hm;exact ⟨_,_,_,hq⟩
theorem MS.fr {x:TS} (h:MS w0 S b t p s x w):Fr S w0 w:=by
 obtain ⟨Ls,rest,q,hq⟩:=h.some;exact hq.fr
theorem MS.over {x:TS} (h:MS w0 S b t p s x w) (hp:x.ph=19):∃Ls,QW w0 S b t p s Ls .nilFunc x.s x.made x.page [] w:=by
 have hm:=h.mr;unfold MR at hm;rw [hp] at hm;exact hm
def Xa (d z a v:Int):Value:= .agg #[.int .i64 d,.int .i64 z,.int .i64 a,.int .i64 0,.int .u64 0,.int .u64 v]
theorem yj.slot {T sz n:Nat} {v:Value} {xs:List Value} (h:yj w T sz v n xs):∃a c,v= .slice a n c:=h.shape
theorem jcN (h:QW w0 S b t p s Ls rest st md pg [] w):Calls prog 14 #[.pointer (some ⟨b,0,none⟩)] w (zW (.tuple #[Xa 0 0 0 0,.bool false]) w):=by
 obtain ⟨a,c,c3⟩:=h.left;have hb:=h.lt;have HB:=zh ((Below.refl w.heap.size w).alloc (Nat.le_refl _) (.cells #[.int .i64 0,.int .i64 0,.int .i64 0,.int .i64 0,.int .u64 0,.int .u64 0] 40));simp only [List.length_nil] at c3;clear h;go_enter func14,ntmps14;go_wp2_with fail;have k:=fun o:Nat=>jd (o:=o) (heap_alloc_new w (.cells #[.int .i64 0,.int .i64 0,.int .i64 0,.int .i64 0,.int .u64 0,.int .u64 0] 40));refine bodyPost_ret (v:= .tuple #[Xa 0 0 0 0,.bool false]) (by simp [results,results14,go_sem,k,Xa]) rfl ⟨rfl,HB.out⟩
theorem jcM {y:Stp} (h:QW w0 S b t p s Ls rest st md pg (y :: q) w):Calls prog 14 #[.pointer (some ⟨b,0,none⟩)] w (zW (.tuple #[Xa y.d t y.at_ y.v,.bool true]) w):=by
 obtain ⟨g,off,cap,c3,-,d0,d1,d2,d3,d4,d5,-⟩:=h.head;have hb:=h.lt;have hg:=World.block_lt_of_cell? w _ d0;dsimp only at hg;have HB:=zh ((Below.refl w.heap.size w).alloc (Nat.le_refl _) (.cells #[.int .i64 y.d,.int .i64 t,.int .i64 y.at_,.int .i64 0,.int .u64 0,.int .u64 y.v] 40));clear h;generalize q.length=n at*
 go_enter func14,ntmps14;go_wp2_with fail;have k:=fun o:Nat=>jd (o:=o) (heap_alloc_new w (.cells #[.int .i64 y.d,.int .i64 t,.int .i64 y.at_,.int .i64 0,.int .u64 0,.int .u64 y.v] 40));refine bodyPost_ret (v:= .tuple #[Xa y.d t y.at_ y.v,.bool true]) (by simp [results,results14,go_sem,k,Xa]) rfl ⟨rfl,HB.out⟩
theorem jej (h:QW w0 S b t p s Ls rest st md pg q w):Calls prog 17 #[.pointer (some ⟨b,0,none⟩)] w fun e w'=>e= .returned (.int .u32 md)/\w=w':=by
 have c6:=h.c4.2.2.1;clear h;go_enter func17,ntmps17;go_wp2;go_ret;exact ⟨rfl,rfl⟩
theorem jcJ (h:QW w0 S b t p s Ls rest st md pg q w):Calls prog 16 #[.pointer (some ⟨b,0,none⟩)] w fun e w'=>e= .returned (.int .i64 pg)/\w=w':=by
 have c7:=h.c4.2.2.2;clear h;go_enter func16,ntmps16;go_wp2;go_ret;exact ⟨rfl,rfl⟩
end

section
variable {w0 w w':World} {S T:Nat->Prop} {b:Nat} {t p s:Int} {x:TS}
def MSA (w:World) (S:Nat->Prop) (b:Nat) (t p s:Int) (x:TS):Prop:=MS w S b t p s x w/\∀k,S k->k < w.heap.size
theorem QW.move {Ls:List (Nat×Obj)} {rest:Value} {st md pg:Int} {q:List Stp} (h:QW w0 S b t p s Ls rest st md pg q w) (hf:Fr T w w') (hT:∀k,k < w.heap.size->T k->¬(S k\/w0.heap.size<=k)) :
 QW w' (fun k=>(S k\/w0.heap.size<=k)/\k < w.heap.size) b t p s Ls rest st md pg q w':=by
 have hlt:=h.lt;have hll:=h.llt;obtain ⟨⟨lv,h1,h2⟩,h3,h4,h5⟩:=h;have hk:∀k,k < w.heap.size->(S k\/w0.heap.size<=k)->w'.heap[k]? =w.heap[k]? :=fun k h1 h2=>hf.block k h1 (fun ht=>hT k h1 ht h2);refine ⟨⟨lv,⟨(hk b hlt (.inl h4)).trans h1.box,h1.row.block (fun k hkk=>hk k (h1.row.lt k hkk) (h2 k hkk).1),h1.ne⟩,fun k hkk=>⟨.inl ⟨(h2 k hkk).1,h1.row.lt k hkk⟩,(h2 k hkk).2⟩⟩,fun l hl=>⟨(hk _ (hll l hl) (h3 l hl).2.2).trans (h3 l hl).1,(h3 l hl).2.1,.inl ⟨(h3 l hl).2.2,hll l hl⟩⟩,⟨.inl h4,hlt⟩,Fr.refl _ _⟩
theorem MS.move (h:MS w0 S b t p s x w) (hf:Fr T w w') (hT:∀k,k < w.heap.size->T k->¬(S k\/w0.heap.size<=k)):MSA w' (fun k=>(S k\/w0.heap.size<=k)/\k < w.heap.size) b t p s x:=
 ⟨⟨h.inv,h.st,h.mr.imp h.inv.ph (fun _ _ _ _ _ _ hq=>hq.move hf hT)⟩,fun k hk=>Nat.lt_of_lt_of_le hk.2 hf.size⟩
theorem MS.less {S':Nat->Prop} (h:MS w S b t p s x w) (hs:∀k,S k->S' k):MS w S' b t p s x w:=
 ⟨h.inv,h.st,h.mr.imp h.inv.ph (fun _ _ _ _ _ _ hq=>⟨by
  obtain ⟨lv,h1,h2⟩:=hq.ex;exact ⟨lv,h1,fun k hk=>⟨(h2 k hk).1.imp (hs k) id,(h2 k hk).2⟩⟩,fun l hl=>⟨(hq.ls l hl).1,(hq.ls l hl).2.1,(hq.ls l hl).2.2.imp (hs _) id⟩,hs _ hq.sb,Fr.refl _ _⟩)⟩
theorem MSA.keep (h:MSA w S b t p s x) (hf:Fr T w w') (hT:∀k,T k->¬S k):MSA w' S b t p s x:=by
 have hm:=h.1.move hf (fun k hk ht hs=>by
  rcases hs with hs | hs
  ·exact hT k ht hs
  ·omega)
 refine ⟨hm.1.less fun k hk=> ?_,fun k hk=>Nat.lt_of_lt_of_le (h.2 k hk) hf.size⟩;rcases hk.1 with hs | hs
 ·exact hs
 ·exact absurd hk.2 zo
theorem msa_told {v:Int} {ok:Bool} (h:MSA w S b t p s x) (hr:jq t p s=true) (hp:x.ph≠19) (hv:VOK t p x v) :
 Calls prog 54 #[.pointer (some ⟨b,0,none⟩),.int .u64 v,.bool ok] w fun e w'=>e= .returned (.tuple #[])/\(∃S',MSA w' S' b t p s (jy t p s v x)/\∀k,S' k->S k\/w.heap.size<=k)/\Fr S w w':=by
 refine zM (ms_told h.1 hr hp hv) fun w' h1=> ?_;have hm:=h1.move (T:=fun _=>False) (Fr.refl _ w') (fun _ _ hf=>hf.elim);exact ⟨rfl,⟨_,hm,fun k hk=>hk.1⟩,h1.fr⟩
theorem VT (h:MSA w S b t p s x) (hr:jq t p s=true) :
 Calls prog 14 #[.pointer (some ⟨b,0,none⟩)] w (zW (match jp t p x with | some (d,a,v)=> .tuple #[Xa d t a v,.bool true] | none=> .tuple #[Xa 0 0 0 0,.bool false]) w):=by
 by_cases hp:x.ph=19
 ·obtain ⟨Ls,hq⟩:=h.1.over hp;rw [(Jp h.1.inv).2 hp];exact jcN hq
 ·obtain ⟨Ls,rest,q,d,a,v,told,st,md,pg,hq,e⟩:=ms_head hr h.1 hp;rw [e];exact jcM hq
theorem msa_made (h:MSA w S b t p s x):Calls prog 17 #[.pointer (some ⟨b,0,none⟩)] w fun e w'=>e= .returned (.int .u32 x.made)/\w=w':=by
 obtain ⟨Ls,rest,q,hq⟩:=h.1.some;exact jej hq
theorem jeN (h:MSA w S b t p s x):Calls prog 16 #[.pointer (some ⟨b,0,none⟩)] w fun e w'=>e= .returned (.int .i64 x.page)/\w=w':=by
 obtain ⟨Ls,rest,q,hq⟩:=h.1.some;exact jcJ hq
theorem Yq (w:World) (hr:jq t p s=true) :
 Calls prog 11 #[.agg #[.int .i64 t,.int .i64 p,.int .i64 s]] w fun e w'=>(∃b,e= .returned (.pointer (some ⟨b,0,none⟩))/\∃S',MSA w' S' b t p s TS.begin/\∀k,S' k->w.heap.size<=k)/\Below w.heap.size w w':=by
 refine (jbm t p s w hr).mono ?_;rintro e w' ⟨⟨b,rfl,hb,lv,hM,hlv⟩,hB⟩;have hq:QW w (fun k=>w.heap.size<=k) b t p s [] .nilFunc 0 0 0 [⟨1,8,0,tipV b⟩] w':=by
  refine ⟨⟨lv,⟨hM.box,?_,hM.ne⟩,fun k hk=>⟨.inr (hlv k hk),zT⟩⟩,zT,hb,Fr.of_below hB⟩;have:=yj.of_own hM.row;exact this
 have hms:MS w (fun k=>w.heap.size<=k) b t p s TS.begin w':=by
  refine ⟨YL t p,?_,?_⟩
  ·have:=mu_bd (x:=TS.begin) hr (YL t p) rfl;refine ⟨Int.le_refl _,?_⟩;show (0:Int)+_<=_;omega
  ·exact ⟨[],hq⟩
 have hm:=hms.move (T:=fun _=>False) (Fr.refl _ w') (fun _ _ hf=>hf.elim);exact ⟨⟨b,rfl,_,hm,fun k hk=>hk.1.elim id id⟩,hB⟩
end
end Go.Proofs.YtcnininelndjoaaGreat

