/- parts of the proof, merged by a program. -/
import Derived.Test.YtcnininelndjoaaGreatMmt2
import Derived.Test.YtcnininelndjoaaGreatMmt3
import Derived.Test.YtcnininelndjoaaGreatMmt8
import Derived.Test.YtcnininelndjoaaGreatMmt9
set_option linter.unusedSimpArgs false
set_option linter.unusedVariables false
set_option maxRecDepth 100000
set_option maxHeartbeats 4000000
namespace Go.Proofs.YtcnininelndjoaaGreat
open Go.Proofs.Tryz
open Go.RowKit

def yj (w:World) (e:TypeId) (size:Nat) (v:Value) (n:Nat) (xs:List Value):Prop:=
 xs.length=n*size/\((v= .slice none 0 0/\n=0)\/
  ∃g off cap cur,v= .slice (some ⟨g,off,none⟩) n cap/\w.heap[g]? =some (.cells cur e (0,0))/\n<=cap/\cap<=maxLen/\off+cap*size<=cur.size/\(cur.toList.drop off).take (n*size)=xs)
section
variable {w:World} {e:TypeId} {size:Nat} {v:Value} {n:Nat} {xs:List Value}
theorem yj.of_own {B:Nat} (h:w.ownsRow B e size v n xs):yj w e size v n xs:=by
 refine ⟨h.1,?_⟩;rcases h.2 with h2 | ⟨g,cap,cur,h1,-,h3,h4,h5,h6,h7⟩
 ·exact .inl h2
 ·exact .inr ⟨g,0,cap,cur,h1,h3,h4,h5,zo,by simpa using h7⟩
theorem yj.lt (h:yj w e size v n xs):∀k,v.ownBlock=some k->k < w.heap.size:=by
 intro k hk;rcases h.2 with ⟨rfl,-⟩ | ⟨g,off,cap,cur,rfl,hg,-⟩
 ·simp [Value.ownBlock] at hk
 ·simp [Value.ownBlock] at hk;subst hk;exact (Array.getElem?_eq_some_iff.1 hg).1
theorem yj.block {w':World} (h:yj w e size v n xs) (hb:∀k,v.ownBlock=some k->w'.heap[k]? =w.heap[k]?):yj w' e size v n xs:=by
 refine ⟨h.1,?_⟩;rcases h.2 with h2 | ⟨g,off,cap,cur,rfl,hg,h3⟩
 ·exact .inl h2
 ·exact .inr ⟨g,off,cap,cur,rfl,(hb g rfl).trans hg,h3⟩
theorem yj.shape (h:yj w e size v n xs):∃a c,v= .slice a n c:=by
 rcases h.2 with ⟨h1,h2⟩ | ⟨g,off,cap,cur,h1,-⟩
 ·exact ⟨none,0,by rw [h1,h2]⟩
 ·exact ⟨_,_,h1⟩
theorem yj.form (h:yj w e size v n xs) (hn:0 < n):∃g off cap,v= .slice (some ⟨g,off,none⟩) n cap:=by
 rcases h.2 with ⟨h1,h2⟩ | ⟨g,off,cap,cur,h1,-⟩
 ·omega
 ·exact ⟨g,off,cap,h1⟩
theorem yj.cell {g off cap:Nat} (h:yj w e size (.slice (some ⟨g,off,none⟩) n cap) n xs):∀j u,xs[j]? =some u->w.cell? ⟨g,off+j,none⟩=some u:=by
 intro j u hu;rcases h.2 with ⟨h1,-⟩ | ⟨g',off',cap',cur,h1,hg,-,-,-,ht⟩
 ·cases h1
 ·simp only [Value.slice.injEq,Option.some.injEq,Addr.mk.injEq,and_true,true_and] at h1;obtain ⟨⟨rfl,rfl⟩,rfl⟩:=h1;rw [jd hg];rw [<-ht,List.getElem?_take] at hu;split at hu
  ·rw [List.getElem?_drop] at hu;simpa using hu
  ·cases hu
theorem yj.cells {g off cap:Nat} (h:yj w e size (.slice (some ⟨g,off,none⟩) n cap) n xs):∀j u,xs[j]? =some u->w.cell? ((⟨g,off,none⟩:Addr).add j)=some u:=by
 intro j u hu;have:=h.cell j u hu;unfold Addr.add;split
 ·rename_i hj;subst hj;simpa using this
 ·exact this
theorem yj.tail {x ys:List Value} {g off cap:Nat} (h:yj w e size (.slice (some ⟨g,off,none⟩) (n+1) cap) (n+1) (x++ys)) (hx:x.length=size) :
 yj w e size (.slice (if cap=1 then some ⟨g,off,none⟩ else some ((⟨g,off,none⟩:Addr).add size)) n (cap - 1)) n ys:=by
 have hl:=h.1;rw [List.length_append,Nat.add_mul] at hl;refine ⟨zo,.inr ?_⟩;rcases h.2 with ⟨h1,-⟩ | ⟨g',off',cap',cur,h1,hg,h2,h3,h4,ht⟩
 ·cases h1
 ·simp only [Value.slice.injEq,Option.some.injEq,Addr.mk.injEq,and_true,true_and] at h1;obtain ⟨⟨rfl,rfl⟩,rfl⟩:=h1;have hys:((cur.toList.drop (off+size)).take (n*size))=ys:=by
   have e1:(x++ys).drop size=ys:=by rw [<-hx,List.drop_left]
   rw [<-e1,<-ht,List.drop_take,List.drop_drop];congr 1;rw [Nat.add_mul];omega
  by_cases hc:cap=1
  ·subst hc;have hn:n=0:=zo;subst hn;rw [if_pos rfl];refine ⟨g,off,0,cur,rfl,hg,zo,zo,zo,?_⟩;have:ys=[]:=List.eq_nil_of_length_eq_zero zo;rw [this];simp
  ·rw [if_neg hc];by_cases hs:size=0
   ·subst hs;refine ⟨g,off,cap - 1,cur,by simp [Addr.add],hg,zo,zo,zo,by simpa using hys⟩
   ·refine ⟨g,off+size,cap - 1,cur,by simp [Addr.add,hs],hg,zo,zo,?_,hys⟩;have:cap*size=(cap - 1)*size+size:=by
     rw [<-Nat.succ_mul];congr 1;omega
    omega
end
section
variable {P:Program} {w:World}
theorem VJ (t ty e:TypeId) (i:TypeInfo) (z:Value) (size bytes:Nat) (ht:P.underlying t=some (.slice e)) (hi:P.info? e=some i) (hz:i.zero=some z)
 (hsize:i.size=size) (hby:i.bytes=bytes) (hzs:z.cells.size=size) (hsz:0 < size)
 (v:Value) (n:Nat) (xs:List Value) (hown:yj w e size v n xs)
 (a:Addr) (m c:Nat) (news:List Value) (hl:news.length=m*size) (hnews:∀j u,news[j]? =some u->w.cell? (a.add j)=some u) (h1:∀u∈news,u.oneCell'=true)
 (hm0:0 < m) (h63:n+m<=maxLen) (hbytes:(n+m)*bytes<=140737488355328) :
 ∃v' w',(Builtin.append_ #[t,t] ty #[v,.slice (some a) m c]).run P w= .ok v' w'/\yj w' e size v' (n+m) (xs++news)/\w.grownBy w' v.ownBlock/\(v'.ownBlock=v.ownBlock\/v'.ownBlock=some w.heap.size):=by
 subst hsize;subst hby;have hsmall:n+m<=9223372036854775807:=by simp only [maxLen] at h63;omega
 have hlen:(xs++news).length=(n+m)*i.size:=by rw [List.length_append,hown.1,hl,Nat.add_mul]
 have grown:∀(old:Nat),old < n+m->∀(row:Option Nat),
  yj (w.drew.alloc (.cells (xs.toArray++news.toArray++Builtin.zeroCells z.cells (grownCap w (n+m) old e - (n+m))) e)) e i.size
   (.slice (some ⟨w.heap.size,0,none⟩) (n+m) (grownCap w (n+m) old e)) (n+m) (xs++news)/\
  w.grownBy (w.drew.alloc (.cells (xs.toArray++news.toArray++Builtin.zeroCells z.cells (grownCap w (n+m) old e - (n+m))) e)) row:=by
  intro old ho row;have hge:=grownCap_ge w (n+m) old e;have hcm:grownCap w (n+m) old e<=maxLen:=grownCap_le_maxLen w (n+m) old e h63;refine ⟨⟨hlen,.inr ⟨w.heap.size,0,_,_,rfl,heap_alloc_new w.drew _,hge,hcm,?_,?_⟩⟩,⟨rfl,rfl,rfl,zT,fun k hk _=>World.grownBy.block (World.grownBy_alloc w.drew _ none) k hk zT⟩⟩
  ·simp only [Array.size_append,List.size_toArray,size_zeroCells,hzs,hown.1,hl,<-Nat.add_mul,Nat.zero_add];apply Nat.le_of_eq;congr 1;omega
  ·simp only [Array.toList_append,List.append_assoc,List.drop_zero];rw [<-List.append_assoc,<-hlen];exact List.take_left
 rcases hown.2 with ⟨rfl,rfl⟩ | ⟨g,off,cap,cur,rfl,hg,hnc,hcm,hcs,htake⟩
 ·have hx:xs=[]:=List.eq_nil_of_length_eq_zero (by simpa using hown.1);subst hx;have hr:=run_append_nil (P:=P) w t ty e i z ht hi hz a m c news hl hnews zo zo (by have hb:=hbytes;simp only [Nat.zero_add] at hb;omega);have hgr:=grown 0 zo (Value.ownBlock (.slice none 0 0));simp only [Nat.zero_add,List.nil_append,Array.empty_append] at hgr ⊢;exact ⟨_,_,hr,hgr.1,hgr.2,Or.inr rfl⟩
 ·by_cases hroom:n+m<=cap
  ·have hmul:(n+m)*i.size<=cap*i.size:=Nat.mul_le_mul_right _ hroom;rw [Nat.add_mul] at hmul;have hfit:off+n*i.size+0+news.length<=cur.size:=by rw [hl];omega
   have hf:=run_firstCells_some (P:=P) w i.size m a m c news hl hnews;have hst:=run_storeCells_at P g (off+n*i.size) e news 0 cur w hg hfit h1;simp only [Nat.add_zero] at hst;have hadd:(⟨g,off,none⟩:Addr).add (n*i.size)=⟨g,off+n*i.size,none⟩:=by
    unfold Addr.add;split
    ·rename_i h0;simp [h0]
    ·rfl
   have hr:(Builtin.append_ #[t,t] ty #[.slice (some ⟨g,off,none⟩) n cap,.slice (some a) m c]).run P w =
    .ok (.slice (some ⟨g,off,none⟩) (n+m) cap) (w.setRow g (cur.toList.take (off+n*i.size)++news++cur.toList.drop (off+n*i.size+news.length)).toArray):=by
    simp [Builtin.append_,run_underlying ht,sizeOf,typeInfo,hi,Builtin.lenOf,hroom,hf,hadd,hst]
   refine ⟨_,_,hr,⟨hlen,.inr ⟨g,off,cap,_,rfl,setRow_heap w g cur _ e _ hg,hroom,hcm,?_,?_⟩⟩,⟨rfl,rfl,rfl,zT,fun k _ hk=>setRow_other w g k _ (fun e=>hk (by simp [Value.ownBlock,e]))⟩,Or.inl rfl⟩
   ·simp only [List.size_toArray,List.length_append,List.length_take,List.length_drop,Array.length_toList];omega
   ·have e1:cur.toList.take (off+n*i.size)=cur.toList.take off++xs:=by
     rw [<-htake,List.take_add]
    have e2:(cur.toList.take off).length=off:=by simp;omega
    rw [e1,List.append_assoc,List.append_assoc];show ((cur.toList.take off++(xs++(news++_))).drop off).take _=_;rw [List.drop_append_of_le_length zo,List.drop_of_length_le zo,List.nil_append,<-List.append_assoc,<-hlen];exact List.take_left
  ·have holds:∀j u,xs[j]? =some u->w.cell? ((⟨g,off,none⟩:Addr).add j)=some u:=hown.cells;have hr:=run_append_grow (P:=P) w t ty e i z ht hi hz ⟨g,off,none⟩ n cap xs hown.1 holds a m c news hl hnews zo zo (growslice_fits zo hbytes);have hgr:=grown cap zo (Value.ownBlock (.slice (some ⟨g,off,none⟩) n cap));exact ⟨_,_,hr,hgr.1,hgr.2,Or.inr rfl⟩
theorem qm {ops:Array Oper} {o:Oper} {a:Act} {K:Act->World->Prop} {Q:Exit->Act->World->Prop} {E:Prop} {t:TypeId}
 (hg:o.guard=none) (s x:Operand) (ho:o.op= .call { callee:= .builtin .append,args:=#[s,x],argTypes:=#[t,t] })
 (e:TypeId) (i:TypeInfo) (z:Value) (size bytes:Nat) (ht:P.underlying t=some (.slice e)) (hi:P.info? e=some i) (hz:i.zero=some z)
 (hsize:i.size=size) (hby:i.bytes=bytes) (hzs:z.cells.size=size) (hsz:0 < size)
 (v:Value) (n:Nat) (xs:List Value) (hs:a.eval s=v) (hown:yj w e size v n xs)
 (ad:Addr) (m c:Nat) (news:List Value) (hx:a.eval x= .slice (some ad) m c) (hl:news.length=m*size) (hnews:∀j u,news[j]? =some u->w.cell? (ad.add j)=some u) (h1:∀u∈news,u.oneCell'=true)
 (hm0:0 < m) (h63:n+m<=maxLen) (hbytes:(n+m)*bytes<=140737488355328)
 (h:∀v' w',yj w' e size v' (n+m) (xs++news)->w.grownBy w' v.ownBlock->(v'.ownBlock=v.ownBlock\/v'.ownBlock=some w.heap.size)->K (a.put o.dst v') w') :
 if Region.wanted o (yielded ops a.tmps)=true then Oper.wp P o a w K Q else E:=by
 have hw:Region.wanted o (yielded ops a.tmps)=true:=by simp [Region.wanted,hg]
 rw [if_pos hw];obtain ⟨v',w',hr,h2,h3,h4⟩:=VJ (P:=P) (w:=w) t o.type e i z size bytes ht hi hz hsize hby hzs hsz v n xs hown ad m c news hl hnews h1 hm0 h63 hbytes;unfold Oper.wp execOp;simp only [ho,resolve,invoke,builtin,Sem.run_bind,Sem.run_pure,Result.andThen_ok,List.map_toArray,List.map_cons,List.map_nil,hs,hx,hr];exact h v' w' h2 h3 h4
end
structure MeA (w:World) (b:Nat) (t p s:Int) (lv rest:Value) (st md pg:Int) (n:Nat) (xs:List Value):Prop where
 box:w.heap[b]? =some (.cells (yi t p s lv rest st md pg) 95)
 row:yj w 99 7 lv n xs
 ne:lv.ownBlock≠some b
structure Stp where
 d:Int
 at_:Int
 v:Int
 told:Value
def Kw (z:Int) (q:List Stp):List Value:=q.flatMap fun x=>kT x.d z x.at_ x.v x.told
theorem Qj (z:Int) (q:List Stp) (x:Stp):Kw z (q++[x])=Kw z q++kT x.d z x.at_ x.v x.told:=by simp [Kw]
structure QW (w0:World) (S:Nat->Prop) (b:Nat) (t p s:Int) (Ls:List (Nat×Obj)) (rest:Value) (st md pg:Int) (q:List Stp) (w:World):Prop where
 ex:∃lv,MeA w b t p s lv rest st md pg q.length (Kw t q)/\∀k,lv.ownBlock=some k->(S k\/w0.heap.size<=k)/\∀l∈Ls,l.1≠k
 ls:∀l∈Ls,w.heap[l.1]? =some l.2/\l.1≠b/\(S l.1\/w0.heap.size<=l.1)
 sb:S b
 fr:Fr S w0 w
section
variable {w0 w:World} {S:Nat->Prop} {b:Nat} {t p s:Int} {Ls:List (Nat×Obj)} {rest:Value} {st md pg:Int} {q:List Stp}
theorem QW.lt (h:QW w0 S b t p s Ls rest st md pg q w):b < w.heap.size:=by
 obtain ⟨lv,h1,-⟩:=h.ex;exact (Array.getElem?_eq_some_iff.1 h1.box).1
theorem QW.llt (h:QW w0 S b t p s Ls rest st md pg q w):∀l∈Ls,l.1 < w.heap.size:=fun l hl=>(Array.getElem?_eq_some_iff.1 (h.ls l hl).1).1
theorem QW.drew (h:QW w0 S b t p s Ls rest st md pg q w):QW w0 S b t p s Ls rest st md pg q w.drew:=by
 obtain ⟨⟨lv,h1,h2⟩,h3,h4,h5⟩:=h;exact ⟨⟨lv,⟨h1.box,h1.row.block (fun _ _=>rfl),h1.ne⟩,h2⟩,h3,h4,h5.drew⟩
theorem QW.below {w':World} (h:QW w0 S b t p s Ls rest st md pg q w) (hb:Below w.heap.size w w'):QW w0 S b t p s Ls rest st md pg q w':=by
 have hlt:=h.lt;have hll:=h.llt;obtain ⟨⟨lv,h1,h2⟩,h3,h4,h5⟩:=h;refine ⟨⟨lv,⟨(hb.block b hlt).trans h1.box,h1.row.block (fun k hk=>hb.block k (h1.row.lt k hk)),h1.ne⟩,h2⟩,fun l hl=>⟨(hb.block _ (hll l hl)).trans (h3 l hl).1,(h3 l hl).2⟩,h4,h5.trans (Fr.of_below (S:=S) hb) (fun _ x=>Or.inl x)⟩
theorem QW.sub (h:QW w0 S b t p s Ls rest st md pg q w) {Ls':List (Nat×Obj)} (hs:∀l∈Ls',l∈Ls):QW w0 S b t p s Ls' rest st md pg q w:=by
 obtain ⟨⟨lv,h1,h2⟩,h3,h4,h5⟩:=h;exact ⟨⟨lv,h1,fun k hk=>⟨(h2 k hk).1,fun l hl=>(h2 k hk).2 l (hs l hl)⟩⟩,fun l hl=>h3 l (hs l hl),h4,h5⟩
theorem QW.grown {w':World} {row:Option Nat} (h:QW w0 S b t p s Ls rest st md pg q w) (hg:w.grownBy w' row) (hr:∀k,row=some k->∃l∈Ls,l.1=k) {Ls':List (Nat×Obj)}
 (hs:∀l∈Ls',(l∈Ls/\row≠some l.1)\/(w'.heap[l.1]? =some l.2/\((∃l0∈Ls,l0.1=l.1)\/w.heap.size<=l.1))):QW w0 S b t p s Ls' rest st md pg q w':=by
 have hlt:=h.lt;have hll:=h.llt;obtain ⟨⟨lv,h1,h2⟩,h3,h4,h5⟩:=h;have hrb:row≠some b:=fun e=>by
  obtain ⟨l,hl,e2⟩:=hr b e;exact (h3 l hl).2.1 e2
 have hrl:∀k,lv.ownBlock=some k->row≠some k:=fun k hk e=>by
  obtain ⟨l,hl,e2⟩:=hr k e;exact (h2 k hk).2 l hl e2
 refine ⟨⟨lv,⟨(hg.block b hlt (Ne.symm hrb)).trans h1.box,h1.row.block (fun k hk=>hg.block k (h1.row.lt k hk) (Ne.symm (hrl k hk))),h1.ne⟩,fun k hk=>⟨(h2 k hk).1,fun l hl=> ?_⟩⟩,fun l hl=> ?_,h4,h5.grown hg (fun k hk=> ?_)⟩
 ·rcases hs l hl with ⟨a,-⟩ | ⟨-,⟨l0,a,e⟩ | a⟩
  ·exact (h2 k hk).2 l a
  ·rw [<-e];exact (h2 k hk).2 l0 a
  ·have:=h1.row.lt k hk;omega
 ·rcases hs l hl with ⟨a,c⟩ | ⟨c,⟨l0,a,e⟩ | a⟩
  ·exact ⟨(hg.block _ (hll l a) (Ne.symm c)).trans (h3 l a).1,(h3 l a).2⟩
  ·exact ⟨c,by rw [<-e];exact (h3 l0 a).2⟩
  ·exact ⟨c,zo,Or.inr (by have:=h5.size;omega)⟩
 ·obtain ⟨l,hl,e⟩:=hr k hk;rw [<-e];exact (h3 l hl).2.2
theorem QW.alloc (h:QW w0 S b t p s Ls rest st md pg q w) (o:Obj):QW w0 S b t p s ((w.heap.size,o) :: Ls) rest st md pg q (w.alloc o):=by
 refine h.grown (World.grownBy_alloc w o none) zT fun l hl=> ?_;rcases List.mem_cons.1 hl with rfl | hl
 ·exact .inr ⟨heap_alloc_new w o,.inr (Nat.le_refl _)⟩
 ·exact .inl ⟨hl,zT⟩
theorem QW.bx (h:QW w0 S b t p s Ls rest st md pg q w) {k:Nat} {cs:Array Value} {T:TypeId} (hm:(k,Obj.cells cs T)∈Ls):∀o:Nat,w.cell? ⟨k,o,none⟩=cs[o]? :=fun o=>jd (h.ls _ hm).1
theorem QW.fz (h:QW w0 S b t p s Ls rest st md pg q w) {k:Nat} {cs:Array Value} {T:TypeId} (hm:(k,Obj.cells cs T)∈Ls):∀o:Nat,w.frozen? ⟨k,o,none⟩=false:=fun o=>jj (h.ls _ hm).1
theorem QW.c012 (h:QW w0 S b t p s Ls rest st md pg q w):w.cell? ⟨b,0,none⟩=some (.int .i64 t)/\w.cell? ⟨b,1,none⟩=some (.int .i64 p)/\w.cell? ⟨b,2,none⟩=some (.int .i64 s):=by
 obtain ⟨lv,h1,-⟩:=h.ex;exact ⟨jd h1.box,jd h1.box,jd h1.box⟩
theorem QW.c4 (h:QW w0 S b t p s Ls rest st md pg q w):w.cell? ⟨b,4,none⟩=some rest/\w.cell? ⟨b,5,none⟩=some (.int .u32 st)/\w.cell? ⟨b,6,none⟩=some (.int .u32 md)/\w.cell? ⟨b,7,none⟩=some (.int .i64 pg):=by
 obtain ⟨lv,h1,-⟩:=h.ex;exact ⟨jd h1.box,jd h1.box,jd h1.box,jd h1.box⟩
theorem QW.fzb (h:QW w0 S b t p s Ls rest st md pg q w):∀o:Nat,w.frozen? ⟨b,o,none⟩=false:=by
 obtain ⟨lv,h1,-⟩:=h.ex;exact fun o=>jj h1.box
theorem QW.turn (h:QW w0 S b t p s Ls rest st md pg q w) {rest':Value} {st' md' pg':Int} (i:Nat) (u:Value) (hi:∀lv,(yi t p s lv rest st md pg).setIfInBounds i u=yi t p s lv rest' st' md' pg'):QW w0 S b t p s Ls rest' st' md' pg' q (w.setCell ⟨b,i,none⟩ u):=by
 obtain ⟨⟨lv,h1,h2⟩,h3,h4,h5⟩:=h;refine ⟨⟨lv,⟨(jR h1.box).trans (by rw [hi]),h1.row.block (fun k hk=>jg (fun e=>h1.ne (by rw [hk,e]))),h1.ne⟩,h2⟩,fun l hl=>⟨(jg (h3 l hl).2.1).trans (h3 l hl).1,(h3 l hl).2⟩,h4,h5.setCell ⟨b,i,none⟩ u (Or.inl h4)⟩
theorem QW.setRest (h:QW w0 S b t p s Ls rest st md pg q w) (u:Value):QW w0 S b t p s Ls u st md pg q (w.setCell ⟨b,4,none⟩ u):=h.turn 4 u (fun lv=>by simp [yi])
theorem QW.setStamp (h:QW w0 S b t p s Ls rest st md pg q w) (u:Int):QW w0 S b t p s Ls rest u md pg q (w.setCell ⟨b,5,none⟩ (.int .u32 u)):=h.turn 5 _ (fun lv=>by simp [yi])
theorem QW.setMade (h:QW w0 S b t p s Ls rest st md pg q w) (u:Int):QW w0 S b t p s Ls rest st u pg q (w.setCell ⟨b,6,none⟩ (.int .u32 u)):=h.turn 6 _ (fun lv=>by simp [yi])
theorem QW.setPage (h:QW w0 S b t p s Ls rest st md pg q w) (u:Int):QW w0 S b t p s Ls rest st md u q (w.setCell ⟨b,7,none⟩ (.int .i64 u)):=h.turn 7 _ (fun lv=>by simp [yi])
theorem QW.box (h:QW w0 S b t p s Ls rest st md pg q w) {k i:Nat} {u:Value} {cs cs':Array Value} {T:TypeId} (hm:(k,Obj.cells cs T)∈Ls) {Ls':List (Nat×Obj)} (hc:cs.setIfInBounds i u=cs')
 (hs:∀l∈Ls',(l=(k,Obj.cells cs' T))\/(l∈Ls/\l.1≠k)):QW w0 S b t p s Ls' rest st md pg q (w.setCell ⟨k,i,none⟩ u):=by
 have hkh:=(h.ls _ hm).1;refine h.grown (w':=w.setCell ⟨k,i,none⟩ u) (row:=some k) ⟨rfl,rfl,rfl,zT,fun j _ hj=>jg (L:=k) (o:=i) (fun e=>hj (congrArg some e))⟩ (fun j hj=>⟨_,hm,by simpa using hj⟩) fun l hl=> ?_;rcases hs l hl with rfl | ⟨hl,hne⟩
 ·exact .inr ⟨(jR hkh).trans (by rw [hc]),.inl ⟨_,hm,rfl⟩⟩
 ·exact .inl ⟨hl,fun e=>hne (by simpa using e.symm)⟩
end

section
variable {w0 w:World} {S:Nat->Prop} {b:Nat} {t p s:Int} {Ls:List (Nat×Obj)} {rest:Value} {st md pg:Int} {q:List Stp}
theorem jee {lv:Value} (h1:MeA w b t p s lv rest st md pg q.length (Kw t q)) (h2:∀k,lv.ownBlock=some k->(S k\/w0.heap.size<=k)/\∀l∈Ls,l.1≠k) (h3:∀l∈Ls,w.heap[l.1]? =some l.2/\l.1≠b/\(S l.1\/w0.heap.size<=l.1)) (h4:S b) (h5:Fr S w0 w)
 {w5:World} {v':Value} {C:Array Value} {T:TypeId} {news:List Value} (hown5:yj w5 99 7 v' (q.length+1) (Kw t q++news)) (hg5:(w.drew.alloc (.cells C T)).grownBy w5 lv.ownBlock)
 (hat:v'.ownBlock=lv.ownBlock\/v'.ownBlock=some (w.drew.alloc (.cells C T)).heap.size) (x:Stp) (hx:news=kT x.d t x.at_ x.v x.told):QW w0 S b t p s Ls rest st md pg (q++[x]) (w5.setCell ⟨b,3,none⟩ v'):=by
 have hsz:(w.drew.alloc (.cells C T)).heap.size=w.heap.size+1:=zT;have hbl:∀k,k < w.heap.size->lv.ownBlock≠some k->w5.heap[k]? =w.heap[k]? :=fun k hk hn=>(hg5.block k zo (fun e=>hn e.symm)).trans (heap_alloc_old _ _ hk);have hb:=(Array.getElem?_eq_some_iff.1 h1.box).1;have hll:∀l∈Ls,l.1 < w.heap.size:=fun l hl=>(Array.getElem?_eq_some_iff.1 (h3 l hl).1).1;have hnb:v'.ownBlock≠some b:=by
  rcases hat with e | e <;> rw [e]
  ·exact h1.ne
  ·rw [hsz];simp;omega
 have hF:Fr S w0 w5:=(h5.drew.alloc (.cells C T)).grown hg5 (fun k hk=>(h2 k hk).1);subst hx;refine ⟨⟨v',⟨(jR ((hbl b hb h1.ne).trans h1.box)).trans (by simp [yi]),?_,hnb⟩,fun k hk=> ?_⟩,fun l hl=>⟨(jg (h3 l hl).2.1).trans ((hbl _ (hll l hl) (fun e=>(h2 _ e).2 l hl rfl)).trans (h3 l hl).1),(h3 l hl).2⟩,h4,hF.setCell ⟨b,3,none⟩ v' (Or.inl h4)⟩
 ·rw [Qj,List.length_append];exact hown5.block fun k hk=>jg (fun e=>hnb (by rw [hk,e]))
 ·rcases hat with e | e
  ·exact h2 k (e ▸ hk)
  ·rw [e,hsz] at hk;cases hk;refine ⟨Or.inr (by have:=h5.size;omega),fun l hl=>by have:=hll l hl;omega⟩
theorem JQ (h:QW w0 S b t p s Ls rest st md pg q w) (hn:q.length<=1000000) (at':Int) (F:FuncId) (rc cp:Array Value) :
 Calls prog 38 #[.pointer (some ⟨b,0,none⟩),.int .i64 at',.func (.func F) rc cp] w fun e w'=>e= .returned (.tuple #[])/\QW w0 S b t p s Ls rest st md pg (q++[⟨1,at',0,.func (.func F) rc cp⟩]) w':=by
 obtain ⟨⟨lv,h1,h2⟩,h3,h4,h5⟩:=h;have HQ:=zh (fun (w5:World) (v':Value) (C:Array Value) (T:TypeId) (news:List Value)=>jee (w5:=w5) (v':=v') (C:=C) (T:=T) (news:=news) h1 h2 h3 h4 h5);obtain ⟨hb,hrow,hne⟩:=h1;obtain ⟨i0,hi0,hi1,hi2,hi3⟩:=info_parts V1;have HI:=zh (And.intro hi0 (And.intro hi1 (And.intro hi2 hi3)));obtain ⟨pa,pc,rfl⟩:=hrow.shape;have hc:∀o:Nat,w.cell? ⟨b,o,none⟩=(yi t p s (.slice pa q.length pc) rest st md pg)[o]? :=fun o=>jd hb;have hblt:b < w.heap.size:=(Array.getElem?_eq_some_iff.1 hb).1;have HR:=zh hrow;have HB:=zh hb;unfold yi at hc;clear hi0 hi1 hi2 hi3 hrow hb h2 h3 h4 h5;generalize hql:q.length=n at*
 have HL:=zh hql;clear hql;go_enter func38,ntmps38;go_wp2_with fail;have q0:=hc 0;have q3:=hc 3;simp at q0 q3;refine wH (S:=fun w'=>True) (trivial) fun hHeld=> ?_;refine wT 0 ?_;refine wY ?_;refine wpAnyH_ready (rs:=[4,6]) zk zT ?_;refine AllReadyH.cons (o:=_) rfl (fun K hK=> ?_) (AllReadyH.cons (o:=_) rfl (fun K hK=> ?_) AllReadyH.nil);go_simp;refine wK hK (trivial) fun hHeld=> ?_;clear hK K;refine wR 6 fun K hK=> ?_;go_simp;refine zM (qR b t _ (by simpa using q0)) ?_;rintro w1 rfl;refine wK hK (trivial) fun hHeld=> ?_;clear hK K;refine wY ?_;refine wR 11 fun K hK=> ?_;go_simp;refine wK hK (trivial) fun hHeld=> ?_;clear hK K;refine wR 12 fun K hK=> ?_;refine qm rfl (.tmp 10) (.tmp 17) rfl 99 i0 (.agg #[.int .i64 0,.int .i64 0,.int .i64 0,.int .i64 0,.int .u64 0,.int .u64 0,.nilFunc]) 7 56 underlying93 HI.out.1 HI.out.2.1 HI.out.2.2.1 HI.out.2.2.2 rfl zd (.slice pa n pc) n (Kw t q) rfl (HR.out.block (w':=w.drew.alloc (.cells (kT 1 t at' 0 (.func (.func F) rc cp)).toArray 99)) (fun k hk=>heap_alloc_old _ _ (HR.out.lt k hk))) ⟨w.heap.size,0,none⟩ 1 1 (kT 1 t at' 0 (.func (.func F) rc cp)) rfl rfl (ky w.drew _ _ _ rfl) ?c1 zo ?c2 ?c3 ?_;case c1=>(intro u hu;simp [kT] at hu;rcases hu with rfl | rfl | rfl | rfl | rfl | rfl | rfl <;> rfl)
 case c2=>(unfold maxLen;omega)
 case c3=>(omega)
 intro v' w5 hown5 hg5 hat5;have hF5:=HQ.out _ _ _ _ _ hown5 hg5 hat5 ⟨1,at',0,.func (.func F) rc cp⟩ rfl;have HF5:=zh hF5;obtain ⟨a5,c5,rfl⟩:=hown5.shape;have hb5:=hg5.block b (by simp;omega) (fun e=>hne e.symm);have hbx5:=hb5.trans ((Below.heap_alloc w.drew (.cells (kT 1 t at' 0 (.func (.func F) rc cp)).toArray 99) _ hblt).trans HB.out);have c53:=jd (o:=3) hbx5;have f5:=jj (o:=3) hbx5;simp [yi] at c53;clear hF5 hown5 hg5 hat5 hb5 hbx5;refine wK hK (trivial) fun hHeld=> ?_;clear hK K;refine wT 13 ?_;refine wY ?_;refine wR 15 fun K hK=> ?_;go_simp;refine wK hK (trivial) fun hHeld=> ?_;clear hK K;refine wD ?_;rotate_left;go_simp;refine zM (qR b t _ (by simpa using q0)) ?_;rintro w1 rfl;refine wK hK (trivial) fun hHeld=> ?_;clear hK K;refine wT 8 ?_;refine wY ?_;refine wpAnyH_ready (rs:=[4,11]) zk zT ?_;refine AllReadyH.cons (o:=_) rfl (fun K hK=> ?_) (AllReadyH.cons (o:=_) rfl (fun K hK=> ?_) AllReadyH.nil);go_simp;refine wK hK (trivial) fun hHeld=> ?_;clear hK K;refine wR 11 fun K hK=> ?_;go_simp;refine wK hK (trivial) fun hHeld=> ?_;clear hK K;refine wR 12 fun K hK=> ?_;refine qm rfl (.tmp 10) (.tmp 17) rfl 99 i0 (.agg #[.int .i64 0,.int .i64 0,.int .i64 0,.int .i64 0,.int .u64 0,.int .u64 0,.nilFunc]) 7 56 underlying93 HI.out.1 HI.out.2.1 HI.out.2.2.1 HI.out.2.2.2 rfl zd (.slice pa n pc) n (Kw t q) rfl (HR.out.block (w':=w.drew.alloc (.cells (kT 1 t at' 0 (.func (.func F) rc cp)).toArray 99)) (fun k hk=>heap_alloc_old _ _ (HR.out.lt k hk))) ⟨w.heap.size,0,none⟩ 1 1 (kT 1 t at' 0 (.func (.func F) rc cp)) rfl rfl (ky w.drew _ _ _ rfl) ?c1 zo ?c2 ?c3 ?_;case c1=>(intro u hu;simp [kT] at hu;rcases hu with rfl | rfl | rfl | rfl | rfl | rfl | rfl <;> rfl)
 case c2=>(unfold maxLen;omega)
 case c3=>(omega)
 intro v' w5 hown5 hg5 hat5;have hF5:=HQ.out _ _ _ _ _ hown5 hg5 hat5 ⟨1,at',0,.func (.func F) rc cp⟩ rfl;have HF5:=zh hF5;obtain ⟨a5,c5,rfl⟩:=hown5.shape;have hb5:=hg5.block b (by simp;omega) (fun e=>hne e.symm);have hbx5:=hb5.trans ((Below.heap_alloc w.drew (.cells (kT 1 t at' 0 (.func (.func F) rc cp)).toArray 99) _ hblt).trans HB.out);have c53:=jd (o:=3) hbx5;have f5:=jj (o:=3) hbx5;simp [yi] at c53;clear hF5 hown5 hg5 hat5 hb5 hbx5;refine wK hK (trivial) fun hHeld=> ?_;clear hK K;refine wT 13 ?_;refine wY ?_;refine wR 15 fun K hK=> ?_;go_simp;refine wK hK (trivial) fun hHeld=> ?_;clear hK K;refine wD ?_;rotate_left;go_simp;refine wK hK (trivial) fun hHeld=> ?_;clear hK K;refine wR 4 fun K hK=> ?_;go_simp;refine wK hK (trivial) fun hHeld=> ?_;clear hK K;refine wR 12 fun K hK=> ?_;refine qm rfl (.tmp 10) (.tmp 17) rfl 99 i0 (.agg #[.int .i64 0,.int .i64 0,.int .i64 0,.int .i64 0,.int .u64 0,.int .u64 0,.nilFunc]) 7 56 underlying93 HI.out.1 HI.out.2.1 HI.out.2.2.1 HI.out.2.2.2 rfl zd (.slice pa n pc) n (Kw t q) rfl (HR.out.block (w':=w.drew.alloc (.cells (kT 1 t at' 0 (.func (.func F) rc cp)).toArray 99)) (fun k hk=>heap_alloc_old _ _ (HR.out.lt k hk))) ⟨w.heap.size,0,none⟩ 1 1 (kT 1 t at' 0 (.func (.func F) rc cp)) rfl rfl (ky w.drew _ _ _ rfl) ?c1 zo ?c2 ?c3 ?_;case c1=>(intro u hu;simp [kT] at hu;rcases hu with rfl | rfl | rfl | rfl | rfl | rfl | rfl <;> rfl)
 case c2=>(unfold maxLen;omega)
 case c3=>(omega)
 intro v' w5 hown5 hg5 hat5;have hF5:=HQ.out _ _ _ _ _ hown5 hg5 hat5 ⟨1,at',0,.func (.func F) rc cp⟩ rfl;have HF5:=zh hF5;obtain ⟨a5,c5,rfl⟩:=hown5.shape;have hb5:=hg5.block b (by simp;omega) (fun e=>hne e.symm);have hbx5:=hb5.trans ((Below.heap_alloc w.drew (.cells (kT 1 t at' 0 (.func (.func F) rc cp)).toArray 99) _ hblt).trans HB.out);have c53:=jd (o:=3) hbx5;have f5:=jj (o:=3) hbx5;simp [yi] at c53;clear hF5 hown5 hg5 hat5 hb5 hbx5;refine wK hK (trivial) fun hHeld=> ?_;clear hK K;refine wT 13 ?_;refine wY ?_;refine wR 15 fun K hK=> ?_;go_simp;refine wK hK (trivial) fun hHeld=> ?_;clear hK K;refine wD ?_;all_goals
  go_end0;exact ⟨rfl,HF5.out⟩
theorem jbb (h:QW w0 S b t p s Ls rest st md pg q w) (hn:q.length<=1000000) (kd at' u:Int) :
 Calls prog 226 #[.pointer (some ⟨b,0,none⟩),.int .i64 kd,.int .i64 at',.int .u64 u] w fun e w'=>e= .returned (.tuple #[])/\QW w0 S b t p s Ls rest st md pg (q++[⟨kd,at',u,.nilFunc⟩]) w':=by
 obtain ⟨⟨lv,h1,h2⟩,h3,h4,h5⟩:=h;have HQ:=zh (fun (w5:World) (v':Value) (C:Array Value) (T:TypeId) (news:List Value)=>jee (w5:=w5) (v':=v') (C:=C) (T:=T) (news:=news) h1 h2 h3 h4 h5);obtain ⟨hb,hrow,hne⟩:=h1;obtain ⟨i0,hi0,hi1,hi2,hi3⟩:=info_parts V1;have HI:=zh (And.intro hi0 (And.intro hi1 (And.intro hi2 hi3)));obtain ⟨pa,pc,rfl⟩:=hrow.shape;have hc:∀o:Nat,w.cell? ⟨b,o,none⟩=(yi t p s (.slice pa q.length pc) rest st md pg)[o]? :=fun o=>jd hb;have hblt:b < w.heap.size:=(Array.getElem?_eq_some_iff.1 hb).1;have HR:=zh hrow;have HB:=zh hb;unfold yi at hc;clear hi0 hi1 hi2 hi3 hrow hb h2 h3 h4 h5;generalize hql:q.length=n at*
 have HL:=zh hql;clear hql;go_enter func226,ntmps226;go_wp2_with fail;have q0:=hc 0;have q3:=hc 3;simp at q0 q3;refine wH (S:=fun w'=>True) (trivial) fun hHeld=> ?_;refine wT 0 ?_;refine wY ?_;refine wpAnyH_ready (rs:=[4,7]) zk zT ?_;refine AllReadyH.cons (o:=_) rfl (fun K hK=> ?_) (AllReadyH.cons (o:=_) rfl (fun K hK=> ?_) AllReadyH.nil);go_simp;refine wK hK (trivial) fun hHeld=> ?_;clear hK K;refine wR 7 fun K hK=> ?_;go_simp;refine zM (qR b t _ (by simpa using q0)) ?_;rintro w1 rfl;refine wK hK (trivial) fun hHeld=> ?_;clear hK K;refine wY ?_;refine wR 12 fun K hK=> ?_;go_simp;refine wK hK (trivial) fun hHeld=> ?_;clear hK K;refine wR 13 fun K hK=> ?_;refine qm rfl (.tmp 12) (.tmp 20) rfl 99 i0 (.agg #[.int .i64 0,.int .i64 0,.int .i64 0,.int .i64 0,.int .u64 0,.int .u64 0,.nilFunc]) 7 56 underlying93 HI.out.1 HI.out.2.1 HI.out.2.2.1 HI.out.2.2.2 rfl zd (.slice pa n pc) n (Kw t q) rfl (HR.out.block (w':=w.drew.alloc (.cells (kT kd t at' u .nilFunc).toArray 99)) (fun k hk=>heap_alloc_old _ _ (HR.out.lt k hk))) ⟨w.heap.size,0,none⟩ 1 1 (kT kd t at' u .nilFunc) rfl rfl (ky w.drew _ _ _ rfl) ?c1 zo ?c2 ?c3 ?_;case c1=>(intro u hu;simp [kT] at hu;rcases hu with rfl | rfl | rfl | rfl | rfl | rfl | rfl <;> rfl)
 case c2=>(unfold maxLen;omega)
 case c3=>(omega)
 intro v' w5 hown5 hg5 hat5;have hF5:=HQ.out _ _ _ _ _ hown5 hg5 hat5 ⟨kd,at',u,.nilFunc⟩ rfl;have HF5:=zh hF5;obtain ⟨a5,c5,rfl⟩:=hown5.shape;have hb5:=hg5.block b (by simp;omega) (fun e=>hne e.symm);have hbx5:=hb5.trans ((Below.heap_alloc w.drew (.cells (kT kd t at' u .nilFunc).toArray 99) _ hblt).trans HB.out);have c53:=jd (o:=3) hbx5;have f5:=jj (o:=3) hbx5;simp [yi] at c53;clear hF5 hown5 hg5 hat5 hb5 hbx5;refine wK hK (trivial) fun hHeld=> ?_;clear hK K;refine wT 14 ?_;refine wY ?_;refine wR 16 fun K hK=> ?_;go_simp;refine wK hK (trivial) fun hHeld=> ?_;clear hK K;refine wD ?_;rotate_left;go_simp;refine zM (qR b t _ (by simpa using q0)) ?_;rintro w1 rfl;refine wK hK (trivial) fun hHeld=> ?_;clear hK K;refine wT 10 ?_;refine wY ?_;refine wpAnyH_ready (rs:=[4,12]) zk zT ?_;refine AllReadyH.cons (o:=_) rfl (fun K hK=> ?_) (AllReadyH.cons (o:=_) rfl (fun K hK=> ?_) AllReadyH.nil);go_simp;refine wK hK (trivial) fun hHeld=> ?_;clear hK K;refine wR 12 fun K hK=> ?_;go_simp;refine wK hK (trivial) fun hHeld=> ?_;clear hK K;refine wR 13 fun K hK=> ?_;refine qm rfl (.tmp 12) (.tmp 20) rfl 99 i0 (.agg #[.int .i64 0,.int .i64 0,.int .i64 0,.int .i64 0,.int .u64 0,.int .u64 0,.nilFunc]) 7 56 underlying93 HI.out.1 HI.out.2.1 HI.out.2.2.1 HI.out.2.2.2 rfl zd (.slice pa n pc) n (Kw t q) rfl (HR.out.block (w':=w.drew.alloc (.cells (kT kd t at' u .nilFunc).toArray 99)) (fun k hk=>heap_alloc_old _ _ (HR.out.lt k hk))) ⟨w.heap.size,0,none⟩ 1 1 (kT kd t at' u .nilFunc) rfl rfl (ky w.drew _ _ _ rfl) ?c1 zo ?c2 ?c3 ?_;case c1=>(intro u hu;simp [kT] at hu;rcases hu with rfl | rfl | rfl | rfl | rfl | rfl | rfl <;> rfl)
 case c2=>(unfold maxLen;omega)
 case c3=>(omega)
 intro v' w5 hown5 hg5 hat5;have hF5:=HQ.out _ _ _ _ _ hown5 hg5 hat5 ⟨kd,at',u,.nilFunc⟩ rfl;have HF5:=zh hF5;obtain ⟨a5,c5,rfl⟩:=hown5.shape;have hb5:=hg5.block b (by simp;omega) (fun e=>hne e.symm);have hbx5:=hb5.trans ((Below.heap_alloc w.drew (.cells (kT kd t at' u .nilFunc).toArray 99) _ hblt).trans HB.out);have c53:=jd (o:=3) hbx5;have f5:=jj (o:=3) hbx5;simp [yi] at c53;clear hF5 hown5 hg5 hat5 hb5 hbx5;refine wK hK (trivial) fun hHeld=> ?_;clear hK K;refine wT 14 ?_;refine wY ?_;refine wR 16 fun K hK=> ?_;go_simp;refine wK hK (trivial) fun hHeld=> ?_;clear hK K;refine wD ?_;rotate_left;go_simp;refine wK hK (trivial) fun hHeld=> ?_;clear hK K;refine wR 4 fun K hK=> ?_;go_simp;refine wK hK (trivial) fun hHeld=> ?_;clear hK K;refine wR 13 fun K hK=> ?_;refine qm rfl (.tmp 12) (.tmp 20) rfl 99 i0 (.agg #[.int .i64 0,.int .i64 0,.int .i64 0,.int .i64 0,.int .u64 0,.int .u64 0,.nilFunc]) 7 56 underlying93 HI.out.1 HI.out.2.1 HI.out.2.2.1 HI.out.2.2.2 rfl zd (.slice pa n pc) n (Kw t q) rfl (HR.out.block (w':=w.drew.alloc (.cells (kT kd t at' u .nilFunc).toArray 99)) (fun k hk=>heap_alloc_old _ _ (HR.out.lt k hk))) ⟨w.heap.size,0,none⟩ 1 1 (kT kd t at' u .nilFunc) rfl rfl (ky w.drew _ _ _ rfl) ?c1 zo ?c2 ?c3 ?_;case c1=>(intro u hu;simp [kT] at hu;rcases hu with rfl | rfl | rfl | rfl | rfl | rfl | rfl <;> rfl)
 case c2=>(unfold maxLen;omega)
 case c3=>(omega)
 intro v' w5 hown5 hg5 hat5;have hF5:=HQ.out _ _ _ _ _ hown5 hg5 hat5 ⟨kd,at',u,.nilFunc⟩ rfl;have HF5:=zh hF5;obtain ⟨a5,c5,rfl⟩:=hown5.shape;have hb5:=hg5.block b (by simp;omega) (fun e=>hne e.symm);have hbx5:=hb5.trans ((Below.heap_alloc w.drew (.cells (kT kd t at' u .nilFunc).toArray 99) _ hblt).trans HB.out);have c53:=jd (o:=3) hbx5;have f5:=jj (o:=3) hbx5;simp [yi] at c53;clear hF5 hown5 hg5 hat5 hb5 hbx5;refine wK hK (trivial) fun hHeld=> ?_;clear hK K;refine wT 14 ?_;refine wY ?_;refine wR 16 fun K hK=> ?_;go_simp;refine wK hK (trivial) fun hHeld=> ?_;clear hK K;refine wD ?_;all_goals
  go_end0;exact ⟨rfl,HF5.out⟩
theorem Jk (h:QW w0 S b t p s Ls rest st md pg q w) (hn:q.length<=1000000) (at' u:Int) :
 Calls prog 191 #[.pointer (some ⟨b,0,none⟩),.int .i64 at',.int .u64 u] w fun e w'=>e= .returned (.tuple #[])/\QW w0 S b t p s Ls rest st md pg (q++[⟨2,at',u,.nilFunc⟩]) w':=by
 have H:=zh (fun (W:World) (g:QW w0 S b t p s Ls rest st md pg q W)=>jbb g hn 2 at' u);have HQ:=zh h;clear h;go_enter func191,ntmps191;go_wp2_with fail;refine zM (H.out _ HQ.out) fun w1 h1=> ?_;have H1:=zh h1;clear h1;go_wp2;go_end0;exact ⟨rfl,H1.out⟩
theorem Jl (h:QW w0 S b t p s Ls rest st md pg q w) (hn:q.length<=1000000) (at':Int) :
 Calls prog 192 #[.pointer (some ⟨b,0,none⟩),.int .i64 at'] w fun e w'=>e= .returned (.tuple #[])/\QW w0 S b t p s Ls rest st md pg (q++[⟨4,at',0,.nilFunc⟩]) w':=by
 have H:=zh (fun (W:World) (g:QW w0 S b t p s Ls rest st md pg q W)=>jbb g hn 4 at' 0);have HQ:=zh h;clear h;go_enter func192,ntmps192;go_wp2_with fail;refine zM (H.out _ HQ.out) fun w1 h1=> ?_;have H1:=zh h1;clear h1;go_wp2;go_end0;exact ⟨rfl,H1.out⟩
theorem Kc (h:QW w0 S b t p s Ls rest st md pg q w) (hn:q.length<=1000000) :
 Calls prog 195 #[.pointer (some ⟨b,0,none⟩)] w fun e w'=>e= .returned (.tuple #[])/\QW w0 S b t p s Ls rest st md pg (q++[⟨5,0,0,.nilFunc⟩]) w':=by
 have H:=zh (fun (W:World) (g:QW w0 S b t p s Ls rest st md pg q W)=>jbb g hn 5 0 0);have HQ:=zh h;clear h;go_enter func195,ntmps195;go_wp2_with fail;refine zM (H.out _ HQ.out) fun w1 h1=> ?_;have H1:=zh h1;clear h1;go_wp2;go_end0;exact ⟨rfl,H1.out⟩
theorem KT (h:QW w0 S b t p s Ls rest st md pg q w) (F:FuncId) (rc cp:Array Value) :
 Calls prog 150 #[.pointer (some ⟨b,0,none⟩),.func (.func F) rc cp] w fun e w'=>e= .returned (.tuple #[])/\QW w0 S b t p s Ls (.func (.func F) rc cp) st md pg q w':=by
 have c4:=h.c4.1;have f4:=h.fzb 4;have hsf:=fun m=>run_store prog w ⟨b,4,none⟩ (.func (.func F) rc cp) m rfl;have HQ:=zh (h.setRest (.func (.func F) rc cp));clear h;go_enter func150,ntmps150;go_wp2;go_end0;exact ⟨rfl,HQ.out⟩
end

theorem jbR (H L v m at' k:Nat) (hk:k<=64) (hH:H*2 ^ k+2 ^ k<=2 ^ 64) (hL:L < 2 ^ at') (hat:at'<=k) (hm:m*2 ^ at' < 2 ^ k) (hv:v*2 ^ at'+L < 2 ^ k) :
 bits BinOp.or IntKind.u64 (bits BinOp.andNot IntKind.u64 ((H*2 ^ k+L:Nat):Int) (IntKind.u64.wrap ((m*2 ^ at':Nat):Int))) (IntKind.u64.wrap ((v*2 ^ at':Nat):Int))=((H*2 ^ k+(v*2 ^ at'+L):Nat):Int):=by
 have hL2:L < 2 ^ k:=Nat.lt_of_lt_of_le hL (Nat.pow_le_pow_right zo hat);have ha64:H*2 ^ k+L < 2 ^ 64:=zo;have hc64:m*2 ^ at' < 2 ^ 64:=zo;have hv64:v*2 ^ at' < 2 ^ 64:=zo;have hwc:IntKind.u64.wrap ((m*2 ^ at':Nat):Int)=((m*2 ^ at':Nat):Int):=jO _ zo (by exact_mod_cast hc64);have hwv:IntKind.u64.wrap ((v*2 ^ at':Nat):Int)=((v*2 ^ at':Nat):Int):=jO _ zo (by exact_mod_cast hv64);have hand:(H*2 ^ k+L) &&& (m*2 ^ at')=0:=by
  apply Nat.eq_of_testBit_eq;intro i;rw [Nat.testBit_and,Nat.zero_testBit];by_cases h1:i < at'
  ·rw [Nat.mul_comm m,Nat.testBit_two_pow_mul];simp;intro _;omega
  ·by_cases h2:i < k
   ·rw [Nat.mul_comm H,Nat.testBit_two_pow_mul_add _ hL2,if_pos h2,Nat.testBit_lt_two_pow (Nat.lt_of_lt_of_le hL (Nat.pow_le_pow_right zo zo))];simp
   ·rw [Nat.testBit_lt_two_pow (x:=m*2 ^ at') (Nat.lt_of_lt_of_le hm (Nat.pow_le_pow_right zo zo))];simp
 generalize hc:m*2 ^ at'=c at*
 generalize ha:H*2 ^ k+L=a at*
 have hnot:bits BinOp.andNot IntKind.u64 (a:Int) (c:Int)=a:=by
  have h1:BitVec.ofInt 64 (a:Int)=BitVec.ofNat 64 a:=BitVec.ofInt_natCast ..;have h2:BitVec.ofInt 64 (c:Int)=BitVec.ofNat 64 c:=BitVec.ofInt_natCast ..;have h3:BitVec.ofNat 64 a &&& ~~~ BitVec.ofNat 64 c=BitVec.ofNat 64 a:=by
   apply BitVec.eq_of_getLsbD_eq;intro i hi;have:=congrArg (fun z=>Nat.testBit z i) hand;simp only [Nat.testBit_and,Nat.zero_testBit] at this;simp only [BitVec.getLsbD_and,BitVec.getLsbD_not,BitVec.getLsbD_ofNat];cases h5:a.testBit i <;> cases h6:c.testBit i <;> simp_all
  show IntKind.u64.wrap ((BitVec.ofInt 64 (a:Int) &&& ~~~ BitVec.ofInt 64 (c:Int)).toNat:Int)=_;rw [h1,h2,h3,BitVec.toNat_ofNat,Nat.mod_eq_of_lt ha64];exact jO _ zo (by exact_mod_cast ha64)
 rw [hwc,hwv,hnot,(bits_nat .u64 64 zd jO a _ ha64 hv64).2];congr 1;rw [<-ha,Nat.mul_comm H,Nat.two_pow_add_eq_or_of_lt hL2,Nat.or_assoc,Nat.or_comm L,Nat.mul_comm v,<-Nat.two_pow_add_eq_or_of_lt hL,<-Nat.two_pow_add_eq_or_of_lt (by rw [Nat.mul_comm];exact hv)]
theorem jb8 (w:World):Calls prog 214 #[.int .i64 16] w (zW (.int .u64 65535) w):=by
 go_enter func214,ntmps214;go_wp2;go_ret;exact ⟨rfl,Below.refl _ _⟩
theorem jfg (st n:Nat) (w:World) (hs:st < 4294967296) (hn:n<=96):Calls prog 227 #[.int .u64 ((st*4294967296:Nat):Int),.int .i64 0,.int .i64 16,.int .u64 n] w (zW (.tuple #[.int .u64 ((st*4294967296+n:Nat):Int),.bool true]) w):=by
 have hp:=jbR st 0 n 65535 0 32 zo zo zo zo zo zo;simp only [Nat.pow_zero,Nat.mul_one,Nat.add_zero] at hp;rw [show (2:Nat) ^ 32=4294967296 by decide] at hp;have HP:=zh hp;clear hp;generalize st*4294967296=a at*
 generalize hr:((a+n:Nat):Int)=r at*
 have HR:=zh hr;clear hr;go_enter func227,ntmps227;go_wp2_with fail;refine zM (k9 _ _ _ zo zo zo zo) fun w1 b1=> ?_;go_wp2_with fail;refine zM (jb8 _) fun w2 b2=> ?_;go_wp2_with fail;refine jdE fun hHeld=> ?_;refine wT 0 ?_;refine wY ?_;refine wC 2 (jb8 _) fun wz hHeld=> ?_;refine wY ?_;refine wD ?_;have bel:=hHeld.bel;clear hHeld;go_wp2;refine bodyPost_ret (v:= .tuple #[.int .u64 r,.bool true]) ?_ rfl ⟨rfl,b1.trans ((b2.trans (bel.mono b2.size)).mono b1.size)⟩;simp [results,results227,go_sem];have:=HP.out;simp at this;exact this
theorem jdg (a r:Int) (o:Nat) (w:World) (ho:o<=1) (hp:bits BinOp.or IntKind.u64 (bits BinOp.andNot IntKind.u64 a (IntKind.u64.wrap 2147483648)) (IntKind.u64.wrap ((o*2147483648:Nat):Int))=r) :
 Calls prog 227 #[.int .u64 a,.int .i64 31,.int .i64 1,.int .u64 o] w (zW (.tuple #[.int .u64 r,.bool true]) w):=by
 have HP:=zh hp;clear hp;go_enter func227,ntmps227;go_wp2_with fail;refine zM (k9 _ _ _ zo zo zo zo) fun w1 b1=> ?_;go_wp2_with fail;refine zM (jfj _) fun w2 b2=> ?_;go_wp2_with fail;refine jdE fun hHeld=> ?_;refine wT 0 ?_;refine wY ?_;refine wC 2 (jfj _) fun wz hHeld=> ?_;refine wY ?_;refine wD ?_;have bel:=hHeld.bel;clear hHeld;go_wp2;refine bodyPost_ret (v:= .tuple #[.int .u64 r,.bool true]) ?_ rfl ⟨rfl,b1.trans ((b2.trans (bel.mono b2.size)).mono b1.size)⟩;simp [results,results227,go_sem];have:=HP.out;simp at this;exact this
theorem jff (st n o:Nat) (w:World) (hs:st < 4294967296) (hn:n<=96) (ho:o<=1):Calls prog 227 #[.int .u64 ((st*4294967296+n:Nat):Int),.int .i64 31,.int .i64 1,.int .u64 o] w (zW (.tuple #[.int .u64 ((st*4294967296+(o*2147483648+n):Nat):Int),.bool true]) w):=by
 have hp:=jbR st n o 1 31 32 zo zo zo zo zo zo;rw [show (2:Nat) ^ 32=4294967296 by decide,show (2:Nat) ^ 31=2147483648 by decide] at hp;exact jdg _ _ o w ho hp
theorem mbit_any (o:Bool) (w:World):Calls prog 228 #[.bool o] w (zW (.int .u64 (((if o=true then 1 else 0:Nat)):Int)) w):=by
 cases o
 ·go_enter func228,ntmps228;go_wp2;go_ret;exact ⟨rfl,Below.refl _ _⟩
 ·go_enter func228,ntmps228;go_wp2;go_ret;exact ⟨rfl,Below.refl _ _⟩
theorem jc5 (st n:Int) (o:Bool) (z:Nat) (x1 x2 r:Int) (w:World) (h1:0<=n) (h2:n<=96)
 (HJ:∀w,Calls prog 225 #[.int .u32 st,.int .u32 0] w (zW (.int .u64 x1) w))
 (HP:∀w,Calls prog 227 #[.int .u64 x1,.int .i64 0,.int .i64 16,.int .u64 n] w (zW (.tuple #[.int .u64 x2,.bool true]) w))
 (HB:∀w,Calls prog 228 #[.bool o] w (zW (.int .u64 z) w))
 (HO:∀w,Calls prog 227 #[.int .u64 x2,.int .i64 31,.int .i64 1,.int .u64 z] w (zW (.tuple #[.int .u64 r,.bool true]) w)) :
 Calls prog 193 #[.agg #[.int .u32 st,.bool o,.int .i64 n]] w (zW (.tuple #[.int .u64 r,.bool true]) w):=by
 have HJ:=zh HJ;have HP:=zh HP;have HB:=zh HB;have HO:=zh HO;have hwk:IntKind.u64.wrap n=n:=jO _ zo zo;go_enter func193,ntmps193;go_wp2_with fail;refine zM (HJ.out _) fun w1 b1=> ?_;obtain ⟨b1c,b1f⟩:=jB b1;have b1z0:w.heap.size < w1.heap.size:=zL b1;go_wp2_with fail;refine zM (HP.out _) fun w2 b2=> ?_;obtain ⟨b2c,b2f⟩:=jB b2;have b2z0:w.heap.size < w2.heap.size:=zL b2;go_wp2_with fail;refine zM (HB.out _) fun w3 b3=> ?_;obtain ⟨b3c,b3f⟩:=jB b3;have b3z0:w.heap.size < w3.heap.size:=zL b3;go_wp2_with fail;refine zM (HO.out _) fun w4 b4=> ?_;obtain ⟨b4c,b4f⟩:=jB b4;have b4z0:w.heap.size < w4.heap.size:=zL b4;go_wp2;refine bodyPost_ret (v:= .tuple #[.int .u64 r,.bool true]) (by simp [results,results193,go_sem]) rfl ⟨rfl,?_⟩;exact zR
theorem jad (st n:Int) (o:Bool) (w:World) (h:0<=st/\st < 4294967296) (h1:0<=n) (h2:n<=96):Calls prog 193 #[.agg #[.int .u32 st,.bool o,.int .i64 n]] w (zW (.tuple #[.int .u64 (j9 st n o),.bool true]) w):=by
 obtain ⟨a,rfl⟩:=Int.eq_ofNat_of_zero_le h.1;obtain ⟨k,rfl⟩:=Int.eq_ofNat_of_zero_le h1;have ha:a < 4294967296:=zo;have hk:k<=96:=zo;refine jc5 a k o (if o=true then 1 else 0) ((a*4294967296:Nat):Int) ((a*4294967296+k:Nat):Int) (j9 a k o) w h1 h2 (fun w=> ?_) (fun w=>jfg a k w ha hk) (mbit_any o) (fun w=> ?_)
 ·have:=K3 (a:Int) 0 w h zo;rwa [show jH (a:Int) 0=((a*4294967296:Nat):Int) by unfold jH;omega] at this
 ·have:=jff a k (if o=true then 1 else 0) w ha hk (by split <;> omega);rwa [show ((a*4294967296+((if o=true then 1 else 0)*2147483648+k):Nat):Int)=j9 a k o by unfold j9 jH;cases o <;> simp <;> omega] at this
theorem jeL (st u:Int) (w:World) (h:0<=st/\st < 4294967296) (h1:0<=u) (h2:u<=16):Calls prog 194 #[.int .u32 st,.int .i64 u] w (zW (.tuple #[.int .u64 (jH st u),.bool true]) w):=by
 have HM:=zh (fun w=>Vp u w h1);rw [show decide (u<=16)=true by simpa using h2] at HM;have HJ:=zh (fun w=>K3 st u w h zo);generalize jH st u=r at*
 have hw:IntKind.u32.wrap u=u:=IntWalk.u32_in _ zo;clear h h1 h2;go_enter func194,ntmps194;go_wp2_with fail;refine zM (HM.out _) fun w1 b1=> ?_;go_wp2_with fail;refine zM (HJ.out _) fun w2 b2=> ?_;go_wp2;exact bodyPost_ret (v:= .tuple #[.int .u64 r,.bool true]) (by simp [results,results194,go_sem]) rfl ⟨rfl,b1.trans (b2.mono b1.size)⟩
theorem jbl (c v:Int) (w:World) (h0:0<=c) (h1:c<=65535) (h2:0<=v/\v < 4294967296):Calls prog 190 #[.agg #[.int .i64 c,.int .u32 v]] w (zW (.tuple #[.int .u64 (jH c v),.bool true]) w):=by
 have HJ:=zh (fun w=>K3 c v w zo h2);generalize jH c v=r at*
 have hw:IntKind.u32.wrap c=c:=IntWalk.u32_in _ zo;clear h2;go_enter func190,ntmps190;go_wp2_with fail;refine zM (HJ.out _) fun w2 b2=> ?_;go_wp2;refine bodyPost_ret (v:= .tuple #[.int .u64 r,.bool true]) (by simp [results,results190,go_sem]) rfl ⟨rfl,?_⟩;exact zR

def oX (b:Nat):Obj:= .cells #[.pointer (some ⟨b,0,none⟩)] 33
def oN (v:Int):Obj:= .cells #[.int .i64 v] 3
def oW (v:Int):Obj:= .cells #[.int .u64 v] 38
def oH (v:Int):Obj:= .cells #[.int .u32 v] 44
def oL (v:Value):Obj:= .cells #[v] 45
def oF (v:Value):Obj:= .cells #[v] 1
def pB (k:Nat):Value:= .pointer (some ⟨k,0,none⟩)
section
variable {w0 w:World} {S:Nat->Prop} {b:Nat} {t p s:Int} {Ls:List (Nat×Obj)} {rest:Value} {st md pg:Int} {q:List Stp}
theorem QW.b1 (h:QW w0 S b t p s Ls rest st md pg q w) {k:Nat} {v:Value} {T:TypeId} (hm:(k,Obj.cells #[v] T)∈Ls):w.cell? ⟨k,0,none⟩=some v/\w.frozen? ⟨k,0,none⟩=false/\k < w.heap.size/\k≠b:=
 ⟨jd (h.ls _ hm).1,jj (h.ls _ hm).1,h.llt _ hm,(h.ls _ hm).2.1⟩
theorem QW.gX (h:QW w0 S b t p s Ls rest st md pg q w) {k:Nat} {a:Nat} (hm:(k,oX a)∈Ls):w.cell? ⟨k,0,none⟩=some (.pointer (some ⟨a,0,none⟩))/\w.frozen? ⟨k,0,none⟩=false/\k < w.heap.size/\k≠b:=h.b1 hm
theorem QW.gN (h:QW w0 S b t p s Ls rest st md pg q w) {k:Nat} {a:Int} (hm:(k,oN a)∈Ls):w.cell? ⟨k,0,none⟩=some (.int .i64 a)/\w.frozen? ⟨k,0,none⟩=false/\k < w.heap.size/\k≠b:=h.b1 hm
theorem QW.gW (h:QW w0 S b t p s Ls rest st md pg q w) {k:Nat} {a:Int} (hm:(k,oW a)∈Ls):w.cell? ⟨k,0,none⟩=some (.int .u64 a)/\w.frozen? ⟨k,0,none⟩=false/\k < w.heap.size/\k≠b:=h.b1 hm
theorem QW.gH (h:QW w0 S b t p s Ls rest st md pg q w) {k:Nat} {a:Int} (hm:(k,oH a)∈Ls):w.cell? ⟨k,0,none⟩=some (.int .u32 a)/\w.frozen? ⟨k,0,none⟩=false/\k < w.heap.size/\k≠b:=h.b1 hm
theorem QW.gL (h:QW w0 S b t p s Ls rest st md pg q w) {k:Nat} {a:Value} (hm:(k,oL a)∈Ls):w.cell? ⟨k,0,none⟩=some a/\w.frozen? ⟨k,0,none⟩=false/\k < w.heap.size/\k≠b:=h.b1 hm
theorem QW.gF (h:QW w0 S b t p s Ls rest st md pg q w) {k:Nat} {a:Value} (hm:(k,oF a)∈Ls):w.cell? ⟨k,0,none⟩=some a/\w.frozen? ⟨k,0,none⟩=false/\k < w.heap.size/\k≠b:=h.b1 hm
end
section
variable {w0 w:World} {S:Nat->Prop} {b:Nat} {t p s:Int} {Ls:List (Nat×Obj)} {rest:Value} {st md pg:Int} {q:List Stp}
theorem ja8 (h:QW w0 S b t p s Ls rest st md pg [] w) (hr:jq t p s=true) {v s0 u:Int} (hv:U64 v) (ht:KC v=some (s0,u)) (hu0:0<=u) (hu:u<=t) :
 Calls prog 39 #[.pointer (some ⟨b,0,none⟩),.int .u64 v] w fun e w'=>e= .returned (.tuple #[])/\∃kx ks ku,QW w0 S b t p s ((ku,oN u) :: (ks,oH s0) :: (kx,oX b) :: Ls) rest s0 md pg [⟨1,jo t p u,0,.func (.func 83) #[] #[pB ks,pB kx,pB ku]⟩] w':=by
 have H0:=h.alloc (oX b);have HT:=zh (fun w=>jeQ v s0 u w hv ht);have HN:=zh (fun w=>Ym hr u w hu0 hu);have HQ:=zh H0;have hb:=h.lt;clear h H0 ht hv;go_enter func39,ntmps39;go_wp2_with fail;refine zM (HT.out _) fun w1 b1=> ?_;have H1:=HQ.out.below b1;obtain ⟨cx,fx,zx,nx⟩:=H1.gX (k:=w.heap.size) (a:=b) zT;have hb1:=H1.lt;have cb:=H1.c4.2.1;have fb:=H1.fzb 5;have HH1:=zh H1;clear H1 b1 HQ;go_wp2_with fail;have hz1:(w1.setCell ⟨b,5,none⟩ (.int .u32 s0)).heap.size=w1.heap.size:=zT;have H2:=((HH1.out.setStamp s0).alloc (oH s0)).alloc (oN u);rw [World.size_alloc,hz1] at H2;refine jT ?_;intro w2 hw2;have hw2':((w1.setCell ⟨b,5,none⟩ (.int .u32 s0)).alloc (oH s0)).alloc (oN u)=w2:=hw2.symm;rw [hw2'] at H2;clear hw2 hw2' HH1 cx fx cb fb hz1;have H2:=zh H2;have s2:=(H2.out.drew.gX (k:=w.heap.size) (a:=b) zT).1;have u2:=(H2.out.drew.gN (k:=w1.heap.size+1) (a:=u) zT).1;have c2:=H2.out.drew.c012;refine wH (S:=fun w'=>w'.cell? ⟨w.heap.size,0,none⟩=some (.pointer (some ⟨b,0,none⟩))/\w'.cell? ⟨w1.heap.size+1,0,none⟩=some (.int .i64 u)/\w'.cell? ⟨b,0,none⟩=some (.int .i64 t)/\w'.cell? ⟨b,1,none⟩=some (.int .i64 p)/\w'.cell? ⟨b,2,none⟩=some (.int .i64 s)) (⟨s2,u2,c2⟩) fun hHeld=> ?_;refine wT 0 ?_;refine wY ?_;refine wR 6 fun K hK=> ?_;go_simp;refine zM (HN.out _) fun w3 b3=> ?_;have H3:=zh (H2.out.drew.below b3);refine wK hK (⟨(H3.out.gX zT).1,(H3.out.gN zT).1,H3.out.c012⟩) fun hHeld=> ?_;clear hK K;refine wR 8 fun K hK=> ?_;go_simp;refine zM (JQ H3.out zT _ _ _ _) fun w4 h4=> ?_;have H4:=zh h4;refine wK hK (⟨(H4.out.gX zT).1,(H4.out.gN zT).1,H4.out.c012⟩) fun hHeld=> ?_;clear hK K;refine wD ?_;go_end0;exact ⟨rfl,_,_,_,H4.out⟩
end

section
variable {w0 w:World} {S:Nat->Prop} {b:Nat} {t p s:Int} {Ls:List (Nat×Obj)} {rest:Value} {st md pg:Int} {q:List Stp}
def jaB (w0:World) (S:Nat->Prop) (b:Nat) (t p s:Int) (Φ:World->Prop) (W:World):Prop:=Φ W/\∃Ls rest st md pg q,QW w0 S b t p s Ls rest st md pg q W/\(q≠[]\/rest= .nilFunc)
def MoreQ (w0:World) (S:Nat->Prop) (b:Nat) (t p s:Int) (Φ:World->Prop) (W:World):Prop:=∃Ls st md pg R cp,QW w0 S b t p s Ls (.func (.func R) #[] cp) st md pg [] W/\(∀args w,(callFunc R args).run prog w= .ok (.enter R args) w)/\
 ∀W2,QW w0 S b t p s Ls .nilFunc st md pg [] W2->Calls prog R cp W2 fun e w'=>e= .returned (.tuple #[])/\jaB w0 S b t p s Φ w'
theorem QW.head {y:Stp} (h:QW w0 S b t p s Ls rest st md pg (y :: q) w):∃g off cap,w.cell? ⟨b,3,none⟩=some (.slice (some ⟨g,off,none⟩) (q.length+1) cap)/\w.cell? ⟨g,off+6,none⟩=some y.told/\w.cell? ⟨g,off,none⟩=some (.int .i64 y.d)/\w.cell? ⟨g,off+1,none⟩=some (.int .i64 t)/\w.cell? ⟨g,off+2,none⟩=some (.int .i64 y.at_)/\w.cell? ⟨g,off+3,none⟩=some (.int .i64 0)/\w.cell? ⟨g,off+4,none⟩=some (.int .u64 0)/\w.cell? ⟨g,off+5,none⟩=some (.int .u64 y.v)/\
 QW w0 S b t p s Ls rest st md pg q (w.setCell ⟨b,3,none⟩ (.slice (if cap=1 then some ⟨g,off,none⟩ else some ⟨g,off+7,none⟩) q.length (cap - 1))):=by
 obtain ⟨⟨lv,h1,h2⟩,h3,h4,h5⟩:=h;obtain ⟨g,off,cap,rfl⟩:=h1.row.form zT;have hr:=h1.row;have ex:Kw t (y :: q)=kT y.d t y.at_ y.v y.told++Kw t q:=rfl;rw [ex] at hr;have hc:=hr.cell;refine ⟨g,off,cap,?_,?_,?_,?_,?_,?_,?_,?_,?_⟩
 ·rw [jd h1.box];rfl
 ·exact hc 6 _ rfl
 ·exact hc 0 _ rfl
 ·exact hc 1 _ rfl
 ·exact hc 2 _ rfl
 ·exact hc 3 _ rfl
 ·exact hc 4 _ rfl
 ·exact hc 5 _ rfl
 ·have ht:=hr.tail rfl;have hob:∀(c:Prop) [Decidable c] (n m:Nat),(Value.slice (if c then some (⟨g,off,none⟩:Addr) else some ((⟨g,off,none⟩:Addr).add 7)) n m).ownBlock=some g:=by
   intro c _ n m;split <;> simp [Value.ownBlock,Addr.add]
  have hob0:(Value.slice (some (⟨g,off,none⟩:Addr)) (y :: q).length cap).ownBlock=some g:=rfl;have hne:g≠b:=fun e=>h1.ne (by rw [hob0,e]);have ea:(⟨g,off,none⟩:Addr).add 7=⟨g,off+7,none⟩:=rfl;rw [ea] at ht hob;refine ⟨⟨_,⟨(jR h1.box).trans (by simp [yi]),ht.block fun k hk=> ?_,?_⟩,fun k hk=> ?_⟩,fun l hl=>⟨(jg (h3 l hl).2.1).trans (h3 l hl).1,(h3 l hl).2⟩,h4,h5.setCell ⟨b,3,none⟩ _ (Or.inl h4)⟩
  ·rw [hob] at hk;cases hk;exact jg hne
  ·rw [hob];simp;exact hne
  ·rw [hob] at hk;cases hk;exact h2 g rfl
theorem nf_nil1 (w:World):(binOp .neq 97 .nilFunc .nilFunc).run prog w= .ok (.bool false) w:=by kernel_rfl
theorem jeJ (w:World):(binOp .neq 1 .nilFunc .nilFunc).run prog w= .ok (.bool false) w:=by kernel_rfl
theorem nf_fun1 (F:Fn) (rc cp:Array Value) (w:World):(binOp .neq 97 (.func F rc cp) .nilFunc).run prog w= .ok (.bool true) w:=by kernel_rfl
theorem jeK (F:Fn) (rc cp:Array Value) (w:World):(binOp .neq 1 (.func F rc cp) .nilFunc).run prog w= .ok (.bool true) w:=by kernel_rfl
def Vz (w0:World) (S:Nat->Prop) (b:Nat) (t p s:Int) (Φ:World->Prop) (W:World):Prop:=jaB w0 S b t p s Φ W\/MoreQ w0 S b t p s Φ W
def mdM (b:Nat) (W:World):Nat:=match W.cell? ⟨b,3,none⟩,W.cell? ⟨b,4,none⟩ with
 | some (.slice _ 0 _),some (.func _ _ _)=>1
 | _,_=>0
theorem QW.left (h:QW w0 S b t p s Ls rest st md pg q w):∃a c,w.cell? ⟨b,3,none⟩=some (.slice a q.length c):=by
 obtain ⟨⟨lv,h1,h2⟩,h3,h4,h5⟩:=h;obtain ⟨a,c,rfl⟩:=h1.row.shape;exact ⟨a,c,by rw [jd h1.box];rfl⟩
theorem jaB.m {Φ:World->Prop} {W:World} (h:jaB w0 S b t p s Φ W):mdM b W=0:=by
 obtain ⟨-,Ls,rest,st,md,pg,q,hq,ho⟩:=h;obtain ⟨a,c,c3⟩:=hq.left;unfold mdM;rw [c3,hq.c4.1];rcases ho with ho | rfl
 ·cases q with
  | nil=>exact absurd rfl ho
  | cons y q=>rfl
 ·split
  ·rename_i h;cases h
  ·rfl
theorem MoreQ.m {Φ:World->Prop} {W:World} (h:MoreQ w0 S b t p s Φ W):mdM b W=1:=by
 obtain ⟨Ls,st,md,pg,R,cp,hq,-,-⟩:=h;obtain ⟨a,c,c3⟩:=hq.left;unfold mdM;rw [c3,hq.c4.1];rfl
theorem kY {y:Stp} {v:Int} {ok:Bool} {Φ:World->Prop} (h:QW w0 S b t p s Ls rest st md pg (y :: q) w) (hy:y.told= .nilFunc) (hD:∀W,QW w0 S b t p s Ls rest st md pg q W->Vz w0 S b t p s Φ W) :
 Calls prog 54 #[.pointer (some ⟨b,0,none⟩),.int .u64 v,.bool ok] w fun e w'=>e= .returned (.tuple #[])/\Φ w':=by
 obtain ⟨g,off,cap,c3,c6,-,-,-,-,-,-,hq⟩:=h.head;rw [hy] at c6;have f3:=h.fzb 3;have HD:=zh (hD _ hq);have m1:=nf_nil1;have m2:=jeJ;have m3:=jeK;clear h hq hD hy;generalize q.length=n at*
 by_cases hcap:cap=1
 ·subst hcap;rw [if_pos rfl] at HD;go_enter func54,ntmps54;go_wp2_with fail;go_loopw [7] (fun _ wr=>Vz w0 S b t p s Φ wr) (fun _ wr=>mdM b wr);case atStart=>exact HD.out
  case round=>
   clear HD c3 c6 f3;rcases hrel with hd | hm
   ·obtain ⟨hΦ,Ls2,rest2,st2,md2,pg2,q2,hq2,ho⟩:=hd;obtain ⟨a2,c2,d3⟩:=hq2.left;have d4:=hq2.c4.1;have HΦ:=zh hΦ;clear hΦ hq2;rcases ho with ho | rfl
    ·have hp:0 < q2.length:=List.length_pos_iff.2 ho;clear ho;generalize q2.length=n2 at*
     go_wp2;all_goals go_end0
     all_goals exact ⟨rfl,HΦ.out⟩
    ·generalize q2.length=n2 at*
     rcases Nat.eq_zero_or_pos n2 with rfl | hp
     ·go_wp2;all_goals go_end0
      all_goals exact ⟨rfl,HΦ.out⟩
     ·go_wp2;all_goals go_end0
      all_goals exact ⟨rfl,HΦ.out⟩
   ·have hmm:=hm.m;obtain ⟨Ls2,st2,md2,pg2,R,cp2,hq2,eg,hC⟩:=hm;obtain ⟨a2,c2,d3⟩:=hq2.left;have d4:=hq2.c4.1;have g4:=hq2.fzb 4;have hsn:=fun m=>run_store prog wr ⟨b,4,none⟩ .nilFunc m rfl;have HC:=zh (hC _ (hq2.setRest .nilFunc));have HMM:=zh hmm;simp only [List.length_nil] at d3;clear hC hq2 hmm;go_wp2_with (go_at_fn R;refine (HC.out).mono ?_;rintro e w2 ⟨rfl,hd2⟩);have HD2:=zh hd2;clear hd2 HC d3 d4 g4 hsn;go_wp2;go_roundw;case rel=>first | exact Or.inl HD2.out | exact ⟨_,_,_,_,_,_,_,_,_,_,_,_,_,_,_,_,_,_,_,_,_,_,_,Or.inl HD2.out,rfl⟩
    case measure=>rw [HMM.out,HD2.out.m];omega
 ·rw [if_neg hcap] at HD;go_enter func54,ntmps54;go_wp2_with fail;go_loopw [7] (fun _ wr=>Vz w0 S b t p s Φ wr) (fun _ wr=>mdM b wr);case atStart=>exact HD.out
  case round=>
   clear HD c3 c6 f3;rcases hrel with hd | hm
   ·obtain ⟨hΦ,Ls2,rest2,st2,md2,pg2,q2,hq2,ho⟩:=hd;obtain ⟨a2,c2,d3⟩:=hq2.left;have d4:=hq2.c4.1;have HΦ:=zh hΦ;clear hΦ hq2;rcases ho with ho | rfl
    ·have hp:0 < q2.length:=List.length_pos_iff.2 ho;clear ho;generalize q2.length=n2 at*
     go_wp2;all_goals go_end0
     all_goals exact ⟨rfl,HΦ.out⟩
    ·generalize q2.length=n2 at*
     rcases Nat.eq_zero_or_pos n2 with rfl | hp
     ·go_wp2;all_goals go_end0
      all_goals exact ⟨rfl,HΦ.out⟩
     ·go_wp2;all_goals go_end0
      all_goals exact ⟨rfl,HΦ.out⟩
   ·have hmm:=hm.m;obtain ⟨Ls2,st2,md2,pg2,R,cp2,hq2,eg,hC⟩:=hm;obtain ⟨a2,c2,d3⟩:=hq2.left;have d4:=hq2.c4.1;have g4:=hq2.fzb 4;have hsn:=fun m=>run_store prog wr ⟨b,4,none⟩ .nilFunc m rfl;have HC:=zh (hC _ (hq2.setRest .nilFunc));have HMM:=zh hmm;simp only [List.length_nil] at d3;clear hC hq2 hmm;go_wp2_with (go_at_fn R;refine (HC.out).mono ?_;rintro e w2 ⟨rfl,hd2⟩);have HD2:=zh hd2;clear hd2 HC d3 d4 g4 hsn;go_wp2;go_roundw;case rel=>first | exact Or.inl HD2.out | exact ⟨_,_,_,_,_,_,_,_,_,_,_,_,_,_,_,_,_,_,_,_,_,_,_,Or.inl HD2.out,rfl⟩
    case measure=>rw [HMM.out,HD2.out.m];omega
theorem Jj {y:Stp} {v:Int} {ok:Bool} {Φ:World->Prop} {F:FuncId} {rc cp:Array Value} (h:QW w0 S b t p s Ls rest st md pg (y :: q) w) (hy:y.told= .func (.func F) rc cp) (eg:∀args w,(callFunc F args).run prog w= .ok (.enter F args) w)
 (hD:∀W,QW w0 S b t p s Ls rest st md pg q W->Calls prog F (rc++#[.int .u64 v]++cp) W fun e w'=>e= .returned (.tuple #[])/\Vz w0 S b t p s Φ w') :
 Calls prog 54 #[.pointer (some ⟨b,0,none⟩),.int .u64 v,.bool ok] w fun e w'=>e= .returned (.tuple #[])/\Φ w':=by
 obtain ⟨g,off,cap,c3,c6,-,-,-,-,-,-,hq⟩:=h.head;rw [hy] at c6;have f3:=h.fzb 3;have HD:=zh (hD _ hq);have m1:=nf_fun1;have m2:=jeJ;have m3:=jeK;clear h hq hD hy;generalize q.length=n at*
 by_cases hcap:cap=1
 ·subst hcap;rw [if_pos rfl] at HD;go_enter func54,ntmps54;go_wp2_with (go_at_fn F;refine (HD.out).mono ?_;rintro e w9 ⟨rfl,hd9⟩);have HD9:=zh hd9;clear hd9;go_loopw [7] (fun _ wr=>Vz w0 S b t p s Φ wr) (fun _ wr=>mdM b wr);case atStart=>exact HD9.out
  case round=>
   clear HD HD9 c3 c6 f3;rcases hrel with hd | hm
   ·obtain ⟨hΦ,Ls2,rest2,st2,md2,pg2,q2,hq2,ho⟩:=hd;obtain ⟨a2,c2,d3⟩:=hq2.left;have d4:=hq2.c4.1;have HΦ:=zh hΦ;clear hΦ hq2;rcases ho with ho | rfl
    ·have hp:0 < q2.length:=List.length_pos_iff.2 ho;clear ho;generalize q2.length=n2 at*
     go_wp2;all_goals go_end0
     all_goals exact ⟨rfl,HΦ.out⟩
    ·generalize q2.length=n2 at*
     rcases Nat.eq_zero_or_pos n2 with rfl | hp
     ·go_wp2;all_goals go_end0
      all_goals exact ⟨rfl,HΦ.out⟩
     ·go_wp2;all_goals go_end0
      all_goals exact ⟨rfl,HΦ.out⟩
   ·have hmm:=hm.m;obtain ⟨Ls2,st2,md2,pg2,R,cp2,hq2,eg,hC⟩:=hm;obtain ⟨a2,c2,d3⟩:=hq2.left;have d4:=hq2.c4.1;have g4:=hq2.fzb 4;have hsn:=fun m=>run_store prog wr ⟨b,4,none⟩ .nilFunc m rfl;have HC:=zh (hC _ (hq2.setRest .nilFunc));have HMM:=zh hmm;simp only [List.length_nil] at d3;clear hC hq2 hmm;go_wp2_with (go_at_fn R;refine (HC.out).mono ?_;rintro e w2 ⟨rfl,hd2⟩);have HD2:=zh hd2;clear hd2 HC d3 d4 g4 hsn;go_wp2;go_roundw;case rel=>first | exact Or.inl HD2.out | exact ⟨_,_,_,_,_,_,_,_,_,_,_,_,_,_,_,_,_,_,_,_,_,_,_,Or.inl HD2.out,rfl⟩
    case measure=>rw [HMM.out,HD2.out.m];omega
 ·rw [if_neg hcap] at HD;go_enter func54,ntmps54;go_wp2_with (go_at_fn F;refine (HD.out).mono ?_;rintro e w9 ⟨rfl,hd9⟩);have HD9:=zh hd9;clear hd9;go_loopw [7] (fun _ wr=>Vz w0 S b t p s Φ wr) (fun _ wr=>mdM b wr);case atStart=>exact HD9.out
  case round=>
   clear HD HD9 c3 c6 f3;rcases hrel with hd | hm
   ·obtain ⟨hΦ,Ls2,rest2,st2,md2,pg2,q2,hq2,ho⟩:=hd;obtain ⟨a2,c2,d3⟩:=hq2.left;have d4:=hq2.c4.1;have HΦ:=zh hΦ;clear hΦ hq2;rcases ho with ho | rfl
    ·have hp:0 < q2.length:=List.length_pos_iff.2 ho;clear ho;generalize q2.length=n2 at*
     go_wp2;all_goals go_end0
     all_goals exact ⟨rfl,HΦ.out⟩
    ·generalize q2.length=n2 at*
     rcases Nat.eq_zero_or_pos n2 with rfl | hp
     ·go_wp2;all_goals go_end0
      all_goals exact ⟨rfl,HΦ.out⟩
     ·go_wp2;all_goals go_end0
      all_goals exact ⟨rfl,HΦ.out⟩
   ·have hmm:=hm.m;obtain ⟨Ls2,st2,md2,pg2,R,cp2,hq2,eg,hC⟩:=hm;obtain ⟨a2,c2,d3⟩:=hq2.left;have d4:=hq2.c4.1;have g4:=hq2.fzb 4;have hsn:=fun m=>run_store prog wr ⟨b,4,none⟩ .nilFunc m rfl;have HC:=zh (hC _ (hq2.setRest .nilFunc));have HMM:=zh hmm;simp only [List.length_nil] at d3;clear hC hq2 hmm;go_wp2_with (go_at_fn R;refine (HC.out).mono ?_;rintro e w2 ⟨rfl,hd2⟩);have HD2:=zh hd2;clear hd2 HC d3 d4 g4 hsn;go_wp2;go_roundw;case rel=>first | exact Or.inl HD2.out | exact ⟨_,_,_,_,_,_,_,_,_,_,_,_,_,_,_,_,_,_,_,_,_,_,_,Or.inl HD2.out,rfl⟩
    case measure=>rw [HMM.out,HD2.out.m];omega
end

def jdv (w:World) (v:Value) (l:List (Int×Int)):Prop:=∃a c,v= .slice a l.length c/\∀(i:Nat) x,l[i]? =some x->∃ad,a=some ad/\w.cell? (ad.add (i*2))=some (.int .i64 x.1)/\w.cell? ⟨(ad.add (i*2)).block,(ad.add (i*2)).off+1,none⟩=some (.int .u32 x.2)
theorem jdv.keep {w W:World} {v:Value} {l:List (Int×Int)} (h:jdv w v l) (hb:Below w.heap.size w W):jdv W v l:=by
 obtain ⟨a,c,h1,h2⟩:=h;refine ⟨a,c,h1,fun i x hx=> ?_⟩;obtain ⟨ad,e,c1,c2⟩:=h2 i x hx;exact ⟨ad,e,(hb.cell (World.block_lt_of_cell? w _ c1)).trans c1,(hb.cell (World.block_lt_of_cell? w _ c2)).trans c2⟩
theorem jdv.at_ {w:World} {a:Option Addr} {n c:Nat} {l:List (Int×Int)} (h:jdv w (.slice a n c) l) {i:Nat} {x:Int×Int} (hx:l[i]? =some x):∃ad,a=some ad/\w.cell? (ad.add (i*2))=some (.int .i64 x.1)/\w.cell? ⟨(ad.add (i*2)).block,(ad.add (i*2)).off+1,none⟩=some (.int .u32 x.2):=by
 obtain ⟨a',c',e,h2⟩:=h;cases e;exact h2 i x hx
theorem jdv.len {w:World} {a:Option Addr} {n c:Nat} {l:List (Int×Int)} (h:jdv w (.slice a n c) l):n=l.length:=by
 obtain ⟨a',c',e,-⟩:=h;cases e;rfl
def ddF:List (Int×Int)->List (Int×Int)->List (Int×Int)
 | m,[]=>m
 | m,x :: l=>ddF (if (j6 m x.1).isSome=true then m else qV m x.1 x.2) l
theorem ddF_snoc (l:List (Int×Int)) (x:Int×Int):∀m,ddF m (l++[x])=(if (j6 (ddF m l) x.1).isSome=true then ddF m l else qV (ddF m l) x.1 x.2):=by
 induction l with
 | nil=>intro m;rfl
 | cons y l ih=>intro m;exact ih _
theorem jah (k:Int) (x:Int×Int):∀(m:List (Int×Int)) (i:Nat),JX (m++[x]) k i=match JX m k i with | some y=>some y | none=>if x.1=k then some (i+m.length,x.2) else none
 | [],i=>by simp [JX]
 | y :: m,i=>by
  simp only [List.cons_append,JX,List.length_cons];split
  ·rfl
  ·rw [jah k x m (i+1)];cases JX m k (i+1) with
   | some z=>rfl
   | none=>dsimp only;rw [show i+1+m.length=i+(m.length+1) by omega]
theorem jfG {m:List (Int×Int)} {c v:Int} (h:j6 m c=none) (k:Int):j6 (qV m c v) k=if k=c then some v else j6 m k:=by
 have hl:JX m c 0=none:=by
  unfold j6 at h;simpa using h
 unfold qV;rw [hl];unfold j6;dsimp only;rw [jah];by_cases e:k=c
 ·subst e;rw [hl];simp
 ·rw [if_neg e];cases hk:JX m k 0 with
  | some y=>rfl
  | none=>dsimp only;rw [if_neg (fun e2=>e e2.symm)]
theorem jcg (i:Nat):∀(l m:List (Int×Int)),j6 (ddF m l) (i:Int)=match j6 m (i:Int) with | some v=>some v | none=>knK l i
 | [],m=>by
  show j6 m _=_;cases j6 m (i:Int) <;> rfl
 | x :: l,m=>by
  have ih:=jcg i l;show j6 (ddF (if (j6 m x.1).isSome=true then m else qV m x.1 x.2) l) (i:Int)=_;rw [ih];have hk:knK (x :: l) i=if x.1=(i:Int) then some x.2 else knK l i:=by
   unfold knK;by_cases e:x.1=(i:Int)
   ·simp [e]
   ·rw [List.find?_cons_of_neg (by simpa using e),if_neg e]
  rw [hk];by_cases hs:(j6 m x.1).isSome=true
  ·rw [if_pos hs];cases hm:j6 m (i:Int) with
   | some v=>rfl
   | none=>
    dsimp only;rw [if_neg];intro e;rw [e,hm] at hs;simp at hs
  ·rw [if_neg hs];have hn:j6 m x.1=none:=by simpa using hs
   rw [jfG hn];by_cases e:x.1=(i:Int)
   ·rw [if_pos e.symm,if_pos e,<-e,hn]
   ·rw [if_neg (fun e2=>e e2.symm),if_neg e]
theorem knK_u32 {l:List (Int×Int)} (hu:∀x∈l,VS.U32 x.2) {i:Nat} {v:Int} (h:knK l i=some v):VS.U32 v:=by
 unfold knK at h;obtain ⟨x,hx,rfl⟩:=Option.map_eq_some_iff.1 h;exact hu x (List.mem_of_find?_eq_some hx)
theorem some_new {w w1:World} {n mb:Nat} {l:List (Int×Int)} (hm:yy w1 mb (ddF [] l)) (hb:Below w.heap.size w w1) (hmb:w.heap.size<=mb) (hn:n<=1000000) (hu:∀x∈l,VS.U32 x.2) :
 NewV w (knV n l) (.returned (.pointer (some ⟨w1.heap.size+2,0,none⟩))) (((w1.alloc (.map #[] 0)).alloc (.map #[] 0)).alloc (.cells #[.int .i64 n,.iface 245 (.map (some mb)),.slice none 0 0,.map (some w1.heap.size),.slice none 0 0,.map (some (w1.heap.size+1)),.slice none 0 0,.int .i64 (-1),.bool false] 252)):=by
 have hz:=hb.size;have hml:=hm.lt;have B3:Below w1.heap.size w1 (((w1.alloc (.map #[] 0)).alloc (.map #[] 0)).alloc (.cells #[.int .i64 n,.iface 245 (.map (some mb)),.slice none 0 0,.map (some w1.heap.size),.slice none 0 0,.map (some (w1.heap.size+1)),.slice none 0 0,.int .i64 (-1),.bool false] 252)):=zR;refine ⟨_,rfl,⟨.iface 245 (.map (some mb)),.slice none 0 0,.slice none 0 0,.slice none 0 0,w1.heap.size,w1.heap.size+1,?_⟩,hb.trans (B3.mono hz)⟩;have e1:(w1.alloc (.map #[] 0)).heap[w1.heap.size]? =some (.map #[] 0):=heap_alloc_new w1 _;have e2:((w1.alloc (.map #[] 0)).alloc (.map #[] 0)).heap[w1.heap.size+1]? =some (.map #[] 0):=Ja _ _ _ zT;refine ⟨?_,?_,?_,World.ownsRow_nil _ _ _ _,World.ownsRow_nil _ _ _ _,?_,zo,?_,?_,?_,by simp [Value.ownBlock],by simp [Value.ownBlock],fun k hk=>hk.2,?_⟩
 ·exact Ja _ _ _ zT
 ·exact ⟨#[],0,by rw [Below.heap_alloc _ _ _ (by simp;omega),Below.heap_alloc _ _ _ zT];exact e1,rfl⟩
 ·exact ⟨#[],0,by rw [Below.heap_alloc _ _ _ zT];exact e2,rfl⟩
 ·refine .inr ⟨mb,ddF [] l,rfl,hm.block (B3.block mb hml),fun i _=>(jcg i l []).symm,⟨hmb,?_⟩,zo,zo,rfl⟩;simp;omega
 ·constructor <;> (try simp) <;> omega
 ·constructor <;> (try simp) <;> omega
 ·constructor <;> (try simp) <;> omega
 ·exact ⟨by show n<=_;omega,by simp [knV],by simp [knV],by simp [knV],by simp [knV],fun i v hv=>knK_u32 hu hv,by simp [knV]⟩
def KnRel (w:World) (mb:Nat) (l:List (Int×Int)) (v:Value) (wr:World):Prop:=∃k:Nat,k<=l.length/\v= .int .i64 k/\yy wr mb (ddF [] (l.take k))/\Below w.heap.size w wr
theorem je9 (n:Nat) (a:Option Addr) (m c:Nat) (l:List (Int×Int)) (w:World) (h:jdv w (.slice a m c) l) (hn:n<=1000000) (hl:l.length<=1000000) (hu:∀x∈l,VS.U32 x.2) :
 Calls prog 215 #[.int .i64 n,.slice a m c] w (NewV w (knV n l)):=by
 have e:=h.len;subst e;have HP:=zh (fun (W:World) (hb:Below w.heap.size w W) (i:Nat) x (hx:l[i]? =some x)=>(h.keep hb).at_ hx);have hmm:=@run_makeMap prog;have HU:=zh hu;have HF:=zh (fun (W:World) (fv:Value) (hf:∃T v,fv= .iface T v)=>vof_any n fv W hf);clear h hu;generalize hlen:l.length=N at*
 have HLen:=zh hlen;clear hlen;go_enter func215,ntmps215;go_wp2_with fail;go_loopw [7,8,9,13] (fun _ _ _ v13 wr=>KnRel w w.heap.size l v13 wr) (fun _ _ _ v13 _=>N - (intOf v13).toNat);case atStart=>exact ⟨0,Nat.zero_le _,rfl,⟨#[],0,heap_alloc_new w _,rfl⟩,(Below.refl _ _).alloc (Nat.le_refl _) _⟩
 case round=>
  obtain ⟨k,hk,rfl,hm,hbel⟩:=hrel;have HM:=zh hm;have HB:=zh hbel;have hml:=hm.lt;clear hm hbel;rw [HLen.out] at hk;by_cases hlt:k < N
  ·obtain ⟨x,hx⟩:∃x,l[k]? =some x:=⟨_,List.getElem?_eq_getElem (by rw [HLen.out];exact hlt)⟩
   obtain ⟨ad,rfl,c1,c2⟩:=HP.out wr HB.out k x hx;have hst:ddF [] (l.take (k+1))=(if (j6 (ddF [] (l.take k)) x.1).isSome=true then ddF [] (l.take k) else qV (ddF [] (l.take k)) x.1 x.2):=by
    rw [List.take_add_one,hx];exact ddF_snoc _ _ _
   have HSt:=zh hst;obtain ⟨xc,xv⟩:=x;dsimp only at c1 c2 HSt;clear hx hst HF HU HP;have HA:=zh (HM.out.block (w':=wr.alloc (.cells #[.int .i64 xc,.int .u32 xv] 106)) (heap_alloc_old _ _ hml));have HBA:=zh (HB.out.alloc HB.out.size (.cells #[.int .i64 xc,.int .u32 xv] 106));generalize hdd:ddF [] (l.take k)=dd at*
   cases has:(j6 dd xc).isSome with
   | true=>
    rw [has,if_pos rfl] at HSt;go_wp2_with (at_lookup;refine Kt rfl _ _ true rfl uSome underlying3 (zU32 _) w.heap.size dd xc rfl HA.out rfl ?_;simp only [has,if_true]);go_roundw;case rel=>exact ⟨k+1,by rw [HLen.out];omega,by go_num,by rw [HSt.out];exact HA.out,HBA.out⟩
    case measure=>simp [intOf];omega
   | false=>
    rw [has,if_neg zT] at HSt;go_wp2_with (first | (at_lookup;refine Kt rfl _ _ true rfl uSome underlying3 (zU32 _) w.heap.size dd xc rfl HA.out rfl ?_;simp only [has,if_true]) | (at_mapUpdate;refine jaD rfl _ _ _ rfl uSome underlying3 w.heap.size dd xc xv rfl HA.out rfl rfl ?_;intro w1 hm1 hg1));go_roundw;case rel=>exact ⟨k+1,by rw [HLen.out];omega,by go_num,by rw [HSt.out];exact hm1,HBA.out.grown hg1 HBA.out.size (fun j hj=>by cases hj;exact Nat.le_refl _)⟩
    case measure=>simp [intOf];omega
  ·have he:k=N:=zo;have HT:Hid (l.take k=l):=zh (List.take_of_length_le (by rw [HLen.out];omega));subst he;have hnl:¬((k:Nat):Int) < (k:Nat):=zo;go_wp2_with fail;refine zM (HF.out _ _ ⟨_,_,rfl⟩) ?_;rintro w2 rfl;have hN:=some_new (n:=n) (by rw [<-HT.out];exact HM.out) HB.out (Nat.le_refl _) hn HU.out;have HN:=zh hN;clear hN HM HB HF HU HP;go_wp2;go_ret;exact HN.out

section
variable {w0 w:World} {S:Nat->Prop} {b:Nat} {t p s:Int} {Ls:List (Nat×Obj)} {rest:Value} {st md pg:Int} {q:List Stp}
theorem jcO (h:QW w0 S b t p s Ls rest st md pg q w) (hn:q.length<=900000) (hr:jq t p s=true) {u v sn n:Int} {o:Bool} (hu0:0<=u) (hu:u<=t) (hv:U64 v) (hw:qo v=some (sn,o,n)) :
 Calls prog 201 #[.pointer (some ⟨b,0,none⟩),.int .i64 u,.int .u64 v] w fun e w'=>e= .returned (.tuple #[])/\QW w0 S b t p s Ls rest st md pg (q++[⟨2,jo t p u,j9 sn n false,.nilFunc⟩,⟨4,jo t p u,0,.nilFunc⟩,⟨5,0,0,.nilFunc⟩]) w':=by
 have hbd:=Jc hv hw;have hsn:0<=sn/\sn < 4294967296:=by rw [hbd.1];exact Qt hv
 have HO:=zh (fun w=>Ki v sn n o w hv hw);have HW:=zh (fun w=>jad sn n false w hsn hbd.2.1 hbd.2.2.1);have HA:=zh (fun w=>Ym hr u w hu0 hu);generalize jo t p u=a at*
 generalize j9 sn n false=nw at*
 have HQ:=zh h;have HL:=zh hn;have c0:=h.c012;have hb:=h.lt;clear h hbd hsn hv hw hn hr;go_enter func201,ntmps201;go_wp2_with fail;refine zM (HO.out _) fun w1 b1=> ?_;have H1:=zh (HQ.out.below b1);go_wp2_with fail;refine zM (HW.out _) fun w2 b2=> ?_;have H2:=zh (((H1.out.alloc (.cells #[.int .u32 sn,.bool false,.int .i64 n] 149)).below b2).sub (Ls':=Ls) (fun l hl=>List.mem_cons_of_mem _ hl));obtain ⟨c20,c21,c22⟩:=H2.out.c012;clear H1 HQ b1 b2 c0;go_wp2_with fail;refine zM (HA.out _) fun w3 b3=> ?_;have H3:=zh (H2.out.below b3);clear H2 c20 c21 c22 b3;go_wp2_with fail;refine zM (Jk H3.out (by have:=HL.out;omega) a nw) fun w4 h4=> ?_;have H4:=zh h4;clear h4 H3;go_wp2_with fail;refine zM (Jl H4.out (by have:=HL.out;simp;omega) a) fun w5 h5=> ?_;have H5:=zh h5;clear h5 H4;go_wp2_with fail;refine zM (Kc H5.out (by have:=HL.out;simp;omega)) fun w6 h6=> ?_;have H6:=zh h6;clear h6 H5;go_wp2;go_end0;exact ⟨rfl,by simpa using H6.out⟩
end

def KB (Ls:List (Nat×Obj)) (lv:Value) (l:List (Int×Int)):Prop:=∃a c,lv= .slice a l.length c/\l.length<=c/\(l≠[]->∃g off cur,a=some ⟨g,off,none⟩/\(g,Obj.cells cur 106)∈Ls/\∀(i:Nat) x,l[i]? =some x->cur[off+2*i]? =some (.int .i64 x.1)/\cur[off+2*i+1]? =some (.int .u32 x.2))
def flF (l:List (Int×Int)):List Stp:=l.map fun x=>⟨4,16+x.1,0,.nilFunc⟩
def clF (a nw:Int):List Stp:=[⟨2,a,nw,.nilFunc⟩,⟨4,a,0,.nilFunc⟩,⟨5,0,0,.nilFunc⟩]
section
variable {w0 w:World} {S:Nat->Prop} {b:Nat} {t p s:Int} {Ls:List (Nat×Obj)} {rest:Value} {st md pg:Int} {q:List Stp}
theorem KB.cells {l:List (Int×Int)} {a:Option Addr} {c:Nat} (h:QW w0 S b t p s Ls rest st md pg q w) (hl:KB Ls (.slice a l.length c) l) {i:Nat} {x:Int×Int} (hi:l[i]? =some x) :
 ∃ad,a=some ad/\w.cell? (ad.add (i*2))=some (.int .i64 x.1)/\w.cell? ⟨(ad.add (i*2)).block,(ad.add (i*2)).off+1,none⟩=some (.int .u32 x.2):=by
 obtain ⟨a',c',e,-,h2⟩:=hl;simp only [Value.slice.injEq,true_and] at e;obtain ⟨rfl,rfl⟩:=e;obtain ⟨g,off,cur,rfl,hg,hc⟩:=h2 (by rintro rfl;simp at hi);refine ⟨_,rfl,?_⟩;obtain ⟨c1,c2⟩:=hc i x hi;have e1:(⟨g,off,none⟩:Addr).add (i*2)=⟨g,off+2*i,none⟩:=by
  unfold Addr.add;split
  ·rename_i h0;have:i=0:=zo;subst this;rfl
  ·rw [Nat.mul_comm]
 rw [e1];exact ⟨(h.bx hg _).trans c1,(h.bx hg _).trans c2⟩
def T1Rel (w0:World) (S:Nat->Prop) (b:Nat) (t p s:Int) (Ls:List (Nat×Obj)) (rest:Value) (st md pg:Int) (q:List Stp) (l:List (Int×Int)) (v:Value) (wr:World):Prop:=
 ∃k:Nat,k<=l.length/\v= .int .i64 k/\QW w0 S b t p s Ls rest st md pg (q++flF (l.take k)) wr
theorem flF_step {l:List (Int×Int)} {k:Nat} {x:Int×Int} (h:l[k]? =some x):flF (l.take (k+1))=flF (l.take k)++[⟨4,16+x.1,0,.nilFunc⟩]:=by
 rw [List.take_add_one,h];simp [flF]
theorem jcI (h:QW w0 S b t p s Ls rest st md pg q w) (hq:q.length<=800000) (hr:jq t p s=true) {kl kx ku kn kb F:Nat} {lv:Value} {rc cp:Array Value} {u v sn n:Int} {o:Bool} {l:List (Int×Int)}
 (ml:(kl,oL lv)∈Ls) (mx:(kx,oX b)∈Ls) (mu:(ku,oN u)∈Ls) (mn:(kn,oW v)∈Ls) (mb:(kb,oF (.func (.func F) rc cp))∈Ls) (hl:KB Ls lv l) (hlen:l.length<=96) (hlr:∀x∈l,0<=x.1/\x.1 < jk t p)
 (hu0:0<=u) (hu:u<=t) (hv:U64 v) (hw:qo v=some (sn,o,n)) :
 Calls prog 200 #[pB kl,pB kx,pB ku,pB kn,pB kb] w fun e w'=>e= .returned (.tuple #[])/\QW w0 S b t p s Ls (.func (.func F) rc cp) st md pg (q++flF l++[⟨5,0,0,.nilFunc⟩]++clF (jo t p u) (j9 sn n false)) w':=by
 obtain ⟨a,c,rfl,hcap,-⟩:=id hl;obtain ⟨cl,-,zl,nl⟩:=h.gL ml;have HW:=zh (fun (x:Int×Int) (hx:x∈l) w=>Yl t p s x.1 w hr (hlr x hx).1 (hlr x hx).2);have HC:=zh (fun (W:World) (q':List Stp) (g:QW w0 S b t p s Ls rest st md pg q' W) (hq':q'.length<=900000)=>jcO g hq' hr hu0 hu hv hw);have HM:=zh (fun (W:World) (q':List Stp) (g:QW w0 S b t p s Ls rest st md pg q' W)=>And.intro (g.gX mx) (And.intro (g.gN mu) (And.intro (g.gW mn) (g.gF mb))));have HL:=zh hl;have HX:=zh mx;have HQ:=zh h;have HLen:=zh (And.intro hlen hq);generalize j9 sn n false=nw at*
 generalize jo t p u=na at*
 clear h hl hr hlr hw hu0 hu hv hq hlen mx mu mn mb ml;unfold pB;go_enter func200,ntmps200;go_wp2_with fail;go_loopw [6,9] (fun _ v9 wr=>T1Rel w0 S b t p s Ls rest st md pg q l v9 wr) (fun _ v9 _=>l.length - (intOf v9).toNat);case atStart=>exact ⟨0,Nat.zero_le _,rfl,by simpa [flF] using HQ.out⟩
 case round=>
  obtain ⟨k,hk,rfl,h1⟩:=hrel;have H1:=zh h1;obtain ⟨⟨cx,-,zx,-⟩,⟨cu,-⟩,⟨cn,-⟩,⟨cb,-⟩⟩:=HM.out _ _ h1;clear h1 HQ cl zl nl;have hl96:=HLen.out.1;by_cases hlt:k < l.length
  ·obtain ⟨x,hx⟩:∃x,l[k]? =some x:=⟨_,List.getElem?_eq_getElem hlt⟩
   have hF:=flF_step hx;obtain ⟨ad,rfl,c1,c2⟩:=HL.out.cells H1.out hx;have HWx:=zh (HW.out x (List.mem_of_getElem? hx));have HF:=zh hF;obtain ⟨xc,xv⟩:=x;dsimp only at c1 c2 HWx;clear hx hF HW HC cu cn cb;go_wp2_with fail;have H2:=zh (H1.out.alloc (.cells #[.int .i64 xc,.int .u32 xv] 106)).drew;obtain ⟨s1,-,-,-⟩:=H2.out.gX (k:=kx) (a:=b) (List.mem_cons_of_mem _ HX.out);have s2:=H2.out.bx (k:=wr.heap.size) List.mem_cons_self 0;have s3:=H2.out.c012;clear cx c1 c2 H1;refine wH (S:=fun w'=>w'.cell? ⟨kx,0,none⟩=some (.pointer (some ⟨b,0,none⟩))/\w'.cell? ⟨wr.heap.size,0,none⟩=some (.int .i64 xc)/\w'.cell? ⟨b,0,none⟩=some (.int .i64 t)/\w'.cell? ⟨b,1,none⟩=some (.int .i64 p)/\w'.cell? ⟨b,2,none⟩=some (.int .i64 s)) (⟨s1,s2,s3⟩) fun hHeld=> ?_;refine wT 0 ?_;refine wY ?_;refine wR 7 fun K hK=> ?_;go_simp;refine zM (HWx.out _) fun w3 b3=> ?_;have H3:=zh (H2.out.below b3);refine wK hK (⟨(H3.out.gX (List.mem_cons_of_mem _ HX.out)).1,H3.out.bx List.mem_cons_self 0,H3.out.c012⟩) fun hHeld=> ?_;clear hK K;refine wR 8 fun K hK=> ?_;go_simp;refine zM (Jl H3.out (by have:=HLen.out.2;simp [flF];omega) _) fun w4 h4=> ?_;have H4:=zh h4;clear h4;refine wK hK (⟨(H4.out.gX (List.mem_cons_of_mem _ HX.out)).1,H4.out.bx List.mem_cons_self 0,H4.out.c012⟩) fun hHeld=> ?_;clear hK K;refine wD ?_;clear H2 H3 s1 s2 s3;go_wp2;go_roundw;case rel=>exact ⟨k+1,zo,by go_num,by rw [HF.out,<-List.append_assoc];exact H4.out.sub (fun z hz=>List.mem_cons_of_mem _ hz)⟩
   case measure=>simp [intOf];omega
  ·have he:k=l.length:=zo;subst he;clear hlt;rw [List.take_length] at H1;clear HW;go_wp2_with fail;refine zM (Kc H1.out (by have:=HLen.out.2;simp [flF];omega)) fun w2 h2=> ?_;obtain ⟨⟨cx2,-⟩,⟨cu2,-⟩,⟨cn2,-⟩,⟨cb2,-⟩⟩:=HM.out _ _ h2;have H2:=zh h2;clear h2 H1 cx cu cn cb;go_wp2_with fail;refine zM (HC.out _ _ H2.out (by have:=HLen.out.2;simp [flF];omega)) fun w3 h3=> ?_;obtain ⟨⟨cx3,-⟩,⟨cu3,-⟩,⟨cn3,-⟩,⟨cb3,-⟩⟩:=HM.out _ _ h3;have H3:=zh h3;clear h3 H2 cx2 cu2 cn2 cb2;go_wp2_with fail;refine zM (KT H3.out _ _ _) fun w4 h4=> ?_;have H4:=zh h4;clear h4 H3 cx3 cu3 cn3 cb3;go_wp2;go_end0;exact ⟨rfl,by have:=H4.out;simpa [clF] using this⟩
end

structure TC (Ls:List (Nat×Obj)) (b:Nat) (u v:Int) (lv:Value) (F:Nat) (rc cp:Array Value) (kl kx ku kn kb:Nat):Prop where
 ml:(kl,oL lv)∈Ls
 mx:(kx,oX b)∈Ls
 mu:(ku,oN u)∈Ls
 mn:(kn,oW v)∈Ls
 mb:(kb,oF (.func (.func F) rc cp))∈Ls
theorem TC.sub {Ls Ls':List (Nat×Obj)} {b:Nat} {u v:Int} {lv:Value} {F:Nat} {rc cp:Array Value} {kl kx ku kn kb:Nat} (h:TC Ls b u v lv F rc cp kl kx ku kn kb) (hs:∀l∈Ls,l∈Ls'):TC Ls' b u v lv F rc cp kl kx ku kn kb:=
 ⟨hs _ h.ml,hs _ h.mx,hs _ h.mu,hs _ h.mn,hs _ h.mb⟩
def t1V (kl kx ku kn kb:Nat):Value:= .func (.func 200) #[] #[pB kl,pB kx,pB ku,pB kn,pB kb]
theorem KB.sub {Ls Ls':List (Nat×Obj)} {lv:Value} {l:List (Int×Int)} (h:KB Ls lv l) (hs:∀l∈Ls,l∈Ls'):KB Ls' lv l:=by
 obtain ⟨a,c,h1,h2,h3⟩:=h;exact ⟨a,c,h1,h2,fun hn=>by
  obtain ⟨g,off,cur,h4,h5,h6⟩:=h3 hn;exact ⟨g,off,cur,h4,hs _ h5,h6⟩⟩
theorem KB.tail {Ls:List (Nat×Obj)} {x:Int×Int} {r:List (Int×Int)} {ad:Addr} {c:Nat} (h:KB Ls (.slice (some ad) (r.length+1) c) (x :: r)):KB Ls (.slice (if c=1 then some ad else some ⟨ad.block,ad.off+2,none⟩) r.length (c - 1)) r:=by
 obtain ⟨a',c',e,h2,h3⟩:=h;simp only [List.length_cons,Value.slice.injEq,true_and] at e;obtain ⟨rfl,rfl⟩:=e;simp only [List.length_cons] at h2;refine ⟨_,_,rfl,zo,fun hn=> ?_⟩;have hp:=List.length_pos_iff.2 hn;obtain ⟨g,off,cur,e,h5,h6⟩:=h3 zT;cases e;rw [if_neg zo];refine ⟨g,off+2,cur,rfl,h5,fun i y hy=> ?_⟩;have:=h6 (i+1) y (by simpa using hy);rw [show off+2*(i+1)=off+2+2*i by omega] at this;exact this
section
variable {w0 w:World} {S:Nat->Prop} {b:Nat} {t p s:Int} {Ls:List (Nat×Obj)} {rest:Value} {st md pg:Int} {q:List Stp}
theorem KB.head {x:Int×Int} {r:List (Int×Int)} {a:Option Addr} {c:Nat} (h:QW w0 S b t p s Ls rest st md pg q w) (hl:KB Ls (.slice a (r.length+1) c) (x :: r)) :
 ∃ad,a=some ad/\w.cell? ad=some (.int .i64 x.1)/\w.cell? ⟨ad.block,ad.off+1,none⟩=some (.int .u32 x.2):=by
 obtain ⟨ad,h1,h2,h3⟩:=hl.cells (l:=x :: r) h (i:=0) rfl;refine ⟨ad,h1,?_,?_⟩
 ·simpa [Addr.add] using h2
 ·simpa [Addr.add] using h3
theorem Vi (h:QW w0 S b t p s Ls rest st md pg q w) (hq:q.length<=800000) (hr:jq t p s=true) {kl kx ku kn kb F c:Nat} {a:Option Addr} {lv:Value} {rc cp:Array Value} {u v sn n sv:Int} {o:Bool} {l:List (Int×Int)}
 (hc:TC Ls b u v lv F rc cp kl kx ku kn kb) (hl:KB Ls lv l) (hlen:l.length<=96) (hlr:∀x∈l,0<=x.1/\x.1 < jk t p) (hu0:0<=u) (hu:u<=t) (hv:U64 v) (hw:qo v=some (sn,o,n)) :
 Calls prog 199 #[.pointer (some ⟨b,0,none⟩),.int .u32 sv,.slice a 0 c,t1V kl kx ku kn kb] w fun e w'=>e= .returned (.tuple #[])/\QW w0 S b t p s Ls (.func (.func F) rc cp) st md pg (q++flF l++[⟨5,0,0,.nilFunc⟩]++clF (jo t p u) (j9 sn n false)) w':=by
 have HT:=zh (fun (W:World) (Ls':List (Nat×Obj)) (hs:∀l∈Ls,l∈Ls') (g:QW w0 S b t p s Ls' rest st md pg q W)=>jcI g hq hr (hs _ hc.ml) (hs _ hc.mx) (hs _ hc.mu) (hs _ hc.mn) (hs _ hc.mb) (hl.sub hs) hlen hlr hu0 hu hv hw);have HQ:=zh h;unfold t1V;clear h hc hl hlr hw hv hu hu0 hr hq;go_enter func199,ntmps199;go_wp2_with fail;refine zM (HT.out _ _ (fun z hz=>List.mem_cons_of_mem _ (List.mem_cons_of_mem _ (List.mem_cons_of_mem _ (List.mem_cons_of_mem _ hz)))) ((((HQ.out.alloc (oX b)).alloc (oH sv)).alloc (oL (.slice a 0 c))).alloc (oF (t1V kl kx ku kn kb)))) fun w1 h1=> ?_;have H1:=zh (h1.sub (Ls':=Ls) (fun z hz=>List.mem_cons_of_mem _ (List.mem_cons_of_mem _ (List.mem_cons_of_mem _ (List.mem_cons_of_mem _ hz)))));clear h1 HQ HT;go_wp2;refine bodyPost_ret (results_none rfl _ _ _) rfl ?_;exact ⟨rfl,H1.out⟩
theorem QW.fresh (h:QW w0 S b t p s Ls rest st md pg q w):∀l∈Ls,l.1≠w.heap.size:=fun l hl=>Nat.ne_of_lt (h.llt l hl)
theorem QW.fill {k:Nat} {v0:Value} {T:TypeId} (h:QW w0 S b t p s ((k,Obj.cells #[v0] T) :: Ls) rest st md pg q w) (hf:∀l∈Ls,l.1≠k) (u:Value):QW w0 S b t p s ((k,Obj.cells #[u] T) :: Ls) rest st md pg q (w.setCell ⟨k,0,none⟩ u):=
 h.box List.mem_cons_self (cs':=#[u]) zT fun l hl=>by
  rcases List.mem_cons.1 hl with rfl | hl
  ·exact .inl rfl
  ·exact .inr ⟨List.mem_cons_of_mem _ hl,hf l hl⟩
theorem Yk (h:QW w0 S b t p s Ls rest st md pg q w) (hq:q.length<=800000) (hr:jq t p s=true) {kl kx ku kn kb c:Nat} {a:Option Addr} {sv:Int} {x:Int×Int} {r:List (Int×Int)}
 (hlr:KB Ls (.slice a (r.length+1) c) (x :: r)) (hlen:r.length<=96) (hx:0<=x.1/\x.1 < jk t p) :
 Calls prog 199 #[.pointer (some ⟨b,0,none⟩),.int .u32 sv,.slice a (r.length+1) c,t1V kl kx ku kn kb] w fun e w'=>e= .returned (.tuple #[])/\∃jx js ja jl jb,QW w0 S b t p s ((ja,oN (16+x.1)) :: (jb,oF (t1V kl kx ku kn kb)) :: (jl,oL (.slice a (r.length+1) c)) :: (js,oH sv) :: (jx,oX b) :: Ls) rest st md pg (q++[⟨1,16+x.1,0,.func (.func 229) #[] #[pB js,pB jx,pB ja,pB jl,pB jb]⟩]) w':=by
 have HW:=zh (fun w=>Yl t p s x.1 w hr hx.1 hx.2);have HL:=zh hlr;have hq':=zh hq;have H2:=(((h.alloc (oX b)).alloc (oH sv)).alloc (oL (.slice a (r.length+1) c))).alloc (oF (t1V kl kx ku kn kb));obtain ⟨xc,xv⟩:=x;obtain ⟨ad,rfl,-,-⟩:=hlr.head h;simp only [World.size_alloc] at H2;have HQ:=zh H2;clear h H2 hlr hr hx hq;dsimp only at HW ⊢;unfold t1V at HQ ⊢;go_enter func199,ntmps199;go_wp2_with fail;refine jT ?_;intro w2 hw2;have H2:=HQ.out;rw [show ((((w.alloc (oX b)).alloc (oH sv)).alloc (oL (.slice (some ad) (r.length+1) c))).alloc (oF (.func (.func 200) #[] #[pB kl,pB kx,pB ku,pB kn,pB kb])))=w2 from hw2.symm] at H2;clear hw2 HQ;have HC:=zh H2.drew;clear H2;generalize hj0:w.heap.size=j0 at*
 generalize j0+1=j1 at*
 generalize j1+1=j2 at*
 generalize j2+1=j3 at*
 have s1:=(HC.out.gX (k:=j0) (a:=b) zT).1;have s2:=(HC.out.gL (k:=j2) (a:= .slice (some ad) (r.length+1) c) zT).1;have KH:=zh (fun (W:World) (Ls':List (Nat×Obj)) (hs:∀l∈Ls,l∈Ls') (g:QW w0 S b t p s Ls' rest st md pg q W)=>by
  obtain ⟨ad',e,k1,-⟩:=(HL.out.sub hs).head g;cases e;exact k1)
 have s3:=KH.out _ _ (fun z hz=>by simp [hz]) HC.out;have s4:=HC.out.c012;refine wH (S:=fun w'=>w'.cell? ⟨j0,0,none⟩=some (.pointer (some ⟨b,0,none⟩))/\w'.cell? ⟨j2,0,none⟩=some (.slice (some ad) (r.length+1) c)/\w'.cell? ad=some (.int .i64 xc)/\w'.cell? ⟨b,0,none⟩=some (.int .i64 t)/\w'.cell? ⟨b,1,none⟩=some (.int .i64 p)/\w'.cell? ⟨b,2,none⟩=some (.int .i64 s)) (⟨s1,s2,s3,s4⟩) fun hHeld=> ?_;refine wT 0 ?_;refine wY ?_;refine wpAnyH_ready (rs:=[8,9]) zk zT ?_;refine AllReadyH.cons (o:=_) rfl (fun K hK=> ?_) (AllReadyH.cons (o:=_) rfl (fun K hK=> ?_) AllReadyH.nil);go_simp;refine zM (HW.out _) fun w3 b3=> ?_;have HC:=zh (HC.out.below b3);refine wK hK (⟨(HC.out.gX zT).1,(HC.out.gL zT).1,KH.out _ _ (by intro z hz;simp [hz]) HC.out,HC.out.c012⟩) fun hHeld=> ?_;clear hK K;refine wR 9 fun K hK=> ?_;have hfr:=HC.out.fresh;have HB:=zh (HC.out.alloc (oN (16+xc)));have HC:=zh (HC.out.alloc (oN 0));go_simp;refine wK hK (⟨(HC.out.gX zT).1,(HC.out.gL zT).1,KH.out _ _ (by intro z hz;simp [hz]) HC.out,HC.out.c012⟩) fun hHeld=> ?_;clear hK K;refine wR 10 fun K hK=> ?_;have HD:=zh (HC.out.fill hfr (.int .i64 (16+xc)));obtain ⟨cw,fw,-,-⟩:=HC.out.b1 List.mem_cons_self;try simp only [World.size_drew] at cw fw HD
 go_simp;refine wK hK (by first | exact ⟨(HB.out.gX zT).1,(HB.out.gL zT).1,KH.out _ _ (by intro z hz;simp [hz]) HB.out,HB.out.c012⟩ | exact ⟨(HD.out.gX (k:=j0) (a:=b) zT).1,(HD.out.gL (k:=j2) zT).1,KH.out _ _ (by intro z hz;simp [hz]) HD.out,HD.out.c012⟩) fun hHeld=> ?_;clear hK K;refine wD ?_;rotate_left;have hfr:=HC.out.fresh;have HB:=zh (HC.out.alloc (oN (16+xc)));have HC:=zh (HC.out.alloc (oN 0));go_simp;refine wK hK (⟨(HC.out.gX zT).1,(HC.out.gL zT).1,KH.out _ _ (by intro z hz;simp [hz]) HC.out,HC.out.c012⟩) fun hHeld=> ?_;clear hK K;refine wR 8 fun K hK=> ?_;go_simp;refine zM (HW.out _) fun w3 b3=> ?_;have HC:=zh (HC.out.below b3);refine wK hK (⟨(HC.out.gX zT).1,(HC.out.gL zT).1,KH.out _ _ (by intro z hz;simp [hz]) HC.out,HC.out.c012⟩) fun hHeld=> ?_;clear hK K;refine wR 10 fun K hK=> ?_;have HD:=zh (HC.out.fill hfr (.int .i64 (16+xc)));obtain ⟨cw,fw,-,-⟩:=HC.out.b1 List.mem_cons_self;try simp only [World.size_drew] at cw fw HD
 go_simp;refine wK hK (by first | exact ⟨(HB.out.gX zT).1,(HB.out.gL zT).1,KH.out _ _ (by intro z hz;simp [hz]) HB.out,HB.out.c012⟩ | exact ⟨(HD.out.gX (k:=j0) (a:=b) zT).1,(HD.out.gL (k:=j2) zT).1,KH.out _ _ (by intro z hz;simp [hz]) HD.out,HD.out.c012⟩) fun hHeld=> ?_;clear hK K;refine wD ?_;all_goals
  clear HW HL KH s1 s2 s3 s4;first
   | (have HE:=zh (show QW w0 S b t p s _ rest st md pg q _ from HB.out);go_wp2_with fail;refine (JQ HE.out (by have:=hq'.out;omega) _ _ _ _).mono ?_)
   | (go_wp2_with fail;refine (JQ HD.out (by have:=hq'.out;omega) _ _ _ _).mono ?_)
  rintro e w4 ⟨rfl,h4⟩;have H4:=zh h4;clear h4;go_wp2;go_end0;exact ⟨rfl,_,_,_,_,_,H4.out⟩
end

def c1V (js jx ja jl jb:Nat):Value:= .func (.func 229) #[] #[pB js,pB jx,pB ja,pB jl,pB jb]
def c11V (jx js jl jb:Nat):Value:= .func (.func 232) #[] #[pB jx,pB js,pB jl,pB jb]
section
variable {w0 w:World} {S:Nat->Prop} {b:Nat} {t p s:Int} {Ls:List (Nat×Obj)} {rest:Value} {st md pg:Int} {q:List Stp}
theorem jbd (h:QW w0 S b t p s Ls rest st md pg q w) (hq:q.length<=800000) {js jx ja jl jb c:Nat} {a:Option Addr} {v sv ca:Int} {fv:Value} {x:Int×Int} {r:List (Int×Int)}
 (ms:(js,oH sv)∈Ls) (mx:(jx,oX b)∈Ls) (ma:(ja,oN ca)∈Ls) (ml:(jl,oL (.slice a (r.length+1) c))∈Ls) (mb:(jb,oF fv)∈Ls) (hlr:KB Ls (.slice a (r.length+1) c) (x :: r)) (hv:U64 v) (hs:0<=sv/\sv < 4294967296) (hx:0<=x.2/\x.2 < 4294967296) :
 Calls prog 229 #[.int .u64 v,pB js,pB jx,pB ja,pB jl,pB jb] w fun e w'=>e= .returned (.tuple #[])/\QW w0 S b t p s Ls (c11V jx js jl jb) st md pg (q++if hiW v < sv then [⟨2,ca,jH sv x.2,.nilFunc⟩] else []) w':=by
 have HS:=zh (fun w=>jc4 v w hv);have HC:=zh (fun w=>jc6 sv x.2 w hs hx);have HM:=zh (fun (W:World) (q':List Stp) (g:QW w0 S b t p s Ls rest st md pg q' W)=>And.intro (g.gH ms).1 (And.intro (g.gX mx).1 (And.intro (g.gN ma).1 (g.gL ml).1)));have HT:=zh (fun (W:World) (q':List Stp) (g:QW w0 S b t p s Ls rest st md pg q' W)=>KT g 232 #[] #[pB jx,pB js,pB jl,pB jb]);have HL:=zh (fun (W:World) (q':List Stp) (g:QW w0 S b t p s Ls rest st md pg q' W)=>hlr.head g);have hq':=zh hq;have HQ:=zh h;obtain ⟨xc,xv⟩:=x;dsimp only at HC HL ⊢;clear h hlr ms mx ma ml mb hv hs hx hq;have HD:=zh HQ.out.drew;obtain ⟨s1,-⟩:=HM.out _ _ HD.out;by_cases hlt:hiW v < sv
 ·rw [if_pos hlt];unfold pB;go_enter func229,ntmps229;go_wp2_with fail;refine Xe (zQ s1) fun hHeld=> ?_;refine wT 0 ?_;refine wY ?_;refine wR 1 fun K hK=> ?_;go_simp;refine zM (HS.out _) fun w1 b1=> ?_;have HQ1:=zh (HD.out.below b1);refine wK hK ((HM.out _ _ HQ1.out).1) fun hHeld=> ?_;clear hK K;refine wY ?_;refine wD ?_;clear hHeld HS;go_wp2_with fail;obtain ⟨ad,rfl,-,xk⟩:=HL.out _ _ HQ1.out.drew;obtain ⟨d1,d2,d3,d4⟩:=HM.out _ _ HQ1.out.drew;have KH:=zh (fun (W:World) (q':List Stp) (g:QW w0 S b t p s Ls rest st md pg q' W)=>(show W.cell? ⟨ad.block,ad.off+1,none⟩=some (.int .u32 xv) from by
   obtain ⟨ad',e,-,k1⟩:=HL.out _ _ g;cases e;exact k1))
  clear HL;refine wHn5 (zQ d1) (zQ d2) (zQ d3) (zQ d4) (zQ xk) fun hHeld=> ?_;refine wT 0 ?_;refine wY ?_;refine wR 7 fun K hK=> ?_;go_simp;refine zM (HC.out _) fun w2 b2=> ?_;have HQ2:=zh (HQ1.out.drew.below b2);refine wK hK (⟨(HM.out _ _ HQ2.out).1,(HM.out _ _ HQ2.out).2.1,(HM.out _ _ HQ2.out).2.2.1,(HM.out _ _ HQ2.out).2.2.2,KH.out _ _ HQ2.out⟩) fun hHeld=> ?_;clear hK K;refine wR 8 fun K hK=> ?_;go_simp;refine zM (Jk HQ2.out (by have:=hq'.out;omega) _ _) fun w3 h3=> ?_;have HQ3:=zh h3;clear h3;refine wK hK (⟨(HM.out _ _ HQ3.out).1,(HM.out _ _ HQ3.out).2.1,(HM.out _ _ HQ3.out).2.2.1,(HM.out _ _ HQ3.out).2.2.2,KH.out _ _ HQ3.out⟩) fun hHeld=> ?_;clear hK K;refine wD ?_;clear HQ1 HQ2 HC d1 d2 d3 d4 xk;go_wp2_with fail;refine zM (HT.out _ _ HQ3.out) fun w4 h4=> ?_;have H4:=zh h4;clear h4;go_wp2;go_end0;exact ⟨rfl,H4.out⟩
 ·rw [if_neg hlt,List.append_nil];unfold pB;go_enter func229,ntmps229;go_wp2_with fail;refine Xe (zQ s1) fun hHeld=> ?_;refine wT 0 ?_;refine wY ?_;refine wR 1 fun K hK=> ?_;go_simp;refine zM (HS.out _) fun w1 b1=> ?_;have HQ1:=zh (HD.out.below b1);refine wK hK ((HM.out _ _ HQ1.out).1) fun hHeld=> ?_;clear hK K;refine wY ?_;refine wD ?_;clear hHeld HS;obtain ⟨d1,d2,d3,d4⟩:=HM.out _ _ HQ1.out;go_wp2_with fail;refine zM (HT.out _ _ HQ1.out) fun w4 h4=> ?_;have H4:=zh h4;clear h4;go_wp2;go_end0;exact ⟨rfl,H4.out⟩
end

section
variable {w0 w:World} {S:Nat->Prop} {b:Nat} {t p s:Int} {Ls:List (Nat×Obj)} {rest:Value} {st md pg:Int} {q:List Stp}
theorem XQ (h:QW w0 S b t p s Ls rest st md pg q w) {js jx jl jb c n kl kx ku kn kb:Nat} {ad:Addr} {sv:Int} {Φ:World->Prop}
 (ms:(js,oH sv)∈Ls) (mx:(jx,oX b)∈Ls) (ml:(jl,oL (.slice (some ad) (n+1) c))∈Ls) (mb:(jb,oF (t1V kl kx ku kn kb))∈Ls) (hc:n+1<=c)
 (hC:∀W,QW w0 S b t p s Ls rest st md pg q W->Calls prog 199 #[.pointer (some ⟨b,0,none⟩),.int .u32 sv,.slice (if c=1 then some ad else some ⟨ad.block,ad.off+2,none⟩) n (c - 1),t1V kl kx ku kn kb] W fun e w'=>e= .returned (.tuple #[])/\Φ w')
 (hΦ:∀W,Φ W->∃Ls' rest' q',(∀l∈Ls,l∈Ls')/\QW w0 S b t p s Ls' rest' st md pg q' W) :
 Calls prog 232 #[pB jx,pB js,pB jl,pB jb] w fun e w'=>e= .returned (.tuple #[])/\Φ w':=by
 have HM:=zh (fun (W:World) (Ls':List (Nat×Obj)) (rest':Value) (q':List Stp) (hs:∀l∈Ls,l∈Ls') (g:QW w0 S b t p s Ls' rest' st md pg q' W)=>And.intro (g.gX (hs _ mx)).1 (And.intro (g.gH (hs _ ms)).1 (And.intro (g.gL (hs _ ml)).1 (g.gF (hs _ mb)).1)));have HC:=zh (hC _ h.drew);have HP:=zh hΦ;obtain ⟨d1,d2,d3,d4⟩:=HM.out _ _ _ _ (fun l hl=>hl) h.drew;clear h ms mx ml mb hC hΦ;have hn1:(1:Int)<=(n:Int)+1:=zo;unfold t1V at HC HM d4;unfold pB at HC HM d4 ⊢;go_enter func232,ntmps232;go_wp2_with fail;have HS:=zh (fun (W:World) (g:Φ W)=>(show W.cell? ⟨jx,0,none⟩=some (.pointer (some ⟨b,0,none⟩))/\W.cell? ⟨js,0,none⟩=some (.int .u32 sv)/\W.cell? ⟨jl,0,none⟩=some (.slice (some ad) (n+1) c)/\W.cell? ⟨jb,0,none⟩=some (.func (.func 200) #[] #[.pointer (some ⟨kl,0,none⟩),.pointer (some ⟨kx,0,none⟩),.pointer (some ⟨ku,0,none⟩),.pointer (some ⟨kn,0,none⟩),.pointer (some ⟨kb,0,none⟩)]) from by
  obtain ⟨Ls1,r1,q1,hs1,g1⟩:=HP.out _ g;exact HM.out _ _ _ _ hs1 g1))
 clear HP HM;refine wHn4 (zQ d1) (zQ d2) (zQ d3) (zQ d4) fun hHeld=> ?_;refine wT 0 ?_;refine wY ?_;refine wR 5 fun K hK=> ?_;go_simp;refine zM (HC.out) fun w1 h1=> ?_;have H1:=zh h1;clear h1;refine wK hK (HS.out _ H1.out) fun hHeld=> ?_;clear hK K;refine wD ?_;go_end0;exact ⟨rfl,H1.out⟩
theorem jef (h:QW w0 S b t p s Ls rest st md pg q w) {u v sn n:Int} {o:Bool} {a:Option Addr} {m c F:Nat} {rc cp:Array Value} {Φ:World->Prop} (hv:U64 v) (hw:qo v=some (sn,o,n))
 (hC:∀W Ls' kl kx ku kn kb,(∀l∈Ls,l∈Ls')->TC Ls' b u v (.slice a m c) F rc cp kl kx ku kn kb->QW w0 S b t p s Ls' rest st md pg q W->Calls prog 199 #[.pointer (some ⟨b,0,none⟩),.int .u32 sn,.slice a m c,t1V kl kx ku kn kb] W fun e w'=>e= .returned (.tuple #[])/\Φ w') :
 Calls prog 152 #[.pointer (some ⟨b,0,none⟩),.int .i64 u,.int .u64 v,.slice a m c,.func (.func F) rc cp] w fun e w'=>e= .returned (.tuple #[])/\Φ w':=by
 have HO:=zh (fun w=>Ki v sn n o w hv hw);have H5:=((((h.alloc (oX b)).alloc (oN u)).alloc (oW v)).alloc (oL (.slice a m c))).alloc (oF (.func (.func F) rc cp));simp only [World.size_alloc] at H5;have HQ:=zh H5;have HC:=zh hC;clear h H5 hC hv hw;go_enter func152,ntmps152;go_wp2_with fail;refine zM (HO.out _) fun w1 b1=> ?_;have H1:=HQ.out.below b1;generalize hj0:w.heap.size=j0 at*
 generalize j0+1=j1 at*
 generalize j1+1=j2 at*
 generalize j2+1=j3 at*
 generalize j3+1=j4 at*
 obtain ⟨d0,-,z0,-⟩:=H1.gX (k:=j0) (a:=b) zT;obtain ⟨d1,-,z1,-⟩:=H1.gN (k:=j1) (a:=u) zT;obtain ⟨d2,-,z2,-⟩:=H1.gW (k:=j2) (a:=v) zT;obtain ⟨d3,-,z3,-⟩:=H1.gL (k:=j3) (a:= .slice a m c) zT;obtain ⟨d4,-,z4,-⟩:=H1.gF (k:=j4) (a:= .func (.func F) rc cp) zT;have HH:=zh H1;clear H1 b1 HQ HO;go_wp2_with fail;refine zM (HC.out _ _ j3 j0 j1 j2 j4 (by intro l hl;simp [hl]) ⟨zT,zT,zT,zT,zT⟩ (HH.out.alloc (.cells #[.int .u32 sn,.bool o,.int .i64 n] 149))) fun w2 h2=> ?_;have H2:=zh h2;clear h2 HC HH d0 d1 d2 d3 d4;go_wp2;go_end0;exact ⟨rfl,H2.out⟩
end

def j8 (l:List (Int×Int)):List Value:=l.flatMap fun x=>[.int .i64 x.1,.int .u32 x.2]
theorem Qo (l:List (Int×Int)):(j8 l).length=2*l.length:=by
 induction l with
 | nil=>rfl
 | cons x l ih=>unfold j8 at ih ⊢;simp [ih];omega
theorem Jo:∀(l:List (Int×Int)) (i:Nat),(j8 l)[2*i]? =l[i]?.map (fun x=> .int .i64 x.1)/\(j8 l)[2*i+1]? =l[i]?.map (fun x=> .int .u32 x.2)
 | [],i=>by simp [j8]
 | x :: l,0=>by simp [j8]
 | x :: l,i+1=>by
  have h:=Jo l i;unfold j8 at h ⊢;rw [List.flatMap_cons,show 2*(i+1)+1=(2*i+1)+2 by omega,show 2*(i+1)=2*i+2 by omega];simpa using h
theorem Vj:∀(l:List (Int×Int)) (i:Nat) (x:Int×Int),((j8 l).set (2*i) (.int .i64 x.1)).set (2*i+1) (.int .u32 x.2)=j8 (l.set i x)
 | [],i,x=>by simp [j8]
 | y :: l,0,x=>by simp [j8]
 | y :: l,i+1,x=>by
  have h:=Vj l i x;unfold j8 at h ⊢;rw [List.set_cons_succ,List.flatMap_cons,List.flatMap_cons,<-h,show 2*(i+1)+1=(2*i+1)+2 by omega,show 2*(i+1)=2*i+2 by omega];simp
def yg (N:Nat) (l:List (Int×Int)):List (Int×Int):=l++List.replicate (N - l.length) (0,0)
theorem jar {N:Nat} {l:List (Int×Int)} (h:l.length<=N):(yg N l).length=N:=by simp [yg];omega
theorem jdj {N:Nat} {l:List (Int×Int)} (h:l.length < N) (x:Int×Int):(yg N l).set l.length x=yg N (l++[x]):=by
 unfold yg;rw [List.set_append_right _ _ (Nat.le_refl _),Nat.sub_self,show N - l.length=(N - (l++[x]).length)+1 by simp;omega,List.replicate_succ,List.set_cons_zero];simp
theorem jdc (N:Nat):madeCells (Value.agg #[.int .i64 0,.int .u32 0]).cells (N*2)=(j8 (yg N [])).toArray:=by
 apply Array.ext_getElem?;intro j;have e:(Value.agg #[.int .i64 0,.int .u32 0]).cells=#[.int .i64 0,.int .u32 0]:=rfl;rw [e];by_cases hj:j < N*2
 ·have h1:=Jo (yg N []) (j / 2);have h2:(yg N [])[j / 2]? =some (0,0):=by
   unfold yg;simp only [List.nil_append,List.length_nil,Nat.sub_zero];rw [List.getElem?_replicate,if_pos zo]
  rw [h2] at h1;have hm:(madeCells #[Value.int .i64 0,.int .u32 0] (N*2))[j]? =some ((#[Value.int .i64 0,.int .u32 0]:Array Value)[j % 2]!):=by
   unfold madeCells;simp [hj]
  rw [hm,List.getElem?_toArray];rcases Nat.mod_two_eq_zero_or_one j with h | h
  ·rw [h,show j=2*(j / 2) by omega,h1.1];rfl
  ·rw [h,show j=2*(j / 2)+1 by omega,h1.2];rfl
 ·rw [Array.getElem?_eq_none (by rw [size_madeCells];omega),List.getElem?_toArray,List.getElem?_eq_none (by rw [Qo,jar zT];omega)]
section
variable {w0 w:World} {S:Nat->Prop} {b:Nat} {t p s:Int} {Ls:List (Nat×Obj)} {rest:Value} {st md pg:Int} {q:List Stp}
theorem Vh (h:QW w0 S b t p s Ls rest st md pg q w) {kx ku kn kl m c:Nat} {u v:Int} {a:Option Addr} {Ψ:Ending->World->Prop} (mx:(kx,oX b)∈Ls) (mu:(ku,oN u)∈Ls) (mn:(kn,oW v)∈Ls) (ml:(kl,oL (.slice a m c))∈Ls) {Φ:World->Prop}
 (hT:Calls prog 152 #[.pointer (some ⟨b,0,none⟩),.int .i64 u,.int .u64 v,.slice a m c,.func (.func 153) #[] #[pB kx]] w fun e w'=>e= .returned (.tuple #[])/\Φ w') :
 Calls prog 151 #[pB kx,pB ku,pB kn,pB kl] w fun e w'=>e= .returned (.tuple #[])/\Φ w':=by
 have c1:=(h.gX mx).1;have c2:=(h.gN mu).1;have c3:=(h.gW mn).1;have c4:=(h.gL ml).1;have HT:=zh hT;clear h mx mu mn ml hT;unfold pB at HT ⊢;go_enter func151,ntmps151;go_wp2_with fail;refine zM HT.out fun w1 h1=> ?_;have H1:=zh h1;clear h1;go_wp2;go_end0;exact ⟨rfl,H1.out⟩
theorem jcL (h:QW w0 S b t p s Ls rest st md pg q w) {kl ki g N:Nat} {v:Int} {l:List (Int×Int)} {x:Int×Int} (ml:(kl,oL (.slice (some ⟨g,0,none⟩) N N))∈Ls) (mi:(ki,oN (l.length:Int))∈Ls) (mg:(g,Obj.cells (j8 (yg N l)).toArray 106)∈Ls) (hl:l.length < N) (hN:N<=96) (hv:U64 v) (hx:qj v=some x)
 {Ls':List (Nat×Obj)} (hs:∀z∈Ls',z=(g,Obj.cells (j8 (yg N (l++[x]))).toArray 106)\/(z∈Ls/\z.1≠g)) :
 Calls prog 148 #[.int .u64 v,pB kl,pB ki] w fun e w'=>e= .returned (.tuple #[])/\QW w0 S b t p s Ls' rest st md pg q w':=by
 obtain ⟨xc,xv⟩:=x;have HO:=zh (fun w=>jc9 v xc xv w hv hx);have HQ:=zh h;have c1:=(h.drew.gL ml).1;have c2:=(h.drew.gN mi).1;have hlen:=Qo (yg N l);rw [jar zo] at hlen;have hz:=Jo (yg N l) l.length;have hz2:(yg N l)[l.length]? =some (0,0):=by
  unfold yg;rw [List.getElem?_append_right (Nat.le_refl _),List.getElem?_replicate,if_pos zo]
 rw [hz2,Nat.mul_comm] at hz;have HS:=zh (fun (W:World) (hb:Below w.drew.heap.size w.drew W)=>And.intro ((h.drew.below hb).gL ml).1 (And.intro ((h.drew.below hb).gN mi).1 (And.intro (((h.drew.below hb).bx mg (l.length*2)).trans (List.getElem?_toArray.trans hz.1)) (And.intro ((h.drew.below hb).fz mg (l.length*2)) (And.intro (((h.drew.below hb).bx mg (l.length*2+1)).trans (List.getElem?_toArray.trans hz.2)) ((h.drew.below hb).fz mg (l.length*2+1)))))));have HF:Hid (∀W:World,Below w.drew.heap.size w.drew W->QW w0 S b t p s Ls' rest st md pg q ((W.setCell ⟨g,l.length*2,none⟩ (.int .i64 xc)).setCell ⟨g,l.length*2+1,none⟩ (.int .u32 xv))):=zh (fun W hb=>by
  have h1:=(h.drew.below hb).box (Ls':=(g,Obj.cells ((j8 (yg N l)).toArray.setIfInBounds (l.length*2) (.int .i64 xc)) 106) :: Ls.filter fun z=>z.1≠g) mg rfl (fun z hz=>by
   rcases List.mem_cons.1 hz with rfl | hz
   ·exact .inl rfl
   ·have:=List.mem_filter.1 hz;exact .inr ⟨this.1,by simpa using this.2⟩)
  refine h1.box List.mem_cons_self (cs':=(j8 (yg N (l++[(xc,xv)]))).toArray) ?_ fun z hz=> ?_
  ·have:=Vj (yg N l) l.length (xc,xv);rw [jdj hl] at this;rw [<-this,List.setIfInBounds_toArray,List.setIfInBounds_toArray,Nat.mul_comm]
  ·rcases hs z hz with rfl | ⟨hz1,hz2⟩
   ·exact .inl rfl
   ·exact .inr ⟨List.mem_cons_of_mem _ (List.mem_filter.2 ⟨hz1,by simpa using hz2⟩),hz2⟩)
 have hln:((l.length:Nat):Int) < N:=zo;have n1:kl≠g:=fun e=>by
  have a:=(h.ls _ ml).1;rw [e,(h.ls _ mg).1] at a;simp [oL] at a
 have n2:ki≠g:=fun e=>by
  have a:=(h.ls _ mi).1;rw [e,(h.ls _ mg).1] at a;simp [oN] at a
 clear h HQ ml mi mg hs hz hz2 hlen hx hv;generalize l.length=k at*
 unfold pB;go_enter func148,ntmps148;go_wp2_with fail;refine wHn2 (zQ c1) (zQ c2) fun hHeld=> ?_;refine wT 0 ?_;refine wY ?_;refine wR 3 fun K hK=> ?_;go_simp;refine zM (HO.out _) fun w1 b1=> ?_;obtain ⟨k1,k2,k3,k4,k5,k6⟩:=HS.out _ b1;refine wK hK (⟨k1,k2⟩) fun hHeld=> ?_;clear hK K;refine wY ?_;refine wR 8 fun K hK=> ?_;go_simp;refine wK hK (⟨(World.cell?_of_block ((jg n1).trans (jg n1))).trans k1,(World.cell?_of_block ((jg n2).trans (jg n2))).trans k2⟩) fun hHeld=> ?_;clear hK K;refine wD ?_;go_end0;exact ⟨rfl,HF.out _ b1⟩
end
end Go.Proofs.YtcnininelndjoaaGreat

