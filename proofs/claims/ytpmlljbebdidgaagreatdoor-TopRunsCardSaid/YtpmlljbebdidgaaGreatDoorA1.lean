/- Lemmas and walks for the claim: Ie, Wp, Wa, Wb, Wc, Wd, We, Wf, Wg, Wh, Wi, Wj, Wk, If, Ii, Ba, Fq, Ap, Ap2, Ap3, Ap4, Fa, Fb. -/
import Derived.Test.YtpmlljbebdidgaaGreatDoorA0
import Derived.Maps.AppendAt
import Derived.Deep.AppendLies
import Derived.Deep.LoopGhost
import Derived.Lib.Hide
import Derived.Deep.DeepCutAuto
import Derived.Deep.RegionHeld3
import Derived.Deep.DrawnRows
import Derived.BigRegion
import Derived.Deep.AppendSrc
import Derived.Deep.DeepAppendWide
import Derived.IntWalk
set_option linter.unusedSimpArgs false
set_option maxRecDepth 100000
set_option maxHeartbeats 1000000
namespace Go.Proofs.YtpmlljbebdidgaaGreatDoor
open Go.RowKit
theorem zas:(Tryz.prog.info? 3).map (fun i=>(i.zero,i.size,i.bytes))=some (some (.int .i64 0),1,8):=by kernel_rfl
section
variable {P:Program} (w:World)
theorem zf2(base:Nat)(t ty e:TypeId)(i:TypeInfo)(z:Value)(size bytes:Nat)(ht:P.underlying t=some (.slice e))(hi:P.info? e=some i)(hz:i.zero=some z)
  (hsize:i.size=size) (hby:i.bytes=bytes) (hzs:z.cells.size=size) (hsz:0<size)
  (v:Value) (n:Nat) (xs:List Value) (hown:w.ownsRow base e size v n xs) (B:Nat) (A:Option Addr) (m c:Nat) (news:List Value) (hl:news.length=m*size) (hr:Rd w B A news)
  (h1:∀u∈news,u.oneCell'=true) (h63:n+m≤maxLen) (hbytes:(n+m)*bytes≤140737488355328) (hbase:base≤w.heap.size):
  ∃v' w',(Builtin.append_ #[t,t] ty #[v, .slice A m c]).run P w= .ok v' w'∧w'.ownsRow base e size v' (n+m) (xs++news)∧w.grownBy w' v.ownBlock∧
   (v'.ownBlock=v.ownBlock∨v'.ownBlock=some w.heap.size):=by
 have some_:∀ad,A=some ad→(∀j u,news[j]?=some u→w.cell? (ad.add j)=some u)→∃v' w',(Builtin.append_ #[t,t] ty #[v, .slice A m c]).run P w= .ok v' w'∧w'.ownsRow base e size v' (n+m) (xs++news)∧w.grownBy w' v.ownBlock∧
   (v'.ownBlock=v.ownBlock∨v'.ownBlock=some w.heap.size):=by
  intro ad ha hc;subst ha;obtain⟨v',w',g1,g2,g3,_,g5⟩:=run_append_own_at (P:=P) w base t ty e i z size bytes ht hi hz hsize hby hzs hsz v n xs hown ad m c news hl hc h1 h63 hbytes hbase;exact⟨v',w',g1,g2,g3,g5⟩
 rcases hr with hr|⟨b,off,ha,_,hc⟩
 ·subst hr;have hm:m=0:=by
   rcases Nat.eq_zero_or_pos m with h0|h0
   ·exact h0
   ·have:=zbw h0 hsz;simp only[zaD]at hl;omega
  subst hm;cases A with
  |some ad=>exact some_ ad rfl (fun j u hu=>by simp at hu)
  |none=>
   refine⟨v,w,?_,by simpa using hown,World.grownBy.refl w _, .inl rfl⟩
   rcases hown.2 with⟨rfl,rfl⟩|⟨g,cap,cur,rfl,_,_,hnc,_⟩
   ·simp[Builtin.append_,run_underlying ht,sizeOf,typeInfo,hi,Builtin.lenOf,Builtin.firstCells]
   ·simp[Builtin.append_,run_underlying ht,sizeOf,typeInfo,hi,Builtin.lenOf,Builtin.firstCells,hnc,storeCells]
 ·exact some_ _ ha (fun j u hu=>by rw[Addr.add_lit];exact hc j u hu)
theorem zR{ops:Array Oper}{rest:List Oper}{o:Oper}{a:Act}{Q:Exit→Act→World→Prop}(hgd:o.guard=none)(s x:Operand)(t:TypeId)
  (ho:o.op= .call {callee:= .builtin .append,args:=#[s,x],argTypes:=#[t,t]})
  (base:Nat) (e:TypeId) (i:TypeInfo) (z:Value) (size bytes:Nat) (ht:P.underlying t=some (.slice e)) (hi:P.info? e=some i) (hz:i.zero=some z)
  (hsize:i.size=size) (hby:i.bytes=bytes) (hzs:z.cells.size=size) (hsz:0<size)
  (v:Value) (n:Nat) (xs:List Value) (hs:a.eval s=v) (hown:w.ownsRow base e size v n xs) (B:Nat) (A:Option Addr) (m c:Nat) (news:List Value) (hx:a.eval x= .slice A m c) (hl:news.length=m*size) (hr:Rd w B A news)
  (h1:∀u∈news,u.oneCell'=true) (h63:n+m≤maxLen) (hbytes:(n+m)*bytes≤140737488355328) (hbase:base≤w.heap.size)
  (h:∀v' w',w'.ownsRow base e size v' (n+m) (xs++news)→w.grownBy w' v.ownBlock→(v'.ownBlock=v.ownBlock∨v'.ownBlock=some w.heap.size)→wpList P ops Q rest (a.put o.dst v') w'):wpList P ops Q (o::rest) a w:=by
 refine wpList_plain hgd fun K hK=>?_
 obtain⟨v',w',hrun,h2,h3,h4⟩:=zf2 (P:=P) w base t o.type e i z size bytes ht hi hz hsize hby hzs hsz v n xs hown B A m c news hl hr h1 h63 hbytes hbase;unfold Oper.wp execOp;simp only[ho,resolve,invoke,builtin,Sem.run_bind,Sem.run_pure,Result.andThen_ok,List.map_toArray,zcn,zdk,hs,hx,hrun];exact hK _ _ (h v' w' h2 h3 h4)
end
section
variable {P:Program} (w:World)
end
theorem zaA(xs:List Int):∀u∈cellsI xs,u.oneCell'=true:=by
 intro u hu;obtain⟨x,_,rfl⟩:=zY.1 hu
 rfl
theorem rd_of_own{w:World}{base:Nat}{e:TypeId}{size:Nat}{A:Option Addr}{n c:Nat}{xs:List Value}(h:w.ownsRow base e size (.slice A n c) n xs):Rd w w.heap.size A xs:=by
 rcases h.2 with⟨h',h0⟩|⟨g,cap,cur,hv,hb,hg,h1,h2,h3,h4⟩
 ·left;apply zaL;rw[h.1,h0];simp
 ·right
  injection hv with ha
  refine⟨g,0,ha,?_,?_⟩
  ·rcases zcf g w.heap.size with hlt|hge
   ·exact hlt
   ·rw[zbo hge]at hg;cases hg
  ·intro j u hu
   have:=h.cells (g:=g) (by rw[ha];rfl) j u hu
   rwa [Addr.add_lit]at this
theorem zH{w:World}{base:Nat}{e:TypeId}{size:Nat}{v:Value}{n:Nat}{xs:List Value}(h:w.ownsRow base e size v n xs):∃A c,v= .slice A n c∧n≤c:=by
 rcases h.2 with⟨h',h0⟩|⟨g,cap,cur,hv,hb,hg,h1,h2,h3,h4⟩
 ·exact⟨none,0,by rw[h',h0],by omega⟩
 ·exact⟨_,cap,hv,h1⟩
theorem Rd.below{w w':World}{B B':Nat}{A:Option Addr}{cs:List Value}(hr:Rd w B A cs)(hb:Below B' w w')(hB:B≤B'):Rd w' B A cs:=by
 rcases hr with hr|⟨b,off,ha,hlt,hc⟩
 ·exact .inl hr
 ·exact .inr ⟨b,off,ha,hlt,fun j u hu=>(hb.cell (p:=⟨b,off+j,none⟩) (by show b<B';omega)).trans (hc j u hu)⟩
theorem Rd.more{w:World}{B B':Nat}{A:Option Addr}{cs:List Value}(hr:Rd w B A cs)(hB:B≤B'):Rd w B' A cs:=by
 rcases hr with hr|⟨b,off,ha,hlt,hc⟩
 ·exact .inl hr
 ·exact .inr ⟨b,off,ha,by omega,hc⟩
theorem Tab.pos{w:World}(h:Tab w): 0 <w.heap.size:=zch w ⟨0,0,none⟩ (h 0 (by decide))
theorem Tab.below{w w':World}{B:Nat}(h:Tab w)(hb:Below B w w')(hB: 0 <B):Tab w':=fun j hj=>(hb.cell (p:=⟨0,j,none⟩) hB).trans (h j hj)
theorem Drawn.below{w w':World}(B:Nat)(h:Drawn w w'):Below B w w':=by obtain⟨d,rfl⟩:=h;exact⟨rfl,rfl,rfl,zF _,fun _ _=>rfl⟩
theorem znN(xs:List Int)(A:Option Addr)(n c B:Nat)(w:World)(hn:xs.length=n)(hr:Rd w B A (cellsI xs))(hl:n*8≤140737488351232):
  Calls Tryz.prog 40 #[.slice A n c] w fun e w'=>∃A' c',e= .returned (.slice A' n c')∧n≤c'∧Rd w' w'.heap.size A' (cellsI xs)∧w'.ownsRow w.heap.size 3 1 (.slice A' n c') n (cellsI xs)∧Below w.heap.size w w':=by
 obtain⟨i,hi,hz0,hz1,hz2⟩:=info_parts zas;have hcl:=cellsI_length xs
 go_enter Tryz.func40, Tryz.ntmps40
 go_wp2_with (at_builtin;refine zR _ rfl _ _ 36 rfl w.heap.size 3 i (.int .i64 0) 1 8 Tryz.underlying36 hi hz0 hz1 hz2 rfl (by decide) _ 0 [] rfl (zr _ _ _ _) B A n c (cellsI xs) rfl (by rw[hcl,hn];omega) hr (zaA xs) (by unfold maxLen;omega) (by omega) lR_ ?_)
 intro v' w1 hown hg hat;obtain⟨A',c',hv,hc'⟩:=zH hown;subst hv;have hb:Below w.heap.size w w1:=(zm _ _).grown hg lR_ (fun k hk=>by simp[Value.ownBlock]at hk)
 go_wp2
 go_ret;exact⟨A',c',rfl,hc',rd_of_own hown,hown,hb⟩
end Go.Proofs.YtpmlljbebdidgaaGreatDoor
namespace Go.Proofs.YtpmlljbebdidgaaGreatDoor
def val:List Int→Int
 |[]=>0
 |d::ds=>d+1073741824*val ds
def row(x c:Int):List Int→List Int→List Int
 |[],_=>[]
 |o::os,[]=>(o+c)::os
 |o::os,y::bs=>(o+x*y+c)%1073741824::row x ((o+x*y+c)/1073741824) os bs
end Go.Proofs.YtpmlljbebdidgaaGreatDoor
namespace Go.Proofs.YtpmlljbebdidgaaGreatDoor
open Go.RowKit
theorem Rd.take{w:World}{B:Nat}{A:Option Addr}{xs:List Int}(h:Rd w B A (cellsI xs))(k:Nat):Rd w B A (cellsI (xs.take k)):=by
 rcases h with h|⟨b,off,ha,hb,hc⟩
 ·left
  have:xs=[]:=by simpa [cellsI]using h
  subst this;simp[cellsI]
 ·refine .inr ⟨b,off,ha,hb,fun j u hu=>hc j u ?_⟩
  have hj:=(zu.1 hu).1;simp only[cellsI_length,zaH]at hj;rw[←hu];simp[cellsI,show j<k by omega]
def Blk(w:World)(g:Nat)(t:TypeId)(cs:Array Value):Prop:=w.heap[g]?=some (.cells cs t (0,0))
theorem Blk.lt{w:World}{g:Nat}{t:TypeId}{cs:Array Value}(h:Blk w g t cs):g<w.heap.size:=by
 rcases zcf g w.heap.size with hlt|hge
 ·exact hlt
 ·unfold Blk at h;rw[zbo hge]at h;cases h
theorem Blk.cell{w:World}{g:Nat}{t:TypeId}{cs:Array Value}(h:Blk w g t cs)(i:Nat):w.cell? ⟨g,i,none⟩=cs[i]?:=cell_of_row w g i cs t (0,0) h
theorem Blk.cellL{w:World}{g:Nat}{t:TypeId}{cs:Array Value}(h:Blk w g t cs)(i:Nat){u:Value}(hu:cs[i]?=some u):w.cell? ⟨g,i,none⟩=some u:=(h.cell i).trans hu
theorem Blk.frozen{w:World}{g:Nat}{t:TypeId}{cs:Array Value}(h:Blk w g t cs)(i:Nat):w.frozen? ⟨g,i,none⟩=false:=by
 unfold Blk at h;simp[World.frozen?,h]
theorem Blk.grown{w w':World}{g:Nat}{t:TypeId}{cs:Array Value}{row:Option Nat}(h:Blk w g t cs)(hg:w.grownBy w' row)(hne:some g≠row):Blk w' g t cs:=(hg.block g h.lt hne).trans h
theorem Blk.alloc{w:World}{g:Nat}{t:TypeId}{cs:Array Value}(h:Blk w g t cs)(o:Obj):Blk (w.alloc o) g t cs:=(Below.heap_alloc w o g h.lt).trans h
theorem Blk.set{w:World}{g:Nat}{t:TypeId}{cs:Array Value}(h:Blk w g t cs)(i:Nat)(u:Value):Blk (w.setCell ⟨g,i,none⟩ u) g t (cs.setIfInBounds i u):=by
 unfold Blk at h⊢;simp[World.setCell,Array.getElem?_modify,h]
theorem Blk.new(w:World)(b:Nat)(hb:b=w.heap.size)(t:TypeId)(cs:Array Value):Blk (w.alloc (.cells cs t)) b t cs:=by subst hb;exact heap_alloc_new w _
theorem bN_{w:World}{n:Nat}{t:TypeId}{cs:Array Value}(_:Below n w (w.alloc (.cells cs t))):Blk (w.alloc (.cells cs t)) w.heap.size t cs:=Blk.new w _ rfl t cs
theorem Blk.far{w:World}{g:Nat}{t:TypeId}{cs:Array Value}(h:Blk w g t cs){p:Addr}(hp:g≠p.block)(u:Value):Blk (w.setCell p u) g t cs:=(zaa w p u g hp).trans h
theorem own_ne{w:World}{base g:Nat}{e t:TypeId}{size n:Nat}{v:Value}{xs:List Value}{cs:Array Value}(h:w.ownsRow base e size v n xs)(hg:Blk w g t cs)(hne:e≠t):some g≠v.ownBlock:=by
 rcases h.2 with⟨rfl,_⟩|⟨g',cap,cur,rfl,_,hh,_⟩
 ·simp[Value.ownBlock]
 ·intro he;have:g=g':=by simpa [Value.ownBlock]using he
  subst this;unfold Blk at hg;rw[hh]at hg;injection hg with hg;injection hg with _ ht;exact hne ht
theorem zap{w:World}{base g:Nat}{e t:TypeId}{size n:Nat}{v:Value}{xs:List Value}{cs:Array Value}(h:w.ownsRow base e size v n xs)(hg:Blk w g t cs)(hne:e≠t)(j:Nat)(u:Value):(w.setCell ⟨g,j,none⟩ u).ownsRow base e size v n xs:=by
 refine h.kept (row:=some g) ⟨rfl,rfl,rfl,by simp,fun k _ hk=>zaa w _ u k (fun he=>hk (by rw[he]))⟩ (.inr (own_ne h hg hne).symm)
attribute [local go_sem↓] Go.wp_at_zero Go.wp_at_succ
def New(w:World)(v:Value):Prop:=∀s A n c ad,v= .agg #[.bool s, .slice A n c]→A=some ad→w.heap.size≤ad.block
attribute [local go_sem↓] Go.wp_at_zero Go.wp_at_succ
theorem zcz{B:Nat}{a w:World}(h:Below B a w)(n:Nat):Below B a (w.drewN n):=⟨h.os,h.tape,h.output,h.size,h.block⟩
theorem Blk.kept{w w':World}{g:Nat}{t:TypeId}{cs:Array Value}(h:Blk w g t cs)(hb:Below w.heap.size w w'):Blk w' g t cs:=(hb.block g h.lt).trans h
attribute [local go_sem↓] Go.wp_at_zero Go.wp_at_succ
attribute [local go_sem↓] Go.wp_at_zero Go.wp_at_succ
attribute [local go_sem↓] Go.wp_at_zero Go.wp_at_succ
theorem zd7(l:List Int)(j:Nat)(u:Int):(cellsI l).set j (.int .i64 u)=cellsI (l.set j u):=by simp[cellsI,zbn]
theorem zdR(n:Nat):(madeCells (Value.int .i64 0).cells (n*1)).toList=cellsI (List.replicate n 0):=by
 simp only[madeCells,Value.cells,cellsI];apply zbb
 ·simp
 ·intro j h1 h2;simp[zc4]
attribute [local go_sem↓] Go.wp_at_zero Go.wp_at_succ
attribute [local go_sem↓] Go.wp_at_zero Go.wp_at_succ
theorem Below.drewN{B:Nat}{a w:World}(h:Below B a w)(n:Nat):Below B a (w.drewN n):=⟨h.os,h.tape,h.output,h.size,h.block⟩
theorem Tab.alloc{w:World}(h:Tab w)(o:Obj):Tab (w.alloc o):=h.below ((zm _ _).alloc lR_ o) h.pos
theorem zal(w:World)(b:Nat)(hb:b=w.heap.size)(T:TypeId)(cs:List Value):Rd (w.alloc (.cells cs.toArray T)) (b+1) (some ⟨b,0,none⟩) cs:=by
 subst hb;refine .inr ⟨w.heap.size,0,rfl,by omega,fun j u hu=>?_⟩
 rw[zaq,cell_of_row _ _ _ cs.toArray T (0,0) (heap_alloc_new w _)]
 simpa using hu
theorem own_below{w w':World}{base:Nat}{e:TypeId}{size n:Nat}{v:Value}{xs:List Value}(h:w.ownsRow base e size v n xs)(hb:Below w.heap.size w w'):w'.ownsRow base e size v n xs:=by
 refine h.kept (row:=none) ⟨hb.os,hb.tape,hb.output,hb.size,fun k hk _=>hb.block k hk⟩ ?_
 cases v.ownBlock<;>simp
theorem own_ge{w:World}{base:Nat}{e:TypeId}{size n k:Nat}{v:Value}{xs:List Value}(h:w.ownsRow base e size v n xs)(hk:v.ownBlock=some k):base≤k:=by
 rcases h.2 with⟨rfl,_⟩|⟨g,cap,cur,rfl,hg,_⟩
 ·simp[Value.ownBlock]at hk
 ·simp[Value.ownBlock]at hk;omega
def ownsQ(w:World)(base:Nat)(e:TypeId)(v:Value)(n:Nat)(xs:List Value):Prop:=
 xs.length=n∧∃g off cap cur,v= .slice (some ⟨g,off,none⟩) n cap∧base≤g∧w.heap[g]?=some (.cells cur e (0,0))∧n≤cap∧cap≤maxLen∧off+cap≤cur.size∧(cur.toList.drop off).take n=xs
theorem ownsQ.lt{w:World}{base n:Nat}{e:TypeId}{v:Value}{xs:List Value}(h:ownsQ w base e v n xs):∀k,v.ownBlock=some k→base≤k∧k<w.heap.size:=by
 obtain⟨_,g,off,cap,cur,rfl,hb,hg,_⟩:=h;intro k hk;simp[Value.ownBlock]at hk;subst hk;exact⟨hb,(zQ.1 hg).1⟩
theorem ownsQ.kept{w w':World}{base n:Nat}{e:TypeId}{v:Value}{xs:List Value}{row:Option Nat}(h:ownsQ w base e v n xs)(hg:w.grownBy w' row)(hne:v.ownBlock≠row):ownsQ w' base e v n xs:=by
 obtain⟨h1,g,off,cap,cur,rfl,hb,hgg,rest⟩:=h;refine⟨h1,g,off,cap,cur,rfl,hb,?_,rest⟩;rw[hg.block g (zQ.1 hgg).1 (by simpa [Value.ownBlock]using hne)]
 exact hgg
theorem ownsQ.alloc{w:World}{base n:Nat}{e:TypeId}{v:Value}{xs:List Value}(h:ownsQ w base e v n xs)(o:Obj):ownsQ (w.alloc o) base e v n xs:=by
 refine h.kept (World.grownBy_alloc w o none) ?_;obtain⟨_,g,off,cap,cur,rfl,_⟩:=h;simp[Value.ownBlock]
theorem ownsQ.far{w:World}{base n:Nat}{e:TypeId}{v:Value}{xs:List Value}(h:ownsQ w base e v n xs){p:Addr}(hp:v.ownBlock≠some p.block)(u:Value):ownsQ (w.setCell p u) base e v n xs:=
 h.kept (row:=some p.block) ⟨rfl,rfl,rfl,by simp,fun k _ hk=>zaa w p u k (fun he=>hk (by rw[he]))⟩ hp
theorem ownsQ.slice{w:World}{base n:Nat}{e:TypeId}{v:Value}{xs:List Value}(h:ownsQ w base e v n xs):∃g off cap,v= .slice (some ⟨g,off,none⟩) n cap∧base≤g∧g<w.heap.size∧n≤cap∧cap≤maxLen∧
  (∀j u,xs[j]?=some u→w.cell? ⟨g,off+j,none⟩=some u):=by
 obtain⟨h1,g,off,cap,cur,rfl,hb,hg,h2,h3,h4,h5⟩:=h;refine⟨g,off,cap,rfl,hb,(zQ.1 hg).1,h2,h3,?_⟩;intro j u hu;rw[cell_of_row w g (off+j) cur e (0,0) hg];rw[←h5,List.getElem?_take]at hu;split at hu
 ·rw[List.getElem?_drop]at hu
  simpa using hu
 ·cases hu
theorem ownsQ.tail{w:World}{base g off n cap:Nat}{e:TypeId}{x:Value}{xs:List Value}(h:ownsQ w base e (.slice (some ⟨g,off,none⟩) (n+1) cap) (n+1) (x::xs)):
  ownsQ w base e (.slice (some ⟨g,off+1,none⟩) n (cap-1)) n xs∧ownsQ w base e (.slice (some ⟨g,off,none⟩) 0 0) 0 []:=by
 obtain⟨h1,g',off',cap',cur,hv,hb,hg,h2,h3,h4,h5⟩:=h;injection hv with ha hn hc;injection ha with ha;injection ha with ha ho _;subst ha ho hc;refine⟨⟨by simpa using h1,g,off+1,cap-1,cur,rfl,hb,hg,by omega,by omega,by omega,?_⟩,⟨rfl,g,off,0,cur,rfl,hb,hg,zF _,zJ _,by omega,by simp⟩⟩
 have hlt:off<cur.toList.length:=by simp;omega
 rw[zah hlt,List.take_succ_cons]at h5;injection h5
theorem zjR{w:World}{g:Nat}{cur:Array Value}{e:TypeId}(hg:w.heap[g]?=some (.cells cur e (0,0)))(off:Nat)(u:Value):
  (w.setCell ⟨g,off,none⟩ u).heap[g]?=some (.cells (cur.setIfInBounds off u) e (0,0)):=by
 simp[World.setCell,Array.getElem?_modify,hg]
section
variable {P:Program} (w:World)
theorem ziQ(base:Nat)(t ty e:TypeId)(i:TypeInfo)(z:Value)(ht:P.underlying t=some (.slice e))(hi:P.info? e=some i)(hz:i.zero=some z)
  (hsize:i.size=1) (hby:i.bytes=8) (hzs:z.cells.size=1)
  (v:Value) (n:Nat) (xs:List Value) (hown:ownsQ w base e v n xs) (ad:Addr) (c:Nat) (x:Value) (hx:w.cell? ad=some x) (h1:x.oneCell'=true) (hn:n<1000000) (hbase:base≤w.heap.size):
  ∃v' w',(Builtin.append_ #[t,t] ty #[v, .slice (some ad) 1 c]).run P w= .ok v' w'∧ownsQ w' base e v' (n+1) (xs++[x])∧w.grownBy w' v.ownBlock∧(v'.ownBlock=v.ownBlock∨v'.ownBlock=some w.heap.size):=by
 have hown':=hown;obtain⟨hl,g,off,cap,cur,rfl,hb,hg,h2,h3,h4,h5⟩:=hown;have hsrc:∀j u,[x][j]?=some u→w.cell? (ad.add j)=some u:=by
  intro j u hu
  match j with
  |0=>simp at hu;subst hu;have:ad.add 0=ad:=by unfold Addr.add;split<;>simp_all
      rw[this];exact hx
  |j+1=>simp at hu
 have hs:Src P i.size t (.slice (some ad) 1 c) 1 [x] w:=Src.ofSlice w ht ad 1 c [x] (by simp[hsize]) hsrc (by simpa using h1)
 have hlt:=(zQ.1 hg).1;by_cases hroom:n+1≤cap
 ·have hr:=run_append_room_src w t t ty e i ht hi g off n cap (.slice (some ad) 1 c) 1 [x] hs hroom
   (by intro j hj;simp at hj;subst hj;rw[cell_of_row w g _ cur e (0,0) hg];simp[hsize];omega) (by intro j hj;simp[World.frozen?,hg])
  rw[hsize,zaY]at hr;have hset:w.setCells g (off+n) [x]=w.setCell ⟨g,off+n,none⟩ x:=by simp[World.setCells]
  rw[hset]at hr;refine⟨_,_,hr,⟨by simp[hl],g,off,cap,_,rfl,hb,zjR hg _ _,hroom,h3,by simp;omega,?_⟩,⟨rfl,rfl,rfl,by simp,fun k _ hk=>zaa w _ x k (fun he=>hk (by rw[he];rfl))⟩, .inl rfl⟩
  rw[Array.toList_setIfInBounds,List.drop_set,if_neg (by omega),show off+n-off=n by omega]
  have hlen:n<(cur.toList.drop off).length:=by simp;omega
  rw[List.take_succ_eq_append_getElem (by simpa using hlen),List.getElem_set_self,List.take_set_of_le (by omega),h5]
 ·have hcap:cap=n:=by omega
  subst hcap;have hcells:=hown'.slice;obtain⟨g',off',cap',hv,_,_,_,_,hc⟩:=hcells;injection hv with ha _ _;injection ha with ha;injection ha with ha ho _;subst ha ho;have hold:(Builtin.firstCells i.size cap (.slice (some ⟨g,off,none⟩) cap cap)).run P w.drew= .ok xs.toArray w.drew:=
   run_firstCells_some w.drew i.size cap _ cap cap xs (by rw[hl,hsize];omega) (fun j u hu=>by rw[Addr.add_lit];exact hc j u hu)
  have hfit:Builtin.nextslicecap (cap+1) cap*i.bytes≤281474976710656:=by rw[hby];exact growslice_fits (by omega) (by omega)
  have hr:=run_append_grow_src w t t ty e i z ht hi hz (some ⟨g,off,none⟩) cap cap xs hold (.slice (some ad) 1 c) 1 [x] hs (by omega) (by omega) hfit
  have hge:=grownCap_ge w (cap+1) cap e;have hle:=grownCap_le_maxLen w (cap+1) cap e (by unfold maxLen;omega)
  refine⟨_,_,hr,⟨by simp[hl],w.heap.size,0,_,_,rfl,hbase,heap_alloc_new w.drew _,hge,hle,?_,?_⟩,⟨rfl,rfl,rfl,by simp,fun k hk _=>Below.heap_alloc w.drew _ k hk⟩, .inr rfl⟩
  ·simp[size_zeroCells,hzs,hl];omega
  ·rw[List.drop_zero,Array.toList_append];have:(xs++[x]).toArray.toList.length=cap+1:=by simp[hl]
   rw[←this,List.take_left]
theorem zg9{ops:Array Oper}{rest:List Oper}{o:Oper}{a:Act}{Q:Exit→Act→World→Prop}(hgd:o.guard=none)(s y:Operand)(t:TypeId)
  (ho:o.op= .call {callee:= .builtin .append,args:=#[s,y],argTypes:=#[t,t]})
  (base:Nat) (e:TypeId) (i:TypeInfo) (z:Value) (ht:P.underlying t=some (.slice e)) (hi:P.info? e=some i) (hz:i.zero=some z)
  (hsize:i.size=1) (hby:i.bytes=8) (hzs:z.cells.size=1)
  (v:Value) (n:Nat) (xs:List Value) (hs:a.eval s=v) (hown:ownsQ w base e v n xs) (ad:Addr) (c:Nat) (x:Value) (hy:a.eval y= .slice (some ad) 1 c) (hx:w.cell? ad=some x) (h1:x.oneCell'=true) (hn:n<1000000) (hbase:base≤w.heap.size)
  (h:∀v' w',ownsQ w' base e v' (n+1) (xs++[x])→w.grownBy w' v.ownBlock→(v'.ownBlock=v.ownBlock∨v'.ownBlock=some w.heap.size)→wpList P ops Q rest (a.put o.dst v') w'):wpList P ops Q (o::rest) a w:=by
 refine wpList_plain hgd fun K hK=>?_
 obtain⟨v',w',hrun,h2,h3,h4⟩:=ziQ (P:=P) w base t o.type e i z ht hi hz hsize hby hzs v n xs hown ad c x hx h1 hn hbase;unfold Oper.wp execOp;simp only[ho,resolve,invoke,builtin,Sem.run_bind,Sem.run_pure,Result.andThen_ok,List.map_toArray,zcn,zdk,hs,hy,hrun];exact hK _ _ (h v' w' h2 h3 h4)
end
def zoo(w:World)(base:Nat)(e:TypeId)(v:Value)(n:Nat)(xs:List Value):Prop:=(v= .slice none 0 0∧n=0∧xs=[])∨ownsQ w base e v n xs
theorem zoo.slice{w:World}{base n:Nat}{e:TypeId}{v:Value}{xs:List Value}(h:zoo w base e v n xs):∃A c,v= .slice A n c∧(∀j u,xs[j]?=some u→∃g off,A=some ⟨g,off,none⟩∧w.cell? ⟨g,off+j,none⟩=some u):=by
 rcases h with⟨rfl,rfl,rfl⟩|h
 ·exact⟨none,0,rfl,fun j u hu=>by simp at hu⟩
 ·obtain⟨g,off,cap,rfl,_,_,_,_,hc⟩:=h.slice;exact⟨_,cap,rfl,fun j u hu=>⟨g,off,rfl,hc j u hu⟩⟩
section
variable {P:Program} (w:World)
end
def upd{α:Type}(f:Nat→α)(i:Nat)(v:α):Nat→α:=fun j=>if j=i then v else f j
theorem zaW{α:Type}(f:Nat→α)(i:Nat)(v:α):upd f i v i=v:=if_pos rfl
theorem zaI{α:Type}{f:Nat→α}{i j:Nat}{v:α}(h:j≠i):upd f i v j=f j:=if_neg h
theorem zoA{α:Type}(f:Nat→α)(m i:Nat)(v:α):(List.range m).map (upd f i v)=((List.range m).map f).set i v:=by
 apply zaf
 intro j;by_cases hji:i=j
 ·subst hji;by_cases hjm:i<m
  ·rw[zat (by simpa using hjm)]
   simp[hjm,zaW]
  ·simp[hjm]
 ·rw[zaM hji];simp only[zp];by_cases hjm:j<m
  ·simp[hjm,zaI (fun h=>hji h.symm)]
  ·simp[hjm]
theorem zcP(l:List Int)(j:Nat)(u:Int):(cellsI l).set j (.int .i64 u)=cellsI (l.set j u):=by simp[cellsI,zbn]
def blkOf:Option Addr→Option Nat
 |some a=>some a.block
 |none=>none
theorem ownBlock_slice(A:Option Addr)(n c:Nat):(Value.slice A n c).ownBlock=blkOf A:=by cases A<;>rfl
theorem zbi{w:World}{base:Nat}{e:TypeId}{size n c:Nat}{A:Option Addr}{xs:List Value}(h:w.ownsRow base e size (.slice A n c) n xs)(hn:0<n):∃g,A=some ⟨g,0,none⟩:=by
 rcases h.2 with⟨h',h0⟩|⟨g,cap,cur,hv,_⟩
 ·omega
 ·injection hv with ha;exact⟨g,ha⟩
theorem zd1:(Tryz.prog.info? 36).map (fun i=>(i.zero,i.size,i.bytes))=some (some (.slice none 0 0),1,24):=by kernel_rfl
theorem zkw(m:Nat):(madeCells #[Value.slice none 0 0] m).toList=(List.range m).map fun _=>Value.slice none 0 0:=by
 apply zbb
 ·simp[madeCells]
 ·intro j h1 h2;simp[madeCells,zc4]
structure ArcV where
 f:Int
 t:Int
 g:Int
 k:Int
 s:Int
def ArcV.cells(a:ArcV):List Value:=[.int .i64 a.f, .int .i64 a.t, .int .i64 a.g, .int .i64 a.k, .int .i64 a.s]
def ArcV.fit(a:ArcV):Prop:=fits a.f∧fits a.t∧fits a.g∧fits a.k∧fits a.s
def cellsA(ars:List ArcV):List Value:=ars.flatMap ArcV.cells
theorem zgF(a:ArcV)(ars:List ArcV):cellsA (a::ars)=a.cells++cellsA ars:=rfl
theorem zf0(ars:List ArcV):(cellsA ars).length=ars.length*5:=by
 induction ars with
 |nil=>rfl
 |cons a ars ih=>rw[zgF,zx,ih,zaG];simp[ArcV.cells];omega
theorem zl1(ars:List ArcV):∀(k:Nat) (a:ArcV),ars[k]?=some a→∀j u,a.cells[j]?=some u→(cellsA ars)[k*5+j]?=some u:=by
 induction ars with
 |nil=>intro k a h;simp at h
 |cons b ars ih=>
  intro k a h j u hu;rw[zgF]
  match k,h with
  |0,h=>
   simp at h
   subst h;have hj:j<b.cells.length:=(zu.1 hu).1;rw[zbA,zaq,zar hj];exact hu
  |k+1,h=>
   rw[zO (by simp[ArcV.cells];omega)]
   have e:(k+1)*5+j-b.cells.length=k*5+j:=by simp[ArcV.cells];omega
   rw[e];exact ih k a (by simpa using h) j u hu
theorem Rd.arc{w:World}{B:Nat}{A:Option Addr}{ars:List ArcV}{k:Nat}(h:Rd w B A (cellsA ars))(hx:∀a∈ars,a.fit)(hk:k<ars.length):
  ∃b off a,A=some ⟨b,off,none⟩∧b<B∧a.fit∧w.cell? ⟨b,off+k*5,none⟩=some (.int .i64 a.f)∧w.cell? ⟨b,off+k*5+1,none⟩=some (.int .i64 a.t)∧w.cell? ⟨b,off+k*5+2,none⟩=some (.int .i64 a.g)∧
   w.cell? ⟨b,off+k*5+3,none⟩=some (.int .i64 a.k)∧w.cell? ⟨b,off+k*5+4,none⟩=some (.int .i64 a.s)∧Hid (ars.drop k=a::ars.drop (k+1))∧Hid (ars[k]?=some a):=by
 rcases h with h|⟨b,off,ha,hb,hc⟩
 ·have:=zf0 ars;rw[h]at this;simp at this;omega
 ·have hg:ars[k]?=some ars[k]:=zk hk
  have at_:∀j u,ars[k].cells[j]?=some u→w.cell? ⟨b,off+(k*5+j),none⟩=some u:=fun j u hu'=>hc (k*5+j) u (zl1 ars k ars[k] hg j u hu')
  refine⟨b,off,ars[k],ha,hb,hx _ (zaF _),?_,?_,?_,?_,?_,zah hk,hg⟩
  ·have:=at_ 0 _ rfl;simpa [za4]using this
  ·have:=at_ 1 _ rfl;simpa [za4]using this
  ·have:=at_ 2 _ rfl;simpa [za4]using this
  ·have:=at_ 3 _ rfl;simpa [za4]using this
  ·have:=at_ 4 _ rfl;simpa [za4]using this
def arcF(n:Int)(a:ArcV):Int:=
 if a.f<0∨a.t<0∨n≤a.f∨n≤a.t then 100 else if a.g<1∨a.k<1∨64<a.g∨64<a.k then 101 else if a.s<0∨256<a.s then 88 else 0
def arcsF(n:Int):List ArcV→Int
 |[]=>0
 |a::ars=>if arcF n a=0 then arcsF n ars else arcF n a
def checkF(n:Int)(ars:List ArcV):Int:=if n<1∨32<n then 100 else if 96<ars.length then 81 else arcsF n ars
theorem zeu(n:Int)(ars:List ArcV)(A:Option Addr)(l c:Nat)(w:World)(hl:ars.length=l)(hx:∀a∈ars,a.fit)(hr:Rd w w.heap.size A (cellsA ars))(hm:l≤maxLen):
  Calls Tryz.prog 34 #[.agg #[.int .i64 n, .slice A l c]] w fun e w'=>e= .returned (.int .i64 (checkF n ars))∧Below w.heap.size w w':=by
 subst hl;unfold maxLen at hm;have b0:∀o,Below w.heap.size w (w.alloc o):=fun o=>(zm _ _).alloc lR_ o
 by_cases h1:n<1
 ·have e:checkF n ars=100:=if_pos (.inl h1)
  rw[e]
  go_enter Tryz.func34, Tryz.ntmps34
  go_wp2
  go_ret;exact⟨rfl,b0 _⟩
 by_cases h2:32<n
 ·have e:checkF n ars=100:=if_pos (.inr h2)
  rw[e]
  go_enter Tryz.func34, Tryz.ntmps34
  go_wp2
  go_ret;exact⟨rfl,b0 _⟩
 by_cases h3:96<ars.length
 ·have e:checkF n ars=81:=by unfold checkF;rw[if_neg (by omega),if_pos h3]
  rw[e]
  go_enter Tryz.func34, Tryz.ntmps34
  go_wp2
  go_ret;exact⟨rfl,b0 _⟩
 have e:checkF n ars=arcsF n ars:=by unfold checkF;rw[if_neg (by omega),if_neg h3]
 rw[e];clear e
 go_enter Tryz.func34, Tryz.ntmps34
 go_wp2
 go_loopw [20] (fun i wr=>∃k:Nat,k≤ars.length∧i= .int .i64 k∧Below w.heap.size w wr∧Blk wr w.heap.size 30 #[.int .i64 n, .slice A ars.length c]∧Hid (arcsF n ars=arcsF n (ars.drop k))) (fun i _=>ars.length-(intOf i).toNat)
 case atStart=>exact⟨0,zJ _,rfl,b0 _,Blk.new w _ rfl _ _,rfl⟩
 case round=>
  obtain⟨k,hk,rfl,hb,kb,He⟩:=hrel;have k0:=kb.cell 0;have k1:=kb.cell 1;simp at k0 k1;by_cases hlt:k<ars.length
  ·obtain⟨b,off,a,rfl,hbl,hf,c0,c1,c2,c3,c4,hd,-⟩:=(hr.below hb lR_).arc hx hlt;have hlt0:=kb.lt;obtain⟨W1,hW1⟩:∃W1,wr.alloc (.cells #[.int .i64 a.f, .int .i64 a.t, .int .i64 a.g, .int .i64 a.k, .int .i64 a.s] 76)=W1:=⟨_,rfl⟩;have bn:Below w.heap.size w W1:=hW1▸hb.alloc hb.size _;have kn:Blk W1 w.heap.size 30 #[.int .i64 n, .slice (some ⟨b,off,none⟩) ars.length c]:=hW1▸kb.alloc _;have ka:Blk W1 wr.heap.size 76 #[.int .i64 a.f, .int .i64 a.t, .int .i64 a.g, .int .i64 a.k, .int .i64 a.s]:=hW1▸Blk.new wr _ rfl _ _;have n0:=kn.cell 0;have d0:=ka.cell 0;have d1:=ka.cell 1;have d2:=ka.cell 2;have d3:=ka.cell 3;have d4:=ka.cell 4;simp at n0 d0 d1 d2 d3 d4;obtain⟨p1,hp1⟩:∃p,decide (a.f<0∨a.t<0∨n≤a.f∨n≤a.t)=p:=⟨_,rfl⟩;obtain⟨p2,hp2⟩:∃p,decide (a.g<1∨a.k<1∨64<a.g∨64<a.k)=p:=⟨_,rfl⟩;obtain⟨p3,hp3⟩:∃p,decide (a.s<0∨256<a.s)=p:=⟨_,rfl⟩;have Hst:Hid (arcsF n ars=if p1=true then 100 else if p2=true then 101 else if p3=true then 88 else arcsF n (ars.drop (k+1))):=by
    unfold Hid;rw[He.out,hd.out,arcsF,arcF,←hp1,←hp2,←hp3];simp only[decide_eq_true_eq];split
    ·rfl
    ·split
     ·rfl
     ·split
      ·rfl
      ·rfl
   clear He hd kb k1 ka;have Hp1:=Lh hp1;have Hp2:=Lh hp2;have Hp3:=Lh hp3;clear hp1 hp2 hp3
   go_upto_region 8 with fail
   try rw[hW1]
   clear hW1 c0 c1 c2 c3 c4 k0
   go_cut [24] (fun s wx=>wx=W1∧s= .bool p1)
   case first=>
    go_wp2_with fail
    all_goals go_meet
    all_goals (refine⟨rfl,?_⟩;rw[←Hp1.out];first|(rw[decide_eq_true (by omega)];done)|(rw[decide_eq_false (by omega)];done)|(congr 1;rw[zav];simp only[zc9,decide_eq_true_eq]<;>omega))
   case rest=>
    obtain⟨rfl,rfl⟩:=hcut;clear Hp1;cases p1
    ·go_upto_region 10 with fail
     go_cut [41] (fun s wx=>wx=wc∧s= .bool p2)
     case first=>
      go_wp2_with fail
      all_goals go_meet
      all_goals (refine⟨rfl,?_⟩;rw[←Hp2.out];first|(rw[decide_eq_true (by omega)];done)|(rw[decide_eq_false (by omega)];done)|(congr 1;rw[zav];simp only[zc9,decide_eq_true_eq]<;>omega))
     case rest=>
      obtain⟨rfl,rfl⟩:=hcut;clear Hp2;cases p2
      ·go_upto_region 12 with fail
       go_cut [56] (fun s wx=>wx=wc∧s= .bool p3)
       case first=>
        go_wp2_with fail
        all_goals go_meet
        all_goals (refine⟨rfl,?_⟩;rw[←Hp3.out];first|(rw[decide_eq_true (by omega)];done)|(rw[decide_eq_false (by omega)];done)|(congr 1;rw[zav];simp only[zc9,decide_eq_true_eq]<;>omega))
       case rest=>
        obtain⟨rfl,rfl⟩:=hcut;clear Hp3;cases p3
        ·go_wp2
         go_roundw
         case rel=>exact⟨k+1,by omega,by go_num,bn,kn,Hst⟩
         case measure=>simp[intOf];omega
        ·go_wp2
         go_ret;exact⟨by rw[Hst.out];rfl,bn⟩
      ·go_wp2
       go_ret;exact⟨by rw[Hst.out];rfl,bn⟩
    ·go_wp2
     go_ret;exact⟨by rw[Hst.out];rfl,bn⟩
  ·have hd:ars.drop k=[]:=zS (by omega)
   have hst:arcsF n ars=0:=by rw[He.out,hd];rfl
   have Hst:=Lh hst;clear hst hd He
   go_wp2
   go_ret;exact⟨by rw[Hst.out];rfl,hb⟩
theorem Blk.below{w w':World}{g:Nat}{t:TypeId}{cs:Array Value}(h:Blk w g t cs){B:Nat}(hb:Below B w w')(hB:g<B):Blk w' g t cs:=(hb.block g hB).trans h
end Go.Proofs.YtpmlljbebdidgaaGreatDoor
