/- Lemmas and walks for the claim: Df, Dg, Dh, Di, Dj. -/
import Derived.Test.YtpmlljbebdidgaaGreatDoorA0
import Derived.Test.YtpmlljbebdidgaaGreatDoorA15
import Derived.OpenShut
set_option maxRecDepth 100000
set_option maxHeartbeats 1000000
namespace Go.Proofs.YtpmlljbebdidgaaGreatDoor
open Go.RowKit
theorem gift_one(w:World)(x:Int)(hx:fits x):
  GiftM ((w.alloc (.cells #[.int .i64 x] 3)).alloc (.cells #[.slice (some ⟨w.heap.size,0,none⟩) 1 1] 36)) w.heap.size (.slice (some ⟨w.heap.size+1,0,none⟩) 1 1) [⟨some ⟨w.heap.size,0,none⟩,1,[x]⟩]∧
  Below w.heap.size w ((w.alloc (.cells #[.int .i64 x] 3)).alloc (.cells #[.slice (some ⟨w.heap.size,0,none⟩) 1 1] 36)):=by
 have b1:=bA_ w (.cells #[.int .i64 x] 3);have z1:(w.alloc (.cells #[.int .i64 x] 3)).heap.size=w.heap.size+1:=by simp
 have r1:=rd_alloc w _ rfl 3 [Value.int .i64 x];generalize w.alloc (.cells #[.int .i64 x] 3)=w1 at*;have b2:=bA_ w1 (.cells #[.slice (some ⟨w.heap.size,0,none⟩) 1 1] 36);have o2:=own_new_Sl w1 _ rfl 36 [Value.slice (some ⟨w.heap.size,0,none⟩) 1 1] 1 rfl (by unfold maxLen;omega)
 have z2:(w1.alloc (.cells #[.slice (some ⟨w.heap.size,0,none⟩) 1 1] 36)).heap.size=w1.heap.size+1:=by simp
 have b12:=b1.trans (b2.mono (by omega))
 have r2:=r1.below b2 (by omega)
 rw[z1]at o2;refine⟨⟨World.ownsRow.mono o2 (by omega),fun r hr=>?_,fun r hr b hb=>?_,fun r hr b hb hq=>?_⟩,b12⟩
 ·simp only[List.mem_singleton]at hr;subst hr;exact⟨r2.more (by omega),fun y hy=>by simp only[List.mem_singleton]at hy;subst hy;exact hx,by simp,by simp⟩
 ·simp only[List.mem_singleton]at hr;subst hr;simp only[blkOf]at hb;injection hb with hb;omega
 ·simp only[List.mem_singleton]at hr;subst hr;simp only[blkOf]at hb;simp only[Value.ownBlock]at hq;injection hb with hb;injection hq with hq;omega
theorem down_any(b:Nat)(w:World)(H:Option Addr)(rows:List RowV)(k ch:Nat)(hI:InM w w.heap.size H rows)(hk:rows.length=k)(r:RowV)(h0:rows[0]?=some r)(x:Int)(hx:r.xs[0]?=some x):
  Calls Tryz.prog 137 #[.pointer (some ⟨b,0,none⟩), .slice H k ch] w fun e w'=>∃gv,e= .returned (.tuple #[gv, .bool true])∧∃outs:List RowV,GiftM w' w.heap.size gv outs∧outs.map (fun r=>(r.xs.length:Int))=[1]∧Below w.heap.size w w':=by
 obtain⟨b1,o1,r',rfl,_,hr',c0,hok⟩:=hI.at_ (i:=0) (List.getElem?_eq_some_iff.1 h0).1;obtain rfl:r=r':=Option.some.inj (h0.symm.trans hr');obtain⟨b2,o2,x',hA,_,hx',hxf,c1⟩:=hok.at_ (j:=0) (List.getElem?_eq_some_iff.1 hx).1;obtain rfl:x=x':=Option.some.inj (hx.symm.trans hx');have hk0:(0:Int)<(k:Int):=by have:=(List.getElem?_eq_some_iff.1 h0).1;omega
 have hl0:(0:Int)<(r.xs.length:Int):=by have:=(List.getElem?_eq_some_iff.1 hx).1;omega
 rw[hA]at c0;rw[Nat.add_zero]at c0 c1;have HG:=Lh (gift_one w x hxf);generalize r.xs.length=l at*;clear hI h0 hr' hok hx hx' hA
 go_enter Tryz.func137, Tryz.ntmps137
 go_wp2_with fail
 go_ret2;exact⟨_,rfl,_,HG.out.1,rfl,HG.out.2⟩
theorem drop_any(b:Nat)(w:World)(H:Option Addr)(k ch:Nat):
  Calls Tryz.prog 148 #[.pointer (some ⟨b,0,none⟩), .slice H k ch] w fun e w'=>e= .returned (.tuple #[.slice none 0 0, .bool true])∧w'=w:=by
 go_enter Tryz.func148, Tryz.ntmps148
 go_wp2_with fail
 go_ret2;exact⟨rfl,rfl⟩
end Go.Proofs.YtpmlljbebdidgaaGreatDoor
namespace Go.Proofs.YtpmlljbebdidgaaGreatDoor
open Go.RowKit Go.ChangeShapes
theorem wrap_fits(n:Int):fits (IntKind.i64.wrap n):=bounds_i64 (wf_wrap .i64 n)
theorem GiftM.mono{w:World}{z z':Nat}{gv:Value}{rows:List RowV}(h:GiftM w z gv rows)(hz:z'≤z):GiftM w z' gv rows:=⟨World.ownsRow.mono h.row hz,h.ok,fun r hr b hb=>Nat.le_trans hz (h.far r hr b hb),h.ap⟩
theorem InM.first{w:World}{B:Nat}{H:Option Addr}{rows:List RowV}(h:InM w B H rows){i:Nat}{r:RowV}(hr:rows[i]?=some r)(hl:0<r.xs.length):
  ∃b1 o1 b2 o2 x,H=some ⟨b1,o1,none⟩∧b1<B∧b2<B∧r.xs[0]?=some x∧fits x∧w.cell? ⟨b1,o1+i,none⟩=some (.slice (some ⟨b2,o2,none⟩) r.xs.length r.c)∧w.cell? ⟨b2,o2,none⟩=some (.int .i64 x)∧r.A=some ⟨b2,o2,none⟩:=by
 obtain⟨b1,o1,r',hH,hb1,hr',c0,hok⟩:=h.at_ (i:=i) (List.getElem?_eq_some_iff.1 hr).1;obtain rfl:r=r':=Option.some.inj (hr.symm.trans hr');obtain⟨b2,o2,x,hA,hb2,hx,hxf,c1⟩:=hok.at_ (j:=0) hl;rw[hA]at c0;rw[Nat.add_zero]at c1;exact⟨b1,o1,b2,o2,x,hH,hb1,hb2,hx,hxf,c0,c1,hA⟩
theorem quot_any(b:Nat)(w:World)(H:Option Addr)(rows:List RowV)(k ch:Nat)(hI:InM w w.heap.size H rows)(hk:rows.length=k)(r r':RowV)(h0:rows[0]?=some r)(h1:rows[1]?=some r')(hl:0<r.xs.length)(hl':0<r'.xs.length):
  Calls Tryz.prog 142 #[.pointer (some ⟨b,0,none⟩), .slice H k ch] w fun e w'=>∃gv ok,e= .returned (.tuple #[gv, .bool ok])∧(ok=true→∃outs:List RowV,GiftM w' w.heap.size gv outs∧outs.map (fun r=>(r.xs.length:Int))=[1])∧Below w.heap.size w w':=by
 obtain⟨b1,o1,b2,o2,x,rfl,hb1,hb2,-,hxf,c0,c1,-⟩:=hI.first h0 hl;obtain⟨b1',o1',b3,o3,y,hH,-,hb3,-,hyf,d0,d1,-⟩:=hI.first h1 hl';injection hH with hH;injection hH with e1 e2 _;rw[←e1,←e2]at d0;have hk0:(0:Int)<(k:Int):=by have:=(List.getElem?_eq_some_iff.1 h0).1;omega
 have hk1:(1:Int)<(k:Int):=by have:=(List.getElem?_eq_some_iff.1 h1).1;omega
 have hl0:(0:Int)<(r.xs.length:Int):=by omega
 have hl1:(0:Int)<(r'.xs.length:Int):=by omega
 generalize r.xs.length=l at*;generalize r'.xs.length=l' at*;rw[Nat.add_zero]at c0;clear hI h0 h1 e1 e2
 go_enter Tryz.func142, Tryz.ntmps142
 go_wp2_with fail
 go_quiet (fail)
 generalize hW2:World.drewN w _=w2;have d2:Drawn w w2:=by rw[←hW2];exact(Drawn.refl _).drewN _
 have hb:=d2.below w.heap.size;have hz:=d2.size;have Hb:=Lh hb;have Hz:=Lh hz;clear hW2 d2 hb hz c0 c1 d0 d1 hb1 hb2 hb3;by_cases hy:y=0
 ·subst hy
  go_wp2_with fail
  go_ret2;exact⟨_,false,rfl,fun h=>(by cases h),Hb.out⟩
 ·have q0:(y==0)=false:=by simpa using hy
  by_cases hm:y= -1
  ·subst hm
   go_wp2_with fail;refine(sub_any 0 x w2 (by unfold fits;omega) hxf).mono ?_
   rintro e w3 ⟨rfl,rfl⟩;obtain⟨z,hz⟩:∃z,okOf (0-x)=z:=⟨_,rfl⟩;obtain⟨o,ho⟩:∃z,okB (0-x)=z:=⟨_,rfl⟩;have hzf:fits z:=hz▸okOf_fits _;rw[hz,ho];have HG:=Lh (gift_one w2 z hzf);clear hz ho
   go_wp2_with fail
   go_ret2;exact⟨_,o,rfl,fun _=>⟨_,HG.out.1.mono (by have:=Hz.out;omega),rfl⟩,Hb.out.trans (HG.out.2.mono (by have:=Hz.out;omega))⟩
  ·have q1:(y== -1)=false:=by simpa using hm
   obtain⟨z,hz⟩:∃z,IntKind.i64.wrap (x.tdiv y)=z:=⟨_,rfl⟩;have hzf:fits z:=hz▸wrap_fits _;have HG:=Lh (gift_one w2 z hzf)
   go_wp2_with fail
   go_ret2;exact⟨_,true,rfl,fun _=>⟨_,HG.out.1.mono (by have:=Hz.out;omega),rfl⟩,Hb.out.trans (HG.out.2.mono (by have:=Hz.out;omega))⟩
theorem kSum_any(b:Nat)(T:TypeId)(v0 v1 v2:Value)(s:Int)(w:World)(kb:Blk w b T #[v0,v1,v2, .int .i64 s])(hs:fits s)(H:Option Addr)(rows:List RowV)(k ch:Nat)(hI:InM w w.heap.size H rows)(hk:rows.length=k)(r:RowV)(h0:rows[0]?=some r)(hl:0<r.xs.length):
  Calls Tryz.prog 145 #[.pointer (some ⟨b,0,none⟩), .slice H k ch] w fun e w'=>∃gv ok,e= .returned (.tuple #[gv, .bool ok])∧(∃s',fits s'∧Blk w' b T #[v0,v1,v2, .int .i64 s'])∧Only (fun k=>k=b) w w'∧(ok=true→∃outs:List RowV,GiftM w' w.heap.size gv outs∧outs.map (fun r=>(r.xs.length:Int))=[1]):=by
 obtain⟨b1,o1,b2,o2,x,rfl,hb1,hb2,-,hxf,c0,c1,-⟩:=hI.first h0 hl;have hk0:(0:Int)<(k:Int):=by have:=(List.getElem?_eq_some_iff.1 h0).1;omega
 have hl0:(0:Int)<(r.xs.length:Int):=by omega
 generalize r.xs.length=l at*;rw[Nat.add_zero]at c0;have hkn:0<k:=by omega
 have c3:=kb.cellL 3 rfl;have HK:=Lh kb;have hbw:=kb.lt;clear hI h0 kb
 go_enter Tryz.func145, Tryz.ntmps145
 go_wp2_with fail
 go_cut [6,7] (fun a6 a7 wx=>a6= .int .i64 (okOf (s+x))∧a7= .bool (okB (s+x))∧Drawn w wx)
 case first=>
  go_region_held3 (fun w'=>w'.cell? ⟨b,3,none⟩=some (.int .i64 s)∧w'.cell? ⟨b1,o1,none⟩=some (.slice (some ⟨b2,o2,none⟩) l r.c)∧w'.cell? ⟨b2,o2,none⟩=some (.int .i64 x)) (go_keep)
   (first|(go_at_call 134;refine(add_any s x _ hs hxf).mono ?_;rintro e' w4 ⟨rfl,rfl⟩;have q0:=c3;have q1:=c0;have q2:=c1))
  go_wp2
  go_meet;exact⟨rfl,rfl,(Drawn.refl w).drewN 1⟩
 case rest=>
  obtain⟨rfl,rfl,d⟩:=hcut;obtain⟨y,hy⟩:∃z,okOf (s+x)=z:=⟨_,rfl⟩;obtain⟨o,ho⟩:∃z,okB (s+x)=z:=⟨_,rfl⟩;have hyf:fits y:=hy▸okOf_fits _;rw[hy,ho];have k2:=HK.out.below (d.below w.heap.size) hbw;have Hz:=Lh d.size;have O2:Only (fun k=>k=b) w wc:=Only.of_below (d.below _)
  clear hy ho c0 c1 c3;cases o with
  |true=>
   have c3:=k2.cellL 3 rfl;have f3:=k2.frozen 3;have k3:=k2.set 3 (.int .i64 y);simp only[List.setIfInBounds_toArray,List.set_cons_zero,List.set_cons_succ]at k3;have O3:=O2.setCell ⟨b,3,none⟩ (.int .i64 y) (fun _=>rfl)
   have hz3:(wc.setCell ⟨b,3,none⟩ (.int .i64 y)).heap.size=wc.heap.size:=by simp
   have HG:=Lh (gift_one (wc.setCell ⟨b,3,none⟩ (.int .i64 y)) y hyf);rw[hz3]at HG;have HK3:=Lh k3;have HO3:=Lh O3;have Hz3:=Lh hz3;clear k2 k3 O2 O3 hz3 d
   go_wp2_with fail
   go_ret2;refine⟨_,true,rfl,⟨y,hyf,HK3.out.below HG.out.2 (by have:=HK3.out.lt;have:=Hz3.out;omega)⟩,HO3.out.trans ?_,fun _=>⟨_,HG.out.1.mono (by have:=Hz.out;omega),rfl⟩⟩
   have h2:=HG.out.2;exact⟨h2.os,h2.tape,h2.output,h2.size,fun k hk _=>h2.block k (by have:=Hz3.out;omega)⟩
  |false=>
   have HG:=Lh (gift_one wc y hyf);have HK2:=Lh k2;have HO2:=Lh O2;clear k2 O2 d
   go_wp2_with fail
   go_ret2;exact⟨_,false,rfl,⟨s,hs,HK2.out.below HG.out.2 HK2.out.lt⟩,HO2.out.trans (Only.of_below HG.out.2),fun h=>(by cases h)⟩
theorem kTick_any(b:Nat)(T:TypeId)(v0 v1 v2:Value)(s d:Int)(w:World)(kb:Blk w b T #[v0,v1,v2, .int .i64 s, .int .i64 d])(hs:fits s)(hd:fits d)(hv:Value):
  Calls Tryz.prog 147 #[.pointer (some ⟨b,0,none⟩),hv] w fun e w'=>∃gv ok,e= .returned (.tuple #[gv, .bool ok])∧(∃s',fits s'∧Blk w' b T #[v0,v1,v2, .int .i64 s', .int .i64 d])∧Only (fun k=>k=b) w w'∧(ok=true→∃outs:List RowV,GiftM w' w.heap.size gv outs∧outs.map (fun r=>(r.xs.length:Int))=[1]):=by
 have c3:=kb.cellL 3 rfl;have c4:=kb.cellL 4 rfl;have HK:=Lh kb;have hbw:=kb.lt;clear kb
 go_enter Tryz.func147, Tryz.ntmps147
 go_wp2_with fail
 go_cut [6,7] (fun a6 a7 wx=>a6= .int .i64 (okOf (s+d))∧a7= .bool (okB (s+d))∧Drawn w wx)
 case first=>
  go_region_held3 (fun w'=>w'.cell? ⟨b,3,none⟩=some (.int .i64 s)∧w'.cell? ⟨b,4,none⟩=some (.int .i64 d)) (go_keep)
   (first|(go_at_call 134;refine(add_any s d _ hs hd).mono ?_;rintro e' w4 ⟨rfl,rfl⟩;have q0:=c3;have q1:=c4))
  go_wp2
  go_meet;exact⟨rfl,rfl,(Drawn.refl w).drewN 1⟩
 case rest=>
  obtain⟨rfl,rfl,d2⟩:=hcut;obtain⟨y,hy⟩:∃z,okOf (s+d)=z:=⟨_,rfl⟩;obtain⟨o,ho⟩:∃z,okB (s+d)=z:=⟨_,rfl⟩;have hyf:fits y:=hy▸okOf_fits _;rw[hy,ho];have k2:=HK.out.below (d2.below w.heap.size) hbw;have Hz:=Lh d2.size;have O2:Only (fun k=>k=b) w wc:=Only.of_below (d2.below _)
  have c3:=k2.cellL 3 rfl;have f3:=k2.frozen 3;clear hy ho c4;cases o with
  |true=>
   have k3:=k2.set 3 (.int .i64 y);simp only[List.setIfInBounds_toArray,List.set_cons_zero,List.set_cons_succ]at k3;have O3:=O2.setCell ⟨b,3,none⟩ (.int .i64 y) (fun _=>rfl)
   have hz3:(wc.setCell ⟨b,3,none⟩ (.int .i64 y)).heap.size=wc.heap.size:=by simp
   have HG:=Lh (gift_one (wc.setCell ⟨b,3,none⟩ (.int .i64 y)) s hs);rw[hz3]at HG;have HK3:=Lh k3;have HO3:=Lh O3;have Hz3:=Lh hz3;clear k2 k3 O2 O3 hz3 d2
   go_wp2_with fail
   go_ret2;refine⟨_,true,rfl,⟨y,hyf,HK3.out.below HG.out.2 (by have:=HK3.out.lt;have:=Hz3.out;omega)⟩,HO3.out.trans ?_,fun _=>⟨_,HG.out.1.mono (by have:=Hz.out;omega),rfl⟩⟩
   have h2:=HG.out.2;exact⟨h2.os,h2.tape,h2.output,h2.size,fun k hk _=>h2.block k (by have:=Hz3.out;omega)⟩
  |false=>
   have HG:=Lh (gift_one wc s hs);have HK2:=Lh k2;have HO2:=Lh O2;clear k2 O2 d2
   go_wp2_with fail
   go_ret2;exact⟨_,false,rfl,⟨s,hs,HK2.out.below HG.out.2 HK2.out.lt⟩,HO2.out.trans (Only.of_below HG.out.2),fun h=>(by cases h)⟩
theorem rd_blk{w:World}{g:Nat}{t:TypeId}{cs:Array Value}(h:Blk w g t cs):Rd w w.heap.size (some ⟨g,0,none⟩) cs.toList:=
 .inr ⟨g,0,rfl,h.lt,fun j u hu=>by rw[Nat.zero_add,h.cell j,←hu];simp⟩
theorem own_blk{w:World}{g n z:Nat}{t:TypeId}{cs:List Value}(h:Blk w g t cs.toArray)(hl:cs.length=n)(hn:n≤maxLen)(hz:z≤g):w.ownsRow z t 1 (.slice (some ⟨g,0,none⟩) n n) n cs:=
 ⟨by omega, .inr ⟨g,n,cs.toArray,rfl,hz,h,Nat.le_refl _,hn,by simp[hl],List.take_of_length_le (by simp[hl])⟩⟩
theorem up_any(b n:Nat)(T:TypeId)(v0 v2:Value)(Ao:Option Addr)(co:Nat)(w:World)(kb:Blk w b T #[v0, .slice Ao 1 co,v2])(ho:Rd w w.heap.size Ao (cellsI [(n:Int)]))(hn:1≤n∧n≤64)(H:Option Addr)(rows:List RowV)(k ch:Nat)(hI:InM w w.heap.size H rows)(hk:rows.length=k)(r:RowV)(h0:rows[0]?=some r)(hl:0<r.xs.length):
  Calls Tryz.prog 136 #[.pointer (some ⟨b,0,none⟩), .slice H k ch] w fun e w'=>∃gv,e= .returned (.tuple #[gv, .bool true])∧∃outs:List RowV,GiftM w' w.heap.size gv outs∧outs.map (fun r=>(r.xs.length:Int))=[(n:Int)]∧Below w.heap.size w w':=by
 have hmk:=run_make_row' (P:= Tryz.prog) 36 3 (.int .i64 0) 8 Tryz.underlying36 info_int rfl .i64 .i64 n (by omega) (by omega)
 obtain⟨b1,o1,b2,o2,x,rfl,hb1,hb2,-,hxf,c0,c1,-⟩:=hI.first h0 hl;obtain⟨bo,oo,_,rfl,hbo,hc⟩:∃bo oo,True∧Ao=some ⟨bo,oo,none⟩∧bo<w.heap.size∧w.cell? ⟨bo,oo,none⟩=some (.int .i64 (n:Int)):=by
  rcases ho with h|⟨b,o,hA,hb,hc⟩
  ·cases h
  ·exact⟨b,o,trivial,hA,hb,hc 0 _ rfl⟩
 have hk0:(0:Int)<(k:Int):=by have:=(List.getElem?_eq_some_iff.1 h0).1;omega
 have hl0:(0:Int)<(r.xs.length:Int):=by omega
 have hn0:(0:Int)<(n:Int):=by omega
 generalize r.xs.length=l at*;rw[Nat.add_zero]at c0;have k1:=kb.cellL 1 rfl;have ba:=bA_ w (.cells (madeCells #[.int .i64 0] n) 3);have kr:=Blk.new w _ rfl 3 (madeCells #[.int .i64 0] n);have hz1:(w.alloc (.cells (madeCells #[.int .i64 0] n) 3)).heap.size=w.heap.size+1:=by simp
 have HC:=Lh c0;have HD:=Lh c1;clear hI h0
 go_enter Tryz.func136, Tryz.ntmps136
 go_upto_region 2 with fail;obtain⟨W1,hW1⟩:=wN_ ba;obtain⟨g,hg⟩:∃g,w.heap.size=g:=⟨_,rfl⟩;rw[hW1]at ba kr hz1⊢;have d0:=(ba.cell (p:=⟨b1,o1,none⟩) hb1).trans HC.out;have d1:=(ba.cell (p:=⟨b2,o2,none⟩) hb2).trans HD.out;rw[made_ints]at kr;rw[hg]at kr hz1 ba⊢;have e0:=kr.cell 0;have f0:=kr.frozen 0;have e0':(cellsI (rowF (fun _=>0) n)).toArray[0]?=some (.int .i64 0):=by
  rw[List.getElem?_toArray];have h:=rowF_at (fun _=>0) (n:=n) (j:=0) (by omega)
  simp[cellsI,h]
 rw[e0']at e0;have k2:=kr.set 0 (.int .i64 x);have hset:(cellsI (rowF (fun _=>0) n)).toArray.setIfInBounds 0 (.int .i64 x)=(cellsI ((rowF (fun _=>0) n).set 0 x)).toArray:=by
  simp[cellsI,List.map_set]
 rw[hset]at k2;have b2':=ba.setCell (p:=⟨g,0,none⟩) lR_ (.int .i64 x);have hz2:(W1.setCell ⟨g,0,none⟩ (.int .i64 x)).heap.size=g+1:=by simp;omega
 have HK:=Lh k2;have HB:=Lh b2';have Hz:=Lh hz2;have Hg:=Lh hg;clear k1 hmk ho hc hz1 hW1 kr ba k2 b2' hz2 HC HD c0 c1 kb e0' hset hg
 go_upto_region 3 with fail;obtain⟨W2,hW2⟩:∃W,W1.setCell ⟨g,0,none⟩ (.int .i64 x)=W:=⟨_,rfl⟩;rw[hW2]at HK HB Hz⊢;have b3:=bA_ W2 (.cells #[.slice (some ⟨g,0,none⟩) n n] 36);have o3:=own_new_Sl W2 _ rfl 36 [Value.slice (some ⟨g,0,none⟩) n n] 1 rfl (by unfold maxLen;omega)
 have hz3:(W2.alloc (.cells #[.slice (some ⟨g,0,none⟩) n n] 36)).heap.size=W2.heap.size+1:=by simp
 have hl2:((rowF (fun _=>0) n).set 0 x).length=n:=by rw[List.length_set,rowF_length]
 have G:GiftM (W2.alloc (.cells #[.slice (some ⟨g,0,none⟩) n n] 36)) w.heap.size (.slice (some ⟨W2.heap.size,0,none⟩) 1 1) [⟨some ⟨g,0,none⟩,n,(rowF (fun _=>0) n).set 0 x⟩]:=by
  refine⟨?_,fun r hr=>?_,fun r hr b hb=>?_,fun r hr b hb hq=>?_⟩
  ·have:=World.ownsRow.mono o3 (show w.heap.size≤W2.heap.size by have:=Hz.out;have:=Hg.out;omega)
   simpa [RowV.val,hl2]using this
  ·simp only[List.mem_singleton]at hr;subst hr;refine⟨((rd_blk HK.out).below b3 lR_).more (by omega),fun y hy=>?_,by rw[hl2];exact hn.2,by rw[hl2];exact Nat.le_refl _⟩
   rcases List.mem_or_eq_of_mem_set hy with hy|rfl
   ·obtain⟨j,-,rfl⟩:=List.mem_map.1 hy;unfold fits;omega
   ·exact hxf
  ·simp only[List.mem_singleton]at hr;subst hr;simp only[blkOf]at hb;injection hb with hb
   have:=Hg.out;omega
  ·simp only[List.mem_singleton]at hr;subst hr;simp only[blkOf]at hb;simp only[Value.ownBlock]at hq;injection hb with hb;injection hq with hq
   have:=HK.out.lt
   omega
 have HG:=Lh G;have HB3:=Lh (HB.out.trans (b3.mono (by have:=Hz.out;omega)))
 have Hl2:=Lh hl2;clear G b3 o3 hz3 hW2 hl2 d0 d1 e0 f0
 go_wp2_with fail
 go_ret2;exact⟨_,rfl,_,HG.out,by simp[Hl2.out],by rw[Hg.out];exact HB3.out⟩
theorem fit_snoc{ys:List Int}{x:Int}(h:AllFit ys)(hx:fits x):AllFit (ys++[x]):=fun y hy=>by
 rcases List.mem_append.1 hy with hy|hy
 ·exact h y hy
 ·simp only[List.mem_singleton]at hy;subst hy;exact hx
theorem cellsI_snoc(ys:List Int)(x:Int):cellsI (ys++[x])=cellsI ys++cellsI [x]:=by simp[cellsI]
theorem sumFrom_fits:∀(xs:List Int) (t:Int),fits t→fits (sumFrom t xs).1:=by
 intro xs
 induction xs with
 |nil=>intro t h;exact h
 |cons x xs ih=>
  intro t h;unfold sumFrom;split
  ·rename_i h2
   exact ih _ (by unfold okB at h2;rw[decide_eq_true_eq]at h2;exact h2)
  ·unfold fits;omega
theorem kAdd_any(b:Nat)(w:World)(H:Option Addr)(rows:List RowV)(m ch:Nat)(hI:InM w w.heap.size H rows)(hm:rows.length=m)(hl:∀r∈rows,0<r.xs.length):
  Calls Tryz.prog 140 #[.pointer (some ⟨b,0,none⟩), .slice H m ch] w fun e w'=>∃gv ok,e= .returned (.tuple #[gv, .bool ok])∧(ok=true→∃outs:List RowV,GiftM w' w.heap.size gv outs∧outs.map (fun r=>(r.xs.length:Int))=[1])∧Below w.heap.size w w':=by
 obtain⟨ii,hii,hz0,hz1,hz2⟩:=info_parts info_int;have hm16:m≤16:=by have:=hI.few;omega
 have HI:=Lh hI;have HL:=Lh hl;have Hm:=Lh hm;clear hI hl hm
 go_enter Tryz.func140, Tryz.ntmps140
 go_wp2_with fail
 go_loopw [6,13] (fun v i wr=>∃(k:Nat) (A:Option Addr) (c:Nat) (ys:List Int),k≤m∧i= .int .i64 k∧v= .slice A k c∧AllFit ys∧Below w.heap.size w wr∧wr.ownsRow w.heap.size 3 1 (.slice A k c) k (cellsI ys)) (fun _ i _=>m-(intOf i).toNat)
 case atStart=>exact⟨0,none,0,[],by omega,rfl,rfl,fun x h=>(by cases h),Below.refl _ _,⟨rfl, .inl ⟨rfl,rfl⟩⟩⟩
 case round=>
  obtain⟨k,A,c,ys,hk,rfl,rfl,hys,hb,ho⟩:=hrel;have hsz:=hb.size;by_cases hlt:k<m
  ·have hI2:=HI.out.below hb lR_;obtain⟨r,hr⟩:∃r,rows[k]?=some r:=⟨_,List.getElem?_eq_getElem (by rw[Hm.out];exact hlt)⟩
   have hrl:=HL.out r (List.mem_of_getElem? hr);obtain⟨b1,o1,b2,o2,x,rfl,hb1,hb2,-,hxf,c0,c1,-⟩:=hI2.first hr hrl;have h1:(0:Int)≤(k:Int):=by omega
   have h2:(k:Int)<(m:Int):=by omega
   have hl0:(0:Int)<(r.xs.length:Int):=by omega
   generalize r.xs.length=l at*;have ba:=bA_ wr (.cells #[.int .i64 x] 3);have o2':=own_below ho ba;have r2:=rd_alloc wr _ rfl 3 [Value.int .i64 x];have hb2':=hb.trans (ba.mono hsz);have hyl:ys.length=k:=by have:=ho.1;rw[cellsI_length]at this;omega
   have Hyl:=Lh hyl;have HB:=Lh hb2';have HYS:=Lh hys;have Hsz:=Lh hsz;clear hI2 hr hrl ho ba hb2' hyl hys hb
   go_wp2_with (at_builtin;refine wpList_append_rd _ rfl _ _ 36 rfl w.heap.size 3 ii (.int .i64 0) 1 8 Tryz.underlying36 hii hz0 hz1 hz2 rfl (by decide) _ k (cellsI ys) rfl o2' _ (some ⟨wr.heap.size,0,none⟩) 1 1 (cellsI [x]) rfl rfl r2 (cellsI_one _) (by unfold maxLen;omega) (by omega) (by simp;omega) ?_)
   intro v' w4 o4 g4 h4;obtain⟨A',c',rfl,_⟩:=own_slice o4;have b4:=HB.out.grown g4 HB.out.size (fun q hq=>own_ge o2' hq)
   have HO4:=Lh o4;have HB4:=Lh b4;clear o4 g4 h4 b4 o2' r2 c0 c1
   go_wp2_with fail
   go_roundw
   case rel=>exact⟨k+1,A',c',ys++[x],by omega,by go_num,rfl,fit_snoc HYS.out hxf,HB4.out,cellsI_snoc ys x▸HO4.out⟩
   case measure=>simp[intOf];omega
  ·obtain rfl:k=m:=by omega
   have hyl:ys.length=k:=by have:=ho.1;rw[cellsI_length]at this;omega
   have HS:=Lh (sum_any ys A k c wr.heap.size wr hyl hys (rd_of_own ho) (by unfold maxLen;omega))
   obtain⟨y,hy⟩:∃y,(sumFrom 0 ys).1=y:=⟨_,rfl⟩;obtain⟨o,hoo⟩:∃y,(sumFrom 0 ys).2=y:=⟨_,rfl⟩;have hyf:fits y:=hy▸sumFrom_fits ys 0 (by unfold fits;omega)
   rw[hy,hoo]at HS;have HB:=Lh hb;have HG:=Lh (gift_one wr y hyf);have Hsz:=Lh hsz;clear hyl hys ho hy hoo hb
   go_wp2_with fail;refine HS.out.mono ?_
   rintro e w5 ⟨rfl,rfl⟩
   go_wp2_with fail
   go_ret2;exact⟨_,o,rfl,fun _=>⟨_,HG.out.1.mono Hsz.out,rfl⟩,HB.out.trans (HG.out.2.mono Hsz.out)⟩
structure FiI(w0:World)(b b1 o1 b2 o2 k ch l c n cs:Nat)(x:Int)(S:Option Addr)(seen:List Int)(L:Nat→Bool)(V:Nat→Value)(w:World):Prop where
 bel:Below w0.heap.size w0 w
 fc:L 5=true→L 10=false→V 14= .slice (some ⟨gbOf (V 14),0,none⟩) 1 1∧w.ownsRow w0.heap.size 3 1 (.slice (some ⟨gbOf (V 14),0,none⟩) 1 1) 1 (cellsI [x])
 fd:L 10=true→V 19= .slice (sAddr (V 19)) (1+n) (sCap (V 19))∧w.ownsRow w0.heap.size 3 1 (V 19) (1+n) (cellsI [x]++cellsI seen)
 e11:L 11=true→V 6=V 19
 e0:L 0=true→V 9= .slice (some ⟨b1,o1,none⟩) k ch
 e1:L 1=true→V 10= .pointer (some ⟨b1,o1,none⟩)
 e2:L 2=true→V 11= .slice (some ⟨b2,o2,none⟩) l c
 e3:L 3=true→V 12= .pointer (some ⟨b2,o2,none⟩)
 e4:L 4=true→V 13= .int .i64 x
 e6:L 6=true→V 15= .pointer (some ⟨b,0,none⟩)
 e7:L 7=true→V 16= .pointer (some ⟨b,0,none⟩)
 e8:L 8=true→V 17= .pointer (some ⟨b,4,none⟩)
 e9:L 9=true→V 18= .slice S n cs
theorem dotFrom_fits:∀(xs ys:List Int) (t:Int),fits t→fits (dotFrom t xs ys).1:=by
 intro xs
 induction xs with
 |nil=>intro ys t h;cases ys<;>exact h
 |cons x xs ih=>
  intro ys t h;cases ys with
  |nil=>exact h
  |cons y ys=>
   unfold dotFrom;split
   ·split
    ·rename_i h2
     exact ih ys _ (by unfold okB at h2;rw[decide_eq_true_eq]at h2;exact h2)
    ·unfold fits;omega
   ·unfold fits;omega
theorem dotR_fits(xs ys:List Int):fits (dotR xs ys).1:=by
 unfold dotR;split
 ·exact dotFrom_fits xs ys 0 (by unfold fits;omega)
 ·unfold fits;omega
theorem kFilter_any(b:Nat)(T:TypeId)(v0 v1 v2:Value)(Tp:Option Addr)(ct n cs:Nat)(taps seen:List Int)(S:Option Addr)(w:World)(kb:Blk w b T #[v0,v1,v2, .slice Tp (n+1) ct, .slice S n cs])
  (ht:Rd w w.heap.size Tp (cellsI taps)) (htl:taps.length=n+1) (htf:AllFit taps) (hs:Rd w w.heap.size S (cellsI seen)) (hsl:seen.length=n) (hsf:AllFit seen) (hn:n≤1000) (H:Option Addr) (rows:List RowV) (k ch:Nat) (hI:InM w w.heap.size H rows) (hk:rows.length=k) (r:RowV) (h0:rows[0]?=some r) (hl:0<r.xs.length):
  Calls Tryz.prog 132 #[.pointer (some ⟨b,0,none⟩), .slice H k ch] w fun e w'=>∃gv ok,e= .returned (.tuple #[gv, .bool ok])∧
   (∃S' cs' seen',Blk w' b T #[v0,v1,v2, .slice Tp (n+1) ct, .slice S' n cs']∧Rd w' w'.heap.size S' (cellsI seen')∧seen'.length=n∧AllFit seen'∧∃z,w.heap.size≤z∧(∀q,seen'≠[]→blkOf S'=some q→q<z∧(blkOf S=some q∨w.heap.size≤q))∧(ok=true→∃outs:List RowV,GiftM w' z gv outs∧outs.map (fun r=>(r.xs.length:Int))=[1]))∧Only (fun k=>k=b) w w':=by
 obtain⟨ii,hii,hz0,hz1,hz2⟩:=info_parts info_int;obtain⟨b1,o1,b2,o2,x,rfl,hb1,hb2,-,hxf,c0,c1,-⟩:=hI.first h0 hl;have hk0:(0:Int)<(k:Int):=by have:=(List.getElem?_eq_some_iff.1 h0).1;omega
 have hl0:(0:Int)<(r.xs.length:Int):=by omega
 have hkn:0<k:=by omega
 generalize r.xs.length=l at*;obtain⟨c,hc⟩:∃c,r.c=c:=⟨_,rfl⟩;rw[hc]at c0;rw[Nat.add_zero]at c0;have c4:=kb.cellL 4 rfl;have hbw:=kb.lt;have HK:=Lh kb;have HC0:=Lh c0;have HC1:=Lh c1;have HC4:=Lh c4;have HS:=Lh hs;have HT:=Lh ht;have HSn:=Lh hsl;have HTn:=Lh htl;clear hI h0 kb c0 c1 c4 hs ht hsl htl hc
 go_enter Tryz.func132, Tryz.ntmps132
 go_wp2_with fail;have hI0:∀V,FiI w b b1 o1 b2 o2 k ch l c n cs x S seen (fun _=>false) V w.drew:=fun V=>by
  constructor
  all_goals first
   |exact Drawn.below _ ((Drawn.refl w).drewN 1)
   |(intro h;cases h)
 refine wp_region_put3 [9,10,11,12,13,14,15,16,17,18,19,6] (FiI w b b1 o1 b2 o2 k ch l c n cs x S seen) (by kernel_rfl) (by kernel_rfl) ?_ ?_ ?_
 ·exact hI0 _
 ·intro i o ho L V w1 hi hL hno h K hK;rcases i with _|_|_|_|_|_|_|_|_|_|_|_|i
  ·obtain rfl:=sJ ho;simp only[putAll,List.foldl_cons,List.foldl_nil,List.setIfInBounds_toArray,List.set_cons_zero,List.set_cons_succ];clear hL hno
   go_simp;exact hK (updV V 9 _) _ _ (by simp[putAll,updV]) {h with e0:=fun _=>rfl}
  ·obtain rfl:=sJ ho;simp only[putAll,List.foldl_cons,List.foldl_nil,List.setIfInBounds_toArray,List.set_cons_zero,List.set_cons_succ];have e0:=h.e0 (hL ⟨0, .data⟩ (by simp) rfl)
   clear hL hno
   go_simp;exact hK (updV V 10 _) _ _ (by simp[putAll,updV,e0]) {h with e1:=fun _=>rfl}
  ·obtain rfl:=sJ ho;simp only[putAll,List.foldl_cons,List.foldl_nil,List.setIfInBounds_toArray,List.set_cons_zero,List.set_cons_succ];have e1:=h.e1 (hL ⟨1, .data⟩ (by simp) rfl)
   have ct:=(h.bel.cell (p:=⟨b1,o1,none⟩) hb1).trans HC0.out;clear hL hno
   go_simp;exact hK (updV V 11 _) _ _ (by simp[putAll,updV,e1]) {h with e2:=fun _=>rfl}
  ·obtain rfl:=sJ ho;simp only[putAll,List.foldl_cons,List.foldl_nil,List.setIfInBounds_toArray,List.set_cons_zero,List.set_cons_succ];have e2:=h.e2 (hL ⟨2, .data⟩ (by simp) rfl)
   clear hL hno
   go_simp;exact hK (updV V 12 _) _ _ (by simp[putAll,updV,e2]) {h with e3:=fun _=>rfl}
  ·obtain rfl:=sJ ho;simp only[putAll,List.foldl_cons,List.foldl_nil,List.setIfInBounds_toArray,List.set_cons_zero,List.set_cons_succ];have e3:=h.e3 (hL ⟨3, .data⟩ (by simp) rfl)
   have ct:=(h.bel.cell (p:=⟨b2,o2,none⟩) hb2).trans HC1.out;clear hL hno
   go_simp;exact hK (updV V 13 _) _ _ (by simp[putAll,updV,e3]) {h with e4:=fun _=>rfl}
  ·obtain rfl:=sJ ho;have e4:=h.e4 (hL ⟨4, .data⟩ (by simp) rfl)
   have l10:=hno 10 (by kernel_rfl)
   clear hL hno;simp only[putAll,List.foldl_cons,List.foldl_nil,List.setIfInBounds_toArray,List.set_cons_zero,List.set_cons_succ];have hz:=h.bel.size;have hb:=bA_ w1 (.cells #[.int .i64 x] 3);have hnew:=own_new_Sl w1 _ rfl 3 [Value.int .i64 x] 1 rfl (by unfold maxLen;omega)
   go_simp;refine hK (updV V 14 (.slice (some ⟨w1.heap.size,0,none⟩) 1 1)) _ _ (by simp[putAll,updV,e4]) ?_
   exact{h with
    bel:=h.bel.trans (hb.mono hz)
    fc:=fun _ _=>⟨rfl,World.ownsRow.mono hnew hz⟩
    fd:=nX_ l10}
  ·obtain rfl:=sJ ho;simp only[putAll,List.foldl_cons,List.foldl_nil,List.setIfInBounds_toArray,List.set_cons_zero,List.set_cons_succ];clear hL hno
   go_simp;exact hK (updV V 15 _) _ _ (by simp[putAll,updV]) {h with e6:=fun _=>rfl}
  ·obtain rfl:=sJ ho;simp only[putAll,List.foldl_cons,List.foldl_nil,List.setIfInBounds_toArray,List.set_cons_zero,List.set_cons_succ];have e6:=h.e6 (hL ⟨6, .data⟩ (by simp) rfl)
   clear hL hno
   go_simp;exact hK (updV V 16 _) _ _ (by simp[putAll,updV,e6]) {h with e7:=fun _=>rfl}
  ·obtain rfl:=sJ ho;simp only[putAll,List.foldl_cons,List.foldl_nil,List.setIfInBounds_toArray,List.set_cons_zero,List.set_cons_succ];have e7:=h.e7 (hL ⟨7, .data⟩ (by simp) rfl)
   clear hL hno
   go_simp;exact hK (updV V 17 _) _ _ (by simp[putAll,updV,e7]) {h with e8:=fun _=>rfl}
  ·obtain rfl:=sJ ho;simp only[putAll,List.foldl_cons,List.foldl_nil,List.setIfInBounds_toArray,List.set_cons_zero,List.set_cons_succ];have e8:=h.e8 (hL ⟨8, .data⟩ (by simp) rfl)
   have ct:=(h.bel.cell (p:=⟨b,4,none⟩) hbw).trans HC4.out;clear hL hno
   go_simp;exact hK (updV V 18 _) _ _ (by simp[putAll,updV,e8]) {h with e9:=fun _=>rfl}
  ·obtain rfl:=sJ ho;have e9:=h.e9 (hL ⟨9, .data⟩ (by simp) rfl)
   have hc:=h.fc (hL ⟨5, .data⟩ (by simp) rfl) hi
   have l11:=hno 11 (by kernel_rfl)
   clear hL hno;have hz:=h.bel.size;have hr:=HS.out.below h.bel lR_;refine step_append_rd rfl (.tmp 14) (.tmp 18) 36 rfl w.heap.size 3 ii (.int .i64 0) 1 8 Tryz.underlying36 hii hz0 hz1 hz2 rfl (by decide) (V 14) 1 (cellsI [x]) (by simp[putAll,Act.eval]) (by rw[hc.1];exact hc.2) w.heap.size S n cs (cellsI seen) (by simp[putAll,Act.eval,e9]) (by rw[cellsI_length,HSn.out,Nat.mul_one]) hr (cellsI_one _) (by unfold maxLen;omega) (by omega) hz ?_
   intro v' w2 o2 g2 hv2;have ha:=own_shape o2;refine hK (updV V 19 v') _ _ (by simp[putAll,Act.put,updV]) ?_
   exact{h with
    bel:=h.bel.grown g2 hz (fun q hq=>by rw[hc.1]at hq;exact own_ge hc.2 hq)
    fc:=fun _ hn=>(by cases hn)
    fd:=fun _=>⟨ha,o2⟩
    e11:=nX_ l11}
  ·obtain rfl:=sJ ho;have l10:L 10=true:=hL ⟨10, .data⟩ (by simp) rfl
   have hd:=(h.fd l10).1;generalize sAddr (V 19)=A9 at hd;generalize sCap (V 19)=c9 at hd;clear hL hno;simp only[putAll,List.foldl_cons,List.foldl_nil,List.setIfInBounds_toArray,List.set_cons_zero,List.set_cons_succ]
   go_simp;refine hK (updV V 6 (.slice A9 (1+n) c9)) _ _ (by simp[putAll,updV,hd]) ?_
   exact{h with e11:=fun _=>hd.symm}
  ·simp at ho
 ·clear hI0;intro L V w2 hL h;have hd:=h.fd (hL 10 (by simp))
  have e11:=(h.e11 (hL 11 (by simp))).trans hd.1
  have b2':=h.bel;clear h hL;generalize sAddr (V 19)=A9 at hd e11;generalize sCap (V 19)=c9 at hd e11;obtain⟨hd1,hd2⟩:=hd;rw[hd1]at hd2;obtain⟨g9,rfl⟩:=own_addr hd2 (by omega)
  have hnc:1+n≤c9:=by obtain⟨_,_,h,hle⟩:=own_slice hd2;injection h with _ _ h;omega
  have hg9:w.heap.size≤g9:=own_ge hd2 rfl
  have hxs:AllFit (x::seen):=fun y hy=>by
   rcases List.mem_cons.1 hy with rfl|hy
   ·exact hxf
   ·exact hsf y hy
  have hco:w2.ownsRow w.heap.size 3 1 (.slice (some ⟨g9,0,none⟩) (1+n) c9) (1+n) (cellsI (x::seen)):=hd2
  have k2:=HK.out.below b2' hbw;have hz2:=b2'.size;have HDT:=Lh (dot_any taps (x::seen) Tp (some ⟨g9,0,none⟩) (n+1) (1+n) ct c9 w2.heap.size w2 HTn.out (by rw[List.length_cons,HSn.out];omega) htf hxs ((HT.out.below b2' lR_).more hz2) (rd_of_own hco) (by rw[HTn.out];unfold maxLen;omega) (by rw[List.length_cons,HSn.out];unfold maxLen;omega))
  obtain⟨y,hy⟩:∃y,(dotR taps (x::seen)).1=y:=⟨_,rfl⟩;obtain⟨o,ho⟩:∃y,(dotR taps (x::seen)).2=y:=⟨_,rfl⟩;have hyf:fits y:=hy▸dotR_fits _ _;rw[hy,ho]at HDT;have c3:=k2.cellL 3 rfl;have c4:=k2.cellL 4 rfl;have f4:=k2.frozen 4;have HK2:=Lh k2;have HR:=Lh hco;have HB:=Lh b2';have Hz:=Lh hz2;have HXS:=Lh hxs;simp only[putAll,List.foldl_cons,List.foldl_nil,List.setIfInBounds_toArray,List.set_cons_zero,List.set_cons_succ,e11];clear hd1 hd2 e11 hco k2 b2' hy ho hz2 hxs
  go_wp2_with fail;refine HDT.out.mono ?_
  rintro e w3 ⟨rfl,rfl⟩;cases o with
  |true=>
   have h1:(0:Int)≤(n:Int):=by omega
   have h2:(n:Int)≤(c9:Int):=by omega
   have k3:=HK2.out.set 4 (.slice (some ⟨g9,0,none⟩) n c9);simp only[List.setIfInBounds_toArray,List.set_cons_zero,List.set_cons_succ]at k3;have O3:Only (fun k=>k=b) w2 (w2.setCell ⟨b,4,none⟩ (.slice (some ⟨g9,0,none⟩) n c9)):=(Only.refl _ _).setCell _ _ fun _=>rfl
   have r3:=own_only HR.out O3 (fun q hq he=>by simp only[Value.ownBlock]at hq;injection hq with hq;omega)
   have hz3:(w2.setCell ⟨b,4,none⟩ (.slice (some ⟨g9,0,none⟩) n c9)).heap.size=w2.heap.size:=by simp
   have HG:=Lh (gift_one (w2.setCell ⟨b,4,none⟩ (.slice (some ⟨g9,0,none⟩) n c9)) y hyf);rw[hz3]at HG;have HK3:=Lh k3;have HO3:=Lh O3;have HR3:=Lh r3;have Hz3:=Lh hz3;clear k3 O3 r3 hz3 c3
   go_wp2_with fail
   go_ret2;have hg:=HG.out.2
   have hq3:=Hz3.out;refine⟨_,true,rfl,⟨some ⟨g9,0,none⟩,c9,(x::seen).take n,HK3.out.below hg (by have:=HK3.out.lt;omega),?_,?_,fun q hq=>HXS.out q (List.mem_of_mem_take hq),w2.heap.size,Hz.out,fun q _ hq=>⟨?_, .inr ?_⟩,fun _=>⟨_,HG.out.1,rfl⟩⟩,?_⟩
   ·exact(((rd_of_own HR3.out).take n).below hg (by omega)).more (by have:=hg.size;omega)
   ·rw[List.length_take,List.length_cons,HSn.out];omega
   ·exact(by simp only[blkOf]at hq;injection hq with hq;subst hq;rw[←Hz3.out];exact own_lt' HR3.out rfl)
   ·simp only[blkOf]at hq;injection hq with hq;omega
   ·exact((Only.of_below HB.out).trans HO3.out).trans ⟨hg.os,hg.tape,hg.output,hg.size,fun k hk _=>hg.block k (by omega)⟩
  |false=>
   have HG:=Lh (gift_one w2 y hyf);clear c3 c4 f4
   go_wp2_with fail
   go_ret2;have hg:=HG.out.2
   refine⟨_,false,rfl,⟨S,cs,seen,HK2.out.below hg HK2.out.lt,?_,HSn.out,hsf,w.heap.size,Nat.le_refl _,fun q hx hq=>⟨Rd.ltN HS.out hx hq, .inl hq⟩,fun h=>(by cases h)⟩,(Only.of_below HB.out).trans (Only.of_below hg)⟩
   exact(HS.out.below (HB.out.trans (hg.mono Hz.out)) lR_).more (by have:=hg.size;have:=Hz.out;omega)
end Go.Proofs.YtpmlljbebdidgaaGreatDoor
