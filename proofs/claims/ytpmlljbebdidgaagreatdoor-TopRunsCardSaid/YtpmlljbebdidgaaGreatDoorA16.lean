/- Lemmas and walks for the claim: Dh, Di, Dj, Dk, Dl. -/
import Derived.Test.YtpmlljbebdidgaaGreatDoorA0
import Derived.Test.YtpmlljbebdidgaaGreatDoorA15
set_option linter.unusedSimpArgs false
set_option maxRecDepth 100000
set_option maxHeartbeats 1000000
namespace Go.Proofs.YtpmlljbebdidgaaGreatDoor
open Go.RowKit Go.ChangeShapes
theorem znc(b:Nat)(T:TypeId)(v0 v1 v2:Value)(s:Int)(w:World)(kb:Blk w b T #[v0,v1,v2, .int .i64 s])(hs:fits s)(H:Option Addr)(rows:List RowV)(k ch:Nat)(hI:InM w w.heap.size H rows)(hk:rows.length=k)(r:RowV)(h0:rows[0]?=some r)(hl:0<r.xs.length):
  Calls Tryz.prog 145 #[.pointer (some ⟨b,0,none⟩), .slice H k ch] w fun e w'=>∃gv ok,e= .returned (.tuple #[gv, .bool ok])∧(∃s',fits s'∧Blk w' b T #[v0,v1,v2, .int .i64 s'])∧Only (fun k=>k=b) w w'∧(ok=true→∃outs:List RowV,zbu w' w.heap.size gv outs∧outs.map (fun r=>(r.xs.length:Int))=[1]):=by
 obtain⟨b1,o1,b2,o2,x,rfl,hb1,hb2,-,hxf,c0,c1,-⟩:=hI.first h0 hl;have hk0:(0:Int)<(k:Int):=by have:=(zu.1 h0).1;omega
 have hl0:(0:Int)<(r.xs.length:Int):=by omega
 generalize r.xs.length=l at*;rw[zab]at c0;have hkn:0<k:=by omega
 have c3:=kb.cellL 3 rfl;have HK:=Lh kb;have hbw:=kb.lt;clear hI h0 kb
 go_enter Tryz.func145, Tryz.ntmps145
 go_wp2_with fail
 go_cut [6,7] (fun a6 a7 wx=>a6= .int .i64 (okOf (s+x))∧a7= .bool (okB (s+x))∧Drawn w wx)
 case first=>
  go_region_held3 (fun w'=>w'.cell? ⟨b,3,none⟩=some (.int .i64 s)∧w'.cell? ⟨b1,o1,none⟩=some (.slice (some ⟨b2,o2,none⟩) l r.c)∧w'.cell? ⟨b2,o2,none⟩=some (.int .i64 x)) (go_keep)
   (first|(go_at_call 134;refine(zeV s x _ hs hxf).mono ?_;rintro e' w4 ⟨rfl,rfl⟩;have q0:=c3;have q1:=c0;have q2:=c1))
  go_wp2
  go_meet;exact⟨rfl,rfl,(Drawn.refl w).drewN 1⟩
 case rest=>
  obtain⟨rfl,rfl,d⟩:=hcut;obtain⟨y,hy⟩:∃z,okOf (s+x)=z:=⟨_,rfl⟩;obtain⟨o,ho⟩:∃z,okB (s+x)=z:=⟨_,rfl⟩;have hyf:fits y:=hy▸zgh _;rw[hy,ho];have k2:=HK.out.below (d.below w.heap.size) hbw;have Hz:=Lh d.size;have O2:Only (fun k=>k=b) w wc:=Only.of_below (d.below _)
  clear hy ho c0 c1 c3;cases o with
  |true=>
   have c3:=k2.cellL 3 rfl;have f3:=k2.frozen 3;have k3:=k2.set 3 (.int .i64 y);simp only[zc,ze,zd]at k3;have O3:=O2.setCell ⟨b,3,none⟩ (.int .i64 y) (fun _=>rfl)
   have hz3:(wc.setCell ⟨b,3,none⟩ (.int .i64 y)).heap.size=wc.heap.size:=by simp
   have HG:=Lh (zcv (wc.setCell ⟨b,3,none⟩ (.int .i64 y)) y hyf);rw[hz3]at HG;have HK3:=Lh k3;have HO3:=Lh O3;have Hz3:=Lh hz3;clear k2 k3 O2 O3 hz3 d
   go_wp2_with fail
   go_ret2;refine⟨_,true,rfl,⟨y,hyf,HK3.out.below HG.out.2 (by have:=HK3.out.lt;have:=Hz3.out;omega)⟩,HO3.out.trans ?_,fun _=>⟨_,HG.out.1.mono (by have:=Hz.out;omega),rfl⟩⟩
   have h2:=HG.out.2;exact⟨h2.os,h2.tape,h2.output,h2.size,fun k hk _=>h2.block k (by have:=Hz3.out;omega)⟩
  |false=>
   have HG:=Lh (zcv wc y hyf);have HK2:=Lh k2;have HO2:=Lh O2;clear k2 O2 d
   go_wp2_with fail
   go_ret2;exact⟨_,false,rfl,⟨s,hs,HK2.out.below HG.out.2 HK2.out.lt⟩,HO2.out.trans (Only.of_below HG.out.2),fun h=>(by cases h)⟩
theorem zlG(b:Nat)(T:TypeId)(v0 v1 v2:Value)(s d:Int)(w:World)(kb:Blk w b T #[v0,v1,v2, .int .i64 s, .int .i64 d])(hs:fits s)(hd:fits d)(hv:Value):
  Calls Tryz.prog 147 #[.pointer (some ⟨b,0,none⟩),hv] w fun e w'=>∃gv ok,e= .returned (.tuple #[gv, .bool ok])∧(∃s',fits s'∧Blk w' b T #[v0,v1,v2, .int .i64 s', .int .i64 d])∧Only (fun k=>k=b) w w'∧(ok=true→∃outs:List RowV,zbu w' w.heap.size gv outs∧outs.map (fun r=>(r.xs.length:Int))=[1]):=by
 have c3:=kb.cellL 3 rfl;have c4:=kb.cellL 4 rfl;have HK:=Lh kb;have hbw:=kb.lt;clear kb
 go_enter Tryz.func147, Tryz.ntmps147
 go_wp2_with fail
 go_cut [6,7] (fun a6 a7 wx=>a6= .int .i64 (okOf (s+d))∧a7= .bool (okB (s+d))∧Drawn w wx)
 case first=>
  go_region_held3 (fun w'=>w'.cell? ⟨b,3,none⟩=some (.int .i64 s)∧w'.cell? ⟨b,4,none⟩=some (.int .i64 d)) (go_keep)
   (first|(go_at_call 134;refine(zeV s d _ hs hd).mono ?_;rintro e' w4 ⟨rfl,rfl⟩;have q0:=c3;have q1:=c4))
  go_wp2
  go_meet;exact⟨rfl,rfl,(Drawn.refl w).drewN 1⟩
 case rest=>
  obtain⟨rfl,rfl,d2⟩:=hcut;obtain⟨y,hy⟩:∃z,okOf (s+d)=z:=⟨_,rfl⟩;obtain⟨o,ho⟩:∃z,okB (s+d)=z:=⟨_,rfl⟩;have hyf:fits y:=hy▸zgh _;rw[hy,ho];have k2:=HK.out.below (d2.below w.heap.size) hbw;have Hz:=Lh d2.size;have O2:Only (fun k=>k=b) w wc:=Only.of_below (d2.below _)
  have c3:=k2.cellL 3 rfl;have f3:=k2.frozen 3;clear hy ho c4;cases o with
  |true=>
   have k3:=k2.set 3 (.int .i64 y);simp only[zc,ze,zd]at k3;have O3:=O2.setCell ⟨b,3,none⟩ (.int .i64 y) (fun _=>rfl)
   have hz3:(wc.setCell ⟨b,3,none⟩ (.int .i64 y)).heap.size=wc.heap.size:=by simp
   have HG:=Lh (zcv (wc.setCell ⟨b,3,none⟩ (.int .i64 y)) s hs);rw[hz3]at HG;have HK3:=Lh k3;have HO3:=Lh O3;have Hz3:=Lh hz3;clear k2 k3 O2 O3 hz3 d2
   go_wp2_with fail
   go_ret2;refine⟨_,true,rfl,⟨y,hyf,HK3.out.below HG.out.2 (by have:=HK3.out.lt;have:=Hz3.out;omega)⟩,HO3.out.trans ?_,fun _=>⟨_,HG.out.1.mono (by have:=Hz.out;omega),rfl⟩⟩
   have h2:=HG.out.2;exact⟨h2.os,h2.tape,h2.output,h2.size,fun k hk _=>h2.block k (by have:=Hz3.out;omega)⟩
  |false=>
   have HG:=Lh (zcv wc s hs);have HK2:=Lh k2;have HO2:=Lh O2;clear k2 O2 d2
   go_wp2_with fail
   go_ret2;exact⟨_,false,rfl,⟨s,hs,HK2.out.below HG.out.2 HK2.out.lt⟩,HO2.out.trans (Only.of_below HG.out.2),fun h=>(by cases h)⟩
theorem zlH{w:World}{g:Nat}{t:TypeId}{cs:Array Value}(h:Blk w g t cs):Rd w w.heap.size (some ⟨g,0,none⟩) cs.toList:=
 .inr ⟨g,0,rfl,h.lt,fun j u hu=>by rw[zaq,h.cell j,←hu];simp⟩
theorem zke{w:World}{g n z:Nat}{t:TypeId}{cs:List Value}(h:Blk w g t cs.toArray)(hl:cs.length=n)(hn:n≤maxLen)(hz:z≤g):w.ownsRow z t 1 (.slice (some ⟨g,0,none⟩) n n) n cs:=
 ⟨by omega, .inr ⟨g,n,cs.toArray,rfl,hz,h,zF _,hn,by simp[hl],zL (by simp[hl])⟩⟩
theorem zpc(b n:Nat)(T:TypeId)(v0 v2:Value)(Ao:Option Addr)(co:Nat)(w:World)(kb:Blk w b T #[v0, .slice Ao 1 co,v2])(ho:Rd w w.heap.size Ao (cellsI [(n:Int)]))(hn:1≤n∧n≤64)(H:Option Addr)(rows:List RowV)(k ch:Nat)(hI:InM w w.heap.size H rows)(hk:rows.length=k)(r:RowV)(h0:rows[0]?=some r)(hl:0<r.xs.length):
  Calls Tryz.prog 136 #[.pointer (some ⟨b,0,none⟩), .slice H k ch] w fun e w'=>∃gv,e= .returned (.tuple #[gv, .bool true])∧∃outs:List RowV,zbu w' w.heap.size gv outs∧outs.map (fun r=>(r.xs.length:Int))=[(n:Int)]∧Below w.heap.size w w':=by
 have hmk:=run_make_row' (P:= Tryz.prog) 36 3 (.int .i64 0) 8 Tryz.underlying36 zas rfl .i64 .i64 n (by omega) (by omega)
 obtain⟨b1,o1,b2,o2,x,rfl,hb1,hb2,-,hxf,c0,c1,-⟩:=hI.first h0 hl;obtain⟨bo,oo,_,rfl,hbo,hc⟩:∃bo oo,True∧Ao=some ⟨bo,oo,none⟩∧bo<w.heap.size∧w.cell? ⟨bo,oo,none⟩=some (.int .i64 (n:Int)):=by
  rcases ho with h|⟨b,o,hA,hb,hc⟩
  ·cases h
  ·exact⟨b,o,trivial,hA,hb,hc 0 _ rfl⟩
 have hk0:(0:Int)<(k:Int):=by have:=(zu.1 h0).1;omega
 have hl0:(0:Int)<(r.xs.length:Int):=by omega
 have hn0:(0:Int)<(n:Int):=by omega
 generalize r.xs.length=l at*;rw[zab]at c0;have k1:=kb.cellL 1 rfl;have ba:=bA_ w (.cells (madeCells #[.int .i64 0] n) 3);have kr:=Blk.new w _ rfl 3 (madeCells #[.int .i64 0] n);have hz1:(w.alloc (.cells (madeCells #[.int .i64 0] n) 3)).heap.size=w.heap.size+1:=by simp
 have HC:=Lh c0;have HD:=Lh c1;clear hI h0
 go_enter Tryz.func136, Tryz.ntmps136
 go_upto_region 2 with fail;obtain⟨W1,hW1⟩:=wN_ ba;obtain⟨g,hg⟩:∃g,w.heap.size=g:=⟨_,rfl⟩;rw[hW1]at ba kr hz1⊢;have d0:=(ba.cell (p:=⟨b1,o1,none⟩) hb1).trans HC.out;have d1:=(ba.cell (p:=⟨b2,o2,none⟩) hb2).trans HD.out;rw[zez]at kr;rw[hg]at kr hz1 ba⊢;have e0:=kr.cell 0;have f0:=kr.frozen 0;have e0':(cellsI (rowF (fun _=>0) n)).toArray[0]?=some (.int .i64 0):=by
  rw[zC];have h:=zdu (fun _=>0) (n:=n) (j:=0) (by omega)
  simp[cellsI,h]
 rw[e0']at e0;have k2:=kr.set 0 (.int .i64 x);have hset:(cellsI (rowF (fun _=>0) n)).toArray.setIfInBounds 0 (.int .i64 x)=(cellsI ((rowF (fun _=>0) n).set 0 x)).toArray:=by
  simp[cellsI,zbn]
 rw[hset]at k2;have b2':=ba.setCell (p:=⟨g,0,none⟩) lR_ (.int .i64 x);have hz2:(W1.setCell ⟨g,0,none⟩ (.int .i64 x)).heap.size=g+1:=by simp;omega
 have HK:=Lh k2;have HB:=Lh b2';have Hz:=Lh hz2;have Hg:=Lh hg;clear k1 hmk ho hc hz1 hW1 kr ba k2 b2' hz2 HC HD c0 c1 kb e0' hset hg
 go_upto_region 3 with fail;obtain⟨W2,hW2⟩:∃W,W1.setCell ⟨g,0,none⟩ (.int .i64 x)=W:=⟨_,rfl⟩;rw[hW2]at HK HB Hz⊢;have b3:=bA_ W2 (.cells #[.slice (some ⟨g,0,none⟩) n n] 36);have o3:=zbL W2 _ rfl 36 [Value.slice (some ⟨g,0,none⟩) n n] 1 rfl (by unfold maxLen;omega)
 have hz3:(W2.alloc (.cells #[.slice (some ⟨g,0,none⟩) n n] 36)).heap.size=W2.heap.size+1:=by simp
 have hl2:((rowF (fun _=>0) n).set 0 x).length=n:=by rw[zaR,zaS]
 have G:zbu (W2.alloc (.cells #[.slice (some ⟨g,0,none⟩) n n] 36)) w.heap.size (.slice (some ⟨W2.heap.size,0,none⟩) 1 1) [⟨some ⟨g,0,none⟩,n,(rowF (fun _=>0) n).set 0 x⟩]:=by
  refine⟨?_,fun r hr=>?_,fun r hr b hb=>?_,fun r hr b hb hq=>?_⟩
  ·have:=World.ownsRow.mono o3 (show w.heap.size≤W2.heap.size by have:=Hz.out;have:=Hg.out;omega)
   simpa [RowV.val,hl2]using this
  ·simp only[zW]at hr;subst hr;refine⟨((zlH HK.out).below b3 lR_).more (by omega),fun y hy=>?_,by rw[hl2];exact hn.2,by rw[hl2];exact zF _⟩
   rcases zdc hy with hy|rfl
   ·obtain⟨j,-,rfl⟩:=zY.1 hy;unfold fits;omega
   ·exact hxf
  ·simp only[zW]at hr;subst hr;simp only[blkOf]at hb;injection hb with hb
   have:=Hg.out;omega
  ·simp only[zW]at hr;subst hr;simp only[blkOf]at hb;simp only[Value.ownBlock]at hq;injection hb with hb;injection hq with hq
   have:=HK.out.lt
   omega
 have HG:=Lh G;have HB3:=Lh (HB.out.trans (b3.mono (by have:=Hz.out;omega)))
 have Hl2:=Lh hl2;clear G b3 o3 hz3 hW2 hl2 d0 d1 e0 f0
 go_wp2_with fail
 go_ret2;exact⟨_,rfl,_,HG.out,by simp[Hl2.out],by rw[Hg.out];exact HB3.out⟩
theorem zfG{ys:List Int}{x:Int}(h:AllFit ys)(hx:fits x):AllFit (ys++[x]):=fun y hy=>by
 rcases zaZ.1 hy with hy|hy
 ·exact h y hy
 ·simp only[zW]at hy;subst hy;exact hx
theorem zen(ys:List Int)(x:Int):cellsI (ys++[x])=cellsI ys++cellsI [x]:=by simp[cellsI]
theorem ziz:∀(xs:List Int) (t:Int),fits t→fits (sumFrom t xs).1:=by
 intro xs
 induction xs with
 |nil=>intro t h;exact h
 |cons x xs ih=>
  intro t h;unfold sumFrom;split
  ·rename_i h2
   exact ih _ (by unfold okB at h2;rw[decide_eq_true_eq]at h2;exact h2)
  ·unfold fits;omega
theorem znd(b:Nat)(w:World)(H:Option Addr)(rows:List RowV)(m ch:Nat)(hI:InM w w.heap.size H rows)(hm:rows.length=m)(hl:∀r∈rows,0<r.xs.length):
  Calls Tryz.prog 140 #[.pointer (some ⟨b,0,none⟩), .slice H m ch] w fun e w'=>∃gv ok,e= .returned (.tuple #[gv, .bool ok])∧(ok=true→∃outs:List RowV,zbu w' w.heap.size gv outs∧outs.map (fun r=>(r.xs.length:Int))=[1])∧Below w.heap.size w w':=by
 obtain⟨ii,hii,hz0,hz1,hz2⟩:=info_parts zas;have hm16:m≤16:=by have:=hI.few;omega
 have HI:=Lh hI;have HL:=Lh hl;have Hm:=Lh hm;clear hI hl hm
 go_enter Tryz.func140, Tryz.ntmps140
 go_wp2_with fail
 go_loopw [6,13] (fun v i wr=>∃(k:Nat) (A:Option Addr) (c:Nat) (ys:List Int),k≤m∧i= .int .i64 k∧v= .slice A k c∧AllFit ys∧Below w.heap.size w wr∧wr.ownsRow w.heap.size 3 1 (.slice A k c) k (cellsI ys)) (fun _ i _=>m-(intOf i).toNat)
 case atStart=>exact⟨0,none,0,[],by omega,rfl,rfl,fun x h=>(by cases h),zm _ _,⟨rfl, .inl ⟨rfl,rfl⟩⟩⟩
 case round=>
  obtain⟨k,A,c,ys,hk,rfl,rfl,hys,hb,ho⟩:=hrel;have hsz:=hb.size;by_cases hlt:k<m
  ·have hI2:=HI.out.below hb lR_;obtain⟨r,hr⟩:∃r,rows[k]?=some r:=⟨_,zk (by rw[Hm.out];exact hlt)⟩
   have hrl:=HL.out r (zv hr);obtain⟨b1,o1,b2,o2,x,rfl,hb1,hb2,-,hxf,c0,c1,-⟩:=hI2.first hr hrl;have h1:(0:Int)≤(k:Int):=by omega
   have h2:(k:Int)<(m:Int):=by omega
   have hl0:(0:Int)<(r.xs.length:Int):=by omega
   generalize r.xs.length=l at*;have ba:=bA_ wr (.cells #[.int .i64 x] 3);have o2':=own_below ho ba;have r2:=zal wr _ rfl 3 [Value.int .i64 x];have hb2':=hb.trans (ba.mono hsz);have hyl:ys.length=k:=by have:=ho.1;rw[cellsI_length]at this;omega
   have Hyl:=Lh hyl;have HB:=Lh hb2';have HYS:=Lh hys;have Hsz:=Lh hsz;clear hI2 hr hrl ho ba hb2' hyl hys hb
   go_wp2_with (at_builtin;refine zR _ rfl _ _ 36 rfl w.heap.size 3 ii (.int .i64 0) 1 8 Tryz.underlying36 hii hz0 hz1 hz2 rfl (by decide) _ k (cellsI ys) rfl o2' _ (some ⟨wr.heap.size,0,none⟩) 1 1 (cellsI [x]) rfl rfl r2 (zaA _) (by unfold maxLen;omega) (by omega) (by simp;omega) ?_)
   intro v' w4 o4 g4 h4;obtain⟨A',c',rfl,_⟩:=zH o4;have b4:=HB.out.grown g4 HB.out.size (fun q hq=>own_ge o2' hq)
   have HO4:=Lh o4;have HB4:=Lh b4;clear o4 g4 h4 b4 o2' r2 c0 c1
   go_wp2_with fail
   go_roundw
   case rel=>exact⟨k+1,A',c',ys++[x],by omega,by go_num,rfl,zfG HYS.out hxf,HB4.out,zen ys x▸HO4.out⟩
   case measure=>simp[intOf];omega
  ·obtain rfl:k=m:=by omega
   have hyl:ys.length=k:=by have:=ho.1;rw[cellsI_length]at this;omega
   have HS:=Lh (zoR ys A k c wr.heap.size wr hyl hys (rd_of_own ho) (by unfold maxLen;omega))
   obtain⟨y,hy⟩:∃y,(sumFrom 0 ys).1=y:=⟨_,rfl⟩;obtain⟨o,hoo⟩:∃y,(sumFrom 0 ys).2=y:=⟨_,rfl⟩;have hyf:fits y:=hy▸ziz ys 0 (by unfold fits;omega)
   rw[hy,hoo]at HS;have HB:=Lh hb;have HG:=Lh (zcv wr y hyf);have Hsz:=Lh hsz;clear hyl hys ho hy hoo hb
   go_wp2_with fail;refine HS.out.mono ?_
   rintro e w5 ⟨rfl,rfl⟩
   go_wp2_with fail
   go_ret2;exact⟨_,o,rfl,fun _=>⟨_,HG.out.1.mono Hsz.out,rfl⟩,HB.out.trans (HG.out.2.mono Hsz.out)⟩
structure FiI(w0:World)(b b1 o1 b2 o2 k ch l c n cs:Nat)(x:Int)(S:Option Addr)(seen:List Int)(L:Nat→Bool)(V:Nat→Value)(w:World):Prop where
 bel:Below w0.heap.size w0 w
 fc:L 5=true→L 10=false→V 14= .slice (some ⟨gbOf (V 14),0,none⟩) 1 1∧w.ownsRow w0.heap.size 3 1 (.slice (some ⟨gbOf (V 14),0,none⟩) 1 1) 1 (cellsI [x])
 fd:L 10=true→V 19= .slice (sAddr (V 19)) (1+n) (sCap (V 19))∧w.ownsRow w0.heap.size 3 1 (V 19) (1+n) (cellsI [x]++cellsI seen)
 e11:L 11=true→V 6=V 19
 e0:L 0=true→V 9= .slice (some ⟨b1,o1,none⟩) k ch
 e1:L 1=true→V 10= .pointer (some ⟨b1,o1,none⟩)
 e2:L 2=true→V 11= .slice (some ⟨b2,o2,none⟩) l c
 e3:L 3=true→V 12= .pointer (some ⟨b2,o2,none⟩)
 e4:L 4=true→V 13= .int .i64 x
 e6:L 6=true→V 15= .pointer (some ⟨b,0,none⟩)
 e7:L 7=true→V 16= .pointer (some ⟨b,0,none⟩)
 e8:L 8=true→V 17= .pointer (some ⟨b,4,none⟩)
 e9:L 9=true→V 18= .slice S n cs
theorem ziA:∀(xs ys:List Int) (t:Int),fits t→fits (zcJ t xs ys).1:=by
 intro xs
 induction xs with
 |nil=>intro ys t h;cases ys<;>exact h
 |cons x xs ih=>
  intro ys t h;cases ys with
  |nil=>exact h
  |cons y ys=>
   unfold zcJ;split
   ·split
    ·rename_i h2
     exact ih ys _ (by unfold okB at h2;rw[decide_eq_true_eq]at h2;exact h2)
    ·unfold fits;omega
   ·unfold fits;omega
theorem zlI(xs ys:List Int):fits (dotR xs ys).1:=by
 unfold dotR;split
 ·exact ziA xs ys 0 (by unfold fits;omega)
 ·unfold fits;omega
theorem zjE(b:Nat)(T:TypeId)(v0 v1 v2:Value)(Tp:Option Addr)(ct n cs:Nat)(taps seen:List Int)(S:Option Addr)(w:World)(kb:Blk w b T #[v0,v1,v2, .slice Tp (n+1) ct, .slice S n cs])
  (ht:Rd w w.heap.size Tp (cellsI taps)) (htl:taps.length=n+1) (htf:AllFit taps) (hs:Rd w w.heap.size S (cellsI seen)) (hsl:seen.length=n) (hsf:AllFit seen) (hn:n≤1000) (H:Option Addr) (rows:List RowV) (k ch:Nat) (hI:InM w w.heap.size H rows) (hk:rows.length=k) (r:RowV) (h0:rows[0]?=some r) (hl:0<r.xs.length):
  Calls Tryz.prog 132 #[.pointer (some ⟨b,0,none⟩), .slice H k ch] w fun e w'=>∃gv ok,e= .returned (.tuple #[gv, .bool ok])∧
   (∃S' cs' seen',Blk w' b T #[v0,v1,v2, .slice Tp (n+1) ct, .slice S' n cs']∧Rd w' w'.heap.size S' (cellsI seen')∧seen'.length=n∧AllFit seen'∧∃z,w.heap.size≤z∧(∀q,seen'≠[]→blkOf S'=some q→q<z∧(blkOf S=some q∨w.heap.size≤q))∧(ok=true→∃outs:List RowV,zbu w' z gv outs∧outs.map (fun r=>(r.xs.length:Int))=[1]))∧Only (fun k=>k=b) w w':=by
 obtain⟨ii,hii,hz0,hz1,hz2⟩:=info_parts zas;obtain⟨b1,o1,b2,o2,x,rfl,hb1,hb2,-,hxf,c0,c1,-⟩:=hI.first h0 hl;have hk0:(0:Int)<(k:Int):=by have:=(zu.1 h0).1;omega
 have hl0:(0:Int)<(r.xs.length:Int):=by omega
 have hkn:0<k:=by omega
 generalize r.xs.length=l at*;obtain⟨c,hc⟩:∃c,r.c=c:=⟨_,rfl⟩;rw[hc]at c0;rw[zab]at c0;have c4:=kb.cellL 4 rfl;have hbw:=kb.lt;have HK:=Lh kb;have HC0:=Lh c0;have HC1:=Lh c1;have HC4:=Lh c4;have HS:=Lh hs;have HT:=Lh ht;have HSn:=Lh hsl;have HTn:=Lh htl;clear hI h0 kb c0 c1 c4 hs ht hsl htl hc
 go_enter Tryz.func132, Tryz.ntmps132
 go_wp2_with fail;have hI0:∀V,FiI w b b1 o1 b2 o2 k ch l c n cs x S seen (fun _=>false) V w.drew:=fun V=>by
  constructor
  all_goals first
   |exact Drawn.below _ ((Drawn.refl w).drewN 1)
   |(intro h;cases h)
 refine zN [9,10,11,12,13,14,15,16,17,18,19,6] (FiI w b b1 o1 b2 o2 k ch l c n cs x S seen) (by kernel_rfl) (by kernel_rfl) ?_ ?_ ?_
 ·exact hI0 _
 ·intro i o ho L V w1 hi hL hno h K hK;rcases i with _|_|_|_|_|_|_|_|_|_|_|_|i
  ·obtain rfl:=sJ ho;simp only[putAll,zi,zj,zc,ze,zd];clear hL hno
   go_simp;exact hK (zg V 9 _) _ _ (by simp[putAll,zg]) {h with e0:=fun _=>rfl}
  ·obtain rfl:=sJ ho;simp only[putAll,zi,zj,zc,ze,zd];have e0:=h.e0 (hL ⟨0, .data⟩ (by simp) rfl)
   clear hL hno
   go_simp;exact hK (zg V 10 _) _ _ (by simp[putAll,zg,e0]) {h with e1:=fun _=>rfl}
  ·obtain rfl:=sJ ho;simp only[putAll,zi,zj,zc,ze,zd];have e1:=h.e1 (hL ⟨1, .data⟩ (by simp) rfl)
   have ct:=(h.bel.cell (p:=⟨b1,o1,none⟩) hb1).trans HC0.out;clear hL hno
   go_simp;exact hK (zg V 11 _) _ _ (by simp[putAll,zg,e1]) {h with e2:=fun _=>rfl}
  ·obtain rfl:=sJ ho;simp only[putAll,zi,zj,zc,ze,zd];have e2:=h.e2 (hL ⟨2, .data⟩ (by simp) rfl)
   clear hL hno
   go_simp;exact hK (zg V 12 _) _ _ (by simp[putAll,zg,e2]) {h with e3:=fun _=>rfl}
  ·obtain rfl:=sJ ho;simp only[putAll,zi,zj,zc,ze,zd];have e3:=h.e3 (hL ⟨3, .data⟩ (by simp) rfl)
   have ct:=(h.bel.cell (p:=⟨b2,o2,none⟩) hb2).trans HC1.out;clear hL hno
   go_simp;exact hK (zg V 13 _) _ _ (by simp[putAll,zg,e3]) {h with e4:=fun _=>rfl}
  ·obtain rfl:=sJ ho;have e4:=h.e4 (hL ⟨4, .data⟩ (by simp) rfl)
   have l10:=hno 10 (by kernel_rfl)
   clear hL hno;simp only[putAll,zi,zj,zc,ze,zd];have hz:=h.bel.size;have hb:=bA_ w1 (.cells #[.int .i64 x] 3);have hnew:=zbL w1 _ rfl 3 [Value.int .i64 x] 1 rfl (by unfold maxLen;omega)
   go_simp;refine hK (zg V 14 (.slice (some ⟨w1.heap.size,0,none⟩) 1 1)) _ _ (by simp[putAll,zg,e4]) ?_
   exact{h with
    bel:=h.bel.trans (hb.mono hz)
    fc:=fun _ _=>⟨rfl,World.ownsRow.mono hnew hz⟩
    fd:=nX_ l10}
  ·obtain rfl:=sJ ho;simp only[putAll,zi,zj,zc,ze,zd];clear hL hno
   go_simp;exact hK (zg V 15 _) _ _ (by simp[putAll,zg]) {h with e6:=fun _=>rfl}
  ·obtain rfl:=sJ ho;simp only[putAll,zi,zj,zc,ze,zd];have e6:=h.e6 (hL ⟨6, .data⟩ (by simp) rfl)
   clear hL hno
   go_simp;exact hK (zg V 16 _) _ _ (by simp[putAll,zg,e6]) {h with e7:=fun _=>rfl}
  ·obtain rfl:=sJ ho;simp only[putAll,zi,zj,zc,ze,zd];have e7:=h.e7 (hL ⟨7, .data⟩ (by simp) rfl)
   clear hL hno
   go_simp;exact hK (zg V 17 _) _ _ (by simp[putAll,zg,e7]) {h with e8:=fun _=>rfl}
  ·obtain rfl:=sJ ho;simp only[putAll,zi,zj,zc,ze,zd];have e8:=h.e8 (hL ⟨8, .data⟩ (by simp) rfl)
   have ct:=(h.bel.cell (p:=⟨b,4,none⟩) hbw).trans HC4.out;clear hL hno
   go_simp;exact hK (zg V 18 _) _ _ (by simp[putAll,zg,e8]) {h with e9:=fun _=>rfl}
  ·obtain rfl:=sJ ho;have e9:=h.e9 (hL ⟨9, .data⟩ (by simp) rfl)
   have hc:=h.fc (hL ⟨5, .data⟩ (by simp) rfl) hi
   have l11:=hno 11 (by kernel_rfl)
   clear hL hno;have hz:=h.bel.size;have hr:=HS.out.below h.bel lR_;refine zaQ rfl (.tmp 14) (.tmp 18) 36 rfl w.heap.size 3 ii (.int .i64 0) 1 8 Tryz.underlying36 hii hz0 hz1 hz2 rfl (by decide) (V 14) 1 (cellsI [x]) (by simp[putAll,Act.eval]) (by rw[hc.1];exact hc.2) w.heap.size S n cs (cellsI seen) (by simp[putAll,Act.eval,e9]) (by rw[cellsI_length,HSn.out,zaY]) hr (zaA _) (by unfold maxLen;omega) (by omega) hz ?_
   intro v' w2 o2 g2 hv2;have ha:=zdg o2;refine hK (zg V 19 v') _ _ (by simp[putAll,Act.put,zg]) ?_
   exact{h with
    bel:=h.bel.grown g2 hz (fun q hq=>by rw[hc.1]at hq;exact own_ge hc.2 hq)
    fc:=fun _ hn=>(by cases hn)
    fd:=fun _=>⟨ha,o2⟩
    e11:=nX_ l11}
  ·obtain rfl:=sJ ho;have l10:L 10=true:=hL ⟨10, .data⟩ (by simp) rfl
   have hd:=(h.fd l10).1;generalize sAddr (V 19)=A9 at hd;generalize sCap (V 19)=c9 at hd;clear hL hno;simp only[putAll,zi,zj,zc,ze,zd]
   go_simp;refine hK (zg V 6 (.slice A9 (1+n) c9)) _ _ (by simp[putAll,zg,hd]) ?_
   exact{h with e11:=fun _=>hd.symm}
  ·simp at ho
 ·clear hI0;intro L V w2 hL h;have hd:=h.fd (hL 10 (by simp))
  have e11:=(h.e11 (hL 11 (by simp))).trans hd.1
  have b2':=h.bel;clear h hL;generalize sAddr (V 19)=A9 at hd e11;generalize sCap (V 19)=c9 at hd e11;obtain⟨hd1,hd2⟩:=hd;rw[hd1]at hd2;obtain⟨g9,rfl⟩:=zbi hd2 (by omega)
  have hnc:1+n≤c9:=by obtain⟨_,_,h,hle⟩:=zH hd2;injection h with _ _ h;omega
  have hg9:w.heap.size≤g9:=own_ge hd2 rfl
  have hxs:AllFit (x::seen):=fun y hy=>by
   rcases zV.1 hy with rfl|hy
   ·exact hxf
   ·exact hsf y hy
  have hco:w2.ownsRow w.heap.size 3 1 (.slice (some ⟨g9,0,none⟩) (1+n) c9) (1+n) (cellsI (x::seen)):=hd2
  have k2:=HK.out.below b2' hbw;have hz2:=b2'.size;have HDT:=Lh (zoT taps (x::seen) Tp (some ⟨g9,0,none⟩) (n+1) (1+n) ct c9 w2.heap.size w2 HTn.out (by rw[zaG,HSn.out];omega) htf hxs ((HT.out.below b2' lR_).more hz2) (rd_of_own hco) (by rw[HTn.out];unfold maxLen;omega) (by rw[zaG,HSn.out];unfold maxLen;omega))
  obtain⟨y,hy⟩:∃y,(dotR taps (x::seen)).1=y:=⟨_,rfl⟩;obtain⟨o,ho⟩:∃y,(dotR taps (x::seen)).2=y:=⟨_,rfl⟩;have hyf:fits y:=hy▸zlI _ _;rw[hy,ho]at HDT;have c3:=k2.cellL 3 rfl;have c4:=k2.cellL 4 rfl;have f4:=k2.frozen 4;have HK2:=Lh k2;have HR:=Lh hco;have HB:=Lh b2';have Hz:=Lh hz2;have HXS:=Lh hxs;simp only[putAll,zi,zj,zc,ze,zd,e11];clear hd1 hd2 e11 hco k2 b2' hy ho hz2 hxs
  go_wp2_with fail;refine HDT.out.mono ?_
  rintro e w3 ⟨rfl,rfl⟩;cases o with
  |true=>
   have h1:(0:Int)≤(n:Int):=by omega
   have h2:(n:Int)≤(c9:Int):=by omega
   have k3:=HK2.out.set 4 (.slice (some ⟨g9,0,none⟩) n c9);simp only[zc,ze,zd]at k3;have O3:Only (fun k=>k=b) w2 (w2.setCell ⟨b,4,none⟩ (.slice (some ⟨g9,0,none⟩) n c9)):=(Only.refl _ _).setCell _ _ fun _=>rfl
   have r3:=zae HR.out O3 (fun q hq he=>by simp only[Value.ownBlock]at hq;injection hq with hq;omega)
   have hz3:(w2.setCell ⟨b,4,none⟩ (.slice (some ⟨g9,0,none⟩) n c9)).heap.size=w2.heap.size:=by simp
   have HG:=Lh (zcv (w2.setCell ⟨b,4,none⟩ (.slice (some ⟨g9,0,none⟩) n c9)) y hyf);rw[hz3]at HG;have HK3:=Lh k3;have HO3:=Lh O3;have HR3:=Lh r3;have Hz3:=Lh hz3;clear k3 O3 r3 hz3 c3
   go_wp2_with fail
   go_ret2;have hg:=HG.out.2
   have hq3:=Hz3.out;refine⟨_,true,rfl,⟨some ⟨g9,0,none⟩,c9,(x::seen).take n,HK3.out.below hg (by have:=HK3.out.lt;omega),?_,?_,fun q hq=>HXS.out q (zcU hq),w2.heap.size,Hz.out,fun q _ hq=>⟨?_, .inr ?_⟩,fun _=>⟨_,HG.out.1,rfl⟩⟩,?_⟩
   ·exact(((rd_of_own HR3.out).take n).below hg (by omega)).more (by have:=hg.size;omega)
   ·rw[zaH,zaG,HSn.out];omega
   ·exact(by simp only[blkOf]at hq;injection hq with hq;subst hq;rw[←Hz3.out];exact own_lt' HR3.out rfl)
   ·simp only[blkOf]at hq;injection hq with hq;omega
   ·exact((Only.of_below HB.out).trans HO3.out).trans ⟨hg.os,hg.tape,hg.output,hg.size,fun k hk _=>hg.block k (by omega)⟩
  |false=>
   have HG:=Lh (zcv w2 y hyf);clear c3 c4 f4
   go_wp2_with fail
   go_ret2;have hg:=HG.out.2
   refine⟨_,false,rfl,⟨S,cs,seen,HK2.out.below hg HK2.out.lt,?_,HSn.out,hsf,w.heap.size,zF _,fun q hx hq=>⟨Rd.ltN HS.out hx hq, .inl hq⟩,fun h=>(by cases h)⟩,(Only.of_below HB.out).trans (Only.of_below hg)⟩
   exact(HS.out.below (HB.out.trans (hg.mono Hz.out)) lR_).more (by have:=hg.size;have:=Hz.out;omega)
theorem zf7(n:Nat):madeCells #[Value.slice none 0 0] n=(List.replicate n (Value.slice none 0 0)).toArray:=by
 apply Array.ext'
 apply zbb
 ·simp[madeCells]
 ·intro j h1 h2;simp[madeCells,zc4]
theorem zne{α:Type}(l:List α)(a v:α)(m:Nat):(l++List.replicate (m+1) a).set l.length v=(l++[v])++List.replicate m a:=by
 rw[List.set_append_right _ _ lR_,zbp,zc8,ze,zbR]
 rfl
theorem zjF(b n:Nat)(T:TypeId)(v0 v2:Value)(Ao:Option Addr)(co:Nat)(w:World)(kb:Blk w b T #[v0, .slice Ao n co,v2])(hn:n≤16)(H:Option Addr)(rows:List RowV)(k ch:Nat)(hI:InM w w.heap.size H rows)(hk:rows.length=k)(r:RowV)(h0:rows[0]?=some r)(hl:0<r.xs.length):
  Calls Tryz.prog 146 #[.pointer (some ⟨b,0,none⟩), .slice H k ch] w fun e w'=>∃gv,e= .returned (.tuple #[gv, .bool true])∧∃outs:List RowV,zbu w' w.heap.size gv outs∧outs.map (fun r=>(r.xs.length:Int))=List.replicate n 1∧Below w.heap.size w w':=by
 have hmk:=run_make_row' (P:= Tryz.prog) 27 36 (.slice none 0 0) 24 Tryz.underlying27 zd1 rfl .i64 .i64 n (by omega) (by omega)
 obtain⟨b1,o1,b2,o2,x,rfl,hb1,hb2,-,hxf,c0,c1,-⟩:=hI.first h0 hl;have hk0:(0:Int)<(k:Int):=by have:=(zu.1 h0).1;omega
 have hl0:(0:Int)<(r.xs.length:Int):=by omega
 generalize r.xs.length=l at*;rw[zab]at c0;have k1:=kb.cellL 1 rfl;have ba:=bA_ w (.cells (madeCells #[.slice none 0 0] n) 36);have kr:=Blk.new w _ rfl 36 (madeCells #[.slice none 0 0] n);have hz1:(w.alloc (.cells (madeCells #[.slice none 0 0] n) 36)).heap.size=w.heap.size+1:=by simp
 have HC:=Lh c0;have HD:=Lh c1;clear hI h0 kb c0 c1
 go_enter Tryz.func146, Tryz.ntmps146
 go_upto_region 2 with fail;obtain⟨W1,hW1⟩:=wN_ ba;obtain⟨g,hg⟩:∃g,w.heap.size=g:=⟨_,rfl⟩;rw[hW1]at ba kr hz1⊢;rw[zf7]at kr;rw[hg]at kr ba hz1 hb1 hb2⊢;have Hg:=Lh hg;have HK:=Lh kr;have HB:=Lh ba;clear k1 hmk hW1 kr ba hg
 go_wp2_with fail
 go_loopw [17] (fun i wr=>∃(j:Nat) (rs:List RowV),j≤n∧i= .int .i64 j∧rs.length=j∧Below g w wr∧g<wr.heap.size∧Blk wr g 36 (rs.map RowV.val++List.replicate (n-j) (Value.slice none 0 0)).toArray∧(∀r∈rs,r.ok wr wr.heap.size∧r.xs.length=1∧∀q,blkOf r.A=some q→g<q)) (fun i _=>n-(intOf i).toNat)
 case atStart=>exact⟨0,[],by omega,rfl,rfl,HB.out,by omega,HK.out,fun r h=>(by cases h)⟩
 case round=>
  clear HK HB hz1;obtain⟨j,rs,hj,rfl,hrl,hb,hgz,kr,hrs⟩:=hrel;by_cases hlt:j<n
  ·have h1:(0:Int)≤(j:Int):=by omega
   have h2:(j:Int)<(n:Int):=by omega
   have c0:=(hb.cell (p:=⟨b1,o1,none⟩) hb1).trans HC.out;have c1:=(hb.cell (p:=⟨b2,o2,none⟩) hb2).trans HD.out;have ba:=bA_ wr (.cells #[.int .i64 x] 3);have r3:=zal wr _ rfl 3 [Value.int .i64 x];have hz3:(wr.alloc (.cells #[.int .i64 x] 3)).heap.size=wr.heap.size+1:=by simp
   have k3:=kr.below ba hgz;have f3:=k3.frozen j;have e3:=k3.cell j;have hsome:(rs.map RowV.val++List.replicate (n-j) (Value.slice none 0 0)).toArray[j]?=some (.slice none 0 0):=by
    rw[zC,zO (by rw[zA];omega),zA,hrl,zbp,zbh,if_pos (by omega)]
   rw[hsome]at e3;have k4:=k3.set j (.slice (some ⟨wr.heap.size,0,none⟩) 1 1);have hset:(rs.map RowV.val++List.replicate (n-j) (Value.slice none 0 0)).toArray.setIfInBounds j (.slice (some ⟨wr.heap.size,0,none⟩) 1 1)=((rs++[(⟨some ⟨wr.heap.size,0,none⟩,1,[x]⟩:RowV)]).map RowV.val++List.replicate (n-(j+1)) (Value.slice none 0 0)).toArray:=by
    have h:=zne (rs.map RowV.val) (Value.slice none 0 0) (.slice (some ⟨wr.heap.size,0,none⟩) 1 1) (n-(j+1));rw[zA,hrl,show n-(j+1)+1=n-j by omega]at h
    rw[zc,h,zad]
    rfl
   rw[hset]at k4;have O4:Only (fun q=>q=g) wr ((wr.alloc (.cells #[.int .i64 x] 3)).setCell ⟨g,j,none⟩ (.slice (some ⟨wr.heap.size,0,none⟩) 1 1)):=(Only.of_below ba).setCell _ _ fun _=>rfl
   have b4:=(hb.trans (ba.mono (by omega))).setCell (p:=⟨g,j,none⟩) lR_ (.slice (some ⟨wr.heap.size,0,none⟩) 1 1)
   have hz4:((wr.alloc (.cells #[.int .i64 x] 3)).setCell ⟨g,j,none⟩ (.slice (some ⟨wr.heap.size,0,none⟩) 1 1)).heap.size=wr.heap.size+1:=by simp
   have r4:Rd ((wr.alloc (.cells #[.int .i64 x] 3)).setCell ⟨g,j,none⟩ (.slice (some ⟨wr.heap.size,0,none⟩) 1 1)) (wr.heap.size+1) (some ⟨wr.heap.size,0,none⟩) (cellsI [x]):=
    Rd.only r3 ((Only.refl (fun q=>q=g) _).setCell ⟨g,j,none⟩ _ fun _=>rfl) (by omega) (fun q hq=>by simp only[blkOf]at hq;injection hq with hq;omega)
   have hrs4:∀r∈rs++[(⟨some ⟨wr.heap.size,0,none⟩,1,[x]⟩:RowV)],r.ok ((wr.alloc (.cells #[.int .i64 x] 3)).setCell ⟨g,j,none⟩ (.slice (some ⟨wr.heap.size,0,none⟩) 1 1)) (wr.heap.size+1)∧r.xs.length=1∧∀q,blkOf r.A=some q→g<q:=fun r hr=>by
    rcases zaZ.1 hr with hr|hr
    ·obtain⟨q1,q2,q3⟩:=hrs r hr;exact⟨{q1 with rd:=(Rd.only q1.rd O4 lR_ fun q hq he=>by have:=q3 q hq;omega).more (by omega)},q2,q3⟩
    ·simp only[zW]at hr;subst hr;exact⟨⟨r4,fun y hy=>by simp only[zW]at hy;subst hy;exact hxf,by simp,by simp⟩,rfl,fun q hq=>by simp only[blkOf]at hq;injection hq with hq;omega⟩
   have HK4:=Lh k4;have HB4:=Lh b4;have HRS:=Lh hrs4;have Hrl:=Lh hrl;have Hz4:=Lh hz4;have Hgz:=Lh hgz;clear kr hrs hb ba r3 hz3 k3 k4 hset O4 b4 hz4 r4 hrs4 hsome hrl hgz
   go_wp2_with fail
   go_roundw
   case rel=>exact⟨j+1,_,by omega,by go_num,by rw[zx,Hrl.out];rfl,HB4.out,by have:=Hz4.out;have:=Hgz.out;omega,HK4.out,by rw[Hz4.out];exact HRS.out⟩
   case measure=>simp[intOf];omega
  ·obtain rfl:j=n:=by omega
   rw[zbp,List.replicate_zero,zby]at kr;have G:zbu wr g (.slice (some ⟨g,0,none⟩) j j) rs:=by
    refine⟨?_,fun r hr=>(hrs r hr).1,fun r hr q hq=>Nat.le_of_lt ((hrs r hr).2.2 q hq),fun r hr q hq h=>by
     have:=(hrs r hr).2.2 q hq
     simp only[Value.ownBlock]at h;injection h with h;omega⟩
    have:=zke kr (n:=j) (by rw[zA,hrl]) (by unfold maxLen;omega) (zF g)
    rw[hrl];exact this
   have HG:=Lh G;have HB:=Lh hb;have hmap:rs.map (fun r=>(r.xs.length:Int))=List.replicate j 1:=by
    rw[←hrl];refine List.eq_replicate_iff.2 ⟨by simp,fun y hy=>?_⟩
    obtain⟨r,hr,rfl⟩:=zY.1 hy;rw[(hrs r hr).2.1];rfl
   have HM:=Lh hmap;clear kr hrs hb hgz hmap G hrl
   go_wp2_with fail
   go_ret2;exact⟨_,rfl,rs,by rw[Hg.out];exact HG.out,HM.out,by rw[Hg.out];exact HB.out⟩
theorem ziB{w:World}{B:Nat}{A:Option Addr}{y:Int}{ys:List Int}(h:Rd w B A (cellsI (y::ys))):∃b o,A=some ⟨b,o,none⟩∧b<B∧w.cell? ⟨b,o,none⟩=some (.int .i64 y):=by
 rcases h with h|⟨b,o,hA,hb,hc⟩
 ·cases h
 ·exact⟨b,o,hA,hb,hc 0 _ rfl⟩
theorem kWeave_any(b n m:Nat)(T:TypeId)(v2:Value)(Ai Ao:Option Addr)(ci co:Nat)(rin:List Int)(w:World)(kb:Blk w b T #[.slice Ai n ci, .slice Ao 1 co,v2])(hi:Rd w w.heap.size Ai (cellsI ((m:Int)::rin)))(ho:Rd w w.heap.size Ao (cellsI [((n*m:Nat):Int)]))(hn:1≤n∧n≤16)(hm:1≤m∧m≤64)(hnm:n*m≤64)
  (H:Option Addr) (rows:List RowV) (ch:Nat) (hI:InM w w.heap.size H rows) (hk:rows.length=n) (hl:∀r∈rows,r.xs.length=m):
  Calls Tryz.prog 138 #[.pointer (some ⟨b,0,none⟩), .slice H n ch] w fun e w'=>∃gv,e= .returned (.tuple #[gv, .bool true])∧∃outs:List RowV,zbu w' w.heap.size gv outs∧outs.map (fun r=>(r.xs.length:Int))=[((n*m:Nat):Int)]∧Below w.heap.size w w':=by
 obtain⟨ii,hii,hz0,hz1,hz2⟩:=info_parts zas;obtain⟨t,ht⟩:∃t,n*m=t:=⟨_,rfl⟩;rw[ht]at ho hnm⊢;obtain⟨a1,p1,rfl,ha1,q1⟩:=ziB hi;obtain⟨a2,p2,rfl,ha2,q2⟩:=ziB ho;have k0:=kb.cellL 0 rfl;have k1:=kb.cellL 1 rfl;have hbw:=kb.lt;have HI:=Lh hI;have HL:=Lh hl;have Hk:=Lh hk;have HK0:=Lh k0;have HQ1:=Lh q1;have Ht:=Lh ht;have hn0:(0:Int)<(n:Int):=by omega
 clear hI hl hk kb hi ho ht
 go_enter Tryz.func138, Tryz.ntmps138
 go_wp2_with (at_make;refine wpList_make_own w rfl _ _ 36 rfl w.heap.size 3 ii (.int .i64 0) 1 Tryz.underlying36 hii hz0 hz1 .i64 .i64 (t:Int) t rfl rfl rfl (by rw[hz2];omega) (by unfold maxLen;omega) lR_ ?_)
 intro w2 o2 g2;have b2:=(zm w.heap.size w).grown g2 lR_ (fun k hk=>by cases hk)
 have k0:=(b2.cell (p:=⟨b,0,none⟩) hbw).trans HK0.out;have q1:=(b2.cell (p:=⟨a1,p1,none⟩) ha1).trans HQ1.out;have HO:=Lh o2;have HB:=Lh b2;clear k1 q2 o2 g2 b2
 go_wp2_with fail;clear k0 q1
 go_loopw [6,24] (fun v i wr=>∃(j:Nat) (A:Option Addr) (c:Nat) (ys:List Int),j≤m∧i= .int .i64 j∧ys.length=j*n∧v= .slice A (j*n) c∧AllFit ys∧Below w.heap.size w wr∧wr.ownsRow w.heap.size 3 1 (.slice A (j*n) c) (j*n) (cellsI ys)) (fun _ i _=>m-(intOf i).toNat)
 case atStart=>exact⟨0,some ⟨w.heap.size,0,none⟩,t,[],by omega,rfl,by rw[zbA];rfl,by rw[zbA],fun x h=>(by cases h),HB.out,by rw[zbA];exact HO.out⟩
 case round=>
  clear HO HB;obtain⟨j,A,c,ys,hj,rfl,hyl,rfl,hys,hb,ho⟩:=hrel;have hsz:=hb.size;by_cases hlt:j<m
  ·have h1:(0:Int)≤(j:Int):=by omega
   have h2:(j:Int)<(m:Int):=by omega
   have hjn:j*n+n≤t:=by
    have:=zb0 n (show j+1≤m by omega)
    rw[zdL,zdM,zaK m n,Ht.out]at this;exact this
   have HO:=Lh ho;have HB:=Lh hb;have HYS:=Lh hys;have Hyl:=Lh hyl;obtain⟨jn,hjn'⟩:∃q,j*n=q:=⟨_,rfl⟩;rw[hjn']at HO Hyl hjn⊢;have Hjn:=Lh hjn';clear ho hb hys hyl hsz hjn'
   go_wp2_with fail
   go_loopw [6,29] (fun v i wx=>∃(i':Nat) (A:Option Addr) (c:Nat) (ys:List Int),i'≤n∧i= .int .i64 i'∧ys.length=jn+i'∧v= .slice A (jn+i') c∧AllFit ys∧Below w.heap.size w wx∧wx.ownsRow w.heap.size 3 1 (.slice A (jn+i') c) (jn+i') (cellsI ys)) (fun _ i _=>n-(intOf i).toNat)
   case atStart=>exact⟨0,A,c,ys,by omega,rfl,Hyl.out,rfl,HYS.out,HB.out,HO.out⟩
   case round=>
    clear HO HB HYS Hyl;obtain⟨i',A,c,ys,hi',rfl,hyl,rfl,hys,hb,ho⟩:=hrel;have hsz:=hb.size;by_cases hlt2:i'<n
    ·have hI2:=HI.out.below hb lR_;obtain⟨b1,o1,r,rfl,hb1,hr,c0,hok⟩:=hI2.at_ (i:=i') (by rw[Hk.out];exact hlt2)
     have hrm:=HL.out r (zv hr);obtain⟨b2,o2,x,hA,hb2,hx,hxf,c1⟩:=hok.at_ (j:=j) (by rw[hrm];exact hlt)
     rw[hA,hrm]at c0;have h3:(0:Int)≤(i':Int):=by omega
     have h4:(i':Int)<(n:Int):=by omega
     have ba:=bA_ wr (.cells #[.int .i64 x] 3);have o2':=own_below ho ba;have r2:=zal wr _ rfl 3 [Value.int .i64 x];have hb2':=hb.trans (ba.mono hsz);have Hyl:=Lh hyl;have HB:=Lh hb2';have HYS:=Lh hys;have Hsz:=Lh hsz;have hcl:(cellsI [x]).length=1*1:=rfl;clear hI2 hr ho ba hb2' hyl hys hb hok hrm hx hA
     go_wp2_with (at_builtin;refine zR _ rfl _ _ 36 rfl w.heap.size 3 ii (.int .i64 0) 1 8 Tryz.underlying36 hii hz0 hz1 hz2 rfl (by decide) _ (jn+i') (cellsI ys) rfl o2' _ (some ⟨wr.heap.size,0,none⟩) 1 1 (cellsI [x]) rfl hcl r2 (zaA _) (by unfold maxLen;omega) (by omega) (by simp;omega) ?_)
     intro v' w4 o4 g4 h4';obtain⟨A',c',rfl,_⟩:=zH o4;have b4:=HB.out.grown g4 HB.out.size (fun q hq=>own_ge o2' hq)
     have HO4:=Lh o4;have HB4:=Lh b4;clear o4 g4 h4' b4 o2' r2 c0 c1
     go_wp2_with fail
     go_roundw
     case rel=>exact⟨i'+1,A',c',ys++[x],by omega,by go_num,by rw[zx,Hyl.out];rfl,rfl,zfG HYS.out hxf,HB4.out,zen ys x▸HO4.out⟩
     case measure=>simp[intOf];omega
    ·obtain rfl:i'=n:=by omega
     have HO:=Lh ho;have HB:=Lh hb;have HYS:=Lh hys;have Hyl:=Lh hyl;clear ho hb hys hyl
     go_wp2_with fail
     go_roundw;have e:(j+1)*i'=jn+i':=by rw[zdL,zdM,Hjn.out]
     case rel=>exact⟨j+1,A,c,ys,by omega,by go_num,by rw[e];exact Hyl.out,by rw[e],HYS.out,HB.out,by rw[e];exact HO.out⟩
     case measure=>simp[intOf];omega
  ·obtain rfl:j=m:=by omega
   have hjt:j*n=t:=by rw[zaK];exact Ht.out
   rw[hjt]at hyl ho⊢;have b3:=bA_ wr (.cells #[.slice A t c] 36);have o3:=zbL wr _ rfl 36 [Value.slice A t c] 1 rfl (by unfold maxLen;omega)
   have hz3:(wr.alloc (.cells #[.slice A t c] 36)).heap.size=wr.heap.size+1:=by simp
   have G:zbu (wr.alloc (.cells #[.slice A t c] 36)) w.heap.size (.slice (some ⟨wr.heap.size,0,none⟩) 1 1) [⟨A,c,ys⟩]:=by
    refine⟨?_,fun r hr=>?_,fun r hr q hq=>?_,fun r hr q hq h=>?_⟩
    ·have:=World.ownsRow.mono o3 hsz
     simpa [RowV.val,hyl]using this
    ·simp only[zW]at hr;subst hr;exact⟨((rd_of_own ho).below b3 lR_).more (by omega),hys,by rw[hyl];exact hnm,by rw[hyl];obtain⟨_,_,h,hle⟩:=zH ho;injection h with _ _ h;exact h▸hle⟩
    ·simp only[zW]at hr;subst hr;refine own_ge ho (k:=q) ?_;cases A with
     |none=>cases hq
     |some a=>exact hq
    ·simp only[zW]at hr;subst hr;have h1:=own_lt' ho (q:=q) (by cases A with|none=>cases hq|some a=>exact hq)
     simp only[Value.ownBlock]at h;injection h with h;omega
   have HG:=Lh G;have HB:=Lh (hb.trans (b3.mono hsz));have Hyl:=Lh hyl;clear ho hys hb hyl b3 o3 hz3 G hjt
   go_wp2_with fail
   go_ret2;exact⟨_,rfl,_,HG.out,by simp[Hyl.out],HB.out⟩
end Go.Proofs.YtpmlljbebdidgaaGreatDoor
