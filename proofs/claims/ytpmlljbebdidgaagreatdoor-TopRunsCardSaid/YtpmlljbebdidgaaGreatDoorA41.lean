/- Lemmas and walks for the claim: Yj, Yk, Fw, Fx, Fy. -/
import Derived.Test.YtpmlljbebdidgaaGreatDoorA0
import Derived.Test.YtpmlljbebdidgaaGreatDoorA38
import Derived.Test.YtpmlljbebdidgaaGreatDoorA40
import Derived.Test.YtpmlljbebdidgaaGreatDoorA1
import Derived.Deep.RegionHeld3
set_option linter.unusedSimpArgs false
set_option maxRecDepth 100000
set_option maxHeartbeats 4000000
namespace Go.Proofs.YtpmlljbebdidgaaGreatDoor
open Go.RowKit
theorem zm0:(Tryz.prog.info? 87).map (fun i=>(i.zero,i.size,i.bytes))=some (some (.agg #[.int .i64 0, .int .i64 0]),2,16):=by kernel_rfl
theorem zm1(n:Nat):(madeCells #[Value.int .i64 0,Value.int .i64 0] (n*2)).toList=zbg (List.replicate n unsetF):=by
 apply zaf
 intro j;by_cases hj:j<n*2
 ·have hq:j/2<n:=by omega
  have hu:(List.replicate n unsetF)[j/2]?=some unsetF:=by simp[hq]
  have h1:=zgl (List.replicate n unsetF) (j/2) unsetF hu 0 _ rfl;have h2:=zgl (List.replicate n unsetF) (j/2) unsetF hu 1 _ rfl;rcases Nat.mod_two_eq_zero_or_one j with h|h
  ·rw[show j/2*2+0=j by omega]at h1
   rw[h1];simp[madeCells,hj,h,unsetF]
  ·rw[show j/2*2+1=j by omega]at h2
   rw[h2];simp[madeCells,hj,h,unsetF]
 ·rw[zD (by simp[madeCells];omega),zD (by rw[zf3];simp;omega)]
theorem zes{n:Nat}{ars:List ArcV}{T:List Edg}{R P:Nat→Nat}(C:Ctx n ars T R P):AllFit (zcq n ars):=by
 intro x hx;obtain⟨v,hv,rfl⟩:=zY.1 hx
 have:=zM.1 hv
 have:=zfA (upF n ars) v
 have:=C.n2
 show fits _
 unfold fits;omega
theorem zkd{n:Nat}{ars:List ArcV}{T:List Edg}{R P:Nat→Nat}(C:Ctx n ars T R P){l:Nat}(hm:l≤96)(hl:ars.length=l):AllFit (treeF n ars):=by
 intro x hx;rw[C.fi.tree]at hx;obtain⟨e,he,rfl⟩:=zY.1 hx
 have:=(C.fi.edge e (zbt.1 he)).1
 show fits _
 unfold fits;omega
def zlA(n:Nat)(ars:List ArcV)(R:Nat→Nat)(w:World)(e:Ending)(w':World):Prop:=
 ∃gS fs b,e= .returned (.tuple #[.slice (some ⟨gS,0,none⟩) n n, .bool b])∧w'.ownsRow w.heap.size 87 2 (.slice (some ⟨gS,0,none⟩) n n) n (zbg fs)∧Below w.heap.size w w'∧
  (b=true→fs=(List.range n).map (shF n ars R)∧∀v,v<n→Small (shF n ars R v))∧(b=false→Big n R)
def zeS(T:List Edg)(tree:List Int)(fs0 fs:List Fr)(k:Nat)(fit more:Bool):Prop:=
 fit=true→(more=false→fs=fs0∧∀e∈T,∀j:Nat,j<k→tree[j]?=some (e.i:Int)→Closed fs0 e)∧(more=true→zcd fs<zcd fs0)
theorem zhy.fit{fs fs':List Fr}{fit fit' b:Bool}{u v:Nat}{g k:Int}(h:zhy fs fit u v g k fs' fit' b)(hf:fit'=true):fit=true:=by
 rcases h with⟨-,-,rfl,-⟩|⟨f,t,kk,-,-,-,-,-,-,-,-,rfl⟩
 ·exact hf
 ·rw[zag]at hf;exact hf.1
theorem zm2{n:Nat}{ars:List ArcV}{T:List Edg}{R P:Nat→Nat}(C:Ctx n ars T R P){k:Nat}{x:Int}(h:(treeF n ars)[k]?=some x):∃e∈T,x=(e.i:Int):=by
 have hm:=zv h;rw[C.fi.tree]at hm;obtain⟨e,he,rfl⟩:=zY.1 hm;exact⟨e,zbt.1 he,rfl⟩
def zhM(fs fs':List Fr)(fit fit' b:Bool)(u v:Nat):Prop:=fit'=true→fit=true∧(b=true→zcd fs'<zcd fs)∧(b=false→fs'=fs∧(fs[u]?=some unsetF∨∃t,fs[v]?=some t∧1≤t.n))
theorem zku{n:Nat}{ars:List ArcV}{T:List Edg}{R P:Nat→Nat}(C:Ctx n ars T R P){fs fs':List Fr}{fit fit' b:Bool}(hl:fs.length=n)(H:SInv n ars R fs fit){u v:Nat}{g k:Int}(hv:v<n)
  (hh:hm n ars u=hm n ars v) (hg:1≤g) (hg2:g≤64) (hk:1≤k) (hk2:k≤64) (he:g*(R u:Int)=k*(R v:Int)) (hs:zhy fs fit u v g k fs' fit' b):SInv n ars R fs' fit'∧zhM fs fs' fit fit' b u v:=by
 obtain⟨h1,h2⟩:=zmY C hl H hv hh hg hg2 hk hk2 he hs;exact⟨h1,fun hf=>⟨hs.fit hf,h2 hf⟩⟩
theorem zog{T:List Edg}{tree:List Int}{fs0 fs fs1:List Fr}{k:Nat}{fit fit1 more:Bool}{u v:Nat}(h:zeS T tree fs0 fs k fit more)(t1:zhM fs fs1 fit fit1 true u v):zeS T tree fs0 fs1 (k+1) fit1 true:=by
 intro hf;obtain⟨hf0,hc,-⟩:=t1 hf;obtain⟨h1,h2⟩:=h hf0;have hc:=hc rfl;refine⟨fun h=>(by cases h),fun _=>?_⟩
 cases more with
 |false=>rw[(h1 rfl).1]at hc;exact hc
 |true=>have:=h2 rfl;omega
theorem zoh{T:List Edg}{tree:List Int}{fs0 fs fs1 fs2:List Fr}{k:Nat}{fit fit1 fit2 more:Bool}{u v u' v':Nat}(h:zeS T tree fs0 fs k fit more)(t1:zhM fs fs1 fit fit1 false u v)(t2:zhM fs1 fs2 fit1 fit2 true u' v'):zeS T tree fs0 fs2 (k+1) fit2 true:=by
 intro hf;obtain⟨hf1,hc,-⟩:=t2 hf;obtain⟨hf0,-,hb⟩:=t1 hf1;obtain⟨rfl,-⟩:=hb rfl;obtain⟨h1,h2⟩:=h hf0;have hc:=hc rfl;refine⟨fun h=>(by cases h),fun _=>?_⟩
 cases more with
 |false=>rw[(h1 rfl).1]at hc;exact hc
 |true=>have:=h2 rfl;omega
theorem zm3{n:Nat}{ars:List ArcV}{T:List Edg}{R P:Nat→Nat}(C:Ctx n ars T R P){tree:List Int}{fs0 fs fs1 fs2:List Fr}{k:Nat}{fit fit1 fit2 more:Bool}{e:Edg}(he:e∈T)(hk:tree[k]?=some (e.i:Int))(h:zeS T tree fs0 fs k fit more)
  (t1:zhM fs fs1 fit fit1 false e.f e.t) (t2:zhM fs1 fs2 fit1 fit2 false e.t e.f):zeS T tree fs0 fs2 (k+1) fit2 more:=by
 intro hf;obtain⟨hf1,-,hb2⟩:=t2 hf;obtain⟨hf0,-,hb⟩:=t1 hf1;obtain⟨rfl,c1⟩:=hb rfl;obtain⟨rfl,c2⟩:=hb2 rfl;obtain⟨h1,h2⟩:=h hf0;refine⟨fun hm=>?_,h2⟩
 obtain⟨rfl,ha⟩:=h1 hm;refine⟨rfl,fun d hd j hj hjd=>?_⟩
 by_cases hjk:j=k
 ·subst hjk;rw[hk]at hjd;injection hjd with hjd;obtain rfl:d=e:=same_edge C.fi.forest hd he (by omega)
  exact⟨c1,c2⟩
 ·exact ha d hd j (by omega) hjd
theorem zoi{n:Nat}{ars:List ArcV}{T:List Edg}{R P:Nat→Nat}(C:Ctx n ars T R P){fs0 fs:List Fr}{fit more:Bool}(h:zeS T (treeF n ars) fs0 fs (treeF n ars).length fit more):
  (more=false→fit=true→∀e∈T,Closed fs e)∧(more=true→fit=true→zcd fs<zcd fs0):=by
 refine⟨fun hm hf e he=>?_,fun hm hf=>(h hf).2 hm⟩
 obtain⟨rfl,ha⟩:=(h hf).1 hm;have hmem:(e.i:Int)∈treeF n ars:=by rw[C.fi.tree];exact zY.2 ⟨e,zbt.2 he,rfl⟩
 obtain⟨j,hj⟩:=zbY hmem;exact ha e he j (zu.1 hj).1 hj
theorem zlB(n:Nat)(ars:List ArcV)(T:List Edg)(R P:Nat→Nat)(A At Ah:Option Addr)(l c ct ch:Nat)(w:World)(C:Ctx n ars T R P)(hl:ars.length=l)(hx:∀a∈ars,a.fit)(hr:Rd w w.heap.size A (cellsA ars))(hm':l≤96)
  (hrt:Rd w w.heap.size At (cellsI (treeF n ars))) (hrh:Rd w w.heap.size Ah (cellsI (zcq n ars))):
  Calls Tryz.prog 26 #[.agg #[.int .i64 n, .slice A l c], .agg #[.slice At (treeF n ars).length ct, .slice Ah n ch]] w (zlA n ars R w):=by
 obtain⟨i0,hi,hz0,hz1,hz2⟩:=info_parts zm0;have hn1:=C.n1;have hn2:=C.n2
 go_enter Tryz.func26, Tryz.ntmps26
 go_upto_region 1 with fail;obtain⟨W0,hW0⟩:∃W,(w.alloc (.cells #[.int .i64 n, .slice A l c] 30)).alloc (.cells #[.slice At (treeF n ars).length ct, .slice Ah n ch] 79)=W:=⟨_,rfl⟩;have BW:=bA_ w (.cells #[.int .i64 n, .slice A l c] 30);have BW:=BW.alloc BW.size (.cells #[.slice At (treeF n ars).length ct, .slice Ah n ch] 79);have kn:=(Blk.new w _ rfl 30 #[.int .i64 n, .slice A l c]).alloc (.cells #[.slice At (treeF n ars).length ct, .slice Ah n ch] 79);have kf:=Blk.new (w.alloc (.cells #[.int .i64 n, .slice A l c] 30)) (w.heap.size+1) (by simp) 79 #[.slice At (treeF n ars).length ct, .slice Ah n ch]
 rw[hW0]at BW kn kf⊢;have hrA:=(hr.below BW lR_).more BW.size;have hrT:=(hrt.below BW lR_).more BW.size;have hrH:=(hrh.below BW lR_).more BW.size;have HW:=Lh BW;obtain⟨bn,hbn⟩:∃b,w.heap.size=b:=⟨_,rfl⟩;obtain⟨bf,hbf⟩:∃b,bn+1=b:=⟨_,rfl⟩;rw[hbn]at kn kf⊢;rw[hbf]at kf⊢;have HB:=Lh hbn;clear hW0 BW hr hrt hrh hbn hbf;have n0:=kn.cell 0;simp at n0
 go_wp2_with (at_make;refine wpList_make_full _ rfl _ _ 82 rfl W0.heap.size 87 i0 (.agg #[.int .i64 0, .int .i64 0]) 2 Tryz.underlying82 hi hz0 hz1 _ _ _ _ n rfl rfl (by omega) (by omega) (by rw[hz2];omega) (by unfold maxLen;omega) (by simp) ?_)
 intro W1 o1 g1;rw[zm1]at o1;have hlt1:=own_lt o1;have B1:=(zm W0.heap.size W0).grown g1 lR_ (fun k hk=>by cases hk)
 obtain⟨gS,hgS⟩:∃gS,W0.heap.size=gS:=⟨_,rfl⟩;obtain⟨Bs,hBs⟩:∃Bs,W1.heap.size=Bs:=⟨_,rfl⟩;have ks:=Blk.new W1 Bs hBs.symm 82 #[.slice (some ⟨gS,0,none⟩) n n];have o2:=o1.alloc (.cells #[.slice (some ⟨gS,0,none⟩) n n] 82);have B2:=B1.alloc g1.size (.cells #[.slice (some ⟨gS,0,none⟩) n n] 82);obtain⟨W2,hW2⟩:∃W,W1.alloc (.cells #[.slice (some ⟨gS,0,none⟩) n n] 82)=W:=⟨_,rfl⟩;rw[hW2]at ks o2 B2;have f2:=((kf.below B2 kf.lt).cell 1);simp at f2;rw[hgS,hBs]at hlt1;rw[hgS]at o2⊢;rw[←zly n ars]at o2;have HGS:=Lh hgS;clear g1 o1 B1 n0 hgS
 go_upto_region 2 with fail
 try rw[hBs]
 try rw[hW2]
 clear hW2 hBs
 go_wp2_with fail;clear f2
 go_loopw [21] (fun i wr=>∃k:Nat,k≤n∧i= .int .i64 k∧wr.ownsRow gS 87 2 (.slice (some ⟨gS,0,none⟩) n n) n (zbg (initF n ars k))∧Blk wr Bs 82 #[.slice (some ⟨gS,0,none⟩) n n]∧Below W0.heap.size W0 wr) (fun i _=>n-(intOf i).toNat)
 case atStart=>exact⟨0,zJ _,rfl,o2,ks,B2⟩
 case round=>
  clear o2 ks B2;obtain⟨k,hk,rfl,o2,ks,B2⟩:=hrel;by_cases hkn:k<n
  ·obtain⟨b,off,x,rfl,hb,hfx,h0,hd,hat⟩:=(hrH.below B2 lR_).at_ (k:=k) (zes C) (by rw[zb7];exact hkn)
   obtain rfl:x=(hm n ars k:Nat):=by have:=hat.out;rw[zdd hkn]at this;exact(zq this).symm
   clear hd hat;have s0:=ks.cell 0;simp at s0;by_cases hh:hm n ars k=k
   ·rw[hh]at h0;obtain⟨c0,c1,-,-⟩:=(rd_of_own o2).frAt (fun f hf=>(zjA n ars k f hf).1) (zdj hkn)
    rw[zaq]at c0 c1;have z0:=o2.frozenAt (k*2);have z1:=o2.frozenAt (k*2+1);have o3:=((o2.stored (k*2) (.int .i64 1)).1.stored (k*2+1) (.int .i64 1)).1;rw[zhw (initF n ars k) k ⟨1,1⟩,zmZ hkn hh]at o3;have hne:gS≠Bs:=by omega
    have k3:=(ks.far (p:=⟨gS,k*2,none⟩) hne.symm (.int .i64 1)).far (p:=⟨gS,k*2+1,none⟩) hne.symm (.int .i64 1);have B3:=(B2.setCell (p:=⟨gS,k*2,none⟩) (by have:=HGS.out;simp;omega) (.int .i64 1)).setCell (p:=⟨gS,k*2+1,none⟩) (by have:=HGS.out;simp;omega) (.int .i64 1)
    clear o2 ks B2
    go_wp2_with fail
    go_roundw
    case rel=>exact⟨k+1,by omega,by go_num,o3,k3,B3⟩
    case measure=>simp[intOf];omega
   ·have hq:((k:Int)==(hm n ars k:Nat))=false:=by simp;omega
    rw[zof hh]at o2
    go_wp2_with fail
    go_roundw
    case rel=>exact⟨k+1,by omega,by go_num,o2,ks,B2⟩
    case measure=>simp[intOf];omega
  ·obtain rfl:n=k:=by omega
   have hbs:=ks.lt;obtain⟨Bf,hBf⟩:∃b,wr.heap.size=b:=⟨_,rfl⟩;have kb:=Blk.new wr Bf hBf.symm 4 #[.bool true];have o3:=o2.alloc (.cells #[.bool true] 4);have k3:=ks.alloc (.cells #[.bool true] 4);have B3:=B2.alloc B2.size (.cells #[.bool true] 4);rw[hBf]at hbs;obtain⟨W3,hW3⟩:∃W,wr.alloc (.cells #[.bool true] 4)=W:=⟨_,rfl⟩;rw[hW3]at kb o3 k3 B3;have S:zcc W0 W3 gS Bs Bf n (initF n ars n) true:=⟨o3,k3,kb,B3,zd8 _ _ _,zjA _ _ _,by have:=HGS.out;omega,hlt1,hbs⟩
   have I:=Lh (zlz C);clear o2 ks B2 o3 k3 B3 kb hkn hk hbs
   go_upto_region 9 with fail
   try rw[hBf]
   try rw[hW3]
   clear hBf hW3
   go_wp2_with fail
   go_loopg [11] (n+1) (fun gk s11 wr=>∃(fs:List Fr) (fit more:Bool),s11= .bool more∧zcc W0 wr gS Bs Bf n fs fit∧Hid (SInv n ars R fs fit)∧Hid (more=false→fit=true→∀e∈T,Closed fs e)∧Hid (more=true→fit=true→zcd fs<gk))
   case atStart=>exact⟨_,_,_,rfl,S,I,fun h=>(by cases h),fun _ _=>by have:=zaX (fun f:Fr=>decide (f.n=0)) (initF n ars n);rw[zd8]at this;unfold zcd;omega⟩
   case round=>
    clear S I W3;obtain⟨ko,rfl⟩:∃ko:Nat,ko=gk:=⟨_,rfl⟩;obtain⟨fs,fit,more,rfl,S,I,Hc,Hm⟩:=hrel;have x0:=S.ks.cell 0;have x1:=S.kf.cell 0;simp at x0 x1;cases more with
    |false=>
     have HO:=Lh (show zlA n ars R w (.returned (.tuple #[.slice (some ⟨gS,0,none⟩) n n, .bool fit])) (wr.drewN 1)from
      ⟨gS,fs,fit,rfl,zeb (S.drewN 1).row (by have:=HGS.out;have:=HW.out.size;omega),HW.out.trans ((S.drewN 1).bw.mono HW.out.size),fun hf=>by subst hf;exact zoe C S.len I.out (Hc.out rfl rfl),fun hf=>I.out.big hf⟩)
     clear I Hc Hm
     go_wp2_with fail
     go_region
     go_wp2_with fail
     go_ret2;exact HO.out
    |true=>
     cases fit with
     |false=>
      have HO:=Lh (show zlA n ars R w (.returned (.tuple #[.slice (some ⟨gS,0,none⟩) n n, .bool false])) (wr.drewN 1)from
       ⟨gS,fs,false,rfl,zeb (S.drewN 1).row (by have:=HGS.out;have:=HW.out.size;omega),HW.out.trans ((S.drewN 1).bw.mono HW.out.size),fun hf=>(by cases hf),fun hf=>I.out.big hf⟩)
      clear I Hc Hm
      go_wp2_with fail
      go_region
      go_wp2_with fail
      go_ret2;exact HO.out
     |true=>
      have hcn:=Hm.out rfl rfl;have n1:=(kn.below S.bw kn.lt).cell 1;have f0:=(kf.below S.bw kf.lt).cell 0;simp at n1 f0;have HP:=Lh (show zeS T (treeF n ars) fs fs 0 true false from fun _=>⟨fun _=>⟨rfl,fun e _ j hj=>by omega⟩,fun h=>by cases h⟩)
      clear Hc Hm
      go_wp2_with fail;clear x0 x1 n1 f0
      go_loopg [11,42] (treeF n ars).length (fun gj s11 s42 wx=>∃(k:Nat) (gs:List Fr) (fit more:Bool),s11= .bool more∧s42= .int .i64 k∧k+gj=(treeF n ars).length∧zcc W0 wx gS Bs Bf n gs fit∧Hid (SInv n ars R gs fit)∧Hid (zeS T (treeF n ars) fs gs k fit more))
      case atStart=>exact⟨0,fs,true,false,rfl,rfl,by omega,S,I,HP⟩
      case round=>
       clear S I HP;obtain⟨gj,rfl⟩:∃ko:Nat,ko=gk:=⟨_,rfl⟩;obtain⟨k,gs,fit,more,rfl,rfl,hk,S,I,HP⟩:=hrel;have htl:=ziT n ars;by_cases hkt:k<(treeF n ars).length
       ·obtain⟨b,off,x,rfl,hb,hfx,t0,-,hat⟩:=(hrT.below S.bw lR_).at_ (k:=k) (zkd C hm' hl) hkt;obtain⟨e,he,rfl⟩:=zm2 C hat.out;obtain⟨a,ha,haf,hat',hef,het,hhm,hev⟩:=C.edge he;have hab:=C.arc a (zv ha);have hlt:e.i<ars.length:=(zu.1 ha).1;obtain⟨b',off',a',rfl,hb',hfa,c0,c1,c2,c3,c4,-,ha'⟩:=(hrA.below S.bw lR_).arc (k:=e.i) hx hlt;obtain rfl:a=a':=by have:=ha'.out;rw[ha]at this;exact zq this
        rw[haf]at c0;rw[hat']at c1;obtain⟨g1,g2,k1,k2⟩:=hab.2.2.2.2;have HE:=Lh he;have HAT:=Lh hat.out;have HEV:=Lh hev;have HHM:=Lh hhm;have n1:=(kn.below S.bw kn.lt).cell 1;simp at n1;obtain⟨W4,hW4⟩:∃W,wr.alloc (.cells #[.int .i64 e.f, .int .i64 e.t, .int .i64 a.g, .int .i64 a.k, .int .i64 a.s] 76)=W:=⟨_,rfl⟩;obtain⟨ga,hga⟩:∃g,wr.heap.size=g:=⟨_,rfl⟩;have HGA:=Lh (show Bf<ga from hga▸S.kf.lt)
        have ka:=Blk.new wr ga hga.symm 76 #[.int .i64 e.f, .int .i64 e.t, .int .i64 a.g, .int .i64 a.k, .int .i64 a.s];have S4:=S.alloc (.cells #[.int .i64 e.f, .int .i64 e.t, .int .i64 a.g, .int .i64 a.k, .int .i64 a.s] 76);rw[hW4]at ka S4;have d0:=ka.cell 0;have d1:=ka.cell 1;have d2:=ka.cell 2;have d3:=ka.cell 3;simp at d0 d1 d2 d3;have i1:(e.i:Int)<(l:Int):=by omega
        have i0':(0:Int)≤(e.i:Int):=by omega
        clear S ha haf hat' hev hhm hab ha' hat he hfa hfx hlt
        go_upto_region 17 with fail
        try rw[hga]
        try rw[hW4]
        clear hW4 hga t0 c0 c1 c2 c3 c4 n1
        go_wp2_with fail;refine(zgM e.f e.t a.g a.k gs fit n Bs Bf gS W0 W4 S4 hef het g1 g2 k1 k2).mono ?_
        rintro ee W5 ⟨fs1,fit1,b1,rfl,S5,R1,O5⟩;obtain⟨I1,T1⟩:=zku C S4.len I.out het HHM.out g1 g2 k1 k2 HEV.out R1;have I1:=Lh I1;have T1:=Lh T1;clear S4 R1 I;have ka:=O5.blk ka (by have:=S5.s1;have:=S5.s2;have:=HGA.out;omega) (by have:=HGA.out;omega)
        have d0:=ka.cell 0;have d1:=ka.cell 1;have d2:=ka.cell 2;have d3:=ka.cell 3;simp at d0 d1 d2 d3;cases b1 with
        |true=>
         have HP1:=Lh (zog HP.out T1.out);clear T1 HP
         go_wp2_with fail
         go_roundg (gj-1)
         case measure=>omega
         case rel=>exact⟨k+1,fs1,fit1,true,rfl,by go_num,by omega,S5,I1,HP1⟩
        |false=>
         go_wp2_with fail;refine(zgM e.t e.f a.k a.g fs1 fit1 n Bs Bf gS W0 W5 S5 het hef k1 k2 g1 g2).mono ?_
         rintro ee W6 ⟨fs2,fit2,b2,rfl,S6,R2,-⟩;obtain⟨I2,T2⟩:=zku C S5.len I1.out hef HHM.out.symm k1 k2 g1 g2 HEV.out.symm R2;have I2:=Lh I2;have T2:=Lh T2;clear S5 R2 I1 ka d0 d1 d2 d3;cases b2 with
         |true=>
          have HP1:=Lh (zoh HP.out T1.out T2.out);clear T1 T2 HP
          go_wp2_with fail
          go_roundg (gj-1)
          case measure=>omega
          case rel=>exact⟨k+1,fs2,fit2,true,rfl,by go_num,by omega,S6,I2,HP1⟩
         |false=>
          have HP1:=Lh (zm3 C HE.out HAT.out HP.out T1.out T2.out);clear T1 T2 HP
          go_wp2_with fail
          go_roundg (gj-1)
          case measure=>omega
          case rel=>exact⟨k+1,fs2,fit2,more,rfl,by go_num,by omega,S6,I2,HP1⟩
       ·obtain rfl:k=(treeF n ars).length:=by omega
        obtain⟨q1,q2⟩:=zoi C HP.out;have q1:=Lh q1;have q2:=Lh q2;clear HP
        go_wp2_with fail
        go_roundg (zcd fs)
        case measure=>exact hcn
        case rel=>exact⟨gs,fit,more,rfl,S,I,q1,q2⟩
structure But(g:Nat)(w w':World):Prop where
 os:w'.os=w.os
 tape:w'.tape=w.tape
 output:w'.output=w.output
 size:w.heap.size≤w'.heap.size
 block:∀k,k<w.heap.size→k≠g→w'.heap[k]?=w.heap[k]?
theorem Below.but{w w':World}(h:Below w.heap.size w w')(g:Nat):But g w w':=⟨h.os,h.tape,h.output,h.size,fun k hk _=>h.block k hk⟩
theorem But.trans{g:Nat}{a b c:World}(h:But g a b)(h':But g b c):But g a c:=
 ⟨h'.os.trans h.os,h'.tape.trans h.tape,h'.output.trans h.output,zy h.size h'.size,fun k hk hn=>(h'.block k (zP hk h.size) hn).trans (h.block k hk hn)⟩
theorem But.down{g:Nat}{a w w':World}(h:But g w w')(hb:Below a.heap.size a w)(hg:a.heap.size≤g):Below a.heap.size a w':=
 hb.trans ⟨h.os,h.tape,h.output,h.size,fun k hk=>h.block k (zP hk hb.size) (by omega)⟩
theorem But.blk{g:Nat}{w w':World}(h:But g w w'){k:Nat}{t:TypeId}{cs:Array Value}(hk:Blk w k t cs)(hn:k≠g):Blk w' k t cs:=(h.block k hk.lt hn).trans hk
theorem But.set(w:World)(g j:Nat)(u:Value):But g w (w.setCell ⟨g,j,none⟩ u):=⟨rfl,rfl,rfl,by simp[World.setCell],fun _ _ hn=>zaa _ _ _ _ hn⟩
theorem But.rd{g:Nat}{w w':World}(h:But g w w'){B:Nat}{A:Option Addr}{cs:List Value}(hr:Rd w B A cs)(hB:B≤w.heap.size)(hA:∀b,blkOf A=some b→b≠g):Rd w' B A cs:=by
 rcases hr with hr|⟨b,off,rfl,hb,hc⟩
 ·exact .inl hr
 ·refine .inr ⟨b,off,rfl,hb,fun j u hu=>?_⟩
  rw[zbB (w:=w) (a:=⟨b,off+j,none⟩) (h.block b (by omega) (hA b rfl))]
  exact hc j u hu
theorem But.own{g:Nat}{w w':World}(h:But g w w'){base:Nat}{e:TypeId}{size n:Nat}{v:Value}{xs:List Value}(ho:w.ownsRow base e size v n xs)(hA:v.ownBlock≠some g):w'.ownsRow base e size v n xs:=by
 obtain⟨h1,h2⟩:=ho;refine⟨h1,?_⟩;rcases h2 with h2|⟨k,cap,cur,rfl,hk,hh,hr⟩
 ·exact .inl h2
 ·refine .inr ⟨k,cap,cur,rfl,hk,?_,hr⟩;have hlt:k<w.heap.size:=by
   rcases zcf k w.heap.size with hlt|hge
   ·exact hlt
   ·rw[zbo hge]at hh;cases hh
  rw[h.block k hlt (fun he=>hA (by rw[he];rfl))]
  exact hh
theorem Tab.but{g:Nat}{w w':World}(h:Tab w)(hb:But g w w')(hg: 0 ≠g):Tab w':=fun j hj=>by
 rw[zbB (w:=w) (a:=⟨0,j,none⟩) (hb.block _ h.pos hg)];exact h j hj
def rowN(n:Nat)(V:Nat→Int):List Int:=(List.range n).map V
theorem zcA(n:Nat)(V:Nat→Int):(rowN n V).length=n:=by simp[rowN]
theorem zem{n:Nat}{V:Nat→Int}{v:Nat}(hv:v<n):(rowN n V)[v]?=some (V v):=by simp[rowN,hv]
theorem zfY{n:Nat}{V V':Nat→Int}(h:∀v,v<n→V v=V' v):rowN n V=rowN n V':=by
 unfold rowN;exact zaV fun v hv=>h v (zM.1 hv)
theorem zoj{n:Nat}{V:Nat→Int}{k:Nat}{u:Int}:(rowN n V).set k u=rowN n fun v=>if v=k then u else V v:=by
 refine zaf fun v=>?_
 rw[zaJ];by_cases hv:v<n
 ·rw[zem hv,zem hv,zcA];by_cases hkv:k=v
  ·subst hkv;simp[hv]
  ·rw[if_neg hkv,if_neg (fun e=>hkv e.symm)]
 ·rw[zD (by rw[zcA];omega),zD (by rw[zcA];omega),zcA]
  by_cases hkv:k=v
  ·rw[if_pos hkv,if_neg (by omega)]
  ·rw[if_neg hkv]
theorem zpb{a b:Nat}(ha:1≤a)(ha2:a≤4096)(hb:1≤b)(hb2:b≤4096):zd2 1 true [(a:Int),(b:Int)]=(((Nat.lcm a b:Nat):Int),true):=by
 have h1:a/Nat.gcd a b*b=Nat.lcm a b:=by
  unfold Nat.lcm;exact Nat.div_mul_right_comm (zbI a b) b
 have h2:Nat.lcm a b≤a*b:=zbr (zbw ha hb) (Nat.lcm_dvd (Nat.dvd_mul_right _ _) (Nat.dvd_mul_left _ _))
 have h3:a*b≤4096*4096:=zdx ha2 hb2
 have e1:((a:Int)).natAbs=a:=by omega
 have e2:((b:Int)).natAbs=b:=by omega
 have o1:okB (((1/Nat.gcd 1 a*a:Nat)):Int)=true:=zdI (by simp;unfold fits;omega)
 have m1:1/Nat.gcd 1 a*a%18446744073709551616=a:=by simp;omega
 have o2:okB ((Nat.lcm a b:Nat):Int)=true:=zdI (by unfold fits;omega)
 have m2:Nat.lcm a b%18446744073709551616=Nat.lcm a b:=zdV (by omega)
 rw[zd2,if_neg (by omega),if_neg (by simp),e1,o1,m1,zd2,if_neg (by omega),if_neg (by simp),e2,h1,o2,m2]
 simp[zd2]
theorem zkv{n:Nat}{T:List Edg}(hT:∀e∈T,e.f<n∧e.t<n):∀{p:List Stp} {u v:Nat},Walk T u p v→u<n→v<n
 |[],u,v,h,hu=>by rw[←show u=v from h];exact hu
 |s::p,u,v,⟨m,⟨e,he,_,h2⟩,h3⟩,_=>by
  refine zkv hT h3 ?_
  have:=hT e he
  split at h2<;>omega
theorem Ctx.lt{n:Nat}{ars:List ArcV}{T:List Edg}{R P:Nat→Nat}(C:Ctx n ars T R P){u v:Nat}(hu:u<n)(h:P v=P u):v<n:=by
 obtain⟨p,hp⟩:=(C.ri.cls u v).1 h.symm;exact zkv (fun e he=>⟨(C.fi.edge e he).2.1,(C.fi.edge e he).2.2.1⟩) hp hu
def zpC(n:Nat)(ars:List ArcV)(R:Nat→Nat)(h gR B:Nat)(V:Nat→Int)(w:World)(e:Ending)(w':World):Prop:=
 ∃b V',e= .returned (.bool b)∧w'.ownsRow B 3 1 (.slice (some ⟨gR,0,none⟩) n n) n (cellsI (rowN n V'))∧But gR w w'∧
  (b=true→(∀v,v<n→V' v=if hm n ars v=h then(R v:Int)else V v)∧∀v,v<n→hm n ars v=h→R v≤4096)∧(b=false→Big n R)
theorem zm4(n:Nat)(ars:List ArcV)(T:List Edg)(R P:Nat→Nat)(At Ah S:Option Addr)(lt ct ch h gR B:Nat)(V:Nat→Int)(w:World)(C:Ctx n ars T R P)(hhn:h<n)(hhh:hm n ars h=h)(hsm:∀v,v<n→Small (shF n ars R v))
  (hrh:Rd w w.heap.size Ah (cellsI (zcq n ars))) (hrs:Rd w w.heap.size S (zbg ((List.range n).map (shF n ars R)))) (hT:Tab w)
  (ho:w.ownsRow B 3 1 (.slice (some ⟨gR,0,none⟩) n n) n (cellsI (rowN n V))) (hA1:∀b,blkOf Ah=some b→b≠gR) (hA2:∀b,blkOf S=some b→b≠gR):
  Calls Tryz.prog 27 #[.agg #[.slice At lt ct, .slice Ah n ch], .slice S n n, .int .i64 (h:Nat), .slice (some ⟨gR,0,none⟩) n n] w (zpC n ars R h gR B V w):=by
 have hn1:=C.n1;have hn2:=C.n2;have hgl:=own_lt ho;have hgB:B≤gR:=own_ge ho rfl;have hpos:=C.ri.pos;have hrate:∀v,v<n→hm n ars v=h→P v=P h:=fun v hv hvh=>(C.part hv hhn).2 (by rw[hvh,hhh])
 go_enter Tryz.func27, Tryz.ntmps27
 go_upto_region 1 with fail;obtain⟨W0,hW0⟩:∃W,w.alloc (.cells #[.slice At lt ct, .slice Ah n ch] 79)=W:=⟨_,rfl⟩;have BW:=bA_ w (.cells #[.slice At lt ct, .slice Ah n ch] 79);have kf:=bN_ BW;have o0:=ho.alloc (.cells #[.slice At lt ct, .slice Ah n ch] 79);rw[hW0]at BW kf o0⊢;have hrH:=(hrh.below BW lR_).more BW.size;have hrS:=(hrs.below BW lR_).more BW.size;have hT0:=hT.below BW hT.pos;have HW:=Lh BW;obtain⟨bf,hbf⟩:∃b,w.heap.size=b:=⟨_,rfl⟩;rw[hbf]at kf hgl⊢;clear hW0 BW hrh hrs hT ho hbf;have f1:=kf.cell 1;simp at f1
 go_wp2_with fail;clear f1
 go_loopw [9,19] (fun x i wr=>∃K k:Nat,k≤n∧i= .int .i64 k∧x= .int .i64 K∧1≤K∧K≤4096∧Hid (K∣R h)∧Hid (∀v,v<k→hm n ars v=h→denN (R v) (R h)∣K)∧Below W0.heap.size W0 wr) (fun _ i _=>n-(intOf i).toNat)
 case atStart=>exact⟨1,0,zJ _,rfl,rfl,by omega,by omega,Nat.one_dvd _,fun v hv=>by omega,zm _ _⟩
 case round=>
  obtain⟨K,k,hk,rfl,rfl,hK1,hK2,HKd,HKa,B1⟩:=hrel;by_cases hkn:k<n
  ·obtain⟨b,off,x,rfl,hb,hfx,h0,hd,hat⟩:=(hrH.below B1 lR_).at_ (k:=k) (zes C) (by rw[zb7];exact hkn)
   obtain rfl:x=(hm n ars k:Nat):=by have:=hat.out;rw[zdd hkn]at this;exact(zq this).symm
   clear hd hat;by_cases hh:hm n ars k=h
   ·rw[hh]at h0;obtain⟨b2,off2,f,rfl,hb2,hff,c0,c1,hd,hat⟩:=(hrS.below B1 lR_).fr (k:=k) (by intro a ha;obtain⟨v,hv,rfl⟩:=zY.1 ha;exact(hsm v (zM.1 hv)).fit) (by simp[hkn])
    obtain rfl:f=shF n ars R k:=by have:=hat.out;simp[hkn]at this;exact this.symm
    have hsk:=hsm k hkn;unfold shF at c1 c0 hsk;rw[hh]at c1 c0 hsk;obtain⟨e1,e2,e3,e4,e5,e6⟩:=zgB (hpos k) (hpos h);rw[←e1]at c1;have e7:denN (R k) (R h)≤4096:=by have:=hsk.d2;omega
    have HD6:=Lh e6;obtain⟨dd,hdd⟩:∃d,denN (R k) (R h)=d:=⟨_,rfl⟩;rw[hdd]at c1 e3 e7;have hlc:=zpb hK1 hK2 e3 e7;clear hd hat c0 e1 e2 e4 e5 e6 hsk hff hfx
    go_upto_region 7 with fail;refine(zoU [(K:Int),(dd:Int)] _ 2 2 (wr.heap.size+1) _ rfl (fun y hy=>by simp at hy;rcases hy with rfl|rfl<;>(unfold fits;omega)) (zal wr _ rfl 3 (cellsI [(K:Int),(dd:Int)])) (by unfold maxLen;simp) ((hT0.below B1 hT0.pos).alloc _)).mono ?_
    rintro e w2 ⟨rfl,hdr⟩;rw[hlc];have B2:=(B1.alloc B1.size (.cells #[.int .i64 K, .int .i64 dd] 3)).trans (hdr.below W0.heap.size);clear hdr hlc c1 h0 B1;obtain⟨L,hL⟩:∃L,Nat.lcm K dd=L:=⟨_,rfl⟩;rw[hL];have HL:=Lh hL;have HD:=Lh hdd;clear hL hdd;by_cases hL4:L≤4096
    ·have q1:decide ((L:Int)>4096)=false:=decide_eq_false (by omega)
     have q2:decide ((4096:Int)<(L:Int))=false:=decide_eq_false (by omega)
     have q3:decide (4096<L)=false:=decide_eq_false (by omega)
     go_wp2_with fail
     go_roundw
     case rel=>exact⟨L,k+1,by omega,by go_num,rfl,by rw[←HL.out];exact Nat.lcm_pos hK1 e3,hL4,by unfold Hid;rw[←HL.out];exact Nat.lcm_dvd HKd.out (by have:=HD6.out;rw[HD.out]at this;exact this),fun v hv hvh=>by
      by_cases hvk:v=k
      ·subst hvk;rw[←HL.out,HD.out];exact Nat.dvd_lcm_right _ _
      ·rw[←HL.out];exact Nat.dvd_trans (HKa.out v (by omega) hvh) (Nat.dvd_lcm_left _ _),B2⟩
     case measure=>simp[intOf];omega
    ·have q1:decide ((L:Int)>4096)=true:=decide_eq_true (by omega)
     have q2:decide ((4096:Int)<(L:Int))=true:=decide_eq_true (by omega)
     have q3:decide (4096<L)=true:=decide_eq_true (by omega)
     have HB:=Lh (show Big n R from⟨h,hhn,by
      have h1:L∣R h:=by rw[←HL.out];exact Nat.lcm_dvd HKd.out (by have:=HD6.out;rw[HD.out]at this;exact this)
      have:=zbr (hpos h) h1
      omega⟩)
     go_wp2_with fail
     go_ret;exact⟨false,V,rfl,own_below o0 (B2.mono lR_),((Below.but HW.out gR).trans (Below.but B2 gR)),fun h=>(by cases h),fun _=>HB.out⟩
   ·have hq:((hm n ars k:Nat) !=(h:Int))=true:=by simp;omega
    have HKa':=Lh (show∀v,v<k+1→hm n ars v=h→denN (R v) (R h)∣K from fun v hv hvh=>by
     by_cases hvk:v=k
     ·subst hvk;exact absurd hvh hh
     ·exact HKa.out v (by omega) hvh)
    clear HKa
    go_wp2_with fail
    go_roundw
    case rel=>exact⟨K,k+1,by omega,by go_num,rfl,hK1,hK2,HKd,HKa',B1⟩
    case measure=>simp[intOf];omega
  ·obtain rfl:n=k:=by omega
   obtain rfl:K=R h:=zmX C.ri (fun v hv=>HKa.out v (C.lt hhn hv) (by have:=(C.part (C.lt hhn hv) hhn).1 hv;rw[this,hhh])) HKd.out
   have f1:=(kf.below B1 kf.lt).cell 1;simp at f1;have o1:=own_below o0 B1;have hlW:=B1.size;have B0:=HW.out.trans (B1.mono HW.out.size);have X0:=Lh (Below.but B0 gR);have kf1:=kf.below B1 kf.lt;have hrH1:=(hrH.below B1 lR_).more hlW;have hrS1:=(hrS.below B1 lR_).more hlW;obtain⟨W1,hW1⟩:∃W,W=wr:=⟨_,rfl⟩;rw[←hW1]at f1 o1 kf1 hrH1 hrS1 X0⊢;clear hW1 HKd HKa B1 B0 hlW hkn hk wr hrH hrS kf o0
   go_wp2_with fail;clear f1
   go_loopw [49] (fun i wr=>∃k:Nat,k≤n∧i= .int .i64 k∧wr.ownsRow B 3 1 (.slice (some ⟨gR,0,none⟩) n n) n (cellsI (rowN n fun v=>if v<k∧hm n ars v=h then(R v:Int)else V v))∧But gR W1 wr∧Hid (∀v,v<k→hm n ars v=h→R v≤4096)) (fun i _=>n-(intOf i).toNat)
   case atStart=>exact⟨0,zJ _,rfl,by rw[zfY (V':=V) (fun v _=>by simp)];exact o1,⟨rfl,rfl,rfl,zF _,fun _ _ _=>rfl⟩,fun v hv=>by omega⟩
   case round=>
    clear o1;obtain⟨k,hk,rfl,o1,B1,HR⟩:=hrel;by_cases hkn:k<n
    ·obtain⟨b,off,x,rfl,hb,hfx,h0,hd,hat⟩:=(B1.rd hrH1 lR_ hA1).at_ (k:=k) (zes C) (by rw[zb7];exact hkn)
     obtain rfl:x=(hm n ars k:Nat):=by have:=hat.out;rw[zdd hkn]at this;exact(zq this).symm
     clear hd hat;by_cases hh:hm n ars k=h
     ·rw[hh]at h0;obtain⟨b2,off2,f,rfl,hb2,hff,c0,c1,hd,hat⟩:=(B1.rd hrS1 lR_ hA2).fr (k:=k) (by intro a ha;obtain⟨v,hv,rfl⟩:=zY.1 ha;exact(hsm v (zM.1 hv)).fit) (by simp[hkn])
      obtain rfl:f=shF n ars R k:=by have:=hat.out;simp[hkn]at this;exact this.symm
      have hsk:=hsm k hkn;unfold shF at c1 c0 hsk;rw[hh]at c1 c0 hsk;obtain⟨e1,e2,e3,e4,e5,e6⟩:=zgB (hpos k) (hpos h);rw[←e1]at c1;rw[←e2]at c0;have e7:denN (R k) (R h)≤4096:=by have:=hsk.d2;omega
      have e8:numN (R k) (R h)≤4096:=by have:=hsk.n2;omega
      have e9:=zkb (hpos k) (hpos h);clear e1 e2 e5 e6 hsk hd hat hff hfx;obtain⟨dd,hdd⟩:∃d,denN (R k) (R h)=d:=⟨_,rfl⟩;obtain⟨nn,hnn⟩:∃d,numN (R k) (R h)=d:=⟨_,rfl⟩;rw[hdd]at c1 e3 e7 e9;rw[hnn]at c0 e4 e8 e9;clear hdd hnn;have q0:((dd:Int)==0)=false:=by simp;omega
      have q0':¬(dd:Int)=0:=by omega
      have q1:((R h:Nat):Int).tdiv (dd:Int)=((R h/dd:Nat):Int):=by rw[Int.tdiv_eq_ediv_of_nonneg (by omega)];exact(zbJ _ _).symm
      have q2:((R h/dd:Nat):Int)*(nn:Int)=(R k:Nat):=by rw[←e9];exact(zax _ _).symm
      have q3:R h/dd≤4096:=zy (zaN _ _) hK2
      have q4:R k≤4096*4096:=by rw[←e9];exact zdx q3 e8
      obtain⟨qq,hqq⟩:∃d,R h/dd=d:=⟨_,rfl⟩;rw[hqq]at q1 q2 q3;clear e9 hqq;have hco:=o1.cellAt k (by omega)
      rw[show(cellsI (rowN n fun v=>if v<k∧hm n ars v=h then(R v:Int)else V v))[k]?=some (.int .i64 (V k)) by simp only[cellsI,zp,zem hkn];simp]at hco
      have fro:=o1.frozenAt k;have o2:=(o1.stored k (.int .i64 (R k:Nat))).1;rw[zd7,zoj,zfY (V':=fun v=>if v<k+1∧hm n ars v=h then(R v:Int)else V v) (fun v hv=>by
       by_cases hvk:v=k
       ·subst hvk;simp[hh]
       ·rw[if_neg hvk];by_cases hlt:v<k
        ·simp[hlt,show v<k+1 by omega]
        ·simp[hlt,show¬v<k+1 by omega])]at o2
      have B2:=B1.trans (But.set wr gR k (.int .i64 (R k:Nat)));have hc2:=o2.cellAt k (by omega)
      rw[show(cellsI (rowN n fun v=>if v<k+1∧hm n ars v=h then(R v:Int)else V v))[k]?=some (.int .i64 (R k:Nat)) by simp only[cellsI,zp,zem hkn];simp[hh]]at hc2
      clear o1 B1;by_cases hb4:R k≤4096
      ·have q5:decide ((R k:Int)>4096)=false:=decide_eq_false (by omega)
       have q6:decide (4096<R k)=false:=decide_eq_false (by omega)
       have HR2:=Lh (show∀v,v<k+1→hm n ars v=h→R v≤4096 from fun v hv hvh=>by
        by_cases hvk:v=k
        ·subst hvk;exact hb4
        ·exact HR.out v (by omega) hvh)
       go_upto_region 15 with fail
       go_region
       go_wp2_with fail
       go_roundw
       case rel=>exact⟨k+1,by omega,by go_num,o2,B2.trans (Below.but (Below.drewN (zm _ _) 1) gR),HR2⟩
       case measure=>simp[intOf];omega
      ·have q5:decide ((R k:Int)>4096)=true:=decide_eq_true (by omega)
       have q6:decide (4096<R k)=true:=decide_eq_true (by omega)
       go_upto_region 15 with fail
       go_region
       go_wp2_with fail
       go_ret;exact⟨false,_,rfl,o2,X0.out.trans (B2.trans (Below.but (Below.drewN (zm _ _) 1) gR)),fun h=>(by cases h),fun _=>⟨k,hkn,by omega⟩⟩
     ·have hq:((hm n ars k:Nat)==(h:Int))=false:=by simp;omega
      have HR2:=Lh (show∀v,v<k+1→hm n ars v=h→R v≤4096 from fun v hv hvh=>by
       by_cases hvk:v=k
       ·subst hvk;exact absurd hvh hh
       ·exact HR.out v (by omega) hvh)
      rw[zfY (V':=fun v=>if v<k+1∧hm n ars v=h then(R v:Int)else V v) (fun v hv=>by
       by_cases hvk:v=k
       ·subst hvk;simp[hh]
       ·by_cases hlt:v<k
        ·simp[hlt,show v<k+1 by omega]
        ·simp[hlt,show¬v<k+1 by omega])]at o1
      go_wp2_with fail
      go_roundw
      case rel=>exact⟨k+1,by omega,by go_num,o1,B1,HR2⟩
      case measure=>simp[intOf];omega
    ·obtain rfl:n=k:=by omega
     go_wp2_with fail
     go_ret;exact⟨true,_,rfl,o1,X0.out.trans B1,fun _=>⟨fun v hv=>by simp[hv],fun v hv hvh=>HR.out v hv hvh⟩,fun h=>(by cases h)⟩
def PathAns(n:Int)(ars:List ArcV)(s t k:Int)(p:List Stp):Prop:=
 (checkF n ars≠0∧k=checkF n ars∧p=[])∨
 (checkF n ars=0∧(s<0∨t<0∨n≤s∨n≤t)∧k=100∧p=[])∨
 (checkF n ars=0∧∃m a b:Nat,n=m∧s=a∧t=b∧a<m∧b<m∧root (upF m ars) a≠root (upF m ars) b∧k=110∧p=[])∨
 (checkF n ars=0∧∃m a b:Nat,n=m∧s=a∧t=b∧a<m∧b<m∧root (upF m ars) a=root (upF m ars) b∧k=0∧∃T,FInv m ars ars.length (upF m ars) (treeF m ars) T∧Walk T a p b∧Red p)
theorem tree_same{n:Nat}{ars:List ArcV}{T T':List Edg}(h:FInv n ars ars.length (upF n ars) (treeF n ars) T)(h':FInv n ars ars.length (upF n ars) (treeF n ars) T'){u v:Nat}{p:List Stp}(hp:Walk T u p v):Walk T' u p v:=by
 induction p generalizing u with
 |nil=>exact hp
 |cons s p ih=>
  obtain⟨m,h1,h2⟩:=hp;exact⟨m,(zfO h').2 ((zfO h).1 h1),ih h2⟩
theorem PathAns.one{n:Int}{ars:List ArcV}{s t k k':Int}{p p':List Stp}(h:PathAns n ars s t k p)(h':PathAns n ars s t k' p'):k=k'∧p=p':=by
 rcases h with⟨h1,h2,h3⟩|⟨h1,h2,h3,h4⟩|⟨h1,m,a,b,rfl,rfl,rfl,h2,h3,h4,h5,h6⟩|⟨h1,m,a,b,rfl,rfl,rfl,h2,h3,h4,h5,T,h6,h7,h8⟩<;>
  rcases h' with⟨g1,g2,g3⟩|⟨g1,g2,g3,g4⟩|⟨g1,m',a',b',e1,e2,e3,g2,g3,g4,g5,g6⟩|⟨g1,m',a',b',e1,e2,e3,g2,g3,g4,g5,T',g6,g7,g8⟩
 all_goals first
  |exact absurd h1 g1
  |exact absurd g1 h1
  |(exfalso;omega)
  |skip
 ·exact⟨h2.trans g2.symm,h3.trans g3.symm⟩
 ·exact⟨h3.trans g3.symm,h4.trans g4.symm⟩
 ·exact⟨h5.trans g5.symm,h6.trans g6.symm⟩
 ·obtain rfl:m=m':=by omega
  obtain rfl:a=a':=by omega
  obtain rfl:b=b':=by omega
  exact absurd g4 h4
 ·obtain rfl:m=m':=by omega
  obtain rfl:a=a':=by omega
  obtain rfl:b=b':=by omega
  exact absurd h4 g4
 ·obtain rfl:m=m':=by omega
  obtain rfl:a=a':=by omega
  obtain rfl:b=b':=by omega
  exact⟨h5.trans g5.symm,uniq h6.forest h7 (tree_same g6 h6 g7) h8 g8⟩
theorem znC(n:Int)(ars:List ArcV)(A:Option Addr)(l c:Nat)(s t:Int)(w:World)(hl:ars.length=l)(hx:∀a∈ars,a.fit)(hr:Rd w w.heap.size A (cellsA ars))(hm:l≤maxLen)(hs:fits s)(ht:fits t):
  Calls Tryz.prog 29 #[.agg #[.int .i64 n, .slice A l c], .int .i64 s, .int .i64 t] w fun e w'=>∃A' c' k p,e= .returned (.tuple #[.slice A' p.length c', .int .i64 k])∧PathAns n ars s t k p∧Rd w' w'.heap.size A' (cellsS p)∧p.length≤32∧Below w.heap.size w w':=by
 by_cases hc:checkF n ars=0
 ·have hn:∃m:Nat,n=m:=by
   refine⟨n.toNat,?_⟩;unfold checkF at hc;split at hc
   ·cases hc
   ·omega
  obtain⟨m,rfl⟩:=hn;by_cases hst:s<0∨t<0∨(m:Int)≤s∨(m:Int)≤t
  ·exact(zl5 m ars A l c s t w hl hx hr hm hc hs ht hst).mono fun e w' ⟨he,hb⟩=>⟨none,0,100,[],he, .inr (.inl ⟨hc,hst,rfl,rfl⟩), .inl rfl,by simp,hb⟩
  ·obtain⟨a,rfl⟩:∃a:Nat,s=a:=⟨s.toNat,by omega⟩
   obtain⟨b,rfl⟩:∃b:Nat,t=b:=⟨t.toNat,by omega⟩
   have ha:a<m:=by omega
   have hb:b<m:=by omega
   by_cases he:root (upF m ars) a=root (upF m ars) b
   ·obtain⟨T,hT⟩:=ziP (zew hc).2.2.2;exact(zoI m ars A l c a b w T hT hl hx hr hm hc ha hb he).mono fun e w' ⟨A',c',p,h1,h2,h3,h4,h5,h6⟩=>
     ⟨A',c',0,p,h1, .inr (.inr (.inr ⟨hc,m,a,b,rfl,rfl,rfl,ha,hb,he,rfl,T,hT,h2,h3⟩)),rd_of_own h4,h6,h5⟩
   ·exact(zkM m ars A l c a b w hl hx hr hm hc ha hb he).mono fun e w' ⟨h1,h2⟩=>⟨none,0,110,[],h1, .inr (.inr (.inl ⟨hc,m,a,b,rfl,rfl,rfl,ha,hb,he,rfl,rfl⟩)), .inl rfl,by simp,h2⟩
 ·exact(znA n ars A l c s t w hl hx hr hm hc).mono fun e w' ⟨he,hb⟩=>⟨none,0,checkF n ars,[],he, .inl ⟨hc,rfl,rfl⟩, .inl rfl,by simp,hb⟩
end Go.Proofs.YtpmlljbebdidgaaGreatDoor
