/- Lemmas and walks for the claim: Yj, Yk, Fw, Fx. -/
import Derived.Test.YtpmlljbebdidgaaGreatDoorA0
import Derived.Test.YtpmlljbebdidgaaGreatDoorA43
import Derived.Test.YtpmlljbebdidgaaGreatDoorA44
import Derived.Test.YtpmlljbebdidgaaGreatDoorA1
import Derived.Deep.RegionHeld3
set_option maxRecDepth 100000
set_option maxHeartbeats 4000000
namespace Go.Proofs.YtpmlljbebdidgaaGreatDoor
open Go.RowKit
theorem info_frac:(Tryz.prog.info? 87).map (fun i=>(i.zero,i.size,i.bytes))=some (some (.agg #[.int .i64 0, .int .i64 0]),2,16):=by kernel_rfl
theorem made_frac(n:Nat):(madeCells #[Value.int .i64 0,Value.int .i64 0] (n*2)).toList=cellsF (List.replicate n unsetF):=by
 apply List.ext_getElem?
 intro j;by_cases hj:j<n*2
 ·have hq:j/2<n:=by omega
  have hu:(List.replicate n unsetF)[j/2]?=some unsetF:=by simp[hq]
  have h1:=cellsF_at (List.replicate n unsetF) (j/2) unsetF hu 0 _ rfl;have h2:=cellsF_at (List.replicate n unsetF) (j/2) unsetF hu 1 _ rfl;rcases Nat.mod_two_eq_zero_or_one j with h|h
  ·rw[show j/2*2+0=j by omega]at h1
   rw[h1];simp[madeCells,hj,h,unsetF]
  ·rw[show j/2*2+1=j by omega]at h2
   rw[h2];simp[madeCells,hj,h,unsetF]
 ·rw[List.getElem?_eq_none (by simp[madeCells];omega),List.getElem?_eq_none (by rw[cellsF_length];simp;omega)]
theorem home_fit_of{n:Nat}{ars:List ArcV}{T:List Edg}{R P:Nat→Nat}(C:Ctx n ars T R P):AllFit (homeF n ars):=by
 intro x hx;obtain⟨v,hv,rfl⟩:=List.mem_map.1 hx
 have:=List.mem_range.1 hv
 have:=root_le (upF n ars) v
 have:=C.n2
 show fits _
 unfold fits;omega
theorem tree_fit_of{n:Nat}{ars:List ArcV}{T:List Edg}{R P:Nat→Nat}(C:Ctx n ars T R P){l:Nat}(hm:l≤96)(hl:ars.length=l):AllFit (treeF n ars):=by
 intro x hx;rw[C.fi.tree]at hx;obtain⟨e,he,rfl⟩:=List.mem_map.1 hx
 have:=(C.fi.edge e (List.mem_reverse.1 he)).1
 show fits _
 unfold fits;omega
def SpOut(n:Nat)(ars:List ArcV)(R:Nat→Nat)(w:World)(e:Ending)(w':World):Prop:=
 ∃gS fs b,e= .returned (.tuple #[.slice (some ⟨gS,0,none⟩) n n, .bool b])∧w'.ownsRow w.heap.size 87 2 (.slice (some ⟨gS,0,none⟩) n n) n (cellsF fs)∧Below w.heap.size w w'∧
  (b=true→fs=(List.range n).map (shF n ars R)∧∀v,v<n→Small (shF n ars R v))∧(b=false→Big n R)
def PassR(T:List Edg)(tree:List Int)(fs0 fs:List Fr)(k:Nat)(fit more:Bool):Prop:=
 fit=true→(more=false→fs=fs0∧∀e∈T,∀j:Nat,j<k→tree[j]?=some (e.i:Int)→Closed fs0 e)∧(more=true→cntU_Y fs<cntU_Y fs0)
theorem StepR.fit{fs fs':List Fr}{fit fit' b:Bool}{u v:Nat}{g k:Int}(h:StepR fs fit u v g k fs' fit' b)(hf:fit'=true):fit=true:=by
 rcases h with⟨-,-,rfl,-⟩|⟨f,t,kk,-,-,-,-,-,-,-,-,rfl⟩
 ·exact hf
 ·rw[Bool.and_eq_true]at hf;exact hf.1
theorem tree_edge{n:Nat}{ars:List ArcV}{T:List Edg}{R P:Nat→Nat}(C:Ctx n ars T R P){k:Nat}{x:Int}(h:(treeF n ars)[k]?=some x):∃e∈T,x=(e.i:Int):=by
 have hm:=List.mem_of_getElem? h;rw[C.fi.tree]at hm;obtain⟨e,he,rfl⟩:=List.mem_map.1 hm;exact⟨e,List.mem_reverse.1 he,rfl⟩
def Told(fs fs':List Fr)(fit fit' b:Bool)(u v:Nat):Prop:=fit'=true→fit=true∧(b=true→cntU_Y fs'<cntU_Y fs)∧(b=false→fs'=fs∧(fs[u]?=some unsetF∨∃t,fs[v]?=some t∧1≤t.n))
theorem told_of{n:Nat}{ars:List ArcV}{T:List Edg}{R P:Nat→Nat}(C:Ctx n ars T R P){fs fs':List Fr}{fit fit' b:Bool}(hl:fs.length=n)(H:SInv n ars R fs fit){u v:Nat}{g k:Int}(hv:v<n)
  (hh:hm n ars u=hm n ars v) (hg:1≤g) (hg2:g≤64) (hk:1≤k) (hk2:k≤64) (he:g*(R u:Int)=k*(R v:Int)) (hs:StepR fs fit u v g k fs' fit' b):SInv n ars R fs' fit'∧Told fs fs' fit fit' b u v:=by
 obtain⟨h1,h2⟩:=sinv_step C hl H hv hh hg hg2 hk hk2 he hs;exact⟨h1,fun hf=>⟨hs.fit hf,h2 hf⟩⟩
theorem pass_one{T:List Edg}{tree:List Int}{fs0 fs fs1:List Fr}{k:Nat}{fit fit1 more:Bool}{u v:Nat}(h:PassR T tree fs0 fs k fit more)(t1:Told fs fs1 fit fit1 true u v):PassR T tree fs0 fs1 (k+1) fit1 true:=by
 intro hf;obtain⟨hf0,hc,-⟩:=t1 hf;obtain⟨h1,h2⟩:=h hf0;have hc:=hc rfl;refine⟨fun h=>(by cases h),fun _=>?_⟩
 cases more with
 |false=>rw[(h1 rfl).1]at hc;exact hc
 |true=>have:=h2 rfl;omega
theorem pass_two{T:List Edg}{tree:List Int}{fs0 fs fs1 fs2:List Fr}{k:Nat}{fit fit1 fit2 more:Bool}{u v u' v':Nat}(h:PassR T tree fs0 fs k fit more)(t1:Told fs fs1 fit fit1 false u v)(t2:Told fs1 fs2 fit1 fit2 true u' v'):PassR T tree fs0 fs2 (k+1) fit2 true:=by
 intro hf;obtain⟨hf1,hc,-⟩:=t2 hf;obtain⟨hf0,-,hb⟩:=t1 hf1;obtain⟨rfl,-⟩:=hb rfl;obtain⟨h1,h2⟩:=h hf0;have hc:=hc rfl;refine⟨fun h=>(by cases h),fun _=>?_⟩
 cases more with
 |false=>rw[(h1 rfl).1]at hc;exact hc
 |true=>have:=h2 rfl;omega
theorem pass_none{n:Nat}{ars:List ArcV}{T:List Edg}{R P:Nat→Nat}(C:Ctx n ars T R P){tree:List Int}{fs0 fs fs1 fs2:List Fr}{k:Nat}{fit fit1 fit2 more:Bool}{e:Edg}(he:e∈T)(hk:tree[k]?=some (e.i:Int))(h:PassR T tree fs0 fs k fit more)
  (t1:Told fs fs1 fit fit1 false e.f e.t) (t2:Told fs1 fs2 fit1 fit2 false e.t e.f):PassR T tree fs0 fs2 (k+1) fit2 more:=by
 intro hf;obtain⟨hf1,-,hb2⟩:=t2 hf;obtain⟨hf0,-,hb⟩:=t1 hf1;obtain⟨rfl,c1⟩:=hb rfl;obtain⟨rfl,c2⟩:=hb2 rfl;obtain⟨h1,h2⟩:=h hf0;refine⟨fun hm=>?_,h2⟩
 obtain⟨rfl,ha⟩:=h1 hm;refine⟨rfl,fun d hd j hj hjd=>?_⟩
 by_cases hjk:j=k
 ·subst hjk;rw[hk]at hjd;injection hjd with hjd;obtain rfl:d=e:=same_edge C.fi.forest hd he (by omega)
  exact⟨c1,c2⟩
 ·exact ha d hd j (by omega) hjd
theorem pass_end{n:Nat}{ars:List ArcV}{T:List Edg}{R P:Nat→Nat}(C:Ctx n ars T R P){fs0 fs:List Fr}{fit more:Bool}(h:PassR T (treeF n ars) fs0 fs (treeF n ars).length fit more):
  (more=false→fit=true→∀e∈T,Closed fs e)∧(more=true→fit=true→cntU_Y fs<cntU_Y fs0):=by
 refine⟨fun hm hf e he=>?_,fun hm hf=>(h hf).2 hm⟩
 obtain⟨rfl,ha⟩:=(h hf).1 hm;have hmem:(e.i:Int)∈treeF n ars:=by rw[C.fi.tree];exact List.mem_map.2 ⟨e,List.mem_reverse.2 he,rfl⟩
 obtain⟨j,hj⟩:=List.getElem?_of_mem hmem;exact ha e he j (List.getElem?_eq_some_iff.1 hj).1 hj
theorem spread_any(n:Nat)(ars:List ArcV)(T:List Edg)(R P:Nat→Nat)(A At Ah:Option Addr)(l c ct ch:Nat)(w:World)(C:Ctx n ars T R P)(hl:ars.length=l)(hx:∀a∈ars,a.fit)(hr:Rd w w.heap.size A (cellsA ars))(hm':l≤96)
  (hrt:Rd w w.heap.size At (cellsI (treeF n ars))) (hrh:Rd w w.heap.size Ah (cellsI (homeF n ars))):
  Calls Tryz.prog 26 #[.agg #[.int .i64 n, .slice A l c], .agg #[.slice At (treeF n ars).length ct, .slice Ah n ch]] w (SpOut n ars R w):=by
 obtain⟨i0,hi,hz0,hz1,hz2⟩:=info_parts info_frac;have hn1:=C.n1;have hn2:=C.n2
 go_enter Tryz.func26, Tryz.ntmps26
 go_upto_region 1 with fail;obtain⟨W0,hW0⟩:∃W,(w.alloc (.cells #[.int .i64 n, .slice A l c] 30)).alloc (.cells #[.slice At (treeF n ars).length ct, .slice Ah n ch] 79)=W:=⟨_,rfl⟩;have BW:=bA_ w (.cells #[.int .i64 n, .slice A l c] 30);have BW:=BW.alloc BW.size (.cells #[.slice At (treeF n ars).length ct, .slice Ah n ch] 79);have kn:=(Blk.new w _ rfl 30 #[.int .i64 n, .slice A l c]).alloc (.cells #[.slice At (treeF n ars).length ct, .slice Ah n ch] 79);have kf:=Blk.new (w.alloc (.cells #[.int .i64 n, .slice A l c] 30)) (w.heap.size+1) (by simp) 79 #[.slice At (treeF n ars).length ct, .slice Ah n ch]
 rw[hW0]at BW kn kf⊢;have hrA:=(hr.below BW lR_).more BW.size;have hrT:=(hrt.below BW lR_).more BW.size;have hrH:=(hrh.below BW lR_).more BW.size;have HW:=Lh BW;obtain⟨bn,hbn⟩:∃b,w.heap.size=b:=⟨_,rfl⟩;obtain⟨bf,hbf⟩:∃b,bn+1=b:=⟨_,rfl⟩;rw[hbn]at kn kf⊢;rw[hbf]at kf⊢;have HB:=Lh hbn;clear hW0 BW hr hrt hrh hbn hbf;have n0:=kn.cell 0;simp at n0
 go_wp2_with (at_make;refine wpList_make_full _ rfl _ _ 82 rfl W0.heap.size 87 i0 (.agg #[.int .i64 0, .int .i64 0]) 2 Tryz.underlying82 hi hz0 hz1 _ _ _ _ n rfl rfl (by omega) (by omega) (by rw[hz2];omega) (by unfold maxLen;omega) (by simp) ?_)
 intro W1 o1 g1;rw[made_frac]at o1;have hlt1:=own_lt o1;have B1:=(Below.refl W0.heap.size W0).grown g1 lR_ (fun k hk=>by cases hk)
 obtain⟨gS,hgS⟩:∃gS,W0.heap.size=gS:=⟨_,rfl⟩;obtain⟨Bs,hBs⟩:∃Bs,W1.heap.size=Bs:=⟨_,rfl⟩;have ks:=Blk.new W1 Bs hBs.symm 82 #[.slice (some ⟨gS,0,none⟩) n n];have o2:=o1.alloc (.cells #[.slice (some ⟨gS,0,none⟩) n n] 82);have B2:=B1.alloc g1.size (.cells #[.slice (some ⟨gS,0,none⟩) n n] 82);obtain⟨W2,hW2⟩:∃W,W1.alloc (.cells #[.slice (some ⟨gS,0,none⟩) n n] 82)=W:=⟨_,rfl⟩;rw[hW2]at ks o2 B2;have f2:=((kf.below B2 kf.lt).cell 1);simp at f2;rw[hgS,hBs]at hlt1;rw[hgS]at o2⊢;rw[←initF_zero n ars]at o2;have HGS:=Lh hgS;clear g1 o1 B1 n0 hgS
 go_upto_region 2 with fail
 try rw[hBs]
 try rw[hW2]
 clear hW2 hBs
 go_wp2_with fail;clear f2
 go_loopw [21] (fun i wr=>∃k:Nat,k≤n∧i= .int .i64 k∧wr.ownsRow gS 87 2 (.slice (some ⟨gS,0,none⟩) n n) n (cellsF (initF n ars k))∧Blk wr Bs 82 #[.slice (some ⟨gS,0,none⟩) n n]∧Below W0.heap.size W0 wr) (fun i _=>n-(intOf i).toNat)
 case atStart=>exact⟨0,Nat.zero_le _,rfl,o2,ks,B2⟩
 case round=>
  clear o2 ks B2;obtain⟨k,hk,rfl,o2,ks,B2⟩:=hrel;by_cases hkn:k<n
  ·obtain⟨b,off,x,rfl,hb,hfx,h0,hd,hat⟩:=(hrH.below B2 lR_).at_ (k:=k) (home_fit_of C) (by rw[homeF_length];exact hkn)
   obtain rfl:x=(hm n ars k:Nat):=by have:=hat.out;rw[homeF_at hkn]at this;exact(Option.some.inj this).symm
   clear hd hat;have s0:=ks.cell 0;simp at s0;by_cases hh:hm n ars k=k
   ·rw[hh]at h0;obtain⟨c0,c1,-,-⟩:=(rd_of_own o2).frAt (fun f hf=>(initF_ok n ars k f hf).1) (initF_at hkn)
    rw[Nat.zero_add]at c0 c1;have z0:=o2.frozenAt (k*2);have z1:=o2.frozenAt (k*2+1);have o3:=((o2.stored (k*2) (.int .i64 1)).1.stored (k*2+1) (.int .i64 1)).1;rw[cellsF_set (initF n ars k) k ⟨1,1⟩,initF_yes hkn hh]at o3;have hne:gS≠Bs:=by omega
    have k3:=(ks.far (p:=⟨gS,k*2,none⟩) hne.symm (.int .i64 1)).far (p:=⟨gS,k*2+1,none⟩) hne.symm (.int .i64 1);have B3:=(B2.setCell (p:=⟨gS,k*2,none⟩) (by have:=HGS.out;simp;omega) (.int .i64 1)).setCell (p:=⟨gS,k*2+1,none⟩) (by have:=HGS.out;simp;omega) (.int .i64 1)
    clear o2 ks B2
    go_wp2_with fail
    go_roundw
    case rel=>exact⟨k+1,by omega,by go_num,o3,k3,B3⟩
    case measure=>simp[intOf];omega
   ·have hq:((k:Int)==(hm n ars k:Nat))=false:=by simp;omega
    rw[initF_no hh]at o2
    go_wp2_with fail
    go_roundw
    case rel=>exact⟨k+1,by omega,by go_num,o2,ks,B2⟩
    case measure=>simp[intOf];omega
  ·obtain rfl:n=k:=by omega
   have hbs:=ks.lt;obtain⟨Bf,hBf⟩:∃b,wr.heap.size=b:=⟨_,rfl⟩;have kb:=Blk.new wr Bf hBf.symm 4 #[.bool true];have o3:=o2.alloc (.cells #[.bool true] 4);have k3:=ks.alloc (.cells #[.bool true] 4);have B3:=B2.alloc B2.size (.cells #[.bool true] 4);rw[hBf]at hbs;obtain⟨W3,hW3⟩:∃W,wr.alloc (.cells #[.bool true] 4)=W:=⟨_,rfl⟩;rw[hW3]at kb o3 k3 B3;have S:SpSt W0 W3 gS Bs Bf n (initF n ars n) true:=⟨o3,k3,kb,B3,initF_length _ _ _,initF_ok _ _ _,by have:=HGS.out;omega,hlt1,hbs⟩
   have I:=Lh (sinv_start C);clear o2 ks B2 o3 k3 B3 kb hkn hk hbs
   go_upto_region 9 with fail
   try rw[hBf]
   try rw[hW3]
   clear hBf hW3
   go_wp2_with fail
   go_loopg [11] (n+1) (fun gk s11 wr=>∃(fs:List Fr) (fit more:Bool),s11= .bool more∧SpSt W0 wr gS Bs Bf n fs fit∧Hid (SInv n ars R fs fit)∧Hid (more=false→fit=true→∀e∈T,Closed fs e)∧Hid (more=true→fit=true→cntU_Y fs<gk))
   case atStart=>exact⟨_,_,_,rfl,S,I,fun h=>(by cases h),fun _ _=>by have:=List.length_filter_le (fun f:Fr=>decide (f.n=0)) (initF n ars n);rw[initF_length]at this;unfold cntU_Y;omega⟩
   case round=>
    clear S I W3;obtain⟨ko,rfl⟩:∃ko:Nat,ko=gk:=⟨_,rfl⟩;obtain⟨fs,fit,more,rfl,S,I,Hc,Hm⟩:=hrel;have x0:=S.ks.cell 0;have x1:=S.kf.cell 0;simp at x0 x1;cases more with
    |false=>
     have HO:=Lh (show SpOut n ars R w (.returned (.tuple #[.slice (some ⟨gS,0,none⟩) n n, .bool fit])) (wr.drewN 1)from
      ⟨gS,fs,fit,rfl,own_mono (S.drewN 1).row (by have:=HGS.out;have:=HW.out.size;omega),HW.out.trans ((S.drewN 1).bw.mono HW.out.size),fun hf=>by subst hf;exact sinv_end C S.len I.out (Hc.out rfl rfl),fun hf=>I.out.big hf⟩)
     clear I Hc Hm
     go_wp2_with fail
     go_region
     go_wp2_with fail
     go_ret2;exact HO.out
    |true=>
     cases fit with
     |false=>
      have HO:=Lh (show SpOut n ars R w (.returned (.tuple #[.slice (some ⟨gS,0,none⟩) n n, .bool false])) (wr.drewN 1)from
       ⟨gS,fs,false,rfl,own_mono (S.drewN 1).row (by have:=HGS.out;have:=HW.out.size;omega),HW.out.trans ((S.drewN 1).bw.mono HW.out.size),fun hf=>(by cases hf),fun hf=>I.out.big hf⟩)
      clear I Hc Hm
      go_wp2_with fail
      go_region
      go_wp2_with fail
      go_ret2;exact HO.out
     |true=>
      have hcn:=Hm.out rfl rfl;have n1:=(kn.below S.bw kn.lt).cell 1;have f0:=(kf.below S.bw kf.lt).cell 0;simp at n1 f0;have HP:=Lh (show PassR T (treeF n ars) fs fs 0 true false from fun _=>⟨fun _=>⟨rfl,fun e _ j hj=>by omega⟩,fun h=>by cases h⟩)
      clear Hc Hm
      go_wp2_with fail;clear x0 x1 n1 f0
      go_loopg [11,42] (treeF n ars).length (fun gj s11 s42 wx=>∃(k:Nat) (gs:List Fr) (fit more:Bool),s11= .bool more∧s42= .int .i64 k∧k+gj=(treeF n ars).length∧SpSt W0 wx gS Bs Bf n gs fit∧Hid (SInv n ars R gs fit)∧Hid (PassR T (treeF n ars) fs gs k fit more))
      case atStart=>exact⟨0,fs,true,false,rfl,rfl,by omega,S,I,HP⟩
      case round=>
       clear S I HP;obtain⟨gj,rfl⟩:∃ko:Nat,ko=gk:=⟨_,rfl⟩;obtain⟨k,gs,fit,more,rfl,rfl,hk,S,I,HP⟩:=hrel;have htl:=treeF_le n ars;by_cases hkt:k<(treeF n ars).length
       ·obtain⟨b,off,x,rfl,hb,hfx,t0,-,hat⟩:=(hrT.below S.bw lR_).at_ (k:=k) (tree_fit_of C hm' hl) hkt;obtain⟨e,he,rfl⟩:=tree_edge C hat.out;obtain⟨a,ha,haf,hat',hef,het,hhm,hev⟩:=C.edge he;have hab:=C.arc a (List.mem_of_getElem? ha);have hlt:e.i<ars.length:=(List.getElem?_eq_some_iff.1 ha).1;obtain⟨b',off',a',rfl,hb',hfa,c0,c1,c2,c3,c4,-,ha'⟩:=(hrA.below S.bw lR_).arc (k:=e.i) hx hlt;obtain rfl:a=a':=by have:=ha'.out;rw[ha]at this;exact Option.some.inj this
        rw[haf]at c0;rw[hat']at c1;obtain⟨g1,g2,k1,k2⟩:=hab.2.2.2.2;have HE:=Lh he;have HAT:=Lh hat.out;have HEV:=Lh hev;have HHM:=Lh hhm;have n1:=(kn.below S.bw kn.lt).cell 1;simp at n1;obtain⟨W4,hW4⟩:∃W,wr.alloc (.cells #[.int .i64 e.f, .int .i64 e.t, .int .i64 a.g, .int .i64 a.k, .int .i64 a.s] 76)=W:=⟨_,rfl⟩;obtain⟨ga,hga⟩:∃g,wr.heap.size=g:=⟨_,rfl⟩;have HGA:=Lh (show Bf<ga from hga▸S.kf.lt)
        have ka:=Blk.new wr ga hga.symm 76 #[.int .i64 e.f, .int .i64 e.t, .int .i64 a.g, .int .i64 a.k, .int .i64 a.s];have S4:=S.alloc (.cells #[.int .i64 e.f, .int .i64 e.t, .int .i64 a.g, .int .i64 a.k, .int .i64 a.s] 76);rw[hW4]at ka S4;have d0:=ka.cell 0;have d1:=ka.cell 1;have d2:=ka.cell 2;have d3:=ka.cell 3;simp at d0 d1 d2 d3;have i1:(e.i:Int)<(l:Int):=by omega
        have i0':(0:Int)≤(e.i:Int):=by omega
        clear S ha haf hat' hev hhm hab ha' hat he hfa hfx hlt
        go_upto_region 17 with fail
        try rw[hga]
        try rw[hW4]
        clear hW4 hga t0 c0 c1 c2 c3 c4 n1
        go_wp2_with fail;refine(spread1_any e.f e.t a.g a.k gs fit n Bs Bf gS W0 W4 S4 hef het g1 g2 k1 k2).mono ?_
        rintro ee W5 ⟨fs1,fit1,b1,rfl,S5,R1,O5⟩;obtain⟨I1,T1⟩:=told_of C S4.len I.out het HHM.out g1 g2 k1 k2 HEV.out R1;have I1:=Lh I1;have T1:=Lh T1;clear S4 R1 I;have ka:=O5.blk ka (by have:=S5.s1;have:=S5.s2;have:=HGA.out;omega) (by have:=HGA.out;omega)
        have d0:=ka.cell 0;have d1:=ka.cell 1;have d2:=ka.cell 2;have d3:=ka.cell 3;simp at d0 d1 d2 d3;cases b1 with
        |true=>
         have HP1:=Lh (pass_one HP.out T1.out);clear T1 HP
         go_wp2_with fail
         go_roundg (gj-1)
         case measure=>omega
         case rel=>exact⟨k+1,fs1,fit1,true,rfl,by go_num,by omega,S5,I1,HP1⟩
        |false=>
         go_wp2_with fail;refine(spread1_any e.t e.f a.k a.g fs1 fit1 n Bs Bf gS W0 W5 S5 het hef k1 k2 g1 g2).mono ?_
         rintro ee W6 ⟨fs2,fit2,b2,rfl,S6,R2,-⟩;obtain⟨I2,T2⟩:=told_of C S5.len I1.out hef HHM.out.symm k1 k2 g1 g2 HEV.out.symm R2;have I2:=Lh I2;have T2:=Lh T2;clear S5 R2 I1 ka d0 d1 d2 d3;cases b2 with
         |true=>
          have HP1:=Lh (pass_two HP.out T1.out T2.out);clear T1 T2 HP
          go_wp2_with fail
          go_roundg (gj-1)
          case measure=>omega
          case rel=>exact⟨k+1,fs2,fit2,true,rfl,by go_num,by omega,S6,I2,HP1⟩
         |false=>
          have HP1:=Lh (pass_none C HE.out HAT.out HP.out T1.out T2.out);clear T1 T2 HP
          go_wp2_with fail
          go_roundg (gj-1)
          case measure=>omega
          case rel=>exact⟨k+1,fs2,fit2,more,rfl,by go_num,by omega,S6,I2,HP1⟩
       ·obtain rfl:k=(treeF n ars).length:=by omega
        obtain⟨q1,q2⟩:=pass_end C HP.out;have q1:=Lh q1;have q2:=Lh q2;clear HP
        go_wp2_with fail
        go_roundg (cntU_Y fs)
        case measure=>exact hcn
        case rel=>exact⟨gs,fit,more,rfl,S,I,q1,q2⟩
structure But(g:Nat)(w w':World):Prop where
 os:w'.os=w.os
 tape:w'.tape=w.tape
 output:w'.output=w.output
 size:w.heap.size≤w'.heap.size
 block:∀k,k<w.heap.size→k≠g→w'.heap[k]?=w.heap[k]?
theorem Below.but{w w':World}(h:Below w.heap.size w w')(g:Nat):But g w w':=⟨h.os,h.tape,h.output,h.size,fun k hk _=>h.block k hk⟩
theorem But.trans{g:Nat}{a b c:World}(h:But g a b)(h':But g b c):But g a c:=
 ⟨h'.os.trans h.os,h'.tape.trans h.tape,h'.output.trans h.output,Nat.le_trans h.size h'.size,fun k hk hn=>(h'.block k (Nat.lt_of_lt_of_le hk h.size) hn).trans (h.block k hk hn)⟩
theorem But.down{g:Nat}{a w w':World}(h:But g w w')(hb:Below a.heap.size a w)(hg:a.heap.size≤g):Below a.heap.size a w':=
 hb.trans ⟨h.os,h.tape,h.output,h.size,fun k hk=>h.block k (Nat.lt_of_lt_of_le hk hb.size) (by omega)⟩
theorem But.blk{g:Nat}{w w':World}(h:But g w w'){k:Nat}{t:TypeId}{cs:Array Value}(hk:Blk w k t cs)(hn:k≠g):Blk w' k t cs:=(h.block k hk.lt hn).trans hk
theorem But.set(w:World)(g j:Nat)(u:Value):But g w (w.setCell ⟨g,j,none⟩ u):=⟨rfl,rfl,rfl,by simp[World.setCell],fun _ _ hn=>Below.heap_setCell _ _ _ _ hn⟩
theorem But.rd{g:Nat}{w w':World}(h:But g w w'){B:Nat}{A:Option Addr}{cs:List Value}(hr:Rd w B A cs)(hB:B≤w.heap.size)(hA:∀b,blkOf A=some b→b≠g):Rd w' B A cs:=by
 rcases hr with hr|⟨b,off,rfl,hb,hc⟩
 ·exact .inl hr
 ·refine .inr ⟨b,off,rfl,hb,fun j u hu=>?_⟩
  rw[World.cell?_of_block (w:=w) (a:=⟨b,off+j,none⟩) (h.block b (by omega) (hA b rfl))]
  exact hc j u hu
theorem But.own{g:Nat}{w w':World}(h:But g w w'){base:Nat}{e:TypeId}{size n:Nat}{v:Value}{xs:List Value}(ho:w.ownsRow base e size v n xs)(hA:v.ownBlock≠some g):w'.ownsRow base e size v n xs:=by
 obtain⟨h1,h2⟩:=ho;refine⟨h1,?_⟩;rcases h2 with h2|⟨k,cap,cur,rfl,hk,hh,hr⟩
 ·exact .inl h2
 ·refine .inr ⟨k,cap,cur,rfl,hk,?_,hr⟩;have hlt:k<w.heap.size:=by
   rcases Nat.lt_or_ge k w.heap.size with hlt|hge
   ·exact hlt
   ·rw[Array.getElem?_eq_none hge]at hh;cases hh
  rw[h.block k hlt (fun he=>hA (by rw[he];rfl))]
  exact hh
theorem Tab.but{g:Nat}{w w':World}(h:Tab w)(hb:But g w w')(hg: 0 ≠g):Tab w':=fun j hj=>by
 rw[World.cell?_of_block (w:=w) (a:=⟨0,j,none⟩) (hb.block _ h.pos hg)];exact h j hj
def rowN(n:Nat)(V:Nat→Int):List Int:=(List.range n).map V
theorem rowN_length(n:Nat)(V:Nat→Int):(rowN n V).length=n:=by simp[rowN]
theorem rowN_at{n:Nat}{V:Nat→Int}{v:Nat}(hv:v<n):(rowN n V)[v]?=some (V v):=by simp[rowN,hv]
theorem rowN_ext{n:Nat}{V V':Nat→Int}(h:∀v,v<n→V v=V' v):rowN n V=rowN n V':=by
 unfold rowN;exact List.map_congr_left fun v hv=>h v (List.mem_range.1 hv)
theorem rowN_set{n:Nat}{V:Nat→Int}{k:Nat}{u:Int}:(rowN n V).set k u=rowN n fun v=>if v=k then u else V v:=by
 refine List.ext_getElem? fun v=>?_
 rw[List.getElem?_set];by_cases hv:v<n
 ·rw[rowN_at hv,rowN_at hv,rowN_length];by_cases hkv:k=v
  ·subst hkv;simp[hv]
  ·rw[if_neg hkv,if_neg (fun e=>hkv e.symm)]
 ·rw[List.getElem?_eq_none (by rw[rowN_length];omega),List.getElem?_eq_none (by rw[rowN_length];omega),rowN_length]
  by_cases hkv:k=v
  ·rw[if_pos hkv,if_neg (by omega)]
  ·rw[if_neg hkv]
theorem lcm_two{a b:Nat}(ha:1≤a)(ha2:a≤4096)(hb:1≤b)(hb2:b≤4096):lcmGo 1 true [(a:Int),(b:Int)]=(((Nat.lcm a b:Nat):Int),true):=by
 have h1:a/Nat.gcd a b*b=Nat.lcm a b:=by
  unfold Nat.lcm;exact Nat.div_mul_right_comm (Nat.gcd_dvd_left a b) b
 have h2:Nat.lcm a b≤a*b:=Nat.le_of_dvd (Nat.mul_pos ha hb) (Nat.lcm_dvd (Nat.dvd_mul_right _ _) (Nat.dvd_mul_left _ _))
 have h3:a*b≤4096*4096:=Nat.mul_le_mul ha2 hb2
 have e1:((a:Int)).natAbs=a:=by omega
 have e2:((b:Int)).natAbs=b:=by omega
 have o1:okB (((1/Nat.gcd 1 a*a:Nat)):Int)=true:=okB_of (by simp;unfold fits;omega)
 have m1:1/Nat.gcd 1 a*a%18446744073709551616=a:=by simp;omega
 have o2:okB ((Nat.lcm a b:Nat):Int)=true:=okB_of (by unfold fits;omega)
 have m2:Nat.lcm a b%18446744073709551616=Nat.lcm a b:=Nat.mod_eq_of_lt (by omega)
 rw[lcmGo,if_neg (by omega),if_neg (by simp),e1,o1,m1,lcmGo,if_neg (by omega),if_neg (by simp),e2,h1,o2,m2]
 simp[lcmGo]
theorem walk_lt{n:Nat}{T:List Edg}(hT:∀e∈T,e.f<n∧e.t<n):∀{p:List Stp} {u v:Nat},Walk T u p v→u<n→v<n
 |[],u,v,h,hu=>by rw[←show u=v from h];exact hu
 |s::p,u,v,⟨m,⟨e,he,_,h2⟩,h3⟩,_=>by
  refine walk_lt hT h3 ?_
  have:=hT e he
  split at h2<;>omega
theorem Ctx.lt{n:Nat}{ars:List ArcV}{T:List Edg}{R P:Nat→Nat}(C:Ctx n ars T R P){u v:Nat}(hu:u<n)(h:P v=P u):v<n:=by
 obtain⟨p,hp⟩:=(C.ri.cls u v).1 h.symm;exact walk_lt (fun e he=>⟨(C.fi.edge e he).2.1,(C.fi.edge e he).2.2.1⟩) hp hu
def ScOut(n:Nat)(ars:List ArcV)(R:Nat→Nat)(h gR B:Nat)(V:Nat→Int)(w:World)(e:Ending)(w':World):Prop:=
 ∃b V',e= .returned (.bool b)∧w'.ownsRow B 3 1 (.slice (some ⟨gR,0,none⟩) n n) n (cellsI (rowN n V'))∧But gR w w'∧
  (b=true→(∀v,v<n→V' v=if hm n ars v=h then(R v:Int)else V v)∧∀v,v<n→hm n ars v=h→R v≤4096)∧(b=false→Big n R)
theorem scale_any(n:Nat)(ars:List ArcV)(T:List Edg)(R P:Nat→Nat)(At Ah S:Option Addr)(lt ct ch h gR B:Nat)(V:Nat→Int)(w:World)(C:Ctx n ars T R P)(hhn:h<n)(hhh:hm n ars h=h)(hsm:∀v,v<n→Small (shF n ars R v))
  (hrh:Rd w w.heap.size Ah (cellsI (homeF n ars))) (hrs:Rd w w.heap.size S (cellsF ((List.range n).map (shF n ars R)))) (hT:Tab w)
  (ho:w.ownsRow B 3 1 (.slice (some ⟨gR,0,none⟩) n n) n (cellsI (rowN n V))) (hA1:∀b,blkOf Ah=some b→b≠gR) (hA2:∀b,blkOf S=some b→b≠gR):
  Calls Tryz.prog 27 #[.agg #[.slice At lt ct, .slice Ah n ch], .slice S n n, .int .i64 (h:Nat), .slice (some ⟨gR,0,none⟩) n n] w (ScOut n ars R h gR B V w):=by
 have hn1:=C.n1;have hn2:=C.n2;have hgl:=own_lt ho;have hgB:B≤gR:=own_ge ho rfl;have hpos:=C.ri.pos;have hrate:∀v,v<n→hm n ars v=h→P v=P h:=fun v hv hvh=>(C.part hv hhn).2 (by rw[hvh,hhh])
 go_enter Tryz.func27, Tryz.ntmps27
 go_upto_region 1 with fail;obtain⟨W0,hW0⟩:∃W,w.alloc (.cells #[.slice At lt ct, .slice Ah n ch] 79)=W:=⟨_,rfl⟩;have BW:=bA_ w (.cells #[.slice At lt ct, .slice Ah n ch] 79);have kf:=bN_ BW;have o0:=ho.alloc (.cells #[.slice At lt ct, .slice Ah n ch] 79);rw[hW0]at BW kf o0⊢;have hrH:=(hrh.below BW lR_).more BW.size;have hrS:=(hrs.below BW lR_).more BW.size;have hT0:=hT.below BW hT.pos;have HW:=Lh BW;obtain⟨bf,hbf⟩:∃b,w.heap.size=b:=⟨_,rfl⟩;rw[hbf]at kf hgl⊢;clear hW0 BW hrh hrs hT ho hbf;have f1:=kf.cell 1;simp at f1
 go_wp2_with fail;clear f1
 go_loopw [9,19] (fun x i wr=>∃K k:Nat,k≤n∧i= .int .i64 k∧x= .int .i64 K∧1≤K∧K≤4096∧Hid (K∣R h)∧Hid (∀v,v<k→hm n ars v=h→denN (R v) (R h)∣K)∧Below W0.heap.size W0 wr) (fun _ i _=>n-(intOf i).toNat)
 case atStart=>exact⟨1,0,Nat.zero_le _,rfl,rfl,by omega,by omega,Nat.one_dvd _,fun v hv=>by omega,Below.refl _ _⟩
 case round=>
  obtain⟨K,k,hk,rfl,rfl,hK1,hK2,HKd,HKa,B1⟩:=hrel;by_cases hkn:k<n
  ·obtain⟨b,off,x,rfl,hb,hfx,h0,hd,hat⟩:=(hrH.below B1 lR_).at_ (k:=k) (home_fit_of C) (by rw[homeF_length];exact hkn)
   obtain rfl:x=(hm n ars k:Nat):=by have:=hat.out;rw[homeF_at hkn]at this;exact(Option.some.inj this).symm
   clear hd hat;by_cases hh:hm n ars k=h
   ·rw[hh]at h0;obtain⟨b2,off2,f,rfl,hb2,hff,c0,c1,hd,hat⟩:=(hrS.below B1 lR_).fr (k:=k) (by intro a ha;obtain⟨v,hv,rfl⟩:=List.mem_map.1 ha;exact(hsm v (List.mem_range.1 hv)).fit) (by simp[hkn])
    obtain rfl:f=shF n ars R k:=by have:=hat.out;simp[hkn]at this;exact this.symm
    have hsk:=hsm k hkn;unfold shF at c1 c0 hsk;rw[hh]at c1 c0 hsk;obtain⟨e1,e2,e3,e4,e5,e6⟩:=den_num (hpos k) (hpos h);rw[←e1]at c1;have e7:denN (R k) (R h)≤4096:=by have:=hsk.d2;omega
    have HD6:=Lh e6;obtain⟨dd,hdd⟩:∃d,denN (R k) (R h)=d:=⟨_,rfl⟩;rw[hdd]at c1 e3 e7;have hlc:=lcm_two hK1 hK2 e3 e7;clear hd hat c0 e1 e2 e4 e5 e6 hsk hff hfx
    go_upto_region 7 with fail;refine(lcm_any [(K:Int),(dd:Int)] _ 2 2 (wr.heap.size+1) _ rfl (fun y hy=>by simp at hy;rcases hy with rfl|rfl<;>(unfold fits;omega)) (rd_alloc wr _ rfl 3 (cellsI [(K:Int),(dd:Int)])) (by unfold maxLen;simp) ((hT0.below B1 hT0.pos).alloc _)).mono ?_
    rintro e w2 ⟨rfl,hdr⟩;rw[hlc];have B2:=(B1.alloc B1.size (.cells #[.int .i64 K, .int .i64 dd] 3)).trans (hdr.below W0.heap.size);clear hdr hlc c1 h0 B1;obtain⟨L,hL⟩:∃L,Nat.lcm K dd=L:=⟨_,rfl⟩;rw[hL];have HL:=Lh hL;have HD:=Lh hdd;clear hL hdd;by_cases hL4:L≤4096
    ·have q1:decide ((L:Int)>4096)=false:=decide_eq_false (by omega)
     have q2:decide ((4096:Int)<(L:Int))=false:=decide_eq_false (by omega)
     have q3:decide (4096<L)=false:=decide_eq_false (by omega)
     go_wp2_with fail
     go_roundw
     case rel=>exact⟨L,k+1,by omega,by go_num,rfl,by rw[←HL.out];exact Nat.lcm_pos hK1 e3,hL4,by unfold Hid;rw[←HL.out];exact Nat.lcm_dvd HKd.out (by have:=HD6.out;rw[HD.out]at this;exact this),fun v hv hvh=>by
      by_cases hvk:v=k
      ·subst hvk;rw[←HL.out,HD.out];exact Nat.dvd_lcm_right _ _
      ·rw[←HL.out];exact Nat.dvd_trans (HKa.out v (by omega) hvh) (Nat.dvd_lcm_left _ _),B2⟩
     case measure=>simp[intOf];omega
    ·have q1:decide ((L:Int)>4096)=true:=decide_eq_true (by omega)
     have q2:decide ((4096:Int)<(L:Int))=true:=decide_eq_true (by omega)
     have q3:decide (4096<L)=true:=decide_eq_true (by omega)
     have HB:=Lh (show Big n R from⟨h,hhn,by
      have h1:L∣R h:=by rw[←HL.out];exact Nat.lcm_dvd HKd.out (by have:=HD6.out;rw[HD.out]at this;exact this)
      have:=Nat.le_of_dvd (hpos h) h1
      omega⟩)
     go_wp2_with fail
     go_ret;exact⟨false,V,rfl,own_below o0 (B2.mono lR_),((Below.but HW.out gR).trans (Below.but B2 gR)),fun h=>(by cases h),fun _=>HB.out⟩
   ·have hq:((hm n ars k:Nat) !=(h:Int))=true:=by simp;omega
    have HKa':=Lh (show∀v,v<k+1→hm n ars v=h→denN (R v) (R h)∣K from fun v hv hvh=>by
     by_cases hvk:v=k
     ·subst hvk;exact absurd hvh hh
     ·exact HKa.out v (by omega) hvh)
    clear HKa
    go_wp2_with fail
    go_roundw
    case rel=>exact⟨K,k+1,by omega,by go_num,rfl,hK1,hK2,HKd,HKa',B1⟩
    case measure=>simp[intOf];omega
  ·obtain rfl:n=k:=by omega
   obtain rfl:K=R h:=scale_law C.ri (fun v hv=>HKa.out v (C.lt hhn hv) (by have:=(C.part (C.lt hhn hv) hhn).1 hv;rw[this,hhh])) HKd.out
   have f1:=(kf.below B1 kf.lt).cell 1;simp at f1;have o1:=own_below o0 B1;have hlW:=B1.size;have B0:=HW.out.trans (B1.mono HW.out.size);have X0:=Lh (Below.but B0 gR);have kf1:=kf.below B1 kf.lt;have hrH1:=(hrH.below B1 lR_).more hlW;have hrS1:=(hrS.below B1 lR_).more hlW;obtain⟨W1,hW1⟩:∃W,W=wr:=⟨_,rfl⟩;rw[←hW1]at f1 o1 kf1 hrH1 hrS1 X0⊢;clear hW1 HKd HKa B1 B0 hlW hkn hk wr hrH hrS kf o0
   go_wp2_with fail;clear f1
   go_loopw [49] (fun i wr=>∃k:Nat,k≤n∧i= .int .i64 k∧wr.ownsRow B 3 1 (.slice (some ⟨gR,0,none⟩) n n) n (cellsI (rowN n fun v=>if v<k∧hm n ars v=h then(R v:Int)else V v))∧But gR W1 wr∧Hid (∀v,v<k→hm n ars v=h→R v≤4096)) (fun i _=>n-(intOf i).toNat)
   case atStart=>exact⟨0,Nat.zero_le _,rfl,by rw[rowN_ext (V':=V) (fun v _=>by simp)];exact o1,⟨rfl,rfl,rfl,Nat.le_refl _,fun _ _ _=>rfl⟩,fun v hv=>by omega⟩
   case round=>
    clear o1;obtain⟨k,hk,rfl,o1,B1,HR⟩:=hrel;by_cases hkn:k<n
    ·obtain⟨b,off,x,rfl,hb,hfx,h0,hd,hat⟩:=(B1.rd hrH1 lR_ hA1).at_ (k:=k) (home_fit_of C) (by rw[homeF_length];exact hkn)
     obtain rfl:x=(hm n ars k:Nat):=by have:=hat.out;rw[homeF_at hkn]at this;exact(Option.some.inj this).symm
     clear hd hat;by_cases hh:hm n ars k=h
     ·rw[hh]at h0;obtain⟨b2,off2,f,rfl,hb2,hff,c0,c1,hd,hat⟩:=(B1.rd hrS1 lR_ hA2).fr (k:=k) (by intro a ha;obtain⟨v,hv,rfl⟩:=List.mem_map.1 ha;exact(hsm v (List.mem_range.1 hv)).fit) (by simp[hkn])
      obtain rfl:f=shF n ars R k:=by have:=hat.out;simp[hkn]at this;exact this.symm
      have hsk:=hsm k hkn;unfold shF at c1 c0 hsk;rw[hh]at c1 c0 hsk;obtain⟨e1,e2,e3,e4,e5,e6⟩:=den_num (hpos k) (hpos h);rw[←e1]at c1;rw[←e2]at c0;have e7:denN (R k) (R h)≤4096:=by have:=hsk.d2;omega
      have e8:numN (R k) (R h)≤4096:=by have:=hsk.n2;omega
      have e9:=scale_count (hpos k) (hpos h);clear e1 e2 e5 e6 hsk hd hat hff hfx;obtain⟨dd,hdd⟩:∃d,denN (R k) (R h)=d:=⟨_,rfl⟩;obtain⟨nn,hnn⟩:∃d,numN (R k) (R h)=d:=⟨_,rfl⟩;rw[hdd]at c1 e3 e7 e9;rw[hnn]at c0 e4 e8 e9;clear hdd hnn;have q0:((dd:Int)==0)=false:=by simp;omega
      have q0':¬(dd:Int)=0:=by omega
      have q1:((R h:Nat):Int).tdiv (dd:Int)=((R h/dd:Nat):Int):=by rw[Int.tdiv_eq_ediv_of_nonneg (by omega)];exact(Int.natCast_ediv _ _).symm
      have q2:((R h/dd:Nat):Int)*(nn:Int)=(R k:Nat):=by rw[←e9];exact(Int.natCast_mul _ _).symm
      have q3:R h/dd≤4096:=Nat.le_trans (Nat.div_le_self _ _) hK2
      have q4:R k≤4096*4096:=by rw[←e9];exact Nat.mul_le_mul q3 e8
      obtain⟨qq,hqq⟩:∃d,R h/dd=d:=⟨_,rfl⟩;rw[hqq]at q1 q2 q3;clear e9 hqq;have hco:=o1.cellAt k (by omega)
      rw[show(cellsI (rowN n fun v=>if v<k∧hm n ars v=h then(R v:Int)else V v))[k]?=some (.int .i64 (V k)) by simp only[cellsI,List.getElem?_map,rowN_at hkn];simp]at hco
      have fro:=o1.frozenAt k;have o2:=(o1.stored k (.int .i64 (R k:Nat))).1;rw[cellsI_set,rowN_set,rowN_ext (V':=fun v=>if v<k+1∧hm n ars v=h then(R v:Int)else V v) (fun v hv=>by
       by_cases hvk:v=k
       ·subst hvk;simp[hh]
       ·rw[if_neg hvk];by_cases hlt:v<k
        ·simp[hlt,show v<k+1 by omega]
        ·simp[hlt,show¬v<k+1 by omega])]at o2
      have B2:=B1.trans (But.set wr gR k (.int .i64 (R k:Nat)));have hc2:=o2.cellAt k (by omega)
      rw[show(cellsI (rowN n fun v=>if v<k+1∧hm n ars v=h then(R v:Int)else V v))[k]?=some (.int .i64 (R k:Nat)) by simp only[cellsI,List.getElem?_map,rowN_at hkn];simp[hh]]at hc2
      clear o1 B1;by_cases hb4:R k≤4096
      ·have q5:decide ((R k:Int)>4096)=false:=decide_eq_false (by omega)
       have q6:decide (4096<R k)=false:=decide_eq_false (by omega)
       have HR2:=Lh (show∀v,v<k+1→hm n ars v=h→R v≤4096 from fun v hv hvh=>by
        by_cases hvk:v=k
        ·subst hvk;exact hb4
        ·exact HR.out v (by omega) hvh)
       go_upto_region 15 with fail
       go_region
       go_wp2_with fail
       go_roundw
       case rel=>exact⟨k+1,by omega,by go_num,o2,B2.trans (Below.but (Below.drewN (Below.refl _ _) 1) gR),HR2⟩
       case measure=>simp[intOf];omega
      ·have q5:decide ((R k:Int)>4096)=true:=decide_eq_true (by omega)
       have q6:decide (4096<R k)=true:=decide_eq_true (by omega)
       go_upto_region 15 with fail
       go_region
       go_wp2_with fail
       go_ret;exact⟨false,_,rfl,o2,X0.out.trans (B2.trans (Below.but (Below.drewN (Below.refl _ _) 1) gR)),fun h=>(by cases h),fun _=>⟨k,hkn,by omega⟩⟩
     ·have hq:((hm n ars k:Nat)==(h:Int))=false:=by simp;omega
      have HR2:=Lh (show∀v,v<k+1→hm n ars v=h→R v≤4096 from fun v hv hvh=>by
       by_cases hvk:v=k
       ·subst hvk;exact absurd hvh hh
       ·exact HR.out v (by omega) hvh)
      rw[rowN_ext (V':=fun v=>if v<k+1∧hm n ars v=h then(R v:Int)else V v) (fun v hv=>by
       by_cases hvk:v=k
       ·subst hvk;simp[hh]
       ·by_cases hlt:v<k
        ·simp[hlt,show v<k+1 by omega]
        ·simp[hlt,show¬v<k+1 by omega])]at o1
      go_wp2_with fail
      go_roundw
      case rel=>exact⟨k+1,by omega,by go_num,o1,B1,HR2⟩
      case measure=>simp[intOf];omega
    ·obtain rfl:n=k:=by omega
     go_wp2_with fail
     go_ret;exact⟨true,_,rfl,o1,X0.out.trans B1,fun _=>⟨fun v hv=>by simp[hv],fun v hv hvh=>HR.out v hv hvh⟩,fun h=>(by cases h)⟩
theorem Rd.step{w:World}{B:Nat}{A:Option Addr}{p:List Stp}{k:Nat}(h:Rd w B A (cellsS p))(hk:k<p.length):
  ∃b off s,A=some ⟨b,off,none⟩∧b<B∧w.cell? ⟨b,off+k*2,none⟩=some (.int .i64 (s.1:Nat))∧w.cell? ⟨b,off+k*2+1,none⟩=some (.bool s.2)∧Hid (p.drop k=s::p.drop (k+1))∧Hid (p[k]?=some s):=by
 rcases h with h|⟨b,off,ha,hb,hc⟩
 ·have:=cellsS_length p;rw[h]at this;simp at this;omega
 ·have hg:p[k]?=some p[k]:=List.getElem?_eq_getElem hk
  obtain⟨h1,h2⟩:=cellsS_at p k p[k] hg;exact⟨b,off,p[k],ha,hb,hc _ _ h1,by rw[Nat.add_assoc];exact hc _ _ h2,List.drop_eq_getElem_cons hk,hg⟩
end Go.Proofs.YtpmlljbebdidgaaGreatDoor
